/-
 Package frame: what a pool is in memory; its questions; how many frames an owner has; how many are unreserved. Conditions: a pool that is one; bounds of sums.
-/
import Derived.Test.YtlpchcdalfkfcaaGreatBMeP
import Derived.Deep.RegionHeld
import Derived.BigRegion
import Derived.Test.YtlpchcdalfkfcaaGreatBFrame
namespace Go.Proofs.YtlpchcdalfkfcaaGreat
open Go.RowKit
attribute [local go_sem] Oper.semAt_some
set_option maxHeartbeats 1000000
set_option maxRecDepth 4000

/-- A frame that is somebody's: its number, its owner, its bytes. -/
abbrev Fr := Int × Int × List Int
def takenA (o : Int) (bs : List Int) : Array Value := (Value.int .i64 o :: intVals .u8 bs).toArray
def encF (F : List Fr) : List (Int × Value) := F.map fun x => (x.1, .agg (takenA x.2.1 x.2.2))
def encRF (R : List (Int × Int)) : List (Int × Value) := R.map fun x => (x.1, .int .i64 x.2)
structure PoolAt (W : World) (b bf br : Nat) (many : Int) (F : List Fr) (R : List (Int × Int)) : Prop where
 blk : Blk W b #[.map (some bf), .map (some br), .int .i64 many] 189
 fr : MapI W bf (encF F)
 re : MapI W br (encRF R)
 ne : bf ≠ br
section
variable {W W' : World} {b bf br : Nat} {many : Int} {F : List Fr} {R : List (Int × Int)}
theorem PoolAt.below {n : Nat} (h : PoolAt W b bf br many F R) (k : Below n W W') (h1 : b < n) (h2 : bf < n) (h3 : br < n) : PoolAt W' b bf br many F R := ⟨h.blk.below k h1, h.fr.below k h2, h.re.below k h3, h.ne⟩
theorem PoolAt.step (h : PoolAt W b bf br many F R) (k : Below W.heap.size W W') : PoolAt W' b bf br many F R := h.below k h.blk.lt h.fr.lt h.re.lt
theorem PoolAt.alloc (h : PoolAt W b bf br many F R) (o : Obj) : PoolAt (W.alloc o) b bf br many F R := h.step ((Below.refl _ W).alloc (Nat.le_refl _) o)
theorem PoolAt.cells (h : PoolAt W b bf br many F R) : W.cell? ⟨b, 0, none⟩ = some (.map (some bf)) ∧ W.cell? ⟨b, 1, none⟩ = some (.map (some br)) ∧ W.cell? ⟨b, 2, none⟩ = some (.int .i64 many) := ⟨h.blk.cell 0 rfl, h.blk.cell 1 rfl, h.blk.cell 2 rfl⟩
end
theorem is_calls (p : Option Addr) (w : World) : Calls Tryz.prog 142 #[.pointer p] w fun e w' => e = .returned (.agg #[.func (.func 153) #[.pointer p] #[], .int .i64 1]) ∧ Below w.heap.size w w' := by
 go_enter Tryz.func142, Tryz.ntmps142
 go_wp2_with fail
 exact bodyPost_ret (v := .agg #[.func (.func 153) #[.pointer p] #[], .int .i64 1]) (by simp [results, Tryz.results142, go_sem]) rfl ⟨rfl, (Below.refl _ w).alloc (Nat.le_refl _) _⟩
theorem owner_calls (n : Int) (w : World) : Calls Tryz.prog 143 #[.int .i64 n] w fun e w' => e = .returned (.agg #[.func (.func 185) #[] #[.pointer (some ⟨w.heap.size, 0, none⟩)], .int .i64 2]) ∧ Blk w' w.heap.size #[.int .i64 n] 3 ∧ Below w.heap.size w w' := by
 go_enter Tryz.func143, Tryz.ntmps143
 go_wp2_with fail
 exact bodyPost_ret (v := .agg #[.func (.func 185) #[] #[.pointer (some ⟨w.heap.size, 0, none⟩)], .int .i64 2]) (by simp [results, Tryz.results143, go_sem]) rfl ⟨rfl, (Blk.new w _ _).alloc _, ((Below.refl _ w).alloc (Nat.le_refl _) _).alloc (by simp) _⟩
def badOwner (n : Int) : Bool := decide (n < 0 ∨ 64 ≤ n)
theorem owner1_calls (n : Int) (p : Nat) (w : World) (hp : w.cell? ⟨p, 0, none⟩ = some (.int .i64 n)) : Calls Tryz.prog 185 #[.pointer (some ⟨p, 0, none⟩)] w fun e w' => e = .returned (.bool (badOwner n)) ∧ Below w.heap.size w w' := by
 by_cases h1 : n < 0
 ·have hb : badOwner n = true := by simp [badOwner, h1]
  go_enter Tryz.func185, Tryz.ntmps185
  go_wp2_with fail
  go_ret
  exact ⟨by first | rfl | (rw [hb]; rfl), Below.refl _ _⟩
 ·by_cases h2 : 64 ≤ n
  ·have hb : badOwner n = true := by simp [badOwner, h2]
   go_enter Tryz.func185, Tryz.ntmps185
   go_wp2_with fail
   go_ret
   exact ⟨by first | rfl | (rw [hb]; rfl), Below.refl _ _⟩
  ·have hb : badOwner n = false := by simp [badOwner]; omega
   go_enter Tryz.func185, Tryz.ntmps185
   go_wp2_with fail
   go_ret
   exact ⟨by first | rfl | (rw [hb]; rfl), Below.refl _ _⟩
theorem run_eql_map_nil {P : Program} {t k e : TypeId} (ht : P.underlying t = some (.map k e)) (b : Nat) (w : World) : (binOp .eql t (.map (some b)) (.map none)).run P w = .ok (.bool false) w := by
 have h1 : ∀ d : Nat, (Op.equalIn (d + 1) t (.map (some b)) (.map none)).run P w = .ok false w := fun d => by simp [Op.equalIn, run_underlying ht]
 simp only [binOp]
 simp [Op.equal, Op.maxDepth, h1 9999]
theorem none_live {w : World} {b bf br : Nat} {many : Int} {F : List Fr} {R : List (Int × Int)} (h : PoolAt w b bf br many F R) : Calls Tryz.prog 153 #[.pointer (some ⟨b, 0, none⟩)] w fun e w' => e = .returned (.bool false) ∧ Below w.heap.size w w' := by
 obtain ⟨c0, c1, c2⟩ := h.cells
 have he := run_eql_map_nil (P := Tryz.prog) Tryz.underlying184 bf w
 go_enter Tryz.func153, Tryz.ntmps153
 go_wp2_with fail
 go_ret
 exact ⟨rfl, Below.refl _ _⟩
theorem New_calls (many : Int) (h0 : 0 ≤ many) (h1 : many ≤ 16384) (w : World) : Calls Tryz.prog 78 #[.int .i64 many] w fun e w' => ∃ b bf br : Nat, e = .returned (.tuple #[.pointer (some ⟨b, 0, none⟩), .int .i64 0]) ∧ PoolAt w' b bf br many [] [] ∧ w.heap.size ≤ bf ∧ w.heap.size ≤ br ∧ w.heap.size ≤ b ∧ Below w.heap.size w w' := by
 have hmm := @run_makeMap Tryz.prog
 go_enter Tryz.func78, Tryz.ntmps78
 go_wp2_with fail
 go_ret2
 refine ⟨w.heap.size + 2, w.heap.size, w.heap.size + 1, rfl, ⟨Blk.newAt _ _ _ (by simp), ((MapI.new w).alloc _).alloc _, ?_, by omega⟩, Nat.le_refl _, by omega, by omega, (((Below.refl _ w).alloc (Nat.le_refl _) _).alloc (by simp) _).alloc (by simp; omega) _⟩
 have h : MapI (((w.alloc (.map #[] 0)).alloc (.map #[] 0)).alloc (.cells #[.map (some w.heap.size), .map (some (w.heap.size + 1)), .int .i64 many] 189)) (w.heap.size + 1) [] := by
  have := (MapI.new (w.alloc (.map #[] 0))).alloc (.cells #[.map (some w.heap.size), .map (some (w.heap.size + 1)), .int .i64 many] 189)
  simpa using this
 exact h
/-! ### How many -/
def hasF (F : List Fr) (who : Int) : Nat := (F.filter fun x => x.2.1 == who).length
theorem delA_encF (F : List Fr) (k : Int) : delA (encF F) k = encF (F.filter fun x => !(x.1 == k)) := by
 induction F with
 | nil => rfl
 | cons x F ih =>
  unfold delA encF at ih ⊢
  rw [List.map_cons, List.filter_cons, List.filter_cons]
  by_cases e : x.1 = k
  ·simp [e, ih]
  ·simp [e, ih]
theorem cnt_del {α : Type} (P : Int × α → Bool) : ∀ (l : List (Int × α)) (x : Int × α), (l.map (·.1)).Nodup → x ∈ l → (l.filter P).length = ((l.filter fun y => !(y.1 == x.1)).filter P).length + (if P x = true then 1 else 0) := by
 intro l
 induction l with
 | nil => intro x _ hx; simp at hx
 | cons y l ih =>
  intro x hn hx
  simp only [List.map_cons, List.nodup_cons] at hn
  rcases List.mem_cons.1 hx with rfl | hx'
  ·have hall : (l.filter fun y => !(y.1 == x.1)) = l := List.filter_eq_self.2 fun z hz => by
    have : z.1 ≠ x.1 := fun e => hn.1 (by rw [← e]; exact List.mem_map_of_mem hz)
    simpa using this
   rw [List.filter_cons (p := fun (y : Int × α) => !(y.1 == x.1)), if_neg (by simp), hall, List.filter_cons]
   split <;> simp
  ·have hne : y.1 ≠ x.1 := fun e => hn.1 (by rw [e]; exact List.mem_map_of_mem hx')
   have := ih x hn.2 hx'
   rw [List.filter_cons (p := fun (y : Int × α) => !(y.1 == x.1)), if_pos (by simpa using hne), List.filter_cons, List.filter_cons]
   split
   ·simp only [List.length_cons]; omega
   ·exact this
theorem has1_calls (o who : Int) (bs : List Int) (p : Nat) (w : World) (hp : w.cell? ⟨p, 0, none⟩ = some (.int .i64 who)) :
  Calls Tryz.prog 187 #[.agg (takenA o bs), .pointer (some ⟨p, 0, none⟩)] w fun e w' => e = .returned (.bool (o == who)) ∧ Below w.heap.size w w' := by
 have hpl := World.block_lt_of_cell? w _ hp
 obtain ⟨w0, hw0⟩ : ∃ w0, w.alloc (.cells (takenA o bs) 214) = w0 := ⟨_, rfl⟩
 have hX : Blk w0 w.heap.size (takenA o bs) 214 := by rw [← hw0]; exact Blk.new w _ _
 have hb0 : Below w.heap.size w w0 := by rw [← hw0]; exact (Below.refl _ w).alloc (Nat.le_refl _) _
 have c0 : w0.cell? ⟨w.heap.size, 0, none⟩ = some (.int .i64 o) := hX.cell 0 (by simp [takenA])
 have c1 : w0.cell? ⟨p, 0, none⟩ = some (.int .i64 who) := (hb0.cell (p := ⟨p, 0, none⟩) hpl).trans hp
 go_enter Tryz.func187, Tryz.ntmps187
 go_wp2_with fail
 go_ret
 exact ⟨rfl, hb0⟩
theorem takenA_size (o : Int) (bs : List Int) (hb : bs.length = 256) : (takenA o bs).size = 257 := by simp [takenA, intVals, hb]
theorem fill_taken (w : World) (o : Int) (bs : List Int) (hb : bs.length = 256) :
  (storeCells ⟨w.heap.size, 0, none⟩ (takenA o bs).toList).run Tryz.prog (w.alloc (.cells Tryz.zeroCells214 214)) = .ok () (w.alloc (.cells (takenA o bs) 214)) := by
 have hz : Tryz.zeroCells214.size = 257 := by kernel_rfl
 have := run_fill (P := Tryz.prog) w Tryz.zeroCells214 (takenA o bs).toList 214 (by rw [hz]; simpa using takenA_size o bs hb) (by
  intro v hv
  simp only [takenA, List.mem_cons] at hv
  rcases hv with rfl | hv
  ·rfl
  ·exact intVals_one _ _ v hv)
 simpa using this
end Go.Proofs.YtlpchcdalfkfcaaGreat


/-
 Package frame: how many frames an owner has. Conditions: a map of frames; at most a million.
-/
namespace Go.Proofs.YtlpchcdalfkfcaaGreat
open Go.RowKit
attribute [local go_sem] Oper.semAt_some
set_option maxHeartbeats 1000000
set_option maxRecDepth 4000

theorem counted_ok {w : World} {bf : Nat} {F : List Fr} (who : Int) (p : Nat) (hlen : F.length ≤ 1000000) (h256 : ∀ x ∈ F, x.2.2.length = 256) (hF : MapI w bf (encF F)) (hp : w.cell? ⟨p, 0, none⟩ = some (.int .i64 who)) :
  Calls Tryz.prog 186 #[.map (some bf), .func (.func 187) #[] #[.pointer (some ⟨p, 0, none⟩)]] w fun e w' => e = .returned (.int .i64 (hasF F who)) ∧ Below w.heap.size w w' := by
 obtain ⟨o, hrun, hR⟩ := hF.range (P := Tryz.prog) Tryz.underlying184
 go_enter Tryz.func186, Tryz.ntmps186
 go_wp2_with fail
 have hb0 : Below w.heap.size w (w.alloc o) := (Below.refl _ w).alloc (Nat.le_refl _) _
 generalize w.alloc o = w0 at hR hb0 ⊢
 clear hrun
 go_loopw [4] (fun c wr => ∃ left : List Fr, c = .int .i64 ((hasF F who : Int) - hasF left who) ∧ (∀ x ∈ left, x ∈ F) ∧ hasF left who ≤ hasF F who ∧ (left.map (·.1)).Nodup ∧ RangeI wr w.heap.size bf (encF F) (encF left) ∧ Below w.heap.size w wr) (fun _ wr => rangeN (encF F).length w.heap.size wr)
 case atStart => exact ⟨F, by simp, fun _ h => h, Nat.le_refl _, by have := hF.nodup; simpa [encF, Function.comp_def] using this, hR, hb0⟩
 case round =>
  obtain ⟨left, rfl, hsub, hle, hnd, hRr, hb⟩ := hrel
  have hz := hb.size
  have hbl := hRr.lt
  have hbf := hF.lt
  rcases hRr.next (P := Tryz.prog) (by omega) 0 with ⟨hl, hrun⟩ | ⟨q, hq, wn, hrun, hRn, hTn, hent⟩
  ·have hl' : left = [] := by simpa [encF] using hl
   subst hl'
   go_wp2_with fail
   go_ret
   exact ⟨by simp [hasF], hb⟩
  ·obtain ⟨x, hx, rfl⟩ := List.mem_map.1 hq
   dsimp only at hrun hRn hent
   have h25 := h256 x (hsub x hx)
   have hsz := takenA_size x.2.1 x.2.2 h25
   have hfill := fill_taken wn x.2.1 x.2.2 h25
   have hpl := World.block_lt_of_cell? w _ hp
   have hbn : Below w.heap.size w wn := hb.trans (hTn.below (Nat.le_refl _))
   have hb2 := hbn.alloc hbn.size (.cells (takenA x.2.1 x.2.2) 214)
   have hp2 : (wn.alloc (.cells (takenA x.2.1 x.2.2) 214)).cell? ⟨p, 0, none⟩ = some (.int .i64 who) := (hb2.cell (p := ⟨p, 0, none⟩) hpl).trans hp
   have hcnt := cnt_del (fun y : Fr => y.2.1 == who) left x hnd hx
   have hcall := has1_calls x.2.1 who x.2.2 p _ hp2
   have hRr2 := hRn.below ((Below.refl _ wn).alloc (Nat.le_refl _) (.cells (takenA x.2.1 x.2.2) 214)) hRn.lt.1 hRn.lt.2
   rw [delA_encF] at hRn hRr2
   have hnd2 : ((left.filter fun y => !(y.1 == x.1)).map (·.1)).Nodup := (List.filter_sublist.map _).nodup hnd
   have hsub2 : ∀ y ∈ (left.filter fun y => !(y.1 == x.1)), y ∈ F := fun y hy => hsub y (List.mem_filter.1 hy).1
   have hdec : (left.filter fun y => !(y.1 == x.1)).length < left.length := by
    have h8 := cnt_del (fun _ : Fr => true) left x hnd hx
    have h7 : ∀ l : List Fr, l.filter (fun _ => true) = l := fun l => List.filter_eq_self.2 fun _ _ => rfl
    rw [h7, h7, if_pos rfl] at h8
    have h9 : left.length = (left.filter fun (y : Fr) => !(y.1 == x.1)).length + 1 := h8
    omega
   have hm0 := hRr.count
   go_wp2_with fail
   refine wp_load_row 214 _ rfl wn.heap.size rfl 214 (takenA x.2.1 x.2.2) (0, 0) _ (World.alloc_heap_new wn _) Tryz.underlying214 rfl (by rw [hsz]; kernel_rfl) ?_
   cases hw9 : (x.2.1 == who)
   ·rw [hw9] at hcall
    simp only [hw9, Bool.false_eq_true, if_false, Nat.add_zero] at hcnt
    go_wp2_with fail
    refine hcall.mono ?_; rintro e w1 ⟨rfl, h1⟩
    have hRr3 := hRr2.below h1 hRr2.lt.1 hRr2.lt.2
    have hm1 := hRr3.count
    go_wp2_with fail
    go_roundw
    case rel => exact ⟨_, by rw [show hasF left who = hasF (left.filter fun y => !(y.1 == x.1)) who from hcnt], hsub2, by rw [← show hasF left who = hasF (left.filter fun y => !(y.1 == x.1)) who from hcnt]; exact hle, hnd2, hRr3, hb2.trans (h1.mono hb2.size)⟩
    case measure => rw [hm0, hm1]; simpa [encF] using hdec
   ·rw [hw9] at hcall
    simp only [hw9, if_true] at hcnt
    have hcnt' : hasF left who = hasF (left.filter fun y => !(y.1 == x.1)) who + 1 := hcnt
    have hlF : (hasF F who : Int) ≤ F.length := by have := List.length_filter_le (fun y : Fr => y.2.1 == who) F; unfold hasF; omega
    go_wp2_with fail
    refine hcall.mono ?_; rintro e w1 ⟨rfl, h1⟩
    have hRr3 := hRr2.below h1 hRr2.lt.1 hRr2.lt.2
    have hm1 := hRr3.count
    have hsum : IntKind.i64.wrap ((hasF F who : Int) - hasF left who + 1) = (hasF F who : Int) - hasF (left.filter fun y => !(y.1 == x.1)) who := by
     rw [IntWalk.i64_in _ (by omega)]; omega
    go_wp2_with fail
    go_roundw
    case rel => exact ⟨_, by first | rfl | (congr 1; omega) | (rw [hsum]), hsub2, by omega, hnd2, hRr3, hb2.trans (h1.mono hb2.size)⟩
    case measure => rw [hm0, hm1]; simpa [encF] using hdec
end Go.Proofs.YtlpchcdalfkfcaaGreat


/-
 Package frame: how many frames an owner has; how many are unreserved. Conditions: a pool; bounds of its sums.
-/
namespace Go.Proofs.YtlpchcdalfkfcaaGreat
open Go.RowKit
attribute [local go_sem] Oper.semAt_some
set_option maxHeartbeats 1000000
set_option maxRecDepth 4000

/-- A pool's books are in order. -/
structure Sound (many : Int) (F : List Fr) (R : List (Int × Int)) : Prop where
 m0 : 0 ≤ many
 m1 : many ≤ 16384
 b256 : ∀ x ∈ F, x.2.2.length = 256
 fl : F.length ≤ 16384
 r0 : ∀ x ∈ R, 0 ≤ x.2
 rs : (R.map (·.2)).sum ≤ many
def sumR (R : List (Int × Int)) : Int := (R.map (·.2)).sum
theorem has_calls {w : World} {b bf br : Nat} {many : Int} {F : List Fr} {R : List (Int × Int)} (h : PoolAt w b bf br many F R) (hs : Sound many F R) (who : Int) :
  Calls Tryz.prog 146 #[.pointer (some ⟨b, 0, none⟩), .int .i64 who] w fun e w' => e = .returned (.int .i64 (hasF F who)) ∧ Below w.heap.size w w' := by
 obtain ⟨w0, hw0⟩ : ∃ w0, w.alloc (.cells #[.int .i64 who] 3) = w0 := ⟨_, rfl⟩
 have hX : Blk w0 w.heap.size #[.int .i64 who] 3 := by rw [← hw0]; exact Blk.new w _ _
 have h0 : PoolAt w0 b bf br many F R := by rw [← hw0]; exact h.alloc _
 have hb0 : Below w.heap.size w w0 := by rw [← hw0]; exact (Below.refl _ w).alloc (Nat.le_refl _) _
 obtain ⟨c0, c1, c2⟩ := h0.cells
 go_enter Tryz.func146, Tryz.ntmps146
 go_wp2_with fail
 clear hw0
 refine (counted_ok who w.heap.size (by have := hs.fl; omega) hs.b256 h0.fr (hX.cell 0 rfl)).mono ?_; rintro e w1 ⟨rfl, h1⟩
 go_wp2_with fail
 go_ret
 exact ⟨rfl, hb0.trans (h1.mono hb0.size)⟩
theorem delA_encR (R : List (Int × Int)) (k : Int) : delA (encRF R) k = encRF (R.filter fun x => !(x.1 == k)) := by
 induction R with
 | nil => rfl
 | cons x R ih =>
  unfold delA encRF at ih ⊢
  rw [List.map_cons, List.filter_cons, List.filter_cons]
  by_cases e : x.1 = k
  ·simp [e, ih]
  ·simp [e, ih]
theorem sum_del : ∀ (l : List (Int × Int)) (x : Int × Int), (l.map (·.1)).Nodup → x ∈ l → sumR l = sumR (l.filter fun y => !(y.1 == x.1)) + x.2 ∧ (l.filter fun y => !(y.1 == x.1)).length < l.length := by
 intro l
 induction l with
 | nil => intro x _ hx; simp at hx
 | cons y l ih =>
  intro x hn hx
  simp only [List.map_cons, List.nodup_cons] at hn
  rcases List.mem_cons.1 hx with rfl | hx'
  ·have hall : (l.filter fun y => !(y.1 == x.1)) = l := List.filter_eq_self.2 fun z hz => by
    have : z.1 ≠ x.1 := fun e => hn.1 (by rw [← e]; exact List.mem_map_of_mem hz)
    simpa using this
   rw [List.filter_cons, if_neg (by simp), hall]
   simp [sumR, Int.add_comm]
  ·have hne : y.1 ≠ x.1 := fun e => hn.1 (by rw [e]; exact List.mem_map_of_mem hx')
   have := ih x hn.2 hx'
   rw [List.filter_cons, if_pos (by simpa using hne)]
   unfold sumR at this ⊢
   simp only [List.map_cons, List.sum_cons, List.length_cons]
   omega
theorem sum_nonneg : ∀ (l : List (Int × Int)), (∀ x ∈ l, 0 ≤ x.2) → 0 ≤ sumR l := by
 intro l
 induction l with
 | nil => intro _; simp [sumR]
 | cons y l ih =>
  intro h
  have h1 := ih fun x hx => h x (List.mem_cons_of_mem _ hx)
  have h2 := h y List.mem_cons_self
  unfold sumR at h1 ⊢
  simp only [List.map_cons, List.sum_cons]
  omega
theorem Room_calls {w : World} {b bf br : Nat} {many : Int} {F : List Fr} {R : List (Int × Int)} (h : PoolAt w b bf br many F R) (hs : Sound many F R) :
  Calls Tryz.prog 148 #[.pointer (some ⟨b, 0, none⟩)] w fun e w' => e = .returned (.int .i64 (many - sumR R)) ∧ Below w.heap.size w w' := by
 have hR0 := h.re
 have hrs : sumR R ≤ many := hs.rs
 have hm1 := hs.m1
 have hm0 := hs.m0
 go_enter Tryz.func148, Tryz.ntmps148
 go_wp2_with fail
 refine (none_live h).mono ?_; rintro e w1 ⟨rfl, h1⟩
 have z1 := h1.size
 have k1 := h.step h1
 obtain ⟨c0, c1, c2⟩ := k1.cells
 obtain ⟨o, hrun, hR⟩ := k1.re.range (P := Tryz.prog) Tryz.underlying185
 have hbr := k1.re.lt
 go_wp2_with fail
 have hb0 : Below w.heap.size w (w1.alloc o) := h1.alloc z1 _
 generalize w1.alloc o = w0 at hR hb0 ⊢
 clear hrun c0 c1 c2
 go_loopw [3] (fun c wr => ∃ left : List (Int × Int), c = .int .i64 (many - (sumR R - sumR left)) ∧ (∀ x ∈ left, x ∈ R) ∧ sumR left ≤ sumR R ∧ (left.map (·.1)).Nodup ∧ RangeI wr w1.heap.size br (encRF R) (encRF left) ∧ Below w.heap.size w wr) (fun _ wr => rangeN (encRF R).length w1.heap.size wr)
 case atStart => exact ⟨R, by simp, fun _ h => h, Int.le_refl _, by have := k1.re.nodup; simpa [encRF, Function.comp_def] using this, hR, hb0⟩
 case round =>
  obtain ⟨left, rfl, hsub, hle, hnd, hRr, hb⟩ := hrel
  have hz := hb.size
  have hbl := hRr.lt
  have hnn := sum_nonneg left fun x hx => hs.r0 x (hsub x hx)
  rcases hRr.next (P := Tryz.prog) (by omega) 0 with ⟨hl, hrun⟩ | ⟨q, hq, wn, hrun, hRn, hTn, hent⟩
  ·have hl' : left = [] := by simpa [encRF] using hl
   subst hl'
   go_wp2_with fail
   go_ret
   exact ⟨by simp [sumR], hb⟩
  ·obtain ⟨x, hx, rfl⟩ := List.mem_map.1 hq
   dsimp only at hrun hRn hent
   have hbn : Below w.heap.size w wn := hb.trans (hTn.below (by omega))
   rw [delA_encR] at hRn
   have hnd2 : ((left.filter fun y => !(y.1 == x.1)).map (·.1)).Nodup := (List.filter_sublist.map _).nodup hnd
   have hsub2 : ∀ y ∈ (left.filter fun y => !(y.1 == x.1)), y ∈ R := fun y hy => hsub y (List.mem_filter.1 hy).1
   have hsd := sum_del left x hnd hx
   have hx0 := hs.r0 x (hsub x hx)
   have hnn2 := sum_nonneg (left.filter fun y => !(y.1 == x.1)) fun x hx => hs.r0 x (hsub2 x hx)
   have hsum : IntKind.i64.wrap (many - (sumR R - sumR left) - x.2) = many - (sumR R - sumR (left.filter fun y => !(y.1 == x.1))) := by
    rw [IntWalk.i64_in _ (by omega)]; omega
   have hm0 := hRr.count
   have hm2 := hRn.count
   go_wp2_with fail
   go_roundw
   case rel => exact ⟨_, by first | rfl | (rw [hsum]) | (congr 1; omega), hsub2, by omega, hnd2, hRn, hbn⟩
   case measure => rw [hm0, hm2]; simpa [encRF] using hsd.2
end Go.Proofs.YtlpchcdalfkfcaaGreat


/-
 Groundwork: of what was there, nothing turns but one block. No condition.
-/
namespace Go.Proofs.YtlpchcdalfkfcaaGreat
open Go.RowKit
variable {P : Program}

/-- Of what was there, nothing turns but block c. -/
structure Chg (c : Nat) (W W' : World) : Prop where
 os : W'.os = W.os
 tape : W'.tape = W.tape
 output : W'.output = W.output
 size : W.heap.size ≤ W'.heap.size
 block : ∀ k, k < W.heap.size → k ≠ c → W'.heap[k]? = W.heap[k]?
theorem Chg.refl (c : Nat) (W : World) : Chg c W W := ⟨rfl, rfl, rfl, Nat.le_refl _, fun _ _ _ => rfl⟩
theorem Chg.of_below {c : Nat} {W W' : World} (h : Below W.heap.size W W') : Chg c W W' := ⟨h.os, h.tape, h.output, h.size, fun k hk _ => h.block k hk⟩
theorem Chg.of_turn {c : Nat} {W W' : World} (h : Turn c W W') : Chg c W W' := ⟨h.os, h.tape, h.output, Nat.le_of_eq h.size.symm, fun k _ hk => h.block k hk⟩
theorem Chg.trans {c : Nat} {X Y Z : World} (h : Chg c X Y) (k : Chg c Y Z) : Chg c X Z := ⟨k.os.trans h.os, k.tape.trans h.tape, k.output.trans h.output, Nat.le_trans h.size k.size, fun i hi hc => (k.block i (Nat.lt_of_lt_of_le hi h.size) hc).trans (h.block i hi hc)⟩
theorem Chg.blk {c b : Nat} {W W' : World} {cs : Array Value} {t : TypeId} (h : Chg c W W') (hb : Blk W b cs t) (hne : b ≠ c) : Blk W' b cs t := (h.block b hb.lt hne).trans hb
theorem Chg.map {c b : Nat} {W W' : World} {m : List (Int × Value)} (h : Chg c W W') (hb : MapI W b m) (hne : b ≠ c) : MapI W' b m := hb.of_block (h.block b hb.lt hne)
theorem Chg.more {c n : Nat} {W X Y : World} (h : Chg c W X) (k : Below n X Y) (hn : W.heap.size ≤ n) : Chg c W Y := ⟨k.os.trans h.os, k.tape.trans h.tape, k.output.trans h.output, Nat.le_trans h.size k.size, fun i hi hc => (k.block i (by omega)).trans (h.block i hi hc)⟩
theorem Chg.set {c : Nat} {W X : World} (h : Chg c W X) (a : Addr) (v : Value) (hb : W.heap.size ≤ a.block) : Chg c W (X.setCell a v) := ⟨h.os, h.tape, h.output, by simpa using h.size, fun i hi hc => (Below.heap_setCell X a v i (by omega)).trans (h.block i hi hc)⟩
theorem Chg.setc {c : Nat} {W X : World} (h : Chg c W X) (a : Addr) (v : Value) (hb : a.block = c) : Chg c W (X.setCell a v) := ⟨h.os, h.tape, h.output, by simpa using h.size, fun i hi hc => (Below.heap_setCell X a v i (by omega)).trans (h.block i hi hc)⟩
theorem Chg.put {c D : Nat} {W X : World} (h : Chg c W X) (o : Obj) (hb : W.heap.size ≤ D) : Chg c W (X.putObj D o) := ⟨h.os, h.tape, h.output, by simpa using h.size, fun i hi hc => (World.putObj_heap_other (by omega)).trans (h.block i hi hc)⟩
/-- A region that ends well, walked where a panic is nobody's end. -/
def onlyN (Q : Exit → Act → World → Prop) : Exit → Act → World → Prop
 | .normal, a, w => Q .normal a w
 | _, _, _ => False
@[go_sem] theorem onlyN_normal (Q : Exit → Act → World → Prop) (a : Act) (w : World) : onlyN Q .normal a w = Q .normal a w := rfl
theorem wp_onlyN {c : Code} {Q : Exit → Act → World → Prop} {a : Act} {w : World} (h : c.wp P (onlyN Q) a w) : c.wp P Q a w :=
 wp_mono h (fun e a w hq => by cases e <;> first | exact hq | exact hq.elim)
theorem MapI.keeps {B : Nat} {W W' : World} {b : Nat} {m : List (Int × Value)} (h : MapI W b m) (hk : Keeps B W W') : MapI W' b m := by
 obtain ⟨es, clock, h1, h2⟩ := h
 exact ⟨es, clock, hk.same _ _ h1 rfl, h2⟩
theorem Blk.turn {W W' : World} {b c : Nat} {cs : Array Value} {t : TypeId} (h : Blk W b cs t) (k : Turn c W W') (hne : b ≠ c) : Blk W' b cs t := (k.block b hne).trans h
theorem RowAt.len {B n : Nat} {W : World} {v : Value} {xs : List Value} (h : RowAt B W v n xs) : ∃ a cap, v = .slice a n cap ∧ n ≤ cap := by
 obtain ⟨a, c, e, h, _⟩ := h
 exact ⟨a, c, e, h.1⟩
end Go.Proofs.YtlpchcdalfkfcaaGreat

