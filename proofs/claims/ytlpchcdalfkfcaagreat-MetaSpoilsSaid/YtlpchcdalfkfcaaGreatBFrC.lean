/-
  Package frame: how many frames an owner has. Conditions: a map of frames; at most a million.
-/
import Derived.Test.YtlpchcdalfkfcaaGreatBFrO
import Derived.Test.YtlpchcdalfkfcaaGreatBMaps
namespace Go.Proofs.YtlpchcdalfkfcaaGreat
open Go.RowKit
attribute [local go_sem] Oper.semAt_some
set_option maxHeartbeats 1000000
set_option maxRecDepth 4000

theorem counted_ok {w : World} {bf : Nat} {F : List Fr} (who : Int) (p : Nat) (hlen : F.length ≤ 1000000) (h256 : ∀ x ∈ F, x.2.2.length = 256) (hF : MapI w bf (encF F)) (hp : w.cell? ⟨p, 0, none⟩ = some (.int .i64 who)) :
    Calls Tryz.prog 186 #[.map (some bf), .func (.func 187) #[] #[.pointer (some ⟨p, 0, none⟩)]] w fun e w' => e = .returned (.int .i64 (hasF F who)) ∧ Below w.heap.size w w' := by
  obtain ⟨o, hrun, hR⟩ := hF.range (P := Tryz.prog) Tryz.underlying184
  go_enter Tryz.func186, Tryz.ntmps186
  go_wp2_with fail
  have hb0 : Below w.heap.size w (w.alloc o) := (Below.refl _ w).alloc (Nat.le_refl _) _
  generalize w.alloc o = w0 at hR hb0 ⊢
  clear hrun
  go_loopw [4] (fun c wr => ∃ left : List Fr, c = .int .i64 ((hasF F who : Int) - hasF left who) ∧ (∀ x ∈ left, x ∈ F) ∧ hasF left who ≤ hasF F who ∧ (left.map (·.1)).Nodup ∧ RangeI wr w.heap.size bf (encF F) (encF left) ∧ Below w.heap.size w wr) (fun _ wr => rangeN (encF F).length w.heap.size wr)
  case atStart => exact ⟨F, by simp, fun _ h => h, Nat.le_refl _, by have := hF.nodup; simpa [encF, Function.comp_def] using this, hR, hb0⟩
  case round =>
    obtain ⟨left, rfl, hsub, hle, hnd, hRr, hb⟩ := hrel
    have hz := hb.size
    have hbl := hRr.lt
    have hbf := hF.lt
    rcases hRr.next (P := Tryz.prog) (by omega) 0 with ⟨hl, hrun⟩ | ⟨q, hq, wn, hrun, hRn, hTn, hent⟩
    · have hl' : left = [] := by simpa [encF] using hl
      subst hl'
      go_wp2_with fail
      go_ret
      exact ⟨by simp [hasF], hb⟩
    · obtain ⟨x, hx, rfl⟩ := List.mem_map.1 hq
      dsimp only at hrun hRn hent
      have h25 := h256 x (hsub x hx)
      have hsz := takenA_size x.2.1 x.2.2 h25
      have hfill := fill_taken wn x.2.1 x.2.2 h25
      have hpl := World.block_lt_of_cell? w _ hp
      have hbn : Below w.heap.size w wn := hb.trans (hTn.below (Nat.le_refl _))
      have hb2 := hbn.alloc hbn.size (.cells (takenA x.2.1 x.2.2) 214)
      have hp2 : (wn.alloc (.cells (takenA x.2.1 x.2.2) 214)).cell? ⟨p, 0, none⟩ = some (.int .i64 who) := (hb2.cell (p := ⟨p, 0, none⟩) hpl).trans hp
      have hcnt := cnt_del (fun y : Fr => y.2.1 == who) left x hnd hx
      have hcall := has1_calls x.2.1 who x.2.2 p _ hp2
      have hRr2 := hRn.below ((Below.refl _ wn).alloc (Nat.le_refl _) (.cells (takenA x.2.1 x.2.2) 214)) hRn.lt.1 hRn.lt.2
      rw [delA_encF] at hRn hRr2
      have hnd2 : ((left.filter fun y => !(y.1 == x.1)).map (·.1)).Nodup := (List.filter_sublist.map _).nodup hnd
      have hsub2 : ∀ y ∈ (left.filter fun y => !(y.1 == x.1)), y ∈ F := fun y hy => hsub y (List.mem_filter.1 hy).1
      have hdec : (left.filter fun y => !(y.1 == x.1)).length < left.length := by
        have h8 := cnt_del (fun _ : Fr => true) left x hnd hx
        have h7 : ∀ l : List Fr, l.filter (fun _ => true) = l := fun l => List.filter_eq_self.2 fun _ _ => rfl
        rw [h7, h7, if_pos rfl] at h8
        have h9 : left.length = (left.filter fun (y : Fr) => !(y.1 == x.1)).length + 1 := h8
        omega
      have hm0 := hRr.count
      go_wp2_with fail
      refine wp_load_row 214 _ rfl wn.heap.size rfl 214 (takenA x.2.1 x.2.2) (0, 0) _ (World.alloc_heap_new wn _) Tryz.underlying214 rfl (by rw [hsz]; kernel_rfl) ?_
      cases hw9 : (x.2.1 == who)
      · rw [hw9] at hcall
        simp only [hw9, Bool.false_eq_true, if_false, Nat.add_zero] at hcnt
        go_wp2_with fail
        refine hcall.mono ?_; rintro e w1 ⟨rfl, h1⟩
        have hRr3 := hRr2.below h1 hRr2.lt.1 hRr2.lt.2
        have hm1 := hRr3.count
        go_wp2_with fail
        go_roundw
        case rel => exact ⟨_, by rw [show hasF left who = hasF (left.filter fun y => !(y.1 == x.1)) who from hcnt], hsub2, by rw [← show hasF left who = hasF (left.filter fun y => !(y.1 == x.1)) who from hcnt]; exact hle, hnd2, hRr3, hb2.trans (h1.mono hb2.size)⟩
        case measure => rw [hm0, hm1]; simpa [encF] using hdec
      · rw [hw9] at hcall
        simp only [hw9, if_true] at hcnt
        have hcnt' : hasF left who = hasF (left.filter fun y => !(y.1 == x.1)) who + 1 := hcnt
        have hlF : (hasF F who : Int) ≤ F.length := by have := List.length_filter_le (fun y : Fr => y.2.1 == who) F; unfold hasF; omega
        go_wp2_with fail
        refine hcall.mono ?_; rintro e w1 ⟨rfl, h1⟩
        have hRr3 := hRr2.below h1 hRr2.lt.1 hRr2.lt.2
        have hm1 := hRr3.count
        have hsum : IntKind.i64.wrap ((hasF F who : Int) - hasF left who + 1) = (hasF F who : Int) - hasF (left.filter fun y => !(y.1 == x.1)) who := by
          rw [IntWalk.i64_in _ (by omega)]; omega
        go_wp2_with fail
        go_roundw
        case rel => exact ⟨_, by first | rfl | (congr 1; omega) | (rw [hsum]), hsub2, by omega, hnd2, hRr3, hb2.trans (h1.mono hb2.size)⟩
        case measure => rw [hm0, hm1]; simpa [encF] using hdec
end Go.Proofs.YtlpchcdalfkfcaaGreat

/-
  Package frame: how many frames an owner has; how many are unreserved. Conditions: a pool; bounds of its sums.
-/
namespace Go.Proofs.YtlpchcdalfkfcaaGreat
open Go.RowKit
attribute [local go_sem] Oper.semAt_some
set_option maxHeartbeats 1000000
set_option maxRecDepth 4000

/-- A pool's books are in order. -/
structure Sound (many : Int) (F : List Fr) (R : List (Int × Int)) : Prop where
  m0 : 0 ≤ many
  m1 : many ≤ 16384
  b256 : ∀ x ∈ F, x.2.2.length = 256
  fl : F.length ≤ 16384
  r0 : ∀ x ∈ R, 0 ≤ x.2
  rs : (R.map (·.2)).sum ≤ many
def sumR (R : List (Int × Int)) : Int := (R.map (·.2)).sum
theorem has_calls {w : World} {b bf br : Nat} {many : Int} {F : List Fr} {R : List (Int × Int)} (h : PoolAt w b bf br many F R) (hs : Sound many F R) (who : Int) :
    Calls Tryz.prog 146 #[.pointer (some ⟨b, 0, none⟩), .int .i64 who] w fun e w' => e = .returned (.int .i64 (hasF F who)) ∧ Below w.heap.size w w' := by
  obtain ⟨w0, hw0⟩ : ∃ w0, w.alloc (.cells #[.int .i64 who] 3) = w0 := ⟨_, rfl⟩
  have hX : Blk w0 w.heap.size #[.int .i64 who] 3 := by rw [← hw0]; exact Blk.new w _ _
  have h0 : PoolAt w0 b bf br many F R := by rw [← hw0]; exact h.alloc _
  have hb0 : Below w.heap.size w w0 := by rw [← hw0]; exact (Below.refl _ w).alloc (Nat.le_refl _) _
  obtain ⟨c0, c1, c2⟩ := h0.cells
  go_enter Tryz.func146, Tryz.ntmps146
  go_wp2_with fail
  clear hw0
  refine (counted_ok who w.heap.size (by have := hs.fl; omega) hs.b256 h0.fr (hX.cell 0 rfl)).mono ?_; rintro e w1 ⟨rfl, h1⟩
  go_wp2_with fail
  go_ret
  exact ⟨rfl, hb0.trans (h1.mono hb0.size)⟩
theorem delA_encR (R : List (Int × Int)) (k : Int) : delA (encRF R) k = encRF (R.filter fun x => !(x.1 == k)) := by
  induction R with
  | nil => rfl
  | cons x R ih =>
    unfold delA encRF at ih ⊢
    rw [List.map_cons, List.filter_cons, List.filter_cons]
    by_cases e : x.1 = k
    · simp [e, ih]
    · simp [e, ih]
theorem sum_del : ∀ (l : List (Int × Int)) (x : Int × Int), (l.map (·.1)).Nodup → x ∈ l → sumR l = sumR (l.filter fun y => !(y.1 == x.1)) + x.2 ∧ (l.filter fun y => !(y.1 == x.1)).length < l.length := by
  intro l
  induction l with
  | nil => intro x _ hx; simp at hx
  | cons y l ih =>
    intro x hn hx
    simp only [List.map_cons, List.nodup_cons] at hn
    rcases List.mem_cons.1 hx with rfl | hx'
    · have hall : (l.filter fun y => !(y.1 == x.1)) = l := List.filter_eq_self.2 fun z hz => by
        have : z.1 ≠ x.1 := fun e => hn.1 (by rw [← e]; exact List.mem_map_of_mem hz)
        simpa using this
      rw [List.filter_cons, if_neg (by simp), hall]
      simp [sumR, Int.add_comm]
    · have hne : y.1 ≠ x.1 := fun e => hn.1 (by rw [e]; exact List.mem_map_of_mem hx')
      have := ih x hn.2 hx'
      rw [List.filter_cons, if_pos (by simpa using hne)]
      unfold sumR at this ⊢
      simp only [List.map_cons, List.sum_cons, List.length_cons]
      omega
theorem sum_nonneg : ∀ (l : List (Int × Int)), (∀ x ∈ l, 0 ≤ x.2) → 0 ≤ sumR l := by
  intro l
  induction l with
  | nil => intro _; simp [sumR]
  | cons y l ih =>
    intro h
    have h1 := ih fun x hx => h x (List.mem_cons_of_mem _ hx)
    have h2 := h y List.mem_cons_self
    unfold sumR at h1 ⊢
    simp only [List.map_cons, List.sum_cons]
    omega
theorem Room_calls {w : World} {b bf br : Nat} {many : Int} {F : List Fr} {R : List (Int × Int)} (h : PoolAt w b bf br many F R) (hs : Sound many F R) :
    Calls Tryz.prog 148 #[.pointer (some ⟨b, 0, none⟩)] w fun e w' => e = .returned (.int .i64 (many - sumR R)) ∧ Below w.heap.size w w' := by
  have hR0 := h.re
  have hrs : sumR R ≤ many := hs.rs
  have hm1 := hs.m1
  have hm0 := hs.m0
  go_enter Tryz.func148, Tryz.ntmps148
  go_wp2_with fail
  refine (none_live h).mono ?_; rintro e w1 ⟨rfl, h1⟩
  have z1 := h1.size
  have k1 := h.step h1
  obtain ⟨c0, c1, c2⟩ := k1.cells
  obtain ⟨o, hrun, hR⟩ := k1.re.range (P := Tryz.prog) Tryz.underlying185
  have hbr := k1.re.lt
  go_wp2_with fail
  have hb0 : Below w.heap.size w (w1.alloc o) := h1.alloc z1 _
  generalize w1.alloc o = w0 at hR hb0 ⊢
  clear hrun c0 c1 c2
  go_loopw [3] (fun c wr => ∃ left : List (Int × Int), c = .int .i64 (many - (sumR R - sumR left)) ∧ (∀ x ∈ left, x ∈ R) ∧ sumR left ≤ sumR R ∧ (left.map (·.1)).Nodup ∧ RangeI wr w1.heap.size br (encRF R) (encRF left) ∧ Below w.heap.size w wr) (fun _ wr => rangeN (encRF R).length w1.heap.size wr)
  case atStart => exact ⟨R, by simp, fun _ h => h, Int.le_refl _, by have := k1.re.nodup; simpa [encRF, Function.comp_def] using this, hR, hb0⟩
  case round =>
    obtain ⟨left, rfl, hsub, hle, hnd, hRr, hb⟩ := hrel
    have hz := hb.size
    have hbl := hRr.lt
    have hnn := sum_nonneg left fun x hx => hs.r0 x (hsub x hx)
    rcases hRr.next (P := Tryz.prog) (by omega) 0 with ⟨hl, hrun⟩ | ⟨q, hq, wn, hrun, hRn, hTn, hent⟩
    · have hl' : left = [] := by simpa [encRF] using hl
      subst hl'
      go_wp2_with fail
      go_ret
      exact ⟨by simp [sumR], hb⟩
    · obtain ⟨x, hx, rfl⟩ := List.mem_map.1 hq
      dsimp only at hrun hRn hent
      have hbn : Below w.heap.size w wn := hb.trans (hTn.below (by omega))
      rw [delA_encR] at hRn
      have hnd2 : ((left.filter fun y => !(y.1 == x.1)).map (·.1)).Nodup := (List.filter_sublist.map _).nodup hnd
      have hsub2 : ∀ y ∈ (left.filter fun y => !(y.1 == x.1)), y ∈ R := fun y hy => hsub y (List.mem_filter.1 hy).1
      have hsd := sum_del left x hnd hx
      have hx0 := hs.r0 x (hsub x hx)
      have hnn2 := sum_nonneg (left.filter fun y => !(y.1 == x.1)) fun x hx => hs.r0 x (hsub2 x hx)
      have hsum : IntKind.i64.wrap (many - (sumR R - sumR left) - x.2) = many - (sumR R - sumR (left.filter fun y => !(y.1 == x.1))) := by
        rw [IntWalk.i64_in _ (by omega)]; omega
      have hm0 := hRr.count
      have hm2 := hRn.count
      go_wp2_with fail
      go_roundw
      case rel => exact ⟨_, by first | rfl | (rw [hsum]) | (congr 1; omega), hsub2, by omega, hnd2, hRn, hbn⟩
      case measure => rw [hm0, hm2]; simpa [encRF] using hsd.2
end Go.Proofs.YtlpchcdalfkfcaaGreat

/-
  Groundwork: of what was there, nothing turns but one block. No condition.
-/
namespace Go.Proofs.YtlpchcdalfkfcaaGreat
open Go.RowKit
variable {P : Program}

/-- Of what was there, nothing turns but block c. -/
structure Chg (c : Nat) (W W' : World) : Prop where
  os : W'.os = W.os
  tape : W'.tape = W.tape
  output : W'.output = W.output
  size : W.heap.size ≤ W'.heap.size
  block : ∀ k, k < W.heap.size → k ≠ c → W'.heap[k]? = W.heap[k]?
theorem Chg.refl (c : Nat) (W : World) : Chg c W W := ⟨rfl, rfl, rfl, Nat.le_refl _, fun _ _ _ => rfl⟩
theorem Chg.of_below {c : Nat} {W W' : World} (h : Below W.heap.size W W') : Chg c W W' := ⟨h.os, h.tape, h.output, h.size, fun k hk _ => h.block k hk⟩
theorem Chg.of_turn {c : Nat} {W W' : World} (h : Turn c W W') : Chg c W W' := ⟨h.os, h.tape, h.output, Nat.le_of_eq h.size.symm, fun k _ hk => h.block k hk⟩
theorem Chg.trans {c : Nat} {X Y Z : World} (h : Chg c X Y) (k : Chg c Y Z) : Chg c X Z := ⟨k.os.trans h.os, k.tape.trans h.tape, k.output.trans h.output, Nat.le_trans h.size k.size, fun i hi hc => (k.block i (Nat.lt_of_lt_of_le hi h.size) hc).trans (h.block i hi hc)⟩
theorem Chg.below {c B : Nat} {W W' : World} (h : Chg c W W') (hB : B ≤ c) (hz : B ≤ W.heap.size) : Below B W W' := ⟨h.os, h.tape, h.output, h.size, fun k hk => h.block k (by omega) (by omega)⟩
theorem Chg.blk {c b : Nat} {W W' : World} {cs : Array Value} {t : TypeId} (h : Chg c W W') (hb : Blk W b cs t) (hne : b ≠ c) : Blk W' b cs t := (h.block b hb.lt hne).trans hb
theorem Chg.map {c b : Nat} {W W' : World} {m : List (Int × Value)} (h : Chg c W W') (hb : MapI W b m) (hne : b ≠ c) : MapI W' b m := hb.of_block (h.block b hb.lt hne)
theorem Chg.more {c n : Nat} {W X Y : World} (h : Chg c W X) (k : Below n X Y) (hn : W.heap.size ≤ n) : Chg c W Y := ⟨k.os.trans h.os, k.tape.trans h.tape, k.output.trans h.output, Nat.le_trans h.size k.size, fun i hi hc => (k.block i (by omega)).trans (h.block i hi hc)⟩
theorem Chg.set {c : Nat} {W X : World} (h : Chg c W X) (a : Addr) (v : Value) (hb : W.heap.size ≤ a.block) : Chg c W (X.setCell a v) := ⟨h.os, h.tape, h.output, by simpa using h.size, fun i hi hc => (Below.heap_setCell X a v i (by omega)).trans (h.block i hi hc)⟩
theorem Chg.setc {c : Nat} {W X : World} (h : Chg c W X) (a : Addr) (v : Value) (hb : a.block = c) : Chg c W (X.setCell a v) := ⟨h.os, h.tape, h.output, by simpa using h.size, fun i hi hc => (Below.heap_setCell X a v i (by omega)).trans (h.block i hi hc)⟩
theorem Chg.put {c D : Nat} {W X : World} (h : Chg c W X) (o : Obj) (hb : W.heap.size ≤ D) : Chg c W (X.putObj D o) := ⟨h.os, h.tape, h.output, by simpa using h.size, fun i hi hc => (World.putObj_heap_other (by omega)).trans (h.block i hi hc)⟩
theorem Chg.row {c B n : Nat} {W W' : World} {v : Value} {xs : List Value} (h : Chg c W W') (hr : RowAt B W v n xs) (hB : B ≤ c) (hz : B ≤ W.heap.size) : RowAt B W' v n xs := hr.below (h.below hB hz) (Nat.le_refl _)
theorem Chg.owns {c : Nat} {W W' : World} {base : Nat} {e : TypeId} {size : Nat} {v : Value} {n : Nat} {xs : List Value} (h : Chg c W W') (ho : W.ownsRow base e size v n xs) (hb : c < base) : W'.ownsRow base e size v n xs := by
  refine ⟨ho.1, ?_⟩
  rcases ho.2 with hn | ⟨g, cap, cur, rfl, hg1, hg, rest⟩
  · exact .inl hn
  · exact .inr ⟨g, cap, cur, rfl, hg1, (h.block g (Array.getElem?_eq_some_iff.1 hg).1 (by omega)).trans hg, rest⟩
theorem Chg.setCells {c : Nat} {W : World} : ∀ (vs : List Value) (o : Nat) {X : World}, Chg c W X → Chg c W (X.setCells c o vs)
  | [], _, _, h => h
  | v :: vs, o, _, h => Chg.setCells vs (o + 1) (h.setc ⟨c, o, none⟩ v rfl)
/-- A region that ends well, walked where a panic is nobody's end. -/
def onlyN (Q : Exit → Act → World → Prop) : Exit → Act → World → Prop
  | .normal, a, w => Q .normal a w
  | _, _, _ => False
@[go_sem] theorem onlyN_normal (Q : Exit → Act → World → Prop) (a : Act) (w : World) : onlyN Q .normal a w = Q .normal a w := rfl
theorem wp_onlyN {c : Code} {Q : Exit → Act → World → Prop} {a : Act} {w : World} (h : c.wp P (onlyN Q) a w) : c.wp P Q a w :=
  wp_mono h (fun e a w hq => by cases e <;> first | exact hq | exact hq.elim)
theorem MapI.keeps {B : Nat} {W W' : World} {b : Nat} {m : List (Int × Value)} (h : MapI W b m) (hk : Keeps B W W') : MapI W' b m := by
  obtain ⟨es, clock, h1, h2⟩ := h
  exact ⟨es, clock, hk.same _ _ h1 rfl, h2⟩
theorem Blk.turn {W W' : World} {b c : Nat} {cs : Array Value} {t : TypeId} (h : Blk W b cs t) (k : Turn c W W') (hne : b ≠ c) : Blk W' b cs t := (k.block b hne).trans h
theorem wp_append_rowO {o : Oper} {a : Act} {K : Act → World → Prop} {Q : Exit → Act → World → Prop} {w : World} (s x : Operand) (t : TypeId)
    (ho : o.op = .call { callee := .builtin .append, args := #[s, x], argTypes := #[t, t] }) (base : Nat) {e : TypeId} {z : Value} {size bytes : Nat} (ht : P.underlying t = some (.slice e)) (hE : ElemInfo P e z size bytes)
    {v : Value} (n : Nat) (xs : List Value) (hs : a.eval s = v) (hown : w.ownsRow base e size v n xs)
    (B : Nat) {ad : Addr} {cap : Nat} (m : Nat) (news : List Value) (hx : a.eval x = .slice (some ad) m cap) (hrow : RowAt B w (.slice (some ad) m cap) m news) (hl : news.length = m * size) (h1 : ∀ u ∈ news, u.oneCell' = true)
    (h63 : n + m ≤ maxLen) (hbytes : (n + m) * bytes ≤ 140737488355328) (hbase : base ≤ w.heap.size)
    (h : ∀ v' w', w'.ownsRow base e size v' (n + m) (xs ++ news) → w.grownBy w' v.ownBlock → K (a.put o.dst v') w') : o.wp P a w K Q := by
  obtain ⟨i, hi, hz, hsize, hby, hzs, hsz⟩ := hE
  refine wp_append_own w s x t ho base e i z size bytes ht hi hz hsize hby hzs hsz v n xs hs hown ad m cap news hx hl ?_ h1 h63 hbytes hbase (fun v' w' h2 h3 _ => h v' w' h2 h3)
  intro j u hu
  obtain ⟨a', cap', he, _, hc⟩ := hrow
  simp only [Value.slice.injEq] at he
  obtain ⟨he, _, _⟩ := he
  rcases hc with rfl | ⟨b, off, hab, hlt, hc⟩
  · simp at hu
  · rw [hab] at he
    cases he
    have hj : j < news.length := (List.getElem?_eq_some_iff.1 hu).1
    have := hc j hj
    rw [hu] at this
    show w.cell? (Addr.add ⟨b, off, none⟩ j) = some u
    by_cases e0 : j = 0
    · subst e0; simpa [Addr.add] using this
    · simpa [Addr.add, e0] using this
theorem RowAt.len {B n : Nat} {W : World} {v : Value} {xs : List Value} (h : RowAt B W v n xs) : ∃ a cap, v = .slice a n cap ∧ n ≤ cap := by
  obtain ⟨a, c, e, h, _⟩ := h
  exact ⟨a, c, e, h.1⟩
/-- Where a row lies behind an append: where it lay, or in the next block. -/
theorem append_where {w : World} (base : Nat) {t ty e : TypeId} {i : TypeInfo} {z : Value} {size bytes : Nat} (ht : P.underlying t = some (.slice e)) (hi : P.info? e = some i) (hz : i.zero = some z)
    (hsize : i.size = size) (hby : i.bytes = bytes) {v : Value} {n : Nat} {xs : List Value} (hown : w.ownsRow base e size v n xs)
    {a : Addr} {m c : Nat} {news : List Value} (hl : news.length = m * size) (hnews : ∀ j u, news[j]? = some u → w.cell? (a.add j) = some u) (h1 : ∀ u ∈ news, u.oneCell' = true) (h0 : 0 < m)
    (h63 : n + m ≤ maxLen) (hbytes : (n + m) * bytes ≤ 140737488355328) {v' : Value} {w' : World} (hr : (Builtin.append_ #[t, t] ty #[v, .slice (some a) m c]).run P w = .ok v' w') :
    v'.ownBlock = v.ownBlock ∨ v'.ownBlock = some w.heap.size := by
  subst hsize
  subst hby
  have hsmall : n + m ≤ 9223372036854775807 := by simp only [maxLen] at h63; omega
  rcases hown.2 with ⟨rfl, rfl⟩ | ⟨g, cap, cur, rfl, hbg, hg, hnc, hcm, hcs, htake⟩
  · have h2 := run_append_nil (P := P) w t ty e i z ht hi hz a m c news hl hnews h0 (by omega) (by have hb := hbytes; simp only [Nat.zero_add] at hb; omega)
    rw [hr] at h2
    cases h2
    exact .inr rfl
  · by_cases hroom : n + m ≤ cap
    · have hfit : n * i.size + news.length ≤ cur.size := by rw [hl, hcs, ← Nat.add_mul]; exact Nat.mul_le_mul_right _ hroom
      have h2 := run_append_room (P := P) w t ty e i ht hi g n cap cur hg a m c news hl hnews h1 hroom hfit
      rw [hr] at h2
      cases h2
      exact .inl rfl
    · have holds : ∀ j u, xs[j]? = some u → w.cell? ((⟨g, 0, none⟩ : Addr).add j) = some u := hown.cells (g := g) rfl
      have h2 := run_append_grow (P := P) w t ty e i z ht hi hz ⟨g, 0, none⟩ n cap xs hown.1 holds a m c news hl hnews (by omega) (by omega) (growslice_fits (by omega) hbytes)
      rw [hr] at h2
      cases h2
      exact .inr rfl
/-- append(s, x) of one element: as 'wpList_append_row', and where the row lies then. -/
theorem wpList_append_one {ops : Array Oper} {rest : List Oper} {o : Oper} {a : Act} {Q : Exit → Act → World → Prop} {w : World} (hgd : o.guard = none) (s x : Operand) (t : TypeId)
    (ho : o.op = .call { callee := .builtin .append, args := #[s, x], argTypes := #[t, t] }) (base : Nat) {e : TypeId} {z : Value} {size bytes : Nat} (ht : P.underlying t = some (.slice e)) (hE : ElemInfo P e z size bytes)
    {v : Value} (n : Nat) (xs : List Value) (hs : a.eval s = v) (hown : w.ownsRow base e size v n xs)
    (B : Nat) {ad : Addr} {cap : Nat} (news : List Value) (hx : a.eval x = .slice (some ad) 1 cap) (hrow : RowAt B w (.slice (some ad) 1 cap) 1 news) (hl : news.length = size) (h1 : ∀ u ∈ news, u.oneCell' = true)
    (h63 : n + 1 ≤ maxLen) (hbytes : (n + 1) * bytes ≤ 140737488355328) (hbase : base ≤ w.heap.size)
    (h : ∀ v' w', w'.ownsRow base e size v' (n + 1) (xs ++ news) → w.grownBy w' v.ownBlock → (v'.ownBlock = v.ownBlock ∨ v'.ownBlock = some w.heap.size) → wpList P ops Q rest (a.put o.dst v') w') : wpList P ops Q (o :: rest) a w := by
  obtain ⟨i, hi, hz, hsize, hby, hzs, hsz⟩ := hE
  have hnews : ∀ j u, news[j]? = some u → w.cell? (ad.add j) = some u := by
    intro j u hu
    obtain ⟨a', cap', he, _, hc⟩ := hrow
    simp only [Value.slice.injEq] at he
    obtain ⟨he, _, _⟩ := he
    rcases hc with rfl | ⟨b, off, hab, hlt, hc⟩
    · simp at hu
    · rw [hab] at he
      cases he
      have hj : j < news.length := (List.getElem?_eq_some_iff.1 hu).1
      have := hc j hj
      rw [hu] at this
      show w.cell? (Addr.add ⟨b, off, none⟩ j) = some u
      by_cases e0 : j = 0
      · subst e0; simpa [Addr.add] using this
      · simpa [Addr.add, e0] using this
  refine wpList_plain hgd fun _ hK => ?_
  obtain ⟨v', w', hr, h2, h3, h4⟩ := run_append_own (P := P) w base t o.type e i z size bytes ht hi hz hsize hby hzs hsz v n xs hown ad 1 cap news (by simpa using hl) hnews h1 h63 hbytes hbase
  have hw := append_where (P := P) base ht hi hz hsize hby hown (by simpa using hl) hnews h1 (by omega) h63 hbytes hr
  unfold Oper.wp execOp
  simp only [ho, resolve, invoke, builtin, Sem.run_bind, Sem.run_pure, Result.andThen_ok, List.map_toArray, List.map_cons, List.map_nil, hs, hx, hr]
  exact hK _ _ (h v' w' h2 h3 hw)
end Go.Proofs.YtlpchcdalfkfcaaGreat
