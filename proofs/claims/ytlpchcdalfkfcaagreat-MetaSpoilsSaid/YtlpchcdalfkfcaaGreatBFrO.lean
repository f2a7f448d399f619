/-
  The keys of a map of ints, sorted: the shelf's contracts laid over this program. Conditions: few keys, ints.
-/
import Derived.Test.YtlpchcdalfkfcaaGreatRows
import Derived.Test.YtlpchcdalfkfcaaGreatBMaps
import Derived.Shelf.SlIterI.Nil
import Derived.Shelf.SortM.Plain
import Derived.Shelf.SortM.SortNone
import Derived.Ground.GgzProg
import Derived.Ground.SlgmProg
import Derived.Laws.EntriesVeiled
import Derived.Deep.RegionHeld
import Derived.BigRegion
namespace Go.Proofs
open Go.RowKit Go.Maps Go.Sort Go.Shelf

end Go.Proofs
namespace Go.Proofs.YtlpchcdalfkfcaaGreat
open Go.RowKit Go.Maps Go.Sort Go.Shelf
set_option maxHeartbeats 1000000
def noElem (_ : Value) : Option (DataW Unit × List MemPlace) := some (.nil, [])
def datumI (m : List (Int × Value)) : DataW Unit := .map ((m.map fun p => (Lit.int .i64 p.1, (DataW.nil : DataW Unit))).foldr DataW.insert [])
theorem MapI.owns {P : Program} {k : TypeId} (hk : P.underlying k = some (.int .i64)) {W : World} {b : Nat} {m : List (Int × Value)} (h : MapI W b m) (hw : ∀ p ∈ m, (Lit.int .i64 p.1).wf = true) (hl : m.length ≤ maxLen) :
    W.ownsMap P k noElem b m.length (datumI m) := by
  obtain ⟨es, clock, hb, hs, he⟩ := h
  have hsz : es.size = m.length := by simpa using congrArg List.length he
  have hrd : ∀ x ∈ es.toList, ∀ p ∈ m, entI x = encI p → WideElems.rd P k noElem x = some (.int .i64 p.1, .nil) := by
    intro x hx p hp e
    have hpk : x.key = .int .i64 p.1 := congrArg Prod.fst e
    simp [WideElems.rd, noElem, hpk, keyOf_int_mk hk (hw p hp)]
  refine ⟨es, clock, hb, ⟨by omega, hs, fun x hx => ?_⟩, by omega, ?_⟩
  · have := List.mem_map_of_mem (f := entI) hx
    rw [he] at this
    obtain ⟨p, hp, e⟩ := List.mem_map.1 this
    exact ⟨_, hrd x hx p hp e.symm⟩
  · unfold datumI
    congr 2
    refine List.ext_getElem? fun i => ?_
    have hi := congrArg (fun l => l[i]?) he
    simp only [List.getElem?_map] at hi ⊢
    cases hx : es.toList[i]? with
    | none => rw [hx] at hi; cases hp : m[i]? with
      | none => simp
      | some p => rw [hp] at hi; simp at hi
    | some x => rw [hx] at hi; cases hp : m[i]? with
      | none => rw [hp] at hi; simp at hi
      | some p =>
        rw [hp] at hi
        simp only [Option.map_some, Option.some.injEq] at hi ⊢
        unfold WideElems.rg
        rw [hrd x (List.mem_of_getElem? hx) p (List.mem_of_getElem? hp) hi]
        rfl
theorem datumI_keys (m : List (Int × Value)) : (intKeys (datumI m)).Perm (m.map (·.1)) := by
  have h := (WideShapes.sorted_perm (m.map fun p => (Lit.int .i64 p.1, (DataW.nil : DataW Unit)))).map (fun p => Go.intOf p.1)
  unfold datumI intKeys
  simpa [Function.comp_def, Go.intOf] using h
theorem datumI_size (m : List (Int × Value)) : Maps.size (datumI m) = m.length := by
  have h := (WideShapes.sorted_perm (m.map fun p => (Lit.int .i64 p.1, (DataW.nil : DataW Unit)))).length_eq
  unfold datumI Maps.size
  simpa using h
/-- A map's keys, sorted. -/
def srt (m : List (Int × Value)) : List Int := (m.map (·.1)).mergeSort leI
end Go.Proofs.YtlpchcdalfkfcaaGreat

/-
  Package frame: questions, the first error of questions; what a pool is in memory. No condition.
-/
namespace Go.Proofs.YtlpchcdalfkfcaaGreat
open Go.RowKit
attribute [local go_sem] Oper.semAt_some
set_option maxHeartbeats 400000
set_option maxRecDepth 4000

/-- A question: what is called, with what; its error; its answer. -/
structure Ask where
  fn : Nat
  recv : Array Value
  caps : Array Value
  err : Int
  wrong : Bool
def firstErr : List Ask → Int
  | [] => 0
  | a :: r => if a.wrong = true then a.err else firstErr r
theorem firstErr_hit : ∀ (l : List Ask) (k : Nat) (h : k < l.length), (∀ j (hj : j < l.length), j < k → l[j].wrong = false) → l[k].wrong = true → firstErr l = l[k].err
  | a :: r, 0, _, _, hw => by simp only [List.getElem_cons_zero] at hw ⊢; simp [firstErr, hw]
  | a :: r, k + 1, h, hn, hw => by
    have h0 := hn 0 (by simp) (by omega)
    simp only [List.getElem_cons_zero] at h0
    simp only [List.getElem_cons_succ] at hw ⊢
    rw [firstErr, if_neg (by rw [h0]; decide)]
    exact firstErr_hit r k (by simpa using h) (fun j hj hjk => hn (j + 1) (by simpa using hj) (by omega)) hw
theorem firstErr_none : ∀ (l : List Ask), (∀ j (hj : j < l.length), l[j].wrong = false) → firstErr l = 0
  | [], _ => rfl
  | a :: r, h => by
    have h0 := h 0 (by simp)
    simp only [List.getElem_cons_zero] at h0
    rw [firstErr, if_neg (by rw [h0]; decide)]
    exact firstErr_none r fun j hj => h (j + 1) (by simpa using hj)
/-- The questions lie in a row; each is answered, whatever has been made since. -/
structure AskRow (w : World) (bb : Nat) (l : List Ask) : Prop where
  c0 : ∀ i (h : i < l.length), w.cell? ⟨bb, i * 2, none⟩ = some (.func (.func l[i].fn) l[i].recv l[i].caps)
  c1 : ∀ i (h : i < l.length), w.cell? ⟨bb, i * 2 + 1, none⟩ = some (.int .i64 l[i].err)
  lt : bb < w.heap.size
structure Answers (w : World) (l : List Ask) : Prop where
  eg : ∀ i (h : i < l.length) args W, (callFunc l[i].fn args).run Tryz.prog W = .ok (.enter l[i].fn args) W
  ans : ∀ i (h : i < l.length) W, Below w.heap.size w W → Calls Tryz.prog l[i].fn (l[i].recv ++ l[i].caps) W fun e W' => e = .returned (.bool l[i].wrong) ∧ Below W.heap.size W W'
theorem asked_ok (w : World) (bb n cap : Nat) (l : List Ask) (hn : n = l.length) (hlen : l.length ≤ 1000) (hr : Hid (AskRow w bb l)) (ha : Hid (Answers w l)) :
    Calls Tryz.prog 141 #[.slice (some ⟨bb, 0, none⟩) n cap] w fun e w' => e = .returned (.int .i64 (firstErr l)) ∧ Below w.heap.size w w' := by
  subst hn
  have hbb := hr.out.lt
  go_enter Tryz.func141, Tryz.ntmps141
  go_wp2_with fail
  refine wp_scope_fwd 0 rfl ?_
  go_wp2_with (first | go_step3 | rw [fwd_goto] | rw [fwd_ret] | rw [Exit.noGoto_ret])
  go_loopw [7] (fun i wr => ∃ k : Nat, k ≤ l.length ∧ i = .int .i64 k ∧ (∀ j (hj : j < l.length), j < k → l[j].wrong = false) ∧ Below w.heap.size w wr) (fun i _ => l.length - (intOf i).toNat)
  case atStart => exact ⟨0, by omega, rfl, fun j _ hj => by omega, Below.refl _ _⟩
  case round =>
    obtain ⟨k, hk, rfl, hn, hb⟩ := hrel
    have hz := hb.size
    have HN := Lib.hid hn
    clear hn
    by_cases hlt : k < l.length
    · have q0 : wr.cell? ⟨bb, k * 2, none⟩ = some (.func (.func l[k].fn) l[k].recv l[k].caps) := (hb.cell (p := ⟨bb, k * 2, none⟩) hbb).trans (hr.out.c0 k hlt)
      have q1 : wr.cell? ⟨bb, k * 2 + 1, none⟩ = some (.int .i64 l[k].err) := (hb.cell (p := ⟨bb, k * 2 + 1, none⟩) hbb).trans (hr.out.c1 k hlt)
      have i0 : (0 : Int) ≤ k := by omega
      have i1 : (k : Int) < l.length := by omega
      have hX := Blk.new wr #[.func (.func l[k].fn) l[k].recv l[k].caps, .int .i64 l[k].err] 196
      have hb1 := hb.alloc hz (.cells #[.func (.func l[k].fn) l[k].recv l[k].caps, .int .i64 l[k].err] 196)
      have hcall := Lib.hid (ha.out.ans k hlt _ hb1)
      have heg := ha.out.eg k hlt
      by_cases hp : l[k].wrong = true
      · have hres := Lib.hid (firstErr_hit l k hlt (fun j hj hjk => HN.out j hj hjk) hp)
        rw [hp] at hcall
        clear hp
        go_wp2_with fail
        refine (hcall.out).mono ?_; rintro e w1 ⟨rfl, h1⟩
        have hX1 := hX.below h1 (by simp)
        go_wp2_with fail
        go_wp2_with (first | go_step3 | rw [fwd_goto] | rw [fwd_ret] | rw [Exit.noGoto_ret])
        go_ret
        exact ⟨by rw [hres.out]; rfl, hb1.trans (h1.mono (by simp; omega))⟩
      · have hp' : l[k].wrong = false := by simpa using hp
        rw [hp'] at hcall
        have HP := Lib.hid hp'
        clear hp hp'
        go_wp2_with fail
        refine (hcall.out).mono ?_; rintro e w1 ⟨rfl, h1⟩
        go_wp2_with fail
        go_roundw
        case rel => exact ⟨k + 1, by omega, by go_num, fun j hj hjk => by rcases Nat.lt_or_ge j k with h | h; exact HN.out j hj h; (have : j = k := by omega); subst this; exact HP.out, hb1.trans (h1.mono (by simp; omega))⟩
        case measure => simp [intOf]; omega
    · obtain rfl : k = l.length := by omega
      go_wp2_with fail
      rw [fwd_ret]
      go_ret
      exact ⟨by rw [firstErr_none l fun j hj => HN.out j hj hj]; rfl, hb⟩
end Go.Proofs.YtlpchcdalfkfcaaGreat

/-
  Package frame: what a pool is in memory; its questions; how many frames an owner has; how many are unreserved. Conditions: a pool that is one; bounds of sums.
-/
namespace Go.Proofs.YtlpchcdalfkfcaaGreat
open Go.RowKit
attribute [local go_sem] Oper.semAt_some
set_option maxHeartbeats 1000000
set_option maxRecDepth 4000

/-- A frame that is somebody's: its number, its owner, its bytes. -/
abbrev Fr := Int × Int × List Int
def takenA (o : Int) (bs : List Int) : Array Value := (Value.int .i64 o :: intVals .u8 bs).toArray
def encF (F : List Fr) : List (Int × Value) := F.map fun x => (x.1, .agg (takenA x.2.1 x.2.2))
def encRF (R : List (Int × Int)) : List (Int × Value) := R.map fun x => (x.1, .int .i64 x.2)
structure PoolAt (W : World) (b bf br : Nat) (many : Int) (F : List Fr) (R : List (Int × Int)) : Prop where
  blk : Blk W b #[.map (some bf), .map (some br), .int .i64 many] 189
  fr : MapI W bf (encF F)
  re : MapI W br (encRF R)
  ne : bf ≠ br
section
variable {W W' : World} {b bf br : Nat} {many : Int} {F : List Fr} {R : List (Int × Int)}
theorem PoolAt.below {n : Nat} (h : PoolAt W b bf br many F R) (k : Below n W W') (h1 : b < n) (h2 : bf < n) (h3 : br < n) : PoolAt W' b bf br many F R := ⟨h.blk.below k h1, h.fr.below k h2, h.re.below k h3, h.ne⟩
theorem PoolAt.step (h : PoolAt W b bf br many F R) (k : Below W.heap.size W W') : PoolAt W' b bf br many F R := h.below k h.blk.lt h.fr.lt h.re.lt
theorem PoolAt.alloc (h : PoolAt W b bf br many F R) (o : Obj) : PoolAt (W.alloc o) b bf br many F R := h.step ((Below.refl _ W).alloc (Nat.le_refl _) o)
theorem PoolAt.cells (h : PoolAt W b bf br many F R) : W.cell? ⟨b, 0, none⟩ = some (.map (some bf)) ∧ W.cell? ⟨b, 1, none⟩ = some (.map (some br)) ∧ W.cell? ⟨b, 2, none⟩ = some (.int .i64 many) := ⟨h.blk.cell 0 rfl, h.blk.cell 1 rfl, h.blk.cell 2 rfl⟩
end
theorem is_calls (p : Option Addr) (w : World) : Calls Tryz.prog 142 #[.pointer p] w fun e w' => e = .returned (.agg #[.func (.func 153) #[.pointer p] #[], .int .i64 1]) ∧ Below w.heap.size w w' := by
  go_enter Tryz.func142, Tryz.ntmps142
  go_wp2_with fail
  exact bodyPost_ret (v := .agg #[.func (.func 153) #[.pointer p] #[], .int .i64 1]) (by simp [results, Tryz.results142, go_sem]) rfl ⟨rfl, (Below.refl _ w).alloc (Nat.le_refl _) _⟩
theorem owner_calls (n : Int) (w : World) : Calls Tryz.prog 143 #[.int .i64 n] w fun e w' => e = .returned (.agg #[.func (.func 185) #[] #[.pointer (some ⟨w.heap.size, 0, none⟩)], .int .i64 2]) ∧ Blk w' w.heap.size #[.int .i64 n] 3 ∧ Below w.heap.size w w' := by
  go_enter Tryz.func143, Tryz.ntmps143
  go_wp2_with fail
  exact bodyPost_ret (v := .agg #[.func (.func 185) #[] #[.pointer (some ⟨w.heap.size, 0, none⟩)], .int .i64 2]) (by simp [results, Tryz.results143, go_sem]) rfl ⟨rfl, (Blk.new w _ _).alloc _, ((Below.refl _ w).alloc (Nat.le_refl _) _).alloc (by simp) _⟩
def badOwner (n : Int) : Bool := decide (n < 0 ∨ 64 ≤ n)
theorem owner1_calls (n : Int) (p : Nat) (w : World) (hp : w.cell? ⟨p, 0, none⟩ = some (.int .i64 n)) : Calls Tryz.prog 185 #[.pointer (some ⟨p, 0, none⟩)] w fun e w' => e = .returned (.bool (badOwner n)) ∧ Below w.heap.size w w' := by
  by_cases h1 : n < 0
  · have hb : badOwner n = true := by simp [badOwner, h1]
    go_enter Tryz.func185, Tryz.ntmps185
    go_wp2_with fail
    go_ret
    exact ⟨by first | rfl | (rw [hb]; rfl), Below.refl _ _⟩
  · by_cases h2 : 64 ≤ n
    · have hb : badOwner n = true := by simp [badOwner, h2]
      go_enter Tryz.func185, Tryz.ntmps185
      go_wp2_with fail
      go_ret
      exact ⟨by first | rfl | (rw [hb]; rfl), Below.refl _ _⟩
    · have hb : badOwner n = false := by simp [badOwner]; omega
      go_enter Tryz.func185, Tryz.ntmps185
      go_wp2_with fail
      go_ret
      exact ⟨by first | rfl | (rw [hb]; rfl), Below.refl _ _⟩
theorem run_eql_map_nil {P : Program} {t k e : TypeId} (ht : P.underlying t = some (.map k e)) (b : Nat) (w : World) : (binOp .eql t (.map (some b)) (.map none)).run P w = .ok (.bool false) w := by
  have h1 : ∀ d : Nat, (Op.equalIn (d + 1) t (.map (some b)) (.map none)).run P w = .ok false w := fun d => by simp [Op.equalIn, run_underlying ht]
  simp only [binOp]
  simp [Op.equal, Op.maxDepth, h1 9999]
theorem none_live {w : World} {b bf br : Nat} {many : Int} {F : List Fr} {R : List (Int × Int)} (h : PoolAt w b bf br many F R) : Calls Tryz.prog 153 #[.pointer (some ⟨b, 0, none⟩)] w fun e w' => e = .returned (.bool false) ∧ Below w.heap.size w w' := by
  obtain ⟨c0, c1, c2⟩ := h.cells
  have he := run_eql_map_nil (P := Tryz.prog) Tryz.underlying184 bf w
  go_enter Tryz.func153, Tryz.ntmps153
  go_wp2_with fail
  go_ret
  exact ⟨rfl, Below.refl _ _⟩
theorem New_calls (many : Int) (h0 : 0 ≤ many) (h1 : many ≤ 16384) (w : World) : Calls Tryz.prog 78 #[.int .i64 many] w fun e w' => ∃ b bf br : Nat, e = .returned (.tuple #[.pointer (some ⟨b, 0, none⟩), .int .i64 0]) ∧ PoolAt w' b bf br many [] [] ∧ w.heap.size ≤ bf ∧ w.heap.size ≤ br ∧ w.heap.size ≤ b ∧ Below w.heap.size w w' := by
  have hmm := @run_makeMap Tryz.prog
  go_enter Tryz.func78, Tryz.ntmps78
  go_wp2_with fail
  go_ret2
  refine ⟨w.heap.size + 2, w.heap.size, w.heap.size + 1, rfl, ⟨Blk.newAt _ _ _ (by simp), ((MapI.new w).alloc _).alloc _, ?_, by omega⟩, Nat.le_refl _, by omega, by omega, (((Below.refl _ w).alloc (Nat.le_refl _) _).alloc (by simp) _).alloc (by simp; omega) _⟩
  have h : MapI (((w.alloc (.map #[] 0)).alloc (.map #[] 0)).alloc (.cells #[.map (some w.heap.size), .map (some (w.heap.size + 1)), .int .i64 many] 189)) (w.heap.size + 1) [] := by
    have := (MapI.new (w.alloc (.map #[] 0))).alloc (.cells #[.map (some w.heap.size), .map (some (w.heap.size + 1)), .int .i64 many] 189)
    simpa using this
  exact h
theorem New_no (many : Int) (h : many < 0 ∨ 16384 < many) (w : World) : Calls Tryz.prog 78 #[.int .i64 many] w fun e w' => e = .returned (.tuple #[.pointer none, .int .i64 2]) ∧ Below w.heap.size w w' := by
  by_cases h1 : many < 0
  · go_enter Tryz.func78, Tryz.ntmps78
    go_wp2_with fail
    go_ret2
    exact ⟨rfl, Below.refl _ _⟩
  · have h2 : 16384 < many := by omega
    clear h
    go_enter Tryz.func78, Tryz.ntmps78
    go_wp2_with fail
    go_ret2
    exact ⟨rfl, Below.refl _ _⟩
/-! ### How many -/
def hasF (F : List Fr) (who : Int) : Nat := (F.filter fun x => x.2.1 == who).length
theorem delA_encF (F : List Fr) (k : Int) : delA (encF F) k = encF (F.filter fun x => !(x.1 == k)) := by
  induction F with
  | nil => rfl
  | cons x F ih =>
    unfold delA encF at ih ⊢
    rw [List.map_cons, List.filter_cons, List.filter_cons]
    by_cases e : x.1 = k
    · simp [e, ih]
    · simp [e, ih]
theorem cnt_del {α : Type} (P : Int × α → Bool) : ∀ (l : List (Int × α)) (x : Int × α), (l.map (·.1)).Nodup → x ∈ l → (l.filter P).length = ((l.filter fun y => !(y.1 == x.1)).filter P).length + (if P x = true then 1 else 0) := by
  intro l
  induction l with
  | nil => intro x _ hx; simp at hx
  | cons y l ih =>
    intro x hn hx
    simp only [List.map_cons, List.nodup_cons] at hn
    rcases List.mem_cons.1 hx with rfl | hx'
    · have hall : (l.filter fun y => !(y.1 == x.1)) = l := List.filter_eq_self.2 fun z hz => by
        have : z.1 ≠ x.1 := fun e => hn.1 (by rw [← e]; exact List.mem_map_of_mem hz)
        simpa using this
      rw [List.filter_cons (p := fun (y : Int × α) => !(y.1 == x.1)), if_neg (by simp), hall, List.filter_cons]
      split <;> simp
    · have hne : y.1 ≠ x.1 := fun e => hn.1 (by rw [e]; exact List.mem_map_of_mem hx')
      have := ih x hn.2 hx'
      rw [List.filter_cons (p := fun (y : Int × α) => !(y.1 == x.1)), if_pos (by simpa using hne), List.filter_cons, List.filter_cons]
      split
      · simp only [List.length_cons]; omega
      · exact this
theorem has1_calls (o who : Int) (bs : List Int) (p : Nat) (w : World) (hp : w.cell? ⟨p, 0, none⟩ = some (.int .i64 who)) :
    Calls Tryz.prog 187 #[.agg (takenA o bs), .pointer (some ⟨p, 0, none⟩)] w fun e w' => e = .returned (.bool (o == who)) ∧ Below w.heap.size w w' := by
  have hpl := World.block_lt_of_cell? w _ hp
  obtain ⟨w0, hw0⟩ : ∃ w0, w.alloc (.cells (takenA o bs) 214) = w0 := ⟨_, rfl⟩
  have hX : Blk w0 w.heap.size (takenA o bs) 214 := by rw [← hw0]; exact Blk.new w _ _
  have hb0 : Below w.heap.size w w0 := by rw [← hw0]; exact (Below.refl _ w).alloc (Nat.le_refl _) _
  have c0 : w0.cell? ⟨w.heap.size, 0, none⟩ = some (.int .i64 o) := hX.cell 0 (by simp [takenA])
  have c1 : w0.cell? ⟨p, 0, none⟩ = some (.int .i64 who) := (hb0.cell (p := ⟨p, 0, none⟩) hpl).trans hp
  go_enter Tryz.func187, Tryz.ntmps187
  go_wp2_with fail
  go_ret
  exact ⟨rfl, hb0⟩
theorem takenA_size (o : Int) (bs : List Int) (hb : bs.length = 256) : (takenA o bs).size = 257 := by simp [takenA, intVals, hb]
theorem fill_taken (w : World) (o : Int) (bs : List Int) (hb : bs.length = 256) :
    (storeCells ⟨w.heap.size, 0, none⟩ (takenA o bs).toList).run Tryz.prog (w.alloc (.cells Tryz.zeroCells214 214)) = .ok () (w.alloc (.cells (takenA o bs) 214)) := by
  have hz : Tryz.zeroCells214.size = 257 := by kernel_rfl
  have := run_fill (P := Tryz.prog) w Tryz.zeroCells214 (takenA o bs).toList 214 (by rw [hz]; simpa using takenA_size o bs hb) (by
    intro v hv
    simp only [takenA, List.mem_cons] at hv
    rcases hv with rfl | hv
    · rfl
    · exact intVals_one _ _ v hv)
  simpa using this
end Go.Proofs.YtlpchcdalfkfcaaGreat
