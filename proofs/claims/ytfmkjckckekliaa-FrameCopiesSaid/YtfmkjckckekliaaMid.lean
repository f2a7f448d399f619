/-
  Groundwork: values of many cells, loaded and stored whole, wherever in a block they lie. No condition.
-/
import Derived.Test.YtfmkjckckekliaaChgs
import Derived.Deep.MidRow
import Derived.BigFrame
namespace Go.Proofs.Ytfmkjckckekliaa
open Go.RowKit
set_option maxHeartbeats 400000
variable {P : Program}

/-- A type of n cells, a row or a struct. -/
def RowTy (P : Program) (t : TypeId) (n : Nat) : Prop := ∃ d, P.underlying t = some d ∧ d.isRow = true ∧ (P.info? t).map (·.size) = some n
theorem rowTy_of {t : TypeId} {n : Nat} {d : TypeDesc} (h1 : P.underlying t = some d) (h2 : d.isRow = true) (h3 : (P.info? t).map (·.size) = some n) : RowTy P t n := ⟨d, h1, h2, h3⟩
theorem Blk.rng {W : World} {b : Nat} {cs : Array Value} {t : TypeId} (h : Blk W b cs t) (o : Nat) (vs : List Value) (hv : ∀ j, j < vs.length → cs[o + j]? = vs[j]?) : W.rangeAt b o vs := fun j v hj => by
  have h1 := hv j (List.getElem?_eq_some_iff.1 hj).1
  exact h.cell _ (h1.trans hj)
theorem Blk.rng0 {W : World} {b : Nat} {cs : Array Value} {t : TypeId} (h : Blk W b cs t) : W.rangeAt b 0 cs.toList := h.rng 0 _ fun j hj => by simp
theorem Blk.there {W : World} {b : Nat} {cs : Array Value} {t : TypeId} (h : Blk W b cs t) (o n : Nat) (hn : o + n ≤ cs.size) : W.there b o n := fun j hj => by
  have : o + j < cs.size := by omega
  refine ⟨?_, h.frozen _⟩
  rw [h.cell (o + j) (Array.getElem?_eq_getElem this)]
  rfl
/-- Cells laid over a block's. -/
def spl (cs : Array Value) : Nat → List Value → Array Value
  | _, [] => cs
  | o, v :: vs => spl (cs.setIfInBounds o v) (o + 1) vs
theorem Blk.setCells {W : World} {b : Nat} {cs : Array Value} {t : TypeId} (h : Blk W b cs t) (vs : List Value) (o : Nat) : Blk (W.setCells b o vs) b (spl cs o vs) t := by
  induction vs generalizing W cs o with
  | nil => exact h
  | cons v vs ih => exact ih (h.set o v) (o + 1)
theorem Blk.setCellsO {W : World} {b g : Nat} {cs : Array Value} {t : TypeId} (h : Blk W b cs t) (vs : List Value) (o : Nat) (hne : b ≠ g) : Blk (W.setCells g o vs) b cs t := by
  induction vs generalizing W o with
  | nil => exact h
  | cons v vs ih => exact ih (h.setOther ⟨g, o, none⟩ v hne) (o + 1)
theorem bel_setCells {B g : Nat} {w W : World} (h : Below B w W) (hg : B ≤ g) (vs : List Value) (o : Nat) : Below B w (W.setCells g o vs) := by
  induction vs generalizing W o with
  | nil => exact h
  | cons v vs ih => exact ih (h.setCell (p := ⟨g, o, none⟩) hg v) (o + 1)
theorem MapI.setCells {W : World} {b g : Nat} {m : List (Int × Value)} (h : MapI W b m) (vs : List Value) (o : Nat) (hne : b ≠ g) : MapI (W.setCells g o vs) b m := by
  induction vs generalizing W o with
  | nil => exact h
  | cons v vs ih => exact ih (h.setCell ⟨g, o, none⟩ v hne) (o + 1)
theorem Chg.setCellsN {c g : Nat} {w W : World} (h : Chg c w W) (hg : w.heap.size ≤ g) (vs : List Value) (o : Nat) : Chg c w (W.setCells g o vs) := by
  induction vs generalizing W o with
  | nil => exact h
  | cons v vs ih => exact ih (h.set ⟨g, o, none⟩ v hg) (o + 1)
theorem splL (cs : List Value) (vs : List Value) (o : Nat) (h : o + vs.length ≤ cs.length) : spl cs.toArray o vs = (cs.take o ++ vs ++ cs.drop (o + vs.length)).toArray := by
  induction vs generalizing cs o with
  | nil => simp [spl]
  | cons v vs ih =>
    have hl : o + 1 + vs.length ≤ (cs.set o v).length := by rw [List.length_set]; simp at h; omega
    have ho : o < cs.length := by simp at h; omega
    rw [spl, List.setIfInBounds_toArray, ih _ _ hl]
    congr 1
    rw [List.take_succ_eq_append_getElem (by rw [List.length_set]; exact ho), List.getElem_set_self, List.take_set_of_le (Nat.le_refl _), List.drop_set_of_lt (by omega)]
    simp [Nat.add_assoc, Nat.add_comm 1]
theorem spl_all {cs vs : Array Value} (h : vs.size = cs.size) : spl cs 0 vs.toList = vs := by
  have := splL cs.toList vs.toList 0 (by simp [h])
  simp only [Array.toArray_toList, List.take_zero, List.nil_append, Nat.zero_add] at this
  rw [this, List.drop_eq_nil_of_le (by simp [h])]
  simp
theorem Blk.whole {W : World} {b : Nat} {cs : Array Value} {t : TypeId} (h : Blk W b cs t) (vs : Array Value) (hs : vs.size = cs.size) : Blk (W.setCells b 0 vs.toList) b vs t := by
  have := h.setCells vs.toList 0
  rwa [spl_all hs] at this
/-! ### Operations -/
theorem wp_loadM {o : Oper} {a : Act} {w : World} {K : Act → World → Prop} {Q : Exit → Act → World → Prop} {t : TypeId} {n : Nat} (ht : RowTy P t n) (x : Operand) (ho : o.op = .load t x)
    (g off : Nat) (hx : a.eval x = .pointer (some ⟨g, off, none⟩)) (cs : List Value) (hB : w.rangeAt g off cs) (hs : cs.length = n)
    (h : K (a.put o.dst (.agg cs.toArray)) w) : o.wp P a w K Q := by
  obtain ⟨d, h1, h2, h3⟩ := ht
  exact wp_load_mid t x ho g off hx cs d hB h1 h2 (by rw [hs]; exact h3) h
theorem wpList_loadM {ops : Array Oper} {rest : List Oper} {o : Oper} {a : Act} {w : World} {Q : Exit → Act → World → Prop} {t : TypeId} {n : Nat} (ht : RowTy P t n) (hgd : o.guard = none) (x : Operand) (ho : o.op = .load t x)
    (g off : Nat) (hx : a.eval x = .pointer (some ⟨g, off, none⟩)) (cs : List Value) (hB : w.rangeAt g off cs) (hs : cs.length = n)
    (h : wpList P ops Q rest (a.put o.dst (.agg cs.toArray)) w) : wpList P ops Q (o :: rest) a w :=
  wpList_plain hgd fun _ hK => wp_loadM ht x ho g off hx cs hB hs (hK _ _ h)
theorem wp_loadB {o : Oper} {a : Act} {w : World} {K : Act → World → Prop} {Q : Exit → Act → World → Prop} {t : TypeId} {n : Nat} (ht : RowTy P t n) (x : Operand) (ho : o.op = .load t x)
    (g : Nat) (hx : a.eval x = .pointer (some ⟨g, 0, none⟩)) {cs : Array Value} {t' : TypeId} (hB : Blk w g cs t') (hs : cs.size = n)
    (h : K (a.put o.dst (.agg cs)) w) : o.wp P a w K Q := wp_loadM ht x ho g 0 hx cs.toList hB.rng0 (by simpa using hs) (by simpa using h)
theorem wpList_loadB {ops : Array Oper} {rest : List Oper} {o : Oper} {a : Act} {w : World} {Q : Exit → Act → World → Prop} {t : TypeId} {n : Nat} (ht : RowTy P t n) (hgd : o.guard = none) (x : Operand) (ho : o.op = .load t x)
    (g : Nat) (hx : a.eval x = .pointer (some ⟨g, 0, none⟩)) {cs : Array Value} {t' : TypeId} (hB : Blk w g cs t') (hs : cs.size = n)
    (h : wpList P ops Q rest (a.put o.dst (.agg cs)) w) : wpList P ops Q (o :: rest) a w :=
  wpList_plain hgd fun _ hK => wp_loadB ht x ho g hx hB hs (hK _ _ h)
/-- The same where a guard stands that lets it be. -/
theorem wpList_loadW {ops : Array Oper} {rest : List Oper} {o : Oper} {a : Act} {w : World} {Q : Exit → Act → World → Prop} {t : TypeId} {n : Nat} (ht : RowTy P t n) (hw : Region.wanted o (yielded ops a.tmps) = true) (x : Operand) (ho : o.op = .load t x)
    (g : Nat) (hx : a.eval x = .pointer (some ⟨g, 0, none⟩)) {cs : Array Value} {t' : TypeId} (hB : Blk w g cs t') (hs : cs.size = n)
    (h : wpList P ops Q rest (a.put o.dst (.agg cs)) w) : wpList P ops Q (o :: rest) a w :=
  BigFrame.wpList_want hw fun _ hK => wp_loadB ht x ho g hx hB hs (hK _ _ h)
/-- For a region that draws its order. -/
theorem exec_loadM {o : Oper} {a : Act} {w : World} {t : TypeId} {n : Nat} (ht : RowTy P t n) (x : Operand) (ho : o.op = .load t x) (g off : Nat) (hx : a.eval x = .pointer (some ⟨g, off, none⟩)) (cs : List Value) (hB : w.rangeAt g off cs) (hs : cs.length = n) :
    (execOp a.eval o).run P w = .ok (.value (.agg cs.toArray)) w := by
  obtain ⟨d, h1, h2, h3⟩ := ht
  unfold execOp
  simp only [ho, hx, Instr.loadAt, Instr.sureAddr, Sem.run_bind, Sem.run_pure, Result.andThen_ok, run_loadVar_mid w g off t cs d hB h1 h2 (by rw [hs]; exact h3)]
theorem exec_loadB {o : Oper} {a : Act} {w : World} {t : TypeId} {n : Nat} (ht : RowTy P t n) (x : Operand) (ho : o.op = .load t x) (g : Nat) (hx : a.eval x = .pointer (some ⟨g, 0, none⟩)) {cs : Array Value} {t' : TypeId} (hB : Blk w g cs t') (hs : cs.size = n) :
    (execOp a.eval o).run P w = .ok (.value (.agg cs)) w := by
  have := exec_loadM ht x ho g 0 hx cs.toList hB.rng0 (by simpa using hs)
  simpa using this
theorem wp_storeM {o : Oper} {a : Act} {w : World} {K : Act → World → Prop} {Q : Exit → Act → World → Prop} {t : TypeId} {n : Nat} (ht : RowTy P t n) (x y : Operand) (ho : o.op = .store t x y)
    (g off : Nat) (cs : Array Value) (hx : a.eval x = .pointer (some ⟨g, off, none⟩)) (hy : a.eval y = .agg cs) (hB : w.there g off n) (hs : cs.size = n) (h1 : cs.all (·.oneCell') = true)
    (h : K (a.put o.dst undef) (w.setCells g off cs.toList)) : o.wp P a w K Q := by
  obtain ⟨d, _, _, h3⟩ := ht
  subst hs
  exact wp_store_mid t x y ho g off cs hx hy hB h3 h1 h
theorem wpList_storeM {ops : Array Oper} {rest : List Oper} {o : Oper} {a : Act} {w : World} {Q : Exit → Act → World → Prop} {t : TypeId} {n : Nat} (ht : RowTy P t n) (hgd : o.guard = none) (x y : Operand) (ho : o.op = .store t x y)
    (g off : Nat) (cs : Array Value) (hx : a.eval x = .pointer (some ⟨g, off, none⟩)) (hy : a.eval y = .agg cs) (hB : w.there g off n) (hs : cs.size = n) (h1 : cs.all (·.oneCell') = true)
    (h : wpList P ops Q rest (a.put o.dst undef) (w.setCells g off cs.toList)) : wpList P ops Q (o :: rest) a w :=
  wpList_plain hgd fun _ hK => wp_storeM ht x y ho g off cs hx hy hB hs h1 (hK _ _ h)
theorem wpList_storeB {ops : Array Oper} {rest : List Oper} {o : Oper} {a : Act} {w : World} {Q : Exit → Act → World → Prop} {t : TypeId} {n : Nat} (ht : RowTy P t n) (hgd : o.guard = none) (x y : Operand) (ho : o.op = .store t x y)
    (g : Nat) (cs : Array Value) (hx : a.eval x = .pointer (some ⟨g, 0, none⟩)) (hy : a.eval y = .agg cs) {old : Array Value} {t' : TypeId} (hB : Blk w g old t') (hold : old.size = n) (hs : cs.size = n) (h1 : cs.all (·.oneCell') = true)
    (h : wpList P ops Q rest (a.put o.dst undef) (w.setCells g 0 cs.toList)) : wpList P ops Q (o :: rest) a w :=
  wpList_storeM ht hgd x y ho g 0 cs hx hy (hB.there 0 n (by omega)) hs h1 h
theorem wp_storeB {o : Oper} {a : Act} {w : World} {K : Act → World → Prop} {Q : Exit → Act → World → Prop} {t : TypeId} {n : Nat} (ht : RowTy P t n) (x y : Operand) (ho : o.op = .store t x y)
    (g : Nat) (cs : Array Value) (hx : a.eval x = .pointer (some ⟨g, 0, none⟩)) (hy : a.eval y = .agg cs) {old : Array Value} {t' : TypeId} (hB : Blk w g old t') (hold : old.size = n) (hs : cs.size = n) (h1 : cs.all (·.oneCell') = true)
    (h : K (a.put o.dst undef) (w.setCells g 0 cs.toList)) : o.wp P a w K Q :=
  wp_storeM ht x y ho g 0 cs hx hy (hB.there 0 n (by omega)) hs h1 h
/-- A result that lies in a block. -/
theorem run_loadVarB {w : World} {g : Nat} {cs : Array Value} {t t' : TypeId} {n : Nat} (ht : RowTy P t n) (hB : Blk w g cs t') (hs : cs.size = n) : (loadVar t ⟨g, 0, none⟩).run P w = .ok (.agg cs) w := by
  obtain ⟨d, h1, h2, h3⟩ := ht
  have := run_loadVar_mid (P := P) w g 0 t cs.toList d hB.rng0 h1 h2 (by simpa [hs] using h3)
  simpa using this
end Go.Proofs.Ytfmkjckckekliaa
