/-
  What is laid apart: rows of their own among other rows; bytes that are turned one by one.
-/
import Derived.Test.YtalaaembfgapfaaWordH
namespace Go.Proofs.Ytalaaembfgapfaa
open Go.RowKit
set_option maxHeartbeats 400000

/-- Rows in blocks of another type are not touched by an append. -/
theorem owns_far {W W' : World} {base base' : Nat} {e e' : TypeId} {size size' : Nat} {v u : Value} {n m : Nat} {xs ys : List Value} (h : W.ownsRow base e size u n xs) (ho : W.ownsRow base' e' size' v m ys) (hne : e ≠ e') (hg : W.grownBy W' v.ownBlock) : W'.ownsRow base e size u n xs := by
  obtain ⟨h1, h2⟩ := h
  refine ⟨h1, ?_⟩
  rcases h2 with hn | ⟨g, cap, cur, rfl, hb, hgc, rest⟩
  · exact .inl hn
  · refine .inr ⟨g, cap, cur, rfl, hb, ?_, rest⟩
    rw [← hgc]
    refine hg.block g (Array.getElem?_eq_some_iff.1 hgc).1 ?_
    intro hs
    rcases ho.2 with ⟨rfl, _⟩ | ⟨g', cap', cur', rfl, _, hg', _⟩
    · cases hs
    · simp only [Value.ownBlock, Option.some.injEq] at hs
      subst hs
      rw [hgc] at hg'
      simp only [Option.some.injEq, Obj.cells.injEq] at hg'
      exact hne hg'.2.1
theorem strOfNums_append (a b : List Int) : strOfNums a ++ strOfNums b = strOfNums (a ++ b) := by
  apply ByteArray.ext
  simp [strOfNums]
/-- A lent row, whole: the bytes, then 77. -/
def Lent (base : Nat) (W : World) (u : Value) (l : List Int) : Prop :=
  ∃ g cp : Nat, u = .slice (some ⟨g, 0, none⟩) l.length cp ∧ W.ownsRow base 5 1 (.slice (some ⟨g, 0, none⟩) (l.length + 1) cp) (l.length + 1) (intVals .u8 l ++ [.int .u8 77])
theorem Lent.at' {base : Nat} {W : World} {u : Value} {l : List Int} (h : Lent base W u l) : ∃ g cp : Nat, u = .slice (some ⟨g, 0, none⟩) l.length cp ∧ LentAt W.heap.size W g cp l := by
  obtain ⟨g, cp, rfl, ho⟩ := h
  obtain ⟨h1, h2, h3, h4⟩ := owns_slice ho
  refine ⟨g, cp, rfl, RowAt.of_take ho (Nat.le_refl _) _ (by omega) rfl, ?_, h2, h3, h4⟩
  rw [ho.cellAt _ (by omega), List.getElem?_append_right (by rw [intVals_len]; omega), intVals_len]
  simp
theorem Lent.row {base : Nat} {W : World} {u : Value} {l : List Int} (h : Lent base W u l) : RowAt W.heap.size W u l.length (intVals .u8 l) := by
  obtain ⟨g, cp, rfl, h1⟩ := h.at'
  exact LentAt.row h1
theorem Lent.below {base m : Nat} {W W' : World} {u : Value} {l : List Int} (h : Lent base W u l) (hb : Below m W W') (hm : W.heap.size ≤ m) : Lent base W' u l := by
  obtain ⟨g, cp, rfl, ho⟩ := h
  exact ⟨g, cp, rfl, owns_keeps ho (Keeps.of_below hb (Nat.le_refl _) hm)⟩
theorem lent_ok' (v : Value) (l : List Int) (B base : Nat) (w : World) (hB : B ≤ w.heap.size) (hbase : base ≤ w.heap.size) (hl : l.length < 140737488355328) (hv : RowAt B w v l.length (intVals .u8 l)) :
    Calls Try.prog 14 #[v] w fun e w' => ∃ u, e = .returned u ∧ Lent base w' u l ∧ Below w.heap.size w w' := by
  refine (lent_ok v l B w hB hl hv).mono ?_
  rintro e w' ⟨g, cp, rfl, ho, hb⟩
  exact ⟨_, rfl, ⟨g, cp, rfl, owns_weaken ho hbase⟩, hb⟩
/-- Bytes in a block, whatever they are. -/
def Bytes (W : World) (g n : Nat) : Prop := ∃ cur, Blk W g cur 5 ∧ ∀ i, i < n → ∃ z, cur[i]? = some (.int .u8 z)
theorem Bytes.of_owns {W : World} {base g cap n : Nat} {l : List Int} (h : W.ownsRow base 5 1 (.slice (some ⟨g, 0, none⟩) n cap) n (intVals .u8 l)) : Bytes W g n := by
  obtain ⟨h1, h2⟩ := h
  rcases h2 with ⟨h', _⟩ | ⟨g', cap', cur, h', hb, hg, hn, hc, hs, ht⟩
  · simp at h'
  · simp only [Value.slice.injEq, Option.some.injEq, Addr.mk.injEq, and_true, true_and] at h'
    obtain ⟨rfl, rfl⟩ := h'
    refine ⟨cur, hg, fun i hi => ?_⟩
    rw [intVals_len] at h1
    have hi' : i < l.length := by omega
    refine ⟨l[i], ?_⟩
    have : (cur.toList.take (n * 1))[i]? = (intVals .u8 l)[i]? := by rw [ht]
    rw [List.getElem?_take_of_lt (by omega), intVals_get _ _ _ hi'] at this
    simpa using this
theorem Bytes.cell {W : World} {g n : Nat} (h : Bytes W g n) (i : Nat) (hi : i < n) : ∃ z, W.cell? ⟨g, i, none⟩ = some (.int .u8 z) ∧ W.frozen? ⟨g, i, none⟩ = false := by
  obtain ⟨cur, hB, h⟩ := h
  obtain ⟨z, hz⟩ := h i hi
  exact ⟨z, hB.cell i hz, hB.frozen i⟩
theorem Bytes.set {W : World} {g n : Nat} (h : Bytes W g n) (i : Nat) (z : Int) : Bytes (W.setCell ⟨g, i, none⟩ (.int .u8 z)) g n := by
  obtain ⟨cur, hB, h⟩ := h
  refine ⟨_, hB.set i _, fun j hj => ?_⟩
  rw [Array.getElem?_setIfInBounds]
  obtain ⟨z', hz'⟩ := h j hj
  split
  · rename_i e
    subst e
    rw [if_pos (Array.getElem?_eq_some_iff.1 hz').1]
    exact ⟨_, rfl⟩
  · exact ⟨z', hz'⟩
end Go.Proofs.Ytalaaembfgapfaa
