/-
  Chapter 9, plain: what VmemHolds keeps. No condition.
-/
import Derived.Test.YtleclclncgnelaaVmQ
namespace Go.Proofs.Ytleclclncgnelaa
open Go.RowKit
set_option maxHeartbeats 1000000
set_option maxRecDepth 4000

structure HI (s : Ms) (now who : List Int) : Prop where
  gd : MGd s
  ln : now.length = 5120
  lw : who.length = 20
  w : ∀ p : Nat, p < 20 → (who.getD p 0 = 0 ∧ hasR s.D p = false) ∨ ((who.getD p 0 = 1 ∨ who.getD p 0 = 2) ∧ hasR s.D p = true ∧ (getE s.D p).o = who.getD p 0 ∧ (getE s.D p).m = 2)
  n : ∀ a : Nat, a < 5120 → hasR s.D ((a : Int) / 256) = true → byF s.D s.F a = now.getD a 0
theorem set_getD (l : List Int) (i j : Nat) (x : Int) (h : i < l.length) : (l.set i x).getD j 0 = if j = i then x else l.getD j 0 := by
  simp only [List.getD_eq_getElem?_getD, List.getElem?_set]
  by_cases e : i = j
  · subst e; simp [h]
  · rw [if_neg e, if_neg (fun h => e h.symm)]
theorem HI.new {s : Ms} (gd : MGd s) (hD : s.D = []) : HI s (List.replicate 5120 0) (List.replicate 20 0) := by
  refine ⟨gd, List.length_replicate, List.length_replicate, fun p hp => .inl ⟨?_, by rw [hD]; rfl⟩, fun a ha h => by rw [hD] at h; cases h⟩
  rw [List.getD_eq_getElem?_getD, List.getElem?_replicate]; split <;> rfl
section
variable {s : Ms} {now who : List Int}
theorem HI.map (h : HI s now who) (p : Nat) (hp : p < 20) (o : Int) (ho : o = 1 ∨ o = 2) :
    (vmpE s p o o 2 ≠ 0 → HI (vmpF s p o o 2) now who) ∧ (vmpE s p o o 2 = 0 → HI (vmpF s p o o 2) (putL now (256 * p) (List.replicate 256 0)) (who.set p o)) := by
  obtain ⟨g', q1, q2⟩ := h.gd.map p o o 2
  refine ⟨fun e => by rw [q1 e]; exact h, fun e => ?_⟩
  have sp := q2 e
  have hl := h.ln
  refine ⟨g', ?_, by rw [List.length_set]; exact h.lw, fun q hq => ?_, fun a ha hh => ?_⟩
  · unfold putL; simp; omega
  · rw [set_getD _ _ _ _ (by rw [h.lw]; exact hp), sp.has]
    by_cases e1 : q = p
    · subst e1
      rw [if_pos rfl]
      exact .inr ⟨ho, by simp, sp.own.1, sp.own.2⟩
    · rw [if_neg e1, sp.get q (by omega)]
      have := h.w q hq
      rw [show ((p : Int) == (q : Int)) = false by simp; omega, Bool.false_or]
      exact this
  · rw [sp.has] at hh
    rw [putL_get _ _ _ _ (by simp; omega)]
    by_cases e1 : (a : Int) / 256 = p
    · rw [sp.zero a e1, if_pos (by simp; omega), List.getD_eq_getElem?_getD, List.getElem?_replicate]
      split <;> rfl
    · rw [show ((p : Int) == (a : Int) / 256) = false by simp; omega, Bool.false_or] at hh
      rw [sp.same a hh, if_neg (by simp; omega)]
      exact h.n a ha hh
theorem HI.unm (h : HI s now who) (p : Nat) (hp : p < 20) : (vumE s p ≠ 0 → HI (vumF s p) now who) ∧ (vumE s p = 0 → HI (vumF s p) now (who.set p 0)) := by
  obtain ⟨g', q1, q2⟩ := h.gd.unm p
  refine ⟨fun e => by rw [q1 e]; exact h, fun e => ?_⟩
  have sp := q2 e
  refine ⟨g', h.ln, by rw [List.length_set]; exact h.lw, fun q hq => ?_, fun a ha hh => ?_⟩
  · rw [set_getD _ _ _ _ (by rw [h.lw]; exact hp), sp.has]
    by_cases e1 : q = p
    · subst e1
      rw [if_pos rfl]
      exact .inl ⟨rfl, by simp⟩
    · rw [if_neg e1, sp.get q (by omega), show ((p : Int) == (q : Int)) = false by simp; omega, Bool.not_false, Bool.true_and]
      exact h.w q hq
  · rw [sp.has, Bool.and_eq_true] at hh
    have hne : (a : Int) / 256 ≠ p := fun e => by rw [e] at hh; simp at hh
    rw [sp.same a hne hh.2]
    exact h.n a ha hh.2
/-- Are so many bytes an owner's? -/
def fineK (who : List Int) (o : Int) (at_ : Nat) (b : Bool) (k : Nat) : Bool := b && (List.range k).all fun i => who.getD ((at_ + i) / 256) 0 == o
theorem fineK_zero (who : List Int) (o : Int) (at_ : Nat) (b : Bool) : fineK who o at_ b 0 = b := by simp [fineK]
theorem fineK_succ (who : List Int) (o : Int) (at_ : Nat) (b : Bool) (k : Nat) : fineK who o at_ b (k + 1) = (fineK who o at_ b k && (who.getD ((at_ + k) / 256) 0 == o)) := by
  unfold fineK
  rw [List.range_succ, List.all_append, Bool.and_assoc]
  simp
theorem HI.rch (h : HI s now who) (o : Int) (ho : o = 1 ∨ o = 2) (at_ n : Nat) (may : Int) (hm : may ≤ 2) (hb : at_ + n ≤ 5120) : rchE s.D (max o (-1)) at_ n may = 0 ↔ fineK who o at_ (decide (0 < n)) n = true := by
  rw [rchE_zero (by omega)]
  have hmx : max o (-1) = o := by omega
  rw [hmx]
  have hw : badWho o = false := by unfold badWho; simp; omega
  unfold fineK
  rw [Bool.and_eq_true, decide_eq_true_iff, List.all_eq_true]
  constructor
  · rintro ⟨h1, _, _, h4⟩
    refine ⟨by omega, fun i hi => ?_⟩
    have hi' := List.mem_range.1 hi
    have h5 := h4 (at_ + i) (by omega) (by omega)
    unfold rchB at h5
    simp only [Bool.and_eq_true, Bool.or_eq_true, decide_eq_true_eq] at h5
    obtain ⟨h6, h7⟩ := h5
    have h8 := h.w ((at_ + i) / 256) (by omega)
    rw [show (((at_ + i) / 256 : Nat) : Int) = ((at_ : Int) + i) / 256 by omega] at h8
    rcases h8 with ⟨_, h9⟩ | ⟨h9, _, h10, _⟩
    · rw [h9] at h6; cases h6
    · rcases h7 with h7 | ⟨h7, _⟩
      · omega
      · rw [h10] at h7; simpa using h7
  · rintro ⟨h1, h2⟩
    refine ⟨by omega, hw, by omega, fun a h3 h4 => ?_⟩
    have h5 := h2 (a - at_).toNat (List.mem_range.2 (by omega))
    have h5' : who.getD ((at_ + (a - at_).toNat) / 256) 0 = o := by simpa using h5
    have h8 := h.w ((at_ + (a - at_).toNat) / 256) (by omega)
    rw [show (((at_ + (a - at_).toNat) / 256 : Nat) : Int) = a / 256 by omega] at h8
    rw [h5'] at h8
    rcases h8 with ⟨h9, _⟩ | ⟨_, h9, h10, h11⟩
    · omega
    · unfold rchB
      rw [h9, h10, h11]
      simp
      omega
theorem HI.wr (h : HI s now who) (o : Int) (at_ : Nat) (bs : List Int) (hb : at_ + bs.length ≤ 5120) :
    (rchE s.D o at_ bs.length 2 ≠ 0 → HI (wrS s o at_ bs) now who) ∧ (rchE s.D o at_ bs.length 2 = 0 → HI (wrS s o at_ bs) (putL now at_ bs) who) := by
  obtain ⟨g', q1, q2⟩ := h.gd.wr o at_ bs (by omega)
  refine ⟨fun e => by rw [q1 e]; exact h, fun e => ?_⟩
  have sp := q2 e
  have hl := h.ln
  obtain ⟨d1, _, _⟩ := sp.d
  refine ⟨g', by unfold putL; simp; omega, h.lw, fun q hq => by rw [d1]; exact h.w q hq, fun a ha hh => ?_⟩
  rw [d1] at hh
  rw [sp.at_ a hh, putL_get _ _ _ _ (by omega)]
  by_cases c : at_ ≤ a ∧ a < at_ + bs.length
  · rw [if_pos c, if_pos (by omega)]
    congr 1
    omega
  · rw [if_neg c, if_neg (by omega)]
    exact h.n a ha hh
theorem HI.rd (h : HI s now who) (o : Int) (at_ n : Nat) (hb : at_ + n ≤ 5120) : rdA s o at_ n = if rchE s.D o at_ n 1 = 0 then (now.drop at_).take n else [] := by
  rw [h.gd.rd o at_ n (by omega)]
  by_cases e : rchE s.D o at_ n 1 = 0
  · rw [if_pos e, if_pos e]
    have hl := h.ln
    obtain ⟨_, _, _, h4⟩ := (rchE_zero (by omega)).1 e
    refine List.ext_getElem (by simp; omega) fun i h1 h2 => ?_
    have hi : i < n := by simp at h1; exact h1
    simp only [List.getElem_map, List.getElem_range, List.getElem_take, List.getElem_drop]
    have h5 := h.n (at_ + i) (by omega) (by rw [show (((at_ + i : Nat) : Int)) = at_ + i by omega]; exact rchB_has (h4 (at_ + i) (by omega) (by omega)))
    rw [show (((at_ + i : Nat) : Int)) = at_ + i by omega] at h5
    rw [h5, List.getD_eq_getElem?_getD, List.getElem?_eq_getElem (by omega)]
    rfl
  · rw [if_neg e, if_neg e]
theorem putL_step (l : List Int) (at_ : Nat) (bs : List Int) (k : Nat) (hk : k < bs.length) (hb : at_ + bs.length ≤ l.length) : (putL l at_ (bs.take k)).set (at_ + k) bs[k] = putL l at_ (bs.take (k + 1)) := by
  have l1 : (bs.take k).length = k := by rw [List.length_take]; omega
  have l2 : (bs.take (k + 1)).length = k + 1 := by rw [List.length_take]; omega
  refine List.ext_getElem? fun j => ?_
  have e := fun (m : Nat) (hm : m ≤ bs.length) => putL_get l (bs.take m) at_ j (by rw [List.length_take]; omega)
  have len : ∀ m, m ≤ bs.length → (putL l at_ (bs.take m)).length = l.length := fun m hm => by unfold putL; simp; omega
  by_cases hj : j < l.length
  · have c := fun (L : List Int) (hL : L.length = l.length) => show L[j]? = some (L.getD j 0) by rw [List.getD_eq_getElem?_getD, List.getElem?_eq_getElem (by omega)]; rfl
    rw [c _ (by rw [List.length_set]; exact len k (by omega)), c _ (len (k + 1) hk), set_getD _ _ _ _ (by rw [len k (by omega)]; omega), e k (by omega), e (k + 1) hk, l1, l2]
    congr 1
    by_cases c1 : j = at_ + k
    · rw [if_pos c1, if_pos (by omega), c1, Nat.add_sub_cancel_left, List.getD_eq_getElem?_getD, List.getElem?_take_of_lt (by omega), List.getElem?_eq_getElem hk]
      rfl
    · rw [if_neg c1]
      by_cases c2 : at_ ≤ j ∧ j < at_ + k
      · rw [if_pos c2, if_pos (by omega)]
        simp only [List.getD_eq_getElem?_getD]
        rw [List.getElem?_take_of_lt (by omega), List.getElem?_take_of_lt (by omega)]
      · rw [if_neg c2, if_neg (by omega)]
  · rw [List.getElem?_eq_none (by rw [List.length_set, len k (by omega)]; omega), List.getElem?_eq_none (by rw [len (k + 1) hk]; omega)]
end
end Go.Proofs.Ytleclclncgnelaa
