/-
  Package pinfoldlaw18: what all tells is what the document tells, in plain Lean. No condition.
-/
import Derived.Test.YtkilmppmghkigaaCaV
import Derived.Test.YtkilmppmghkigaaCaRA
import Derived.Test.YtkilmppmghkigaaCaW
namespace Go.Proofs.Ytkilmppmghkigaa
open Go.RowKit
set_option maxHeartbeats 1000000

/-- A class's shelves, by thread. -/
def colL (L : Nat → List Int) (c : Nat) : Nat → List Int := fun t => L (t * 8 + c)
theorem pTo_keys (l : Nat → List Int) (a : Nat) : (pTo l a).map (·.1) = (List.range a).flatMap l := by
  induction a with
  | zero => rfl
  | succ a ih => rw [pTo_succ, List.map_append, ih]; simp [List.range_succ, Function.comp_def]
theorem col_nodup {L : Nat → List Int} (h : Good L) (c a : Nat) : ((pTo (colL L c) a).map (·.1)).Nodup := by
  induction a with
  | zero => simp [pTo]
  | succ a ih =>
    rw [pTo_keys] at ih ⊢
    rw [List.range_succ, List.flatMap_append, List.nodup_append]
    refine ⟨ih, by simpa [colL] using h.nd _, fun x hx y hy e => ?_⟩
    subst e
    obtain ⟨k, hk, hxk⟩ := List.mem_flatMap.1 hx
    have hk' : k < a := by simpa using hk
    have hy' : x ∈ L (a * 8 + c) := by simpa [colL] using hy
    exact h.dj (a * 8 + c) (k * 8 + c) (by omega) (by omega) x hy' hxk
theorem col_len {L : Nat → List Int} (h : Good L) (c : Nat) : ∀ a, (pTo (colL L c) a).length ≤ 8 * a
  | 0 => by simp [pTo]
  | a + 1 => by
    rw [pTo_succ, List.length_append, List.length_map]
    have h1 := col_len h c a
    have h2 := h.len (a * 8 + c)
    show _ + (L (a * 8 + c)).length ≤ _
    omega
theorem col_mem {l : Nat → List Int} {a : Nat} {x : Int × Int} (hx : x ∈ pTo l a) : ∃ t, t < a ∧ x.1 ∈ l t ∧ x.2 = t := by
  obtain ⟨t, ht, h⟩ := List.mem_flatMap.1 hx
  obtain ⟨n, hn, rfl⟩ := List.mem_map.1 h
  exact ⟨t, by simpa using ht, hn, rfl⟩
theorem col_rng {L : Nat → List Int} (h : Good L) (c : Nat) : ∀ x ∈ pTo (colL L c) 4, 0 ≤ x.1 ∧ x.1 < 256 := fun x hx => by
  obtain ⟨t, _, h1, _⟩ := col_mem hx
  exact h.rng _ _ h1
theorem find_row (t : Nat) (l : List Int) (k : Int) : (l.map fun n => (n, (t : Int))).find? (fun x => x.1 == k) = if k ∈ l then some (k, (t : Int)) else none := by
  induction l with
  | nil => rfl
  | cons n l ih =>
    rw [List.map_cons, List.find?_cons]
    by_cases e : n = k
    · subst e; simp
    · have : ((n, (t : Int)).1 == k) = false := by simpa using e
      rw [this]
      simp only [ih, List.mem_cons]
      simp [Ne.symm e]
theorem find_col (L : Nat → List Int) (c : Nat) (k : Int) (ts : List Nat) : (ts.flatMap fun t => (colL L c t).map fun n => (n, (t : Int))).find? (fun x => x.1 == k) = (ts.find? fun t => decide (k ∈ L (t * 8 + c))).map fun t => (k, (t : Int)) := by
  induction ts with
  | nil => rfl
  | cons t ts ih =>
    rw [List.flatMap_cons, List.find?_append, ih, find_row, List.find?_cons]
    by_cases e : k ∈ L (t * 8 + c)
    · rw [if_pos (by exact e)]; simp [e]
    · rw [if_neg (by exact e)]; simp [e]
theorem find_pTo (L : Nat → List Int) (c : Nat) (k : Int) : (pTo (colL L c) 4).find? (fun x => x.1 == k) = (hasT L c k).map fun t => (k, (t : Int)) := find_col L c k (List.range 4)
theorem who_col (L : Nat → List Int) (c : Nat) (k : Int) : whoP (pTo (colL L c) 4) k = (((hasT L c k).getD 0 : Nat) : Int) := by
  unfold whoP
  rw [find_pTo]
  cases hasT L c k <;> rfl
theorem outL_of {pre : List (Int × Int)} {f : Int → Int} (h : ∀ x ∈ pre, x.2 = f x.1) (i : Nat) : outL pre i = if (i : Int) ∈ pre.map (·.1) then f i else -1 := by
  have key : ∀ (l : List (Int × Int)) (g : Nat → Int), (∀ x ∈ l, x.2 = f x.1) → (l.foldl (fun (h : Nat → Int) x => fun i => if (i : Int) = x.1 then x.2 else h i) g) i = if (i : Int) ∈ l.map (·.1) then f i else g i := by
    intro l
    induction l with
    | nil => intro g _; simp
    | cons x xs ih =>
      intro g hx
      rw [List.foldl_cons, ih _ (fun y hy => hx y (List.mem_cons_of_mem _ hy)), List.map_cons]
      by_cases e : (i : Int) ∈ xs.map (·.1)
      · rw [if_pos e, if_pos (List.mem_cons_of_mem _ e)]
      · rw [if_neg e]
        by_cases e1 : (i : Int) = x.1
        · rw [if_pos e1, if_pos (by rw [e1]; exact List.mem_cons_self), hx x List.mem_cons_self, e1]
        · rw [if_neg e1, if_neg (by intro hm; rcases List.mem_cons.1 hm with hm | hm; exact e1 hm; exact e hm)]
  exact key pre _ h
theorem all_keys (m : List (Int × Int)) (k : Int) : k ∈ (allL m).map (·.1) ↔ k ∈ m.map (·.1) := by
  unfold allL srt encP
  simp [List.mem_mergeSort]
theorem out_has (L : Nat → List Int) (c i : Nat) : outL (allL (pTo (colL L c) 4)) i = hasI L c i := by
  rw [outL_of (f := whoP (pTo (colL L c) 4)) (fun x hx => by
    unfold allL at hx
    obtain ⟨k, _, rfl⟩ := List.mem_map.1 hx
    rfl)]
  have hm : (i : Int) ∈ (allL (pTo (colL L c) 4)).map (·.1) ↔ (hasT L c i).isSome = true := by
    rw [all_keys]
    have := find_pTo L c i
    constructor
    · intro h
      obtain ⟨x, hx, e⟩ := List.mem_map.1 h
      cases hh : hasT L c i with
      | some t => rfl
      | none =>
        rw [hh] at this
        have := List.find?_eq_none.1 this x hx
        simp [e] at this
    · intro h
      obtain ⟨t, ht⟩ := Option.isSome_iff_exists.1 h
      rw [ht] at this
      have hx := List.mem_of_find?_eq_some this
      exact List.mem_map.2 ⟨_, hx, rfl⟩
  unfold hasI
  cases hh : hasT L c i with
  | some t => rw [if_pos (hm.2 (by rw [hh]; rfl)), who_col, hh]; rfl
  | none => rw [if_neg (fun h => by have := hm.1 h; rw [hh] at this; cases this)]
/-- On's answers, of shelves that there are. -/
theorem ons_live {w : World} {s : Nat} {L : Nat → List Int} (hS : ShAt w s L) (hL : Good L) (c : Nat) (hc : c < 8) : Ons w (some ⟨s, 0, none⟩) c (colL L c) := by
  intro t ht W k
  refine (On_ok (hS.step k) hL.few t c).mono ?_
  rintro e W' ⟨v, rfl, ho, k'⟩
  have hO : onL L t c = L (t * 8 + c) := by
    unfold onL
    rw [if_pos (by unfold shErr badIn; simp; omega)]
    simp
  rw [hO] at ho
  exact ⟨v, rfl, ho, k'⟩
/-- On's answers, of none. -/
theorem ons_none {w : World} {p : Option Addr} (hS : NoSh w p) (c : Int) : Ons w p c (fun _ => []) := by
  intro t ht W k
  refine (On_none (hS.step k) t c).mono ?_
  rintro e W' ⟨rfl, k'⟩
  exact ⟨_, rfl, ⟨rfl, .inl ⟨rfl, rfl⟩⟩, k'⟩
end Go.Proofs.Ytkilmppmghkigaa
