/-
  Package cache: what calls do to shelves, in plain Lean. No condition.
-/
import Derived.Test.YtkilmppmghkigaaCaI
namespace Go.Proofs.Ytkilmppmghkigaa
open Go.RowKit

/-- Shelves in order. -/
structure Good (L : Nat → List Int) : Prop where
  len : ∀ i, (L i).length ≤ 8
  rng : ∀ i, ∀ x ∈ L i, 0 ≤ x ∧ x < 256
  nd : ∀ i, (L i).Nodup
  dj : ∀ i j, i % 8 = j % 8 → i ≠ j → ∀ x ∈ L i, x ∉ L j
  big : ∀ i, 32 ≤ i → L i = []
theorem Good.few {L : Nat → List Int} (h : Good L) (i : Nat) : (L i).length < 1000000 := by have := h.len i; omega
theorem good_new : Good (fun _ => []) := ⟨by simp, by simp, by simp, by simp, by simp⟩
/-- A shelf that becomes another one, of the same slots or fewer. -/
theorem Good.sub {L : Nat → List Int} (h : Good L) (k : Nat) (l : List Int) (hl : l.Sublist (L k)) : Good (upd L k l) := by
  have hm : ∀ i, ∀ x ∈ upd L k l i, x ∈ L i := fun i x hx => by
    unfold upd at hx; split at hx
    · rename_i e; subst e; exact hl.subset hx
    · exact hx
  refine ⟨fun i => ?_, fun i x hx => h.rng i x (hm i x hx), fun i => ?_, fun i j hij hne x hx hy => h.dj i j hij hne x (hm i x hx) (hm j x hy), fun i hi => ?_⟩
  · unfold upd; split
    · rename_i e; subst e; exact Nat.le_trans hl.length_le (h.len _)
    · exact h.len i
  · unfold upd; split
    · rename_i e; subst e; exact hl.nodup (h.nd _)
    · exact h.nd i
  · unfold upd; split
    · rename_i e; subst e; have := h.big i hi; rw [this] at hl; exact List.eq_nil_of_sublist_nil hl
    · exact h.big i hi
theorem hasT_none {L : Nat → List Int} {c : Nat} {x : Int} (h : hasT L c x = none) (t : Nat) (ht : t < 4) : x ∉ L (t * 8 + c) := by
  have := List.find?_eq_none.1 h t (by simpa using ht)
  simpa using this
theorem hasT_some {L : Nat → List Int} {c t : Nat} {x : Int} (h : hasT L c x = some t) : t < 4 ∧ x ∈ L (t * 8 + c) := by
  have h1 := List.mem_of_find?_eq_some h
  have h2 := List.find?_some h
  exact ⟨by simpa using h1, by simpa using h2⟩
theorem Good.put {L : Nat → List Int} (h : Good L) {t c : Nat} {x : Int} (ht : t < 4) (hc : c < 8) (hx0 : 0 ≤ x) (hx1 : x < 256) (hn : hasT L c x = none) (hl : (L (t * 8 + c)).length < 8) : Good (upd L (t * 8 + c) (L (t * 8 + c) ++ [x])) := by
  have hno : ∀ i, i % 8 = c → x ∉ L i := fun i hi => by
    rcases Nat.lt_or_ge i 32 with h32 | h32
    · have := hasT_none hn (i / 8) (by omega)
      rwa [show i / 8 * 8 + c = i by omega] at this
    · rw [h.big i h32]; simp
  refine ⟨fun i => ?_, fun i y hy => ?_, fun i => ?_, fun i j hij hne y hy hz => ?_, fun i hi => ?_⟩
  · unfold upd; split
    · simp; omega
    · exact h.len i
  · unfold upd at hy; split at hy
    · rcases List.mem_append.1 hy with hy | hy
      · exact h.rng _ y hy
      · rw [List.mem_singleton.1 hy]; exact ⟨hx0, hx1⟩
    · exact h.rng i y hy
  · unfold upd; split
    · rw [List.nodup_append]
      exact ⟨h.nd _, by simp, fun a ha b hb e => by rw [List.mem_singleton.1 hb] at e; subst e; exact hno _ (by omega) ha⟩
    · exact h.nd i
  · unfold upd at hy hz
    split at hy
    · rename_i ei
      split at hz
      · rename_i ej; exact hne (ei.trans ej.symm)
      · rcases List.mem_append.1 hy with hy | hy
        · exact h.dj _ j (by omega) (by omega) y hy hz
        · rw [List.mem_singleton.1 hy] at hz; exact hno j (by omega) hz
    · split at hz
      · rename_i ei ej
        rcases List.mem_append.1 hz with hz | hz
        · exact h.dj i _ (by omega) (by omega) y hy hz
        · rw [List.mem_singleton.1 hz] at hy; exact hno i (by omega) hy
      · exact h.dj i j hij hne y hy hz
  · unfold upd; split
    · omega
    · exact h.big i hi
/-- What Put makes. -/
def putAfter (L : Nat → List Int) (t c x : Int) : Nat → List Int := if putErr L t c x = 0 then upd L (t.toNat * 8 + c.toNat) (L (t.toNat * 8 + c.toNat) ++ [x]) else L
theorem putErr_zero {L : Nat → List Int} {t c x : Int} (h : putErr L t c x = 0) : (0 ≤ t ∧ t < 4) ∧ (0 ≤ c ∧ c < 8) ∧ (0 ≤ x ∧ x < 256) ∧ hasT L c.toNat x = none ∧ (L (t.toNat * 8 + c.toNat)).length < 8 := by
  unfold putErr at h
  by_cases h1 : badIn t 4 = true
  · simp [h1] at h
  by_cases h2 : badIn c 8 = true
  · simp [h1, h2] at h
  by_cases h3 : badIn x 256 = true
  · simp [h1, h2, h3] at h
  by_cases h4 : (hasR L c x).isSome = true
  · simp [h1, h2, h3, h4] at h
  by_cases h5 : 8 ≤ ((L (t.toNat * 8 + c.toNat)).length : Int)
  · simp [h1, h2, h3, h4, h5] at h
  refine ⟨badIn_false (by simpa using h1), badIn_false (by simpa using h2), badIn_false (by simpa using h3), ?_, by omega⟩
  unfold hasR at h4
  rw [if_neg h2] at h4
  simpa using h4
theorem Good.putA {L : Nat → List Int} (h : Good L) (t c x : Int) : Good (putAfter L t c x) := by
  unfold putAfter
  split
  · rename_i h0
    obtain ⟨h1, h2, h3, h4, h5⟩ := putErr_zero h0
    exact h.put (by omega) (by omega) h3.1 h3.2 h4 h5
  · exact h
def takErr (L : Nat → List Int) (t c : Int) : Int := if shErr t c = 0 then if L (t.toNat * 8 + c.toNat) = [] then 5 else 0 else 2
def takVal (L : Nat → List Int) (t c : Int) : Int := if takErr L t c = 0 then (L (t.toNat * 8 + c.toNat)).getLastD 0 else 0
def takAfter (L : Nat → List Int) (t c : Int) : Nat → List Int := if takErr L t c = 0 then upd L (t.toNat * 8 + c.toNat) (L (t.toNat * 8 + c.toNat)).dropLast else L
theorem Good.takA {L : Nat → List Int} (h : Good L) (t c : Int) : Good (takAfter L t c) := by
  unfold takAfter
  split
  · exact h.sub _ _ (List.dropLast_sublist _)
  · exact h
def splL (L : Nat → List Int) (t c : Int) : List Int := if shErr t c = 0 then (L (t.toNat * 8 + c.toNat)).take 4 else []
def splAfter (L : Nat → List Int) (t c : Int) : Nat → List Int := if shErr t c = 0 then upd L (t.toNat * 8 + c.toNat) ((L (t.toNat * 8 + c.toNat)).drop 4) else L
theorem Good.splA {L : Nat → List Int} (h : Good L) (t c : Int) : Good (splAfter L t c) := by
  unfold splAfter
  split
  · exact h.sub _ _ (List.drop_sublist _ _)
  · exact h
def drpErr (L : Nat → List Int) (c x : Int) : Int := if badIn c 8 = true then 2 else if badIn x 256 = true then 4 else if (hasT L c.toNat x).isSome = true then 0 else 5
def drpVal (L : Nat → List Int) (c x : Int) : Int := if drpErr L c x = 0 then ((hasT L c.toNat x).getD 0 : Nat) else 0
/-- A row without x. -/
def remI (l : List Int) (x : Int) : List Int := l.filter fun y => decide (y ≠ x)
def drpAfter (L : Nat → List Int) (c x : Int) : Nat → List Int := if drpErr L c x = 0 then upd L ((hasT L c.toNat x).getD 0 * 8 + c.toNat) (remI (L ((hasT L c.toNat x).getD 0 * 8 + c.toNat)) x) else L
theorem Good.drpA {L : Nat → List Int} (h : Good L) (c x : Int) : Good (drpAfter L c x) := by
  unfold drpAfter
  split
  · exact h.sub _ _ List.filter_sublist
  · exact h
end Go.Proofs.Ytkilmppmghkigaa
