/-
  Package window: what a page is, plainly.
-/
import Derived.Test.YtcgdipkmcgionaaWinP
namespace Go.Proofs.Ytcgdipkmcgionaa
open Go.RowKit

theorem firstK_some (s page : Int) (i : Nat) : ∀ (n k : Nat), firstK s page k n = some i → k ≤ i ∧ i < k + n ∧ okI i s page = true := by
  intro n
  induction n with
  | zero => intro k h; cases h
  | succ n ih =>
    intro k h
    unfold firstK at h
    by_cases e : okI k s page = true
    · rw [if_pos e] at h; cases h; exact ⟨by omega, by omega, e⟩
    · rw [if_neg e] at h; have := ih (k + 1) h; exact ⟨by omega, by omega, this.2.2⟩
theorem ofK_cases (page : Int) : ∀ (n s : Nat), ofK page s n = siteV 0 0 0 0 ∨ ∃ r i : Nat, s ≤ r ∧ r < s + n ∧ i < 4 ∧ okI i r page = true ∧ ofK page s n = siteV (i + 1) r (clI i r page) (plI i r page) := by
  intro n
  induction n with
  | zero => intro s; exact .inl rfl
  | succ n ih =>
    intro s
    unfold ofK
    cases h : firstK s page 0 4 with
    | none =>
      rcases ih (s + 1) with h | ⟨r, i, h1, h2, h3⟩
      · exact .inl h
      · exact .inr ⟨r, i, by omega, by omega, h3⟩
    | some i =>
      have := firstK_some s page i 4 0 h
      exact .inr ⟨s, i, by omega, by omega, by omega, this.2.2, rfl⟩
theorem ofV_cases (page : Int) : ofV page = siteV 0 0 0 0 ∨ ∃ r i : Nat, r < 4 ∧ i < 4 ∧ okI i r page = true ∧ ofV page = siteV (i + 1) r (clI i r page) (plI i r page) := by
  rcases ofK_cases page 4 0 with h | ⟨r, i, _, h1, h2⟩
  · exact .inl h
  · exact .inr ⟨r, i, by omega, h2⟩
theorem gap_at (s : Nat) (hs : s < 4) (c : Nat) (hc : c ≤ 8) : ofV (4096 * ((s : Int) + 1) + 17 * c) = siteV 4 s 0 (17 * c) := by
  have h := ofK_hit (4096 * ((s : Int) + 1) + 17 * c) 4 0 s 3 (by omega) (by omega)
    (firstK_3 (by simp only [okI, inI, ok2, decide_eq_false_iff_not]; omega) (by simp only [okI, inI, ok2, decide_eq_false_iff_not]; omega) (by simp only [okI, inI, ok2, decide_eq_false_iff_not]; omega) (by simp only [okI, inI, ok2, decide_eq_true_eq]; omega))
    (fun j _ hj => firstK_n (by simp only [okI, inI, ok2, decide_eq_false_iff_not]; omega) (by simp only [okI, inI, ok2, decide_eq_false_iff_not]; omega) (by simp only [okI, inI, ok2, decide_eq_false_iff_not]; omega) (by simp only [okI, inI, ok2, decide_eq_false_iff_not]; omega))
  unfold ofV
  rw [h]
  have : (4096 * ((s : Int) + 1) + 17 * c - 4096 * (s + 1)) = 17 * c := by omega
  simp only [clI, plI, this]
  rfl
theorem site_inj (i : Nat) (hi : i < 4) (r a b : Int) (hc : clI i r a = clI i r b) (hp : plI i r a = plI i r b) : a = b := by
  match i, hi with
  | 0, _ => simp only [plI] at hp; omega
  | 1, _ => simp only [plI, clI] at hp hc; omega
  | 2, _ => simp only [plI] at hp; omega
  | 3, _ => simp only [plI] at hp; omega
/-- Whether two sites are the same. -/
def same4 (a b c d a' b' c' d' : Int) : Bool := decide (a = a' ∧ b = b' ∧ c = c' ∧ d = d')
theorem eq4 (a b c d a' b' c' d' : Int) (W : World) : (if a = a' then if b = b' then if c = c' then if d = d' then Result.ok (Next.value (.bool true)) W else Result.ok (Next.value (.bool false)) W else Result.ok (Next.value (.bool false)) W else Result.ok (Next.value (.bool false)) W else Result.ok (Next.value (.bool false)) W)
    = Result.ok (Next.value (.bool (same4 a b c d a' b' c' d'))) W := by
  unfold same4
  by_cases h1 : a = a' <;> by_cases h2 : b = b' <;> by_cases h3 : c = c' <;> by_cases h4 : d = d' <;> simp [h1, h2, h3, h4]
theorem siteV_inj {a b c d a' b' c' d' : Int} (h : siteV a b c d = siteV a' b' c' d') : a = a' ∧ b = b' ∧ c = c' ∧ d = d' := by
  simpa [siteV] using h
theorem same_eq {i r : Nat} {a b q' r' c' p' : Int} (hi : i < 4) (hv : ofV b = siteV q' r' c' p') (hd : same4 (i + 1) r (clI i r a) (plI i r a) q' r' c' p' = true) : a = b := by
  simp only [same4, decide_eq_true_eq] at hd
  obtain ⟨h1, h2, h3, h4⟩ := hd
  rcases ofV_cases b with h | ⟨r2, i2, hr2, hi2, _, h⟩
  · rw [h] at hv
    have := (siteV_inj hv).1
    omega
  · rw [h] at hv
    obtain ⟨g1, g2, g3, g4⟩ := siteV_inj hv
    obtain rfl : i2 = i := by omega
    obtain rfl : r2 = r := by omega
    exact site_inj i2 hi r2 a b (h3.trans g3.symm) (h4.trans g4.symm)
end Go.Proofs.Ytcgdipkmcgionaa
