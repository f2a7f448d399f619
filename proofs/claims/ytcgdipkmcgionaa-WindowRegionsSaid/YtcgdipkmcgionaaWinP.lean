/-
  Package window: the first kind that fits, plainly.
-/
import Derived.Test.YtcgdipkmcgionaaWinC
namespace Go.Proofs.Ytcgdipkmcgionaa
open Go.RowKit

theorem set4 {W : World} {b : Nat} {x0 x1 x2 x3 : Value} {t : TypeId} (h : Blk W b #[x0, x1, x2, x3] t) (v0 v1 v2 v3 : Value) :
    Blk ((((W.setCell ⟨b, 0, none⟩ v0).setCell ⟨b, 1, none⟩ v1).setCell ⟨b, 2, none⟩ v2).setCell ⟨b, 3, none⟩ v3) b #[v0, v1, v2, v3] t := (((h.set 0 v0).set 1 v1).set 2 v2).set 3 v3
theorem below4 {B b : Nat} {w W : World} (h : Below B w W) (hb : B ≤ b) (v0 v1 v2 v3 : Value) :
    Below B w ((((W.setCell ⟨b, 0, none⟩ v0).setCell ⟨b, 1, none⟩ v1).setCell ⟨b, 2, none⟩ v2).setCell ⟨b, 3, none⟩ v3) :=
  (((h.setCell (p := ⟨b, 0, none⟩) hb v0).setCell (p := ⟨b, 1, none⟩) hb v1).setCell (p := ⟨b, 2, none⟩) hb v2).setCell (p := ⟨b, 3, none⟩) hb v3
/-- The first kind that fits from i on. -/
def firstK (s page : Int) : Nat → Nat → Option Nat
  | _, 0 => none
  | i, n + 1 => if okI i s page = true then some i else firstK s page (i + 1) n
theorem firstK_hit (s page : Int) : ∀ (n k i : Nat), k ≤ i → i < k + n → okI i s page = true → (∀ j, k ≤ j → j < i → okI j s page = false) → firstK s page k n = some i := by
  intro n
  induction n with
  | zero => intro k i h1 h2; omega
  | succ n ih =>
    intro k i h1 h2 hp hn
    unfold firstK
    by_cases e : k = i
    · subst e; rw [if_pos hp]
    · rw [if_neg (by rw [hn k (Nat.le_refl _) (by omega)]; decide)]
      exact ih (k + 1) i (by omega) (by omega) hp fun j hj => hn j (by omega)
theorem firstK_miss (s page : Int) : ∀ (n k : Nat), (∀ j, k ≤ j → j < k + n → okI j s page = false) → firstK s page k n = none := by
  intro n
  induction n with
  | zero => intro k _; rfl
  | succ n ih =>
    intro k h
    unfold firstK
    rw [if_neg (by rw [h k (Nat.le_refl _) (by omega)]; decide)]
    exact ih (k + 1) fun j h1 h2 => h j (by omega) (by omega)
def siteV (k s c p : Int) : Value := .agg #[.int .i64 k, .int .i64 s, .int .i64 c, .int .i64 p]
def firstV (s page : Int) : Value := match firstK s page 0 4 with
  | some i => .tuple #[siteV (i + 1) s (clI i s page) (plI i s page), .bool true]
  | none => .tuple #[siteV 0 0 0 0, .bool false]
/-- What a page is, as of slot s on. -/
def ofK (page : Int) : Nat → Nat → Value
  | _, 0 => siteV 0 0 0 0
  | s, n + 1 => match firstK s page 0 4 with
    | some i => siteV (i + 1) s (clI i s page) (plI i s page)
    | none => ofK page (s + 1) n
def ofV (page : Int) : Value := ofK page 0 4
theorem ofK_hit (page : Int) : ∀ (n k s i : Nat), k ≤ s → s < k + n → firstK s page 0 4 = some i → (∀ j : Nat, k ≤ j → j < s → firstK j page 0 4 = none) → ofK page k n = siteV (i + 1) s (clI i s page) (plI i s page) := by
  intro n
  induction n with
  | zero => intro k s i h1 h2; omega
  | succ n ih =>
    intro k s i h1 h2 hp hn
    unfold ofK
    by_cases e : k = s
    · subst e; rw [hp]
    · rw [hn k (Nat.le_refl _) (by omega)]
      exact ih (k + 1) s i (by omega) (by omega) hp fun j hj => hn j (by omega)
theorem ofK_miss (page : Int) : ∀ (n k : Nat), (∀ j : Nat, k ≤ j → j < k + n → firstK j page 0 4 = none) → ofK page k n = siteV 0 0 0 0 := by
  intro n
  induction n with
  | zero => intro k _; rfl
  | succ n ih =>
    intro k h
    unfold ofK
    rw [h k (Nat.le_refl _) (by omega)]
    exact ih (k + 1) fun j h1 h2 => h j (by omega) (by omega)
theorem firstK_0 {s page : Int} (h : okI 0 s page = true) : firstK s page 0 4 = some 0 := firstK_hit s page 4 0 0 (by omega) (by omega) h fun j h1 h2 => by omega
theorem firstK_1 {s page : Int} (h0 : okI 0 s page = false) (h : okI 1 s page = true) : firstK s page 0 4 = some 1 := firstK_hit s page 4 0 1 (by omega) (by omega) h fun j h1 h2 => by
  obtain rfl : j = 0 := by omega
  exact h0
theorem firstK_2 {s page : Int} (h0 : okI 0 s page = false) (h1 : okI 1 s page = false) (h : okI 2 s page = true) : firstK s page 0 4 = some 2 := firstK_hit s page 4 0 2 (by omega) (by omega) h fun j _ hj => by
  match j, hj with
  | 0, _ => exact h0
  | 1, _ => exact h1
theorem firstK_3 {s page : Int} (h0 : okI 0 s page = false) (h1 : okI 1 s page = false) (h2 : okI 2 s page = false) (h : okI 3 s page = true) : firstK s page 0 4 = some 3 := firstK_hit s page 4 0 3 (by omega) (by omega) h fun j _ hj => by
  match j, hj with
  | 0, _ => exact h0
  | 1, _ => exact h1
  | 2, _ => exact h2
theorem firstK_n {s page : Int} (h0 : okI 0 s page = false) (h1 : okI 1 s page = false) (h2 : okI 2 s page = false) (h3 : okI 3 s page = false) : firstK s page 0 4 = none := firstK_miss s page 4 0 fun j _ hj => by
  match j, hj with
  | 0, _ => exact h0
  | 1, _ => exact h1
  | 2, _ => exact h2
  | 3, _ => exact h3
theorem ofK_site (page : Int) : ∀ n s, ∃ q r c p, ofK page s n = siteV q r c p := by
  intro n
  induction n with
  | zero => exact fun s => ⟨_, _, _, _, rfl⟩
  | succ n ih =>
    intro s
    unfold ofK
    split
    · exact ⟨_, _, _, _, rfl⟩
    · exact ih _
theorem ofV_site (page : Int) : ∃ q r c p, ofV page = siteV q r c p := ofK_site page 4 0
end Go.Proofs.Ytcgdipkmcgionaa
