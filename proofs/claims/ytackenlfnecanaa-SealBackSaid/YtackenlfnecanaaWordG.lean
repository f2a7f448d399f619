/-
  Package word, plain laws: a number's bytes say it again, and there and back.
-/
import Derived.Test.YtackenlfnecanaaWordF
namespace Go.Proofs.Ytackenlfnecanaa
theorem byteI_succ (n : Int) (i : Nat) : byteI n (i + 1) = byteI (n / 256) i := by
  unfold byteI
  rw [Int.pow_succ, Int.mul_comm, Int.ediv_ediv_of_nonneg (by decide)]
theorem bytesI_cons (n : Int) (k : Nat) : bytesI n (k + 1) = n % 256 :: bytesI (n / 256) k := by
  unfold bytesI
  rw [List.range_succ_eq_map, List.map_cons, List.map_map]
  congr 1
  · simp [byteI]
  · exact List.map_congr_left fun i _ => byteI_succ n i
theorem valI_bytes : ∀ (k : Nat) (n : Int), 0 ≤ n → n < 256 ^ k → valI (bytesI n k) = n := by
  intro k
  induction k with
  | zero => intro n h0 h1; simp [bytesI, valI]; simp at h1; omega
  | succ k ih =>
    intro n h0 h1
    rw [bytesI_cons]
    show valI (bytesI (n / 256) k) * 256 + n % 256 = n
    rw [Int.pow_succ] at h1
    rw [ih (n / 256) (by omega) (Int.ediv_lt_of_lt_mul (by decide) h1)]
    omega
theorem bytes_valI : ∀ (l : List Int), (∀ x ∈ l, 0 ≤ x ∧ x < 256) → bytesI (valI l) l.length = l := by
  intro l
  induction l with
  | nil => intro _; rfl
  | cons c l ih =>
    intro h
    have hc := h c List.mem_cons_self
    rw [List.length_cons, bytesI_cons]
    simp only [valI]
    rw [show (valI l * 256 + c) % 256 = c by omega, show (valI l * 256 + c) / 256 = valI l by omega, ih fun x hx => h x (List.mem_cons_of_mem _ hx)]
theorem bytesI_bd (n : Int) (k : Nat) : ∀ x ∈ bytesI n k, 0 ≤ x ∧ x < 256 := by
  intro x hx
  simp only [bytesI, List.mem_map] at hx
  obtain ⟨i, _, rfl⟩ := hx
  exact byteI_bd n i
open Go.RowKit
/-- Bytes lent: with 77 behind. -/
structure LentAt (B : Nat) (W : World) (g cp : Nat) (l : List Int) : Prop where
  row : RowAt B W (.slice (some ⟨g, 0, none⟩) l.length cp) l.length (intVals .u8 l)
  c77 : W.cell? ⟨g, l.length, none⟩ = some (.int .u8 77)
  lt : g < B
  room : l.length + 1 ≤ cp
  cm : cp ≤ maxLen
theorem LentAt.below {B m g cp : Nat} {W W' : World} {l : List Int} (h : LentAt B W g cp l) (hb : Below m W W') (hm : B ≤ m) : LentAt B W' g cp l :=
  ⟨h.row.below hb hm, (hb.cell (p := ⟨g, l.length, none⟩) (Nat.lt_of_lt_of_le h.lt hm)).trans h.c77, h.lt, h.room, h.cm⟩
theorem LentAt.mono {B B' g cp : Nat} {W : World} {l : List Int} (h : LentAt B W g cp l) (hm : B ≤ B') : LentAt B' W g cp l := ⟨h.row.mono hm, h.c77, Nat.lt_of_lt_of_le h.lt hm, h.room, h.cm⟩
end Go.Proofs.Ytackenlfnecanaa
