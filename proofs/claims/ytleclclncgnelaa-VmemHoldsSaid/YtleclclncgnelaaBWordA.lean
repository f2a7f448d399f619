/-
  Package word: widths, a number's bytes.
-/
import Derived.Test.YtleclclncgnelaaRows
import Derived.Test.YtleclclncgnelaaCore
import Derived.Laws.BytesArg
namespace Go.Proofs.Ytleclclncgnelaa
open Go.RowKit
attribute [local go_sem] Oper.semAt_some
set_option maxHeartbeats 400000

/-- The place of the first that is x, or -1. -/
def indexI (l : List Int) (x : Int) : Int := if x ∈ l then (l.idxOf x : Int) else -1
def hasI (l : List Int) (x : Int) : Bool := decide (x ∈ l)
/-- Is it a width? -/
def isW (n : Int) : Bool := hasI [1, 2, 4, 8] n
/-- Does a number fit so many bytes? -/
def fitsI (k : Nat) (n : Int) : Bool := decide (n < 256 ^ k)
theorem info8O : ElemInfo Try.prog 5 (.int .u8 0) 1 1 := elemInfo_of (by kernel_rfl) rfl (by decide)
/-- The number's bytes, the lowest ahead. -/
def byteI (n : Int) (i : Nat) : Int := n / 256 ^ i % 256
def bytesI (n : Int) (k : Nat) : List Int := (List.range k).map (byteI n)
/-- So many bytes are written, the others 0. -/
def halfI (n : Int) (k j : Nat) : List Int := (List.range k).map fun i => if i < j then byteI n i else 0
theorem halfI_set (n : Int) (k j : Nat) (h : j < k) : (intVals .u8 (halfI n k j)).set j (.int .u8 (byteI n j)) = intVals .u8 (halfI n k (j + 1)) := by
  apply List.ext_getElem
  · simp [intVals, halfI]
  · intro i h1 h2
    simp only [intVals, halfI, List.map_map, List.length_map, List.length_range, List.length_set] at h1 h2
    rw [List.getElem_set]
    simp only [intVals, halfI, List.getElem_map, List.getElem_range, List.map_map, Function.comp]
    split
    · rename_i e; subst e; simp
    · rename_i e
      by_cases hi : i < j
      · simp [hi, show i < j + 1 by omega]
      · simp [hi, show ¬ i < j + 1 by omega]
theorem halfI_full (n : Int) (k : Nat) : halfI n k k = bytesI n k := by
  unfold halfI bytesI
  refine List.map_congr_left fun i hi => ?_
  rw [if_pos (by simpa using hi)]
theorem shr_byte (n : Int) (j : Nat) : n / 2 ^ (8 * j) % 256 = byteI n j := by
  unfold byteI
  rw [show (2 : Int) ^ (8 * j) = 256 ^ j by rw [Int.pow_mul]; rfl]
end Go.Proofs.Ytleclclncgnelaa

/-
  Package word: Put, and the reference's.
-/
namespace Go.Proofs.Ytleclclncgnelaa
open Go.RowKit
attribute [local go_sem] Oper.semAt_some
set_option maxHeartbeats 400000

theorem isW_cases {n : Int} (h : isW n = true) : n = 1 ∨ n = 2 ∨ n = 4 ∨ n = 8 := by
  simp only [isW, hasI, List.mem_cons, List.not_mem_nil, or_false, decide_eq_true_eq] at h; exact h
/-! ### The reference -/
theorem isW_eq (n : Int) : isW n = (n == 1 || n == 2 || n == 4 || n == 8) := by
  rw [Bool.eq_iff_iff]; simp [isW, hasI, or_assoc]
theorem bytesI_succ (n : Int) (k : Nat) : bytesI n (k + 1) = bytesI n k ++ [byteI n k] := by simp [bytesI, List.range_succ]
theorem bytesI_len (n : Int) (k : Nat) : (bytesI n k).length = k := by simp [bytesI]
theorem byteI_bd (n : Int) (k : Nat) : 0 ≤ byteI n k ∧ byteI n k < 256 := by unfold byteI; omega
theorem div_step (n : Int) (j : Nat) : n / 256 ^ j / 256 = n / 256 ^ (j + 1) := by
  rw [Int.pow_succ, Int.ediv_ediv_of_nonneg (by exact Int.le_of_lt (Int.pow_pos (by decide)))]
end Go.Proofs.Ytleclclncgnelaa

/-
  Package word: Get, and the reference's.
-/
namespace Go.Proofs.Ytleclclncgnelaa
open Go.RowKit
attribute [local go_sem] Oper.semAt_some
set_option maxHeartbeats 400000

/-- The number whose bytes they are. -/
def valI : List Int → Int
  | [] => 0
  | c :: l => valI l * 256 + c
theorem valI_bd : ∀ (l : List Int), (∀ x ∈ l, 0 ≤ x ∧ x < 256) → 0 ≤ valI l ∧ valI l < 256 ^ l.length := by
  intro l
  induction l with
  | nil => intro _; exact ⟨by decide, by decide⟩
  | cons c l ih =>
    intro h
    have h1 := ih fun x hx => h x (List.mem_cons_of_mem _ hx)
    have h2 := h c List.mem_cons_self
    have h3 : (256 : Int) ^ (c :: l).length = 256 ^ l.length * 256 := by rw [List.length_cons, Int.pow_succ]
    simp only [valI]
    rw [h3]
    omega
theorem or_byte (v c : Int) (hv : 0 ≤ v) (hv' : v < 72057594037927936) (hc : 0 ≤ c) (hc' : c < 256) : bits BinOp.or IntKind.u64 (v * 256) c = v * 256 + c := by
  have hw : ∀ n : Int, 0 ≤ n → n < 2 ^ 64 → IntKind.u64.wrap n = n := fun n h0 h1 => by rw [IntKind.wrap_u64]; omega
  exact bits_join .u64 64 (by decide) hw 8 _ _ (by omega) (by omega) (by omega) hc hc' (by omega)
theorem valI_drop (l : List Int) (i : Nat) (h : i < l.length) : valI (l.drop i) = valI (l.drop (i + 1)) * 256 + l[i] := by
  rw [List.drop_eq_getElem_cons h]; rfl
theorem val_step (l : List Int) (hw : ∀ x ∈ l, 0 ≤ x ∧ x < 256) (h8 : l.length ≤ 8) (i : Nat) (h : i < l.length) : bits BinOp.or IntKind.u64 (valI (l.drop (i + 1)) * 256) l[i] = valI (l.drop i) ∧ 0 ≤ valI (l.drop (i + 1)) ∧ valI (l.drop (i + 1)) < 72057594037927936 := by
  have h1 := valI_bd (l.drop (i + 1)) fun x hx => hw x (List.mem_of_mem_drop hx)
  have h2 := hw l[i] (List.getElem_mem h)
  have hm : (l.drop (i + 1)).length ≤ 7 := by rw [List.length_drop]; omega
  have h30 : (256 : Nat) ^ (l.drop (i + 1)).length ≤ 72057594037927936 := Nat.le_trans (Nat.pow_le_pow_right (by decide) hm) (by decide)
  have h31 : (256 : Int) ^ (l.drop (i + 1)).length = ((256 ^ (l.drop (i + 1)).length : Nat) : Int) := by rw [Int.natCast_pow]; rfl
  have h4 : valI (l.drop (i + 1)) < 72057594037927936 := by omega
  exact ⟨by rw [or_byte _ _ h1.1 h4 h2.1 h2.2, valI_drop l i h], h1.1, h4⟩

/-- The bytes from the last on, each with its place. -/
def backI' (l : List Int) : List (Int × Int) := (List.range l.length).map fun (j : Nat) => (((l.length - 1 - j : Nat) : Int), l.getD (l.length - 1 - j) 0)
theorem backI'_len (l : List Int) : (backI' l).length = l.length := by simp [backI']
theorem backI'_get (l : List Int) (j : Nat) (h : j < (backI' l).length) : (backI' l)[j] = (((l.length - 1 - j : Nat) : Int), l.getD (l.length - 1 - j) 0) := by simp [backI']
end Go.Proofs.Ytleclclncgnelaa

/-
  Package word: First, Zero, Differ, and the reference's.
-/
namespace Go.Proofs.Ytleclclncgnelaa
open Go.RowKit
attribute [local go_sem] Oper.semAt_some
set_option maxHeartbeats 400000

/-- The first place from k on (at most so many further) that is such. -/
def findFrom (p : Nat → Bool) : Nat → Nat → Int
  | _, 0 => -1
  | k, m + 1 => if p k = true then (k : Int) else findFrom p (k + 1) m
theorem findFrom_hit (p : Nat → Bool) (n : Nat) : ∀ (m k : Nat), k + m = n → ∀ i, k ≤ i → i < n → p i = true → (∀ j, k ≤ j → j < i → p j = false) → findFrom p k m = i := by
  intro m
  induction m with
  | zero => intro k hk i h1 h2; omega
  | succ m ih =>
    intro k hk i h1 h2 hp hn
    unfold findFrom
    by_cases e : k = i
    · subst e; rw [if_pos hp]
    · rw [if_neg (by rw [hn k (Nat.le_refl _) (by omega)]; decide)]
      exact ih (k + 1) (by omega) i (by omega) h2 hp fun j hj => hn j (by omega)
theorem findFrom_miss (p : Nat → Bool) : ∀ (m k : Nat), (∀ j, k ≤ j → j < k + m → p j = false) → findFrom p k m = -1 := by
  intro m
  induction m with
  | zero => intro k _; rfl
  | succ m ih =>
    intro k h
    unfold findFrom
    rw [if_neg (by rw [h k (Nat.le_refl _) (by omega)]; decide)]
    exact ih (k + 1) fun j h1 h2 => h j (by omega) (by omega)
def firstI (l : List Int) : Int := findFrom (fun i => l.getD i 0 != 0) 0 l.length
def zeroI (l : List Int) : Bool := decide (firstI l < 0)
theorem findFrom_congr (p q : Nat → Bool) : ∀ (m k : Nat), (∀ j, k ≤ j → j < k + m → p j = q j) → findFrom p k m = findFrom q k m := by
  intro m
  induction m with
  | zero => intro k _; rfl
  | succ m ih =>
    intro k h
    unfold findFrom
    rw [h k (Nat.le_refl _) (by omega), ih (k + 1) fun j h1 h2 => h j (by omega) (by omega)]
def differP (a b : List Int) (i : Nat) : Bool := decide (a.length ≤ i) || (decide (b.length ≤ i) || (a.getD i 0 != b.getD i 0))
def differI (a b : List Int) : Int := findFrom (differP a b) 0 (max a.length b.length)
theorem differI_comm (a b : List Int) : differI a b = differI b a := by
  unfold differI
  rw [Nat.max_comm]
  refine findFrom_congr _ _ _ _ fun j _ _ => ?_
  unfold differP
  rw [← Bool.or_assoc, Bool.or_comm (decide (a.length ≤ j)), Bool.or_assoc]
  congr 2
  simp [bne, Bool.beq_comm]
theorem differI_self (a : List Int) : differI a a = -1 := by
  unfold differI
  refine findFrom_miss _ _ _ fun j _ h => ?_
  unfold differP
  have : ¬ a.length ≤ j := by omega
  simp [this]
/-- Where the first is no shorter. -/
theorem differI_long (a b : List Int) (h : b.length ≤ a.length) : differI a b = findFrom (fun i => decide (b.length ≤ i) || (b.getD i 0 != a.getD i 0)) 0 a.length := by
  unfold differI
  rw [Nat.max_eq_left h]
  refine findFrom_congr _ _ _ _ fun j _ hj => ?_
  unfold differP
  have : ¬ a.length ≤ j := by omega
  simp [this, bne, Bool.beq_comm]
end Go.Proofs.Ytleclclncgnelaa

/-
  Package word: the reference's First and Differ.
-/
namespace Go.Proofs.Ytleclclncgnelaa
open Go.RowKit
attribute [local go_sem] Oper.semAt_some
set_option maxHeartbeats 400000

/-- A cell of a slice that is read. -/
theorem RowAt.get {B : Nat} {w : World} {ad : Option Addr} {cap : Nat} {l : List Int} (h : RowAt B w (.slice ad l.length cap) l.length (intVals .u8 l)) (k : Nat) (hk : k < l.length) :
    ∃ b off : Nat, ad = some ⟨b, off, none⟩ ∧ b < B ∧ ∀ W, Below B w W → W.cell? ⟨b, off + k, none⟩ = some (.int .u8 l[k]) := by
  obtain ⟨ad', cap', he, _, hrow⟩ := h
  cases he
  rcases hrow with h0 | ⟨b, off, rfl, hbB, hc⟩
  · exfalso; have := congrArg List.length h0; simp [intVals] at this; subst this; simp at hk
  · refine ⟨b, off, rfl, hbB, fun W hW => ?_⟩
    rw [hW.cell (p := ⟨b, off + k, none⟩) hbB, hc k (by simpa [intVals] using hk), intVals_get _ _ _ hk]
end Go.Proofs.Ytleclclncgnelaa

/-
  Package pinfoldlaw01: lent, kept, works.
-/
namespace Go.Proofs.Ytleclclncgnelaa
open Go.RowKit
set_option maxHeartbeats 400000

/-- string(b) of a slice that is read. -/
theorem run_convert_rowO {P : Program} {B : Nat} {w : World} {v : Value} (xs : List Int) (h : RowAt B w v xs.length (intVals .u8 xs)) {src e dst : TypeId} (hs : P.underlying src = some (.slice e)) (he : P.underlying e = some (.int .u8)) (hd : P.underlying dst = some .string) :
    (convert src dst v).run P w = .ok (.string (strOfNums xs)) w := by
  obtain ⟨a, cap, rfl, ⟨_, hn⟩, hc⟩ := h
  rcases hc with h0 | ⟨b, off, rfl, _, hc⟩
  · obtain rfl : xs = [] := by simpa [intVals] using h0
    cases a with
    | none => exact run_convert_bytes_nil w src e hs he _ _ dst hd
    | some a =>
      rw [run_convert_bytes_string w src dst e _ _ cap hs he hd]
      have := run_loadCells_list (P := P) (w := w) a [] (by intro j v hj; simp at hj)
      rw [run_bytesToString w a _ cap [] (by simpa using this)]
      rfl
  · refine run_convert_bytes_arg w src e hs he b off _ cap xs rfl (fun i hi => ?_) dst hd
    rw [hc i (by simpa [intVals] using hi), intVals_get _ _ _ hi]
    simp [List.getD, hi]

theorem lit_row (w : World) (xs : List Int) (t : TypeId) (n B : Nat) (hn : n = xs.length) (hB : w.heap.size < B) : RowAt B (w.alloc (.cells (intVals .u8 xs).toArray t)) (.slice (some ⟨w.heap.size, 0, none⟩) n n) xs.length (intVals .u8 xs) := by
  subst hn
  have := RowAt.lit w (intVals .u8 xs).toArray t xs.length B hB
  simpa using this
theorem lit_row' (w : World) (xs : List Int) (t : TypeId) (n B b : Nat) (hn : n = xs.length) (hb : w.heap.size = b) (hB : b < B) : RowAt B (w.alloc (.cells (intVals .u8 xs).toArray t)) (.slice (some ⟨b, 0, none⟩) n n) xs.length (intVals .u8 xs) := by
  subst hb; exact lit_row w xs t n B hn hB
end Go.Proofs.Ytleclclncgnelaa

/-
  Package word, plain laws: a number's bytes say it again, and there and back.
-/
namespace Go.Proofs.Ytleclclncgnelaa
theorem byteI_succ (n : Int) (i : Nat) : byteI n (i + 1) = byteI (n / 256) i := by
  unfold byteI
  rw [Int.pow_succ, Int.mul_comm, Int.ediv_ediv_of_nonneg (by decide)]
theorem bytesI_cons (n : Int) (k : Nat) : bytesI n (k + 1) = n % 256 :: bytesI (n / 256) k := by
  unfold bytesI
  rw [List.range_succ_eq_map, List.map_cons, List.map_map]
  congr 1
  · simp [byteI]
  · exact List.map_congr_left fun i _ => byteI_succ n i
theorem valI_bytes : ∀ (k : Nat) (n : Int), 0 ≤ n → n < 256 ^ k → valI (bytesI n k) = n := by
  intro k
  induction k with
  | zero => intro n h0 h1; simp [bytesI, valI]; simp at h1; omega
  | succ k ih =>
    intro n h0 h1
    rw [bytesI_cons]
    show valI (bytesI (n / 256) k) * 256 + n % 256 = n
    rw [Int.pow_succ] at h1
    rw [ih (n / 256) (by omega) (Int.ediv_lt_of_lt_mul (by decide) h1)]
    omega
theorem bytes_valI : ∀ (l : List Int), (∀ x ∈ l, 0 ≤ x ∧ x < 256) → bytesI (valI l) l.length = l := by
  intro l
  induction l with
  | nil => intro _; rfl
  | cons c l ih =>
    intro h
    have hc := h c List.mem_cons_self
    rw [List.length_cons, bytesI_cons]
    simp only [valI]
    rw [show (valI l * 256 + c) % 256 = c by omega, show (valI l * 256 + c) / 256 = valI l by omega, ih fun x hx => h x (List.mem_cons_of_mem _ hx)]
theorem bytesI_bd (n : Int) (k : Nat) : ∀ x ∈ bytesI n k, 0 ≤ x ∧ x < 256 := by
  intro x hx
  simp only [bytesI, List.mem_map] at hx
  obtain ⟨i, _, rfl⟩ := hx
  exact byteI_bd n i
open Go.RowKit
/-- Bytes lent: with 77 behind. -/
structure LentAt (B : Nat) (W : World) (g cp : Nat) (l : List Int) : Prop where
  row : RowAt B W (.slice (some ⟨g, 0, none⟩) l.length cp) l.length (intVals .u8 l)
  c77 : W.cell? ⟨g, l.length, none⟩ = some (.int .u8 77)
  lt : g < B
  room : l.length + 1 ≤ cp
  cm : cp ≤ maxLen
theorem LentAt.below {B m g cp : Nat} {W W' : World} {l : List Int} (h : LentAt B W g cp l) (hb : Below m W W') (hm : B ≤ m) : LentAt B W' g cp l :=
  ⟨h.row.below hb hm, (hb.cell (p := ⟨g, l.length, none⟩) (Nat.lt_of_lt_of_le h.lt hm)).trans h.c77, h.lt, h.room, h.cm⟩
theorem LentAt.mono {B B' g cp : Nat} {W : World} {l : List Int} (h : LentAt B W g cp l) (hm : B ≤ B') : LentAt B' W g cp l := ⟨h.row.mono hm, h.c77, Nat.lt_of_lt_of_le h.lt hm, h.room, h.cm⟩
end Go.Proofs.Ytleclclncgnelaa
