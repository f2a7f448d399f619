/-
  Package word: First, Zero, Differ, and the reference's.
-/
import Derived.Test.YtlpchcdalfkfcaaGreatBWordA
import Derived.Laws.BytesArg
import Derived.Lib.AppendZeros
namespace Go.Proofs.YtlpchcdalfkfcaaGreat
open Go.RowKit
attribute [local go_sem] Oper.semAt_some
set_option maxHeartbeats 400000

/-- The first place from k on (at most so many further) that is such. -/
def findFrom (p : Nat → Bool) : Nat → Nat → Int
  | _, 0 => -1
  | k, m + 1 => if p k = true then (k : Int) else findFrom p (k + 1) m
theorem findFrom_hit (p : Nat → Bool) (n : Nat) : ∀ (m k : Nat), k + m = n → ∀ i, k ≤ i → i < n → p i = true → (∀ j, k ≤ j → j < i → p j = false) → findFrom p k m = i := by
  intro m
  induction m with
  | zero => intro k hk i h1 h2; omega
  | succ m ih =>
    intro k hk i h1 h2 hp hn
    unfold findFrom
    by_cases e : k = i
    · subst e; rw [if_pos hp]
    · rw [if_neg (by rw [hn k (Nat.le_refl _) (by omega)]; decide)]
      exact ih (k + 1) (by omega) i (by omega) h2 hp fun j hj => hn j (by omega)
theorem findFrom_miss (p : Nat → Bool) : ∀ (m k : Nat), (∀ j, k ≤ j → j < k + m → p j = false) → findFrom p k m = -1 := by
  intro m
  induction m with
  | zero => intro k _; rfl
  | succ m ih =>
    intro k h
    unfold findFrom
    rw [if_neg (by rw [h k (Nat.le_refl _) (by omega)]; decide)]
    exact ih (k + 1) fun j h1 h2 => h j (by omega) (by omega)
def firstI (l : List Int) : Int := findFrom (fun i => l.getD i 0 != 0) 0 l.length
def zeroI (l : List Int) : Bool := decide (firstI l < 0)
theorem findFrom_congr (p q : Nat → Bool) : ∀ (m k : Nat), (∀ j, k ≤ j → j < k + m → p j = q j) → findFrom p k m = findFrom q k m := by
  intro m
  induction m with
  | zero => intro k _; rfl
  | succ m ih =>
    intro k h
    unfold findFrom
    rw [h k (Nat.le_refl _) (by omega), ih (k + 1) fun j h1 h2 => h j (by omega) (by omega)]
def differP (a b : List Int) (i : Nat) : Bool := decide (a.length ≤ i) || (decide (b.length ≤ i) || (a.getD i 0 != b.getD i 0))
def differI (a b : List Int) : Int := findFrom (differP a b) 0 (max a.length b.length)
theorem differI_comm (a b : List Int) : differI a b = differI b a := by
  unfold differI
  rw [Nat.max_comm]
  refine findFrom_congr _ _ _ _ fun j _ _ => ?_
  unfold differP
  rw [← Bool.or_assoc, Bool.or_comm (decide (a.length ≤ j)), Bool.or_assoc]
  congr 2
  simp [bne, Bool.beq_comm]
theorem differI_self (a : List Int) : differI a a = -1 := by
  unfold differI
  refine findFrom_miss _ _ _ fun j _ h => ?_
  unfold differP
  have : ¬ a.length ≤ j := by omega
  simp [this]
/-- Where the first is no shorter. -/
theorem differI_long (a b : List Int) (h : b.length ≤ a.length) : differI a b = findFrom (fun i => decide (b.length ≤ i) || (b.getD i 0 != a.getD i 0)) 0 a.length := by
  unfold differI
  rw [Nat.max_eq_left h]
  refine findFrom_congr _ _ _ _ fun j _ hj => ?_
  unfold differP
  have : ¬ a.length ≤ j := by omega
  simp [this, bne, Bool.beq_comm]
end Go.Proofs.YtlpchcdalfkfcaaGreat

/-
  Package word: the reference's First and Differ.
-/
namespace Go.Proofs.YtlpchcdalfkfcaaGreat
open Go.RowKit
attribute [local go_sem] Oper.semAt_some
set_option maxHeartbeats 400000

/-- A cell of a slice that is read. -/
theorem RowAt.get {B : Nat} {w : World} {ad : Option Addr} {cap : Nat} {l : List Int} (h : RowAt B w (.slice ad l.length cap) l.length (intVals .u8 l)) (k : Nat) (hk : k < l.length) :
    ∃ b off : Nat, ad = some ⟨b, off, none⟩ ∧ b < B ∧ ∀ W, Below B w W → W.cell? ⟨b, off + k, none⟩ = some (.int .u8 l[k]) := by
  obtain ⟨ad', cap', he, _, hrow⟩ := h
  cases he
  rcases hrow with h0 | ⟨b, off, rfl, hbB, hc⟩
  · exfalso; have := congrArg List.length h0; simp [intVals] at this; subst this; simp at hk
  · refine ⟨b, off, rfl, hbB, fun W hW => ?_⟩
    rw [hW.cell (p := ⟨b, off + k, none⟩) hbB, hc k (by simpa [intVals] using hk), intVals_get _ _ _ hk]
end Go.Proofs.YtlpchcdalfkfcaaGreat

/-
  Package pinfoldlaw01: lent, kept, works.
-/
namespace Go.Proofs.YtlpchcdalfkfcaaGreat
open Go.RowKit
set_option maxHeartbeats 400000

/-- string(b) of a slice that is read. -/
theorem run_convert_rowO {P : Program} {B : Nat} {w : World} {v : Value} (xs : List Int) (h : RowAt B w v xs.length (intVals .u8 xs)) {src e dst : TypeId} (hs : P.underlying src = some (.slice e)) (he : P.underlying e = some (.int .u8)) (hd : P.underlying dst = some .string) :
    (convert src dst v).run P w = .ok (.string (strOfNums xs)) w := by
  obtain ⟨a, cap, rfl, ⟨_, hn⟩, hc⟩ := h
  rcases hc with h0 | ⟨b, off, rfl, _, hc⟩
  · obtain rfl : xs = [] := by simpa [intVals] using h0
    cases a with
    | none => exact run_convert_bytes_nil w src e hs he _ _ dst hd
    | some a =>
      rw [run_convert_bytes_string w src dst e _ _ cap hs he hd]
      have := run_loadCells_list (P := P) (w := w) a [] (by intro j v hj; simp at hj)
      rw [run_bytesToString w a _ cap [] (by simpa using this)]
      rfl
  · refine run_convert_bytes_arg w src e hs he b off _ cap xs rfl (fun i hi => ?_) dst hd
    rw [hc i (by simpa [intVals] using hi), intVals_get _ _ _ hi]
    simp [List.getD, hi]

theorem lit_row (w : World) (xs : List Int) (t : TypeId) (n B : Nat) (hn : n = xs.length) (hB : w.heap.size < B) : RowAt B (w.alloc (.cells (intVals .u8 xs).toArray t)) (.slice (some ⟨w.heap.size, 0, none⟩) n n) xs.length (intVals .u8 xs) := by
  subst hn
  have := RowAt.lit w (intVals .u8 xs).toArray t xs.length B hB
  simpa using this
theorem lit_row' (w : World) (xs : List Int) (t : TypeId) (n B b : Nat) (hn : n = xs.length) (hb : w.heap.size = b) (hB : b < B) : RowAt B (w.alloc (.cells (intVals .u8 xs).toArray t)) (.slice (some ⟨b, 0, none⟩) n n) xs.length (intVals .u8 xs) := by
  subst hb; exact lit_row w xs t n B hn hB
end Go.Proofs.YtlpchcdalfkfcaaGreat

/-
  Package word, plain laws: a number's bytes say it again, and there and back.
-/
namespace Go.Proofs.YtlpchcdalfkfcaaGreat
theorem byteI_succ (n : Int) (i : Nat) : byteI n (i + 1) = byteI (n / 256) i := by
  unfold byteI
  rw [Int.pow_succ, Int.mul_comm, Int.ediv_ediv_of_nonneg (by decide)]
theorem bytesI_cons (n : Int) (k : Nat) : bytesI n (k + 1) = n % 256 :: bytesI (n / 256) k := by
  unfold bytesI
  rw [List.range_succ_eq_map, List.map_cons, List.map_map]
  congr 1
  · simp [byteI]
  · exact List.map_congr_left fun i _ => byteI_succ n i
theorem valI_bytes : ∀ (k : Nat) (n : Int), 0 ≤ n → n < 256 ^ k → valI (bytesI n k) = n := by
  intro k
  induction k with
  | zero => intro n h0 h1; simp [bytesI, valI]; simp at h1; omega
  | succ k ih =>
    intro n h0 h1
    rw [bytesI_cons]
    show valI (bytesI (n / 256) k) * 256 + n % 256 = n
    rw [Int.pow_succ] at h1
    rw [ih (n / 256) (by omega) (Int.ediv_lt_of_lt_mul (by decide) h1)]
    omega
theorem bytes_valI : ∀ (l : List Int), (∀ x ∈ l, 0 ≤ x ∧ x < 256) → bytesI (valI l) l.length = l := by
  intro l
  induction l with
  | nil => intro _; rfl
  | cons c l ih =>
    intro h
    have hc := h c List.mem_cons_self
    rw [List.length_cons, bytesI_cons]
    simp only [valI]
    rw [show (valI l * 256 + c) % 256 = c by omega, show (valI l * 256 + c) / 256 = valI l by omega, ih fun x hx => h x (List.mem_cons_of_mem _ hx)]
theorem bytesI_bd (n : Int) (k : Nat) : ∀ x ∈ bytesI n k, 0 ≤ x ∧ x < 256 := by
  intro x hx
  simp only [bytesI, List.mem_map] at hx
  obtain ⟨i, _, rfl⟩ := hx
  exact byteI_bd n i
open Go.RowKit
/-- Bytes lent: with 77 behind. -/
structure LentAt (B : Nat) (W : World) (g cp : Nat) (l : List Int) : Prop where
  row : RowAt B W (.slice (some ⟨g, 0, none⟩) l.length cp) l.length (intVals .u8 l)
  c77 : W.cell? ⟨g, l.length, none⟩ = some (.int .u8 77)
  lt : g < B
  room : l.length + 1 ≤ cp
  cm : cp ≤ maxLen
theorem LentAt.below {B m g cp : Nat} {W W' : World} {l : List Int} (h : LentAt B W g cp l) (hb : Below m W W') (hm : B ≤ m) : LentAt B W' g cp l :=
  ⟨h.row.below hb hm, (hb.cell (p := ⟨g, l.length, none⟩) (Nat.lt_of_lt_of_le h.lt hm)).trans h.c77, h.lt, h.room, h.cm⟩
theorem LentAt.mono {B B' g cp : Nat} {W : World} {l : List Int} (h : LentAt B W g cp l) (hm : B ≤ B') : LentAt B' W g cp l := ⟨h.row.mono hm, h.c77, Nat.lt_of_lt_of_le h.lt hm, h.room, h.cm⟩
end Go.Proofs.YtlpchcdalfkfcaaGreat

/-
  Package slices: Grow and Concat of bytes; package word: Joined.
-/
namespace Go.Proofs.YtlpchcdalfkfcaaGreat
open Go.RowKit
set_option maxHeartbeats 400000

/-- Slices that are read: v holds the slices vs, which read ls. -/
def RowsAt (B : Nat) (W : World) (v : Value) (vs : List Value) (ls : List (List Int)) : Prop :=
  RowAt B W v vs.length vs ∧ vs.length = ls.length ∧ ∀ (i : Nat) (h : i < vs.length) (h' : i < ls.length), RowAt B W vs[i] ls[i].length (intVals .u8 ls[i])
theorem RowsAt.below {B m : Nat} {W W' : World} {v : Value} {vs : List Value} {ls : List (List Int)} (h : RowsAt B W v vs ls) (hb : Below m W W') (hm : B ≤ m) : RowsAt B W' v vs ls :=
  ⟨h.1.below hb hm, h.2.1, fun i h1 h2 => (h.2.2 i h1 h2).below hb hm⟩
theorem RowsAt.mono {B B' : Nat} {W : World} {v : Value} {vs : List Value} {ls : List (List Int)} (h : RowsAt B W v vs ls) (hB : B ≤ B') : RowsAt B' W v vs ls :=
  ⟨h.1.mono hB, h.2.1, fun i h1 h2 => (h.2.2 i h1 h2).mono hB⟩

theorem Grow_ok (n : Nat) (hn : n ≤ 1000000) (w : World) : Calls Tryz.prog 209 #[.slice none 0 0, .int .i64 n] w fun e w' => ∃ v, e = .returned v ∧ w'.ownsRow w.heap.size 5 1 v 0 [] ∧ Below w.heap.size w w' := by
  by_cases h0 : n = 0
  · subst h0
    go_enter Tryz.func209, Tryz.ntmps209
    go_wp2_with fail
    go_ret
    exact ⟨_, rfl, World.ownsRow_nil _ _ _ _, Below.refl _ _⟩
  · have hn0 : 0 < n := by omega
    have g0 : ¬ (n : Int) < 0 := by omega
    have g1 : (0 : Int) < n := by omega
    obtain ⟨i, hi, hz, hsize, hby, hzs, hsz⟩ := info8O
    have hr := Lib.hid (Lib.run_append_nil_zeros (P := Tryz.prog) w 44 3 44 5 i (.int .u8 0) .i64 .i64 Tryz.underlying44 Tryz.underlying3 hi hz n hn0 (by omega) (by omega) (by rw [hby]; omega))
    have hge := grownCap_ge w n 0 5
    have hle := grownCap_le_maxLen w n 0 5 (by unfold maxLen; omega)
    have hlen : ((grownCap w n 0 5 : Nat) : Int) ≥ 0 := by omega
    go_enter Tryz.func209, Tryz.ntmps209
    go_wp2_with (at_builtin; refine Lib.wpList_append_run _ rfl _ _ _ _ rfl _ _ rfl rfl _ _ hr.out ?_)
    go_ret
    have hsz0 : (Builtin.zeroCells #[Value.int .u8 0] n ++ Builtin.zeroCells #[Value.int .u8 0] (grownCap w n 0 5 - n)).size = grownCap w n 0 5 * 1 := by
      simp [size_zeroCells]; omega
    have hb : Below w.heap.size w (w.alloc (Obj.cells (Builtin.zeroCells #[Value.int .u8 0] n ++ Builtin.zeroCells #[Value.int .u8 0] (grownCap w n 0 5 - n)) 5)).drew := ((Below.refl _ w).alloc (Nat.le_refl _) _).drewN 1
    refine ⟨_, rfl, ⟨rfl, .inr ⟨w.heap.size, _, Builtin.zeroCells #[Value.int .u8 0] n ++ Builtin.zeroCells #[Value.int .u8 0] (grownCap w n 0 5 - n), rfl, Nat.le_refl _, ?_, Nat.zero_le _, hle, hsz0, rfl⟩⟩, hb⟩
    exact (Blk.new w _ _).drew
/-- How many bytes the first k have. -/
def lenK (ls : List (List Int)) (k : Nat) : Nat := (ls.take k).flatten.length
theorem lenK_succ (ls : List (List Int)) (k : Nat) (h : k < ls.length) : lenK ls (k + 1) = lenK ls k + ls[k].length := by
  unfold lenK; rw [List.take_succ_eq_append_getElem h, List.flatten_append, List.length_append, List.flatten_singleton]
theorem flat_succ (ls : List (List Int)) (k : Nat) (h : k < ls.length) : (ls.take (k + 1)).flatten = (ls.take k).flatten ++ ls[k] := by
  rw [List.take_succ_eq_append_getElem h, List.flatten_append, List.flatten_singleton]
theorem lenK_le (ls : List (List Int)) (k : Nat) : lenK ls k ≤ ls.flatten.length := by
  unfold lenK
  have : ls.flatten.length = (ls.take k).flatten.length + (ls.drop k).flatten.length := by rw [← List.length_append, ← List.flatten_append, List.take_append_drop]
  omega
theorem lenK_all (ls : List (List Int)) : lenK ls ls.length = ls.flatten.length := by unfold lenK; rw [List.take_length]
theorem intVals_app (k : IntKind) (a b : List Int) : intVals k (a ++ b) = intVals k a ++ intVals k b := by simp [intVals]
theorem Concat_ok (v : Value) (vs : List Value) (ls : List (List Int)) (hl : ls.flatten.length ≤ 1000000) (hn : ls.length ≤ 1000000) (B : Nat) (w : World) (hB : B ≤ w.heap.size) (hv : RowsAt B w v vs ls) :
    Calls Tryz.prog 183 #[v] w fun e w' => ∃ v', e = .returned v' ∧ w'.ownsRow w.heap.size 5 1 v' ls.flatten.length (intVals .u8 ls.flatten) ∧ Below w.heap.size w w' := by
  obtain ⟨⟨ad, cap, rfl, _, hrow⟩, hlen, hrows⟩ := hv
  have HRow := Lib.hid hrow
  have HRows := Lib.hid hrows
  clear hrow hrows
  have HK := Lib.hid (lenK_le ls)
  go_enter Tryz.func183, Tryz.ntmps183
  go_wp2_with fail
  go_loopw [3, 11] (fun n i wr => ∃ k : Nat, k ≤ vs.length ∧ i = .int .i64 k ∧ n = .int .i64 (lenK ls k) ∧ w = wr) (fun _ i _ => vs.length - (intOf i).toNat)
  case atStart => exact ⟨0, by omega, rfl, rfl, rfl⟩
  case round =>
    obtain ⟨k, hk, rfl, rfl, rfl⟩ := hrel
    by_cases hlt : k < vs.length
    · have hk' : k < ls.length := by omega
      have hs := lenK_succ ls k hk'
      have hle := HK.out k
      have hle' := HK.out (k + 1)
      rcases HRow.out with h0 | ⟨b, off, rfl, hbB, hc⟩
      · subst h0; simp at hlt
      have hck := hc k hlt
      rw [List.getElem?_eq_getElem hlt] at hck
      obtain ⟨ad', cap', he, _, _⟩ := HRows.out k hlt hk'
      rw [he] at hck
      clear hc he
      have hs' : ((lenK ls (k + 1) : Nat) : Int) = (lenK ls k : Int) + (ls[k].length : Nat) := by omega
      have i0 : (0 : Int) ≤ k := by omega
      have i1 : (k : Int) < vs.length := by omega
      generalize lenK ls k = Lk at *
      generalize ls[k].length = Le at *
      have hs2 := Lib.hid hs'
      have hs3 : ¬ ((Lk : Int) + Le < 0) := by omega
      have hs4 : (Lk : Int) + Le ≤ 1000000 := by omega
      clear hs' hs hle'
      go_wp2_with fail
      go_roundw
      case rel => exact ⟨k + 1, by omega, by go_num, by rw [hs2.out], by trivial⟩
      case measure => simp [intOf]; omega
    · obtain rfl : k = vs.length := by omega
      obtain ⟨T, hT⟩ : ∃ T, lenK ls vs.length = T := ⟨_, rfl⟩
      have hall := Lib.hid (show ls.flatten.length = T by rw [← hT, hlen]; exact (lenK_all ls).symm)
      have hT1 : T ≤ 1000000 := by have := hall.out; omega
      rw [hT]
      clear hT hl
      go_wp2_with fail
      refine (Grow_ok T hT1 w).mono ?_; rintro e w1 ⟨v1, rfl, ho1, hb1⟩
      have hz1 := hb1.size
      go_wp2_with fail
      go_loopw [6, 27] (fun n i wr => ∃ (k : Nat) (v' : Value), k ≤ vs.length ∧ i = .int .i64 k ∧ n = v' ∧ wr.ownsRow w.heap.size 5 1 v' (lenK ls k) (intVals .u8 (ls.take k).flatten) ∧ Below w.heap.size w wr) (fun _ i _ => vs.length - (intOf i).toNat)
      case atStart => exact ⟨0, _, by omega, rfl, rfl, ho1, hb1⟩
      case round =>
        obtain ⟨k, v', hk, rfl, rfl, ho, hb⟩ := hrel
        have hz := hb.size
        by_cases hlt : k < vs.length
        · have hk' : k < ls.length := by omega
          have hs := Lib.hid (lenK_succ ls k hk')
          have hfs := Lib.hid (flat_succ ls k hk')
          have hle' := HK.out (k + 1)
          rcases HRow.out with h0 | ⟨b, off, rfl, hbB, hc⟩
          · subst h0; simp at hlt
          have hck := (hb.cell (p := ⟨b, off + k, none⟩) (by dsimp only; omega)).trans (hc k hlt)
          rw [List.getElem?_eq_getElem hlt] at hck
          have hrk := (HRows.out k hlt hk').below hb hB
          clear hc
          have i0 : (0 : Int) ≤ k := by omega
          have i1 : (k : Int) < vs.length := by omega
          go_wp2_with (at_builtin; refine wpList_append_row rfl _ _ 44 rfl w.heap.size Tryz.underlying44 info8O (lenK ls k) (intVals .u8 (ls.take k).flatten) rfl ?c1 B ls[k].length (intVals .u8 ls[k]) rfl ?c2 ?c3 ?c4 ?c5 ?c6 ?c7 ?_)
          case c1 => exact ho
          case c2 => exact hrk
          case c3 => rw [intVals_len]; omega
          case c4 => intro u hu; simp only [intVals, List.mem_map] at hu; obtain ⟨x, _, rfl⟩ := hu; rfl
          case c5 => have := hs.out; have := hall.out; unfold maxLen; omega
          case c6 => have := hs.out; have := hall.out; omega
          case c7 => exact hz
          intro v2 w2 ho2 hg2
          have hb2 : Below w.heap.size w w2 := hb.appended ho hg2 (Nat.le_refl _) hz
          rw [← hs.out, ← intVals_app, ← hfs.out] at ho2
          clear hg2 ho hck hrk
          go_wp2_with fail
          go_roundw
          case rel => exact ⟨k + 1, v2, by omega, by go_num, rfl, ho2, hb2⟩
          case measure => simp [intOf]; omega
        · obtain rfl : k = vs.length := by omega
          have e1 : ls.take vs.length = ls := by rw [hlen, List.take_length]
          have e2 : lenK ls vs.length = ls.flatten.length := by rw [hlen]; exact lenK_all ls
          rw [e1, e2] at ho
          clear e1 e2
          go_wp2_with fail
          go_ret
          exact ⟨_, rfl, ho, hb⟩
theorem Joined_ok (v : Value) (vs : List Value) (ls : List (List Int)) (hl : ls.flatten.length ≤ 1000000) (hn : ls.length ≤ 1000000) (B : Nat) (w : World) (hB : B ≤ w.heap.size) (hv : RowsAt B w v vs ls) :
    Calls Tryz.prog 130 #[v] w fun e w' => ∃ v', e = .returned v' ∧ w'.ownsRow w.heap.size 5 1 v' ls.flatten.length (intVals .u8 ls.flatten) ∧ Below w.heap.size w w' := by
  go_enter Tryz.func130, Tryz.ntmps130
  go_wp2_with fail
  refine (Concat_ok v vs ls hl hn B w hB hv).mono ?_; rintro e w1 ⟨v1, rfl, ho, hb⟩
  go_wp2_with fail
  go_ret
  exact ⟨_, rfl, ho, hb⟩
end Go.Proofs.YtlpchcdalfkfcaaGreat
