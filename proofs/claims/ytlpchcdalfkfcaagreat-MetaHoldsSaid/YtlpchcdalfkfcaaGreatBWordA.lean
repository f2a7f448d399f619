/-
 Package word: widths, a number's bytes.
-/
import Derived.Test.YtlpchcdalfkfcaaGreatRows
import Derived.Test.YtlpchcdalfkfcaaGreatBCore
namespace Go.Proofs.YtlpchcdalfkfcaaGreat
open Go.RowKit
attribute [local go_sem] Oper.semAt_some
set_option maxHeartbeats 400000

/-- The place of the first that is x, or -1. -/
def indexI (l : List Int) (x : Int) : Int := if x ∈ l then (l.idxOf x : Int) else -1
theorem widths_calls (w : World) : Calls Tryz.prog 210 #[] w fun e w' => e = .returned (.agg #[.int .i64 1, .int .i64 2, .int .i64 4, .int .i64 8]) ∧ w' = w.alloc (.cells #[.int .i64 1, .int .i64 2, .int .i64 4, .int .i64 8] 258) := by
 go_enter Tryz.func210, Tryz.ntmps210
 go_wp2_with fail
 exact bodyPost_ret (v := .agg #[.int .i64 1, .int .i64 2, .int .i64 4, .int .i64 8]) (by simp [results, Tryz.results210, go_sem]) rfl ⟨rfl, rfl⟩
theorem Index_calls (v : Value) (l : List Int) (x : Int) (B : Nat) (w : World) (hB : B ≤ w.heap.size) (hl : l.length ≤ maxLen) (hv : RowAt B w v l.length (intVals .i64 l)) :
  Calls Tryz.prog 215 #[v, .int .i64 x] w fun e w' => e = .returned (.int .i64 (indexI l x)) ∧ Below w.heap.size w w' := by
 unfold maxLen at hl
 obtain ⟨ad, cap, rfl, hcap, hrow⟩ := hv
 go_enter Tryz.func215, Tryz.ntmps215
 go_wp2_with fail
 go_loopw [8] (fun i wr => ∃ k : Nat, k ≤ l.length ∧ i = .int .i64 k ∧ x ∉ l.take k ∧ Below w.heap.size w wr) (fun i _ => l.length - (intOf i).toNat)
 case atStart => exact ⟨0, by omega, rfl, by simp, Below.refl _ _⟩
 case round =>
  obtain ⟨k, hk, rfl, hn, hb⟩ := hrel
  by_cases hlt : k < l.length
  ·rcases hrow with h0 | ⟨b, off, rfl, hbB, hc⟩
   ·exfalso; have := congrArg List.length h0; simp [intVals] at this; subst this; simp at hlt
   have hck : wr.cell? ⟨b, off + k, none⟩ = some (.int .i64 l[k]) := by
    rw [hb.cell (p := ⟨b, off + k, none⟩) (by dsimp only; omega), hc k (by simpa [intVals] using hlt), intVals_get _ _ _ hlt]
   clear hc
   have i0 : (0 : Int) ≤ k := by omega
   have i1 : (k : Int) < l.length := by omega
   have htk := Lib.hid (take_next l k hlt)
   by_cases he : x = l[k]
   ·have hr := Lib.hid (show indexI l x = k from by
     have h1 : x ∈ l := he ▸ List.getElem_mem hlt
     rw [indexI, if_pos h1]
     have h2 : l.idxOf x = k := by
      rw [← List.take_append_drop k l, List.idxOf_append, if_neg hn, ← List.getElem_cons_drop hlt, ← he, List.idxOf_cons_self]
      simp; omega
     rw [h2])
    have he' : (x == l[k]) = true := by simpa using he
    have HE := Lib.hid he
    clear he
    go_wp2_with fail
    go_ret
    exact ⟨by rw [hr.out]; rfl, hb⟩
   ·have he' : (x == l[k]) = false := by simpa using he
    have HE := Lib.hid he
    clear he
    go_wp2_with fail
    go_roundw
    case rel => exact ⟨k + 1, by omega, by go_num, by rw [htk.out]; simp only [List.mem_append, List.mem_singleton, not_or]; exact ⟨hn, HE.out⟩, hb⟩
    case measure => simp [intOf]; omega
  ·obtain rfl : k = l.length := by omega
   rw [List.take_of_length_le (Nat.le_refl _)] at hn
   go_wp2_with fail
   go_ret
   exact ⟨by rw [indexI, if_neg hn]; rfl, hb⟩
def hasI (l : List Int) (x : Int) : Bool := decide (x ∈ l)
theorem Contains_calls (v : Value) (l : List Int) (x : Int) (B : Nat) (w : World) (hB : B ≤ w.heap.size) (hl : l.length ≤ maxLen) (hv : RowAt B w v l.length (intVals .i64 l)) :
  Calls Tryz.prog 211 #[v, .int .i64 x] w fun e w' => e = .returned (.bool (hasI l x)) ∧ Below w.heap.size w w' := by
 by_cases hx : x ∈ l
 ·have h0 : 0 ≤ indexI l x := by rw [indexI, if_pos hx]; omega
  go_enter Tryz.func211, Tryz.ntmps211
  go_wp2_with fail
  refine (Index_calls v l x B w hB hl hv).mono ?_; rintro e w1 ⟨rfl, hb1⟩
  go_wp2_with fail
  go_ret
  exact ⟨by simp [hasI, hx, h0], hb1⟩
 ·have h0 : indexI l x < 0 := by rw [indexI, if_neg hx]; omega
  go_enter Tryz.func211, Tryz.ntmps211
  go_wp2_with fail
  refine (Index_calls v l x B w hB hl hv).mono ?_; rintro e w1 ⟨rfl, hb1⟩
  go_wp2_with fail
  go_ret
  exact ⟨by simp [hasI, hx, h0], hb1⟩
/-- Is it a width? -/
def isW (n : Int) : Bool := hasI [1, 2, 4, 8] n
theorem is_callsO (n : Int) (w : World) : Calls Tryz.prog 203 #[.int .i64 n] w fun e w' => e = .returned (.bool (isW n)) ∧ Below w.heap.size w w' := by
 go_enter Tryz.func203, Tryz.ntmps203
 go_wp2_with fail
 refine (widths_calls _).mono ?_; rintro e w1 ⟨rfl, rfl⟩
 go_wp2_with fail
 refine (Contains_calls _ [1, 2, 4, 8] n (w.heap.size + 1 + 1) _ (by simp) (by unfold maxLen; simp) ?_).mono ?_
 ·have := RowAt.lit (w.alloc (.cells #[.int .i64 1, .int .i64 2, .int .i64 4, .int .i64 8] 258)) #[.int .i64 1, .int .i64 2, .int .i64 4, .int .i64 8] 258 4 (w.heap.size + 1 + 1) (by simp)
  simpa [intVals] using this
 rintro e w1 ⟨rfl, hb⟩
 go_wp2_with fail
 go_ret
 exact ⟨rfl, (((Below.refl _ w).alloc (Nat.le_refl _) _).alloc (by simp) _).trans (hb.mono (by simp; omega))⟩
/-- Does a number fit so many bytes? -/
def fitsI (k : Nat) (n : Int) : Bool := decide (n < 256 ^ k)
theorem fits_calls (k : Nat) (n : Int) (hn : 0 ≤ n) (hn' : n < 18446744073709551616) (hW : k = 1 ∨ k = 2 ∨ k = 4 ∨ k = 8) (w : World) : Calls Tryz.prog 207 #[.agg #[.int .i64 k, .int .u64 n]] w fun e w' => e = .returned (.bool (fitsI k n)) ∧ Below w.heap.size w w' := by
 rcases hW with rfl | rfl | rfl | rfl
 ·go_enter Tryz.func207, Tryz.ntmps207
  go_wp2_with fail
  go_ret
  refine ⟨?_, (Below.refl _ w).alloc (Nat.le_refl _) _⟩
  have : (n / 256 == 0) = fitsI 1 n := by unfold fitsI; rw [Bool.eq_iff_iff]; simp; omega
  simp [← this]
 ·go_enter Tryz.func207, Tryz.ntmps207
  go_wp2_with fail
  go_ret
  refine ⟨?_, (Below.refl _ w).alloc (Nat.le_refl _) _⟩
  have : (n / 65536 == 0) = fitsI 2 n := by unfold fitsI; rw [Bool.eq_iff_iff]; simp; omega
  simp [← this]
 ·go_enter Tryz.func207, Tryz.ntmps207
  go_wp2_with fail
  go_ret
  refine ⟨?_, (Below.refl _ w).alloc (Nat.le_refl _) _⟩
  have : (n / 4294967296 == 0) = fitsI 4 n := by unfold fitsI; rw [Bool.eq_iff_iff]; simp; omega
  simp [← this]
 ·go_enter Tryz.func207, Tryz.ntmps207
  go_wp2_with fail
  go_ret
  refine ⟨?_, (Below.refl _ w).alloc (Nat.le_refl _) _⟩
  have : fitsI 8 n = true := by unfold fitsI; simp; omega
  simp [this]
theorem info8O : ElemInfo Tryz.prog 5 (.int .u8 0) 1 1 := elemInfo_of (by kernel_rfl) rfl (by decide)
/-- The number's bytes, the lowest ahead. -/
def byteI (n : Int) (i : Nat) : Int := n / 256 ^ i % 256
def bytesI (n : Int) (k : Nat) : List Int := (List.range k).map (byteI n)
/-- So many bytes are written, the others 0. -/
def halfI (n : Int) (k j : Nat) : List Int := (List.range k).map fun i => if i < j then byteI n i else 0
theorem halfI_set (n : Int) (k j : Nat) (h : j < k) : (intVals .u8 (halfI n k j)).set j (.int .u8 (byteI n j)) = intVals .u8 (halfI n k (j + 1)) := by
 apply List.ext_getElem
 ·simp [intVals, halfI]
 ·intro i h1 h2
  simp only [intVals, halfI, List.map_map, List.length_map, List.length_range, List.length_set] at h1 h2
  rw [List.getElem_set]
  simp only [intVals, halfI, List.getElem_map, List.getElem_range, List.map_map, Function.comp]
  split
  ·rename_i e; subst e; simp
  ·rename_i e
   by_cases hi : i < j
   ·simp [hi, show i < j + 1 by omega]
   ·simp [hi, show ¬ i < j + 1 by omega]
theorem halfI_full (n : Int) (k : Nat) : halfI n k k = bytesI n k := by
 unfold halfI bytesI
 refine List.map_congr_left fun i hi => ?_
 rw [if_pos (by simpa using hi)]
theorem shr_byte (n : Int) (j : Nat) : n / 2 ^ (8 * j) % 256 = byteI n j := by
 unfold byteI
 rw [show (2 : Int) ^ (8 * j) = 256 ^ j by rw [Int.pow_mul]; rfl]
theorem bytes_calls (n : Int) (k : Nat) (hn : 0 ≤ n) (hn' : n < 18446744073709551616) (h8 : k ≤ 8) (w : World) : Calls Tryz.prog 208 #[.agg #[.int .i64 k, .int .u64 n]] w fun e w' =>
  ∃ v, e = .returned v ∧ w'.ownsRow w.heap.size 5 1 v k (intVals .u8 (bytesI n k)) ∧ Below w.heap.size w w' := by
 obtain ⟨i0, hi, hz, hsize, hby, hzs, hsz⟩ := info8O
 go_enter Tryz.func208, Tryz.ntmps208
 go_wp2_with (at_make; refine wpList_make_full _ rfl _ _ 44 rfl (w.heap.size + 1) 5 i0 (.int .u8 0) 1 Tryz.underlying44 hi hz hsize .i64 .i64 k k k rfl rfl rfl rfl (by rw [hby]; omega) (by unfold maxLen; omega) (by simp) ?_)
 intro w1 ho hg
 have hb1 : Below w.heap.size w w1 := ((Below.refl _ w).alloc (Nat.le_refl _) _).grown hg (by simp) (by intro k e; cases e)
 have hB1 : Blk w1 w.heap.size #[.int .i64 k, .int .u64 n] 254 := (hg.block w.heap.size (by simp) (by simp)).trans (Blk.new w _ _)
 have hmade : (madeCells #[Value.int .u8 0] k).toList = intVals .u8 (halfI n k 0) := by
  rw [made_one]; simp [intVals, halfI, List.map_const']
 rw [hmade] at ho
 clear hg hmade hi hz hsize hby hzs hsz i0
 go_wp2_with fail
 go_loopw [10] (fun i wr => ∃ j : Nat, j ≤ k ∧ i = .int .i64 j ∧ Blk wr w.heap.size #[.int .i64 k, .int .u64 n] 254 ∧ wr.ownsRow (w.heap.size + 1) 5 1 (.slice (some ⟨w.heap.size + 1, 0, none⟩) k k) k (intVals .u8 (halfI n k j)) ∧ Below w.heap.size w wr) (fun i _ => k - (intOf i).toNat)
 case atStart => exact ⟨0, by omega, rfl, hB1, ho, hb1⟩
 case round =>
  clear ho hB1 hb1
  obtain ⟨j, hj, rfl, hB, ho, hb⟩ := hrel
  by_cases hlt : j < k
  ·have c1 : wr.cell? ⟨w.heap.size, 1, none⟩ = some (.int .u64 n) := hB.cell 1 rfl
   have hlen : j < (intVals .u8 (halfI n k j)).length := by simp [intVals, halfI]; exact hlt
   have c2 : wr.cell? ⟨w.heap.size + 1, j, none⟩ = some ((intVals .u8 (halfI n k j))[j]) := by
    rw [ho.cellAt j (by omega), List.getElem?_eq_getElem hlen]
   generalize (intVals .u8 (halfI n k j))[j] = old at c2
   have f2 := ho.frozenAt j
   have i0 : (0 : Int) ≤ j := by omega
   have i1 : (j : Int) < k := by omega
   go_wp2_with fail
   go_roundw
   case rel =>
    rw [shr_byte]
    refine ⟨j + 1, by omega, by go_num, hB.setOther _ _ (by simp), ?_, hb.setCell (p := ⟨w.heap.size + 1, j, none⟩) (by simp) _⟩
    rw [← halfI_set n k j hlt]
    exact (ho.stored j _).1
   case measure => simp [intOf]; omega
  ·obtain rfl : j = k := by omega
   go_wp2_with fail
   go_ret
   rw [halfI_full] at ho
   exact ⟨_, rfl, owns_weaken ho (by omega), hb⟩
end Go.Proofs.YtlpchcdalfkfcaaGreat


/-
 Package word: Put, and the reference's.
-/
namespace Go.Proofs.YtlpchcdalfkfcaaGreat
open Go.RowKit
attribute [local go_sem] Oper.semAt_some
set_option maxHeartbeats 400000

theorem isW_cases {n : Int} (h : isW n = true) : n = 1 ∨ n = 2 ∨ n = 4 ∨ n = 8 := by
 simp only [isW, hasI, List.mem_cons, List.not_mem_nil, or_false, decide_eq_true_eq] at h; exact h
theorem Put_ok (n : Int) (k : Nat) (hn : 0 ≤ n) (hn' : n < 18446744073709551616) (h : isW k = true) (hf : fitsI k n = true) (w : World) : Calls Tryz.prog 181 #[.int .u64 n, .int .i64 k] w fun e w' =>
  ∃ v, e = .returned (.tuple #[v, .int .i64 0]) ∧ w'.ownsRow w.heap.size 5 1 v k (intVals .u8 (bytesI n k)) ∧ Below w.heap.size w w' := by
 have hk := Lib.hid (isW_cases h)
 have hX := Lib.hid (Blk.new w #[.int .i64 k, .int .u64 n] 254)
 go_enter Tryz.func181, Tryz.ntmps181
 go_wp2_with fail
 refine wp_scope_fwd 0 rfl ?_
 go_wp2_with (first | go_step3 | rw [fwd_goto] | rw [fwd_ret] | rw [Exit.noGoto_ret])
 refine (is_callsO _ _).mono ?_; rintro e w1 ⟨rfl, hb⟩
 have hX1 := hX.out.below hb (by simp)
 have hz := hb.size
 simp at hz
 have c0 : w1.cell? ⟨w.heap.size, 0, none⟩ = some (.int .i64 k) := hX1.cell 0 rfl
 have c1 : w1.cell? ⟨w.heap.size, 1, none⟩ = some (.int .u64 n) := hX1.cell 1 rfl
 go_wp2_with (first | go_step3 | rw [fwd_goto] | rw [fwd_ret] | rw [Exit.noGoto_ret])
 refine (fits_calls k n hn hn' (by have := hk.out; omega) _).mono ?_; rintro e w2 ⟨rfl, hb2⟩
 have hz2 := hb2.size
 have hX2 := hX1.below hb2 (by omega)
 have d0 : w2.cell? ⟨w.heap.size, 0, none⟩ = some (.int .i64 k) := hX2.cell 0 rfl
 have d1 : w2.cell? ⟨w.heap.size, 1, none⟩ = some (.int .u64 n) := hX2.cell 1 rfl
 clear c0 c1
 go_wp2_with (first | go_step3 | rw [fwd_goto] | rw [fwd_ret] | rw [Exit.noGoto_ret])
 refine (bytes_calls n k hn hn' (by have := hk.out; omega) _).mono ?_; rintro e w3 ⟨v, rfl, ho, hb3⟩
 go_wp2_with (first | go_step3 | rw [fwd_goto] | rw [fwd_ret] | rw [Exit.noGoto_ret])
 go_ret2
 exact ⟨v, rfl, owns_weaken ho (by omega), ((((Below.refl _ w).alloc (Nat.le_refl _) _).trans (hb.mono (by simp))).trans (hb2.mono (by omega))).trans (hb3.mono (by omega))⟩

/-! ### The reference -/
theorem bytesI_len (n : Int) (k : Nat) : (bytesI n k).length = k := by simp [bytesI]
theorem byteI_bd (n : Int) (k : Nat) : 0 ≤ byteI n k ∧ byteI n k < 256 := by unfold byteI; omega
end Go.Proofs.YtlpchcdalfkfcaaGreat


/-
 Package word: Get, and the reference's.
-/
namespace Go.Proofs.YtlpchcdalfkfcaaGreat
open Go.RowKit
attribute [local go_sem] Oper.semAt_some
set_option maxHeartbeats 400000

/-- The number whose bytes they are. -/
def valI : List Int → Int
 | [] => 0
 | c :: l => valI l * 256 + c
theorem valI_bd : ∀ (l : List Int), (∀ x ∈ l, 0 ≤ x ∧ x < 256) → 0 ≤ valI l ∧ valI l < 256 ^ l.length := by
 intro l
 induction l with
 | nil => intro _; exact ⟨by decide, by decide⟩
 | cons c l ih =>
  intro h
  have h1 := ih fun x hx => h x (List.mem_cons_of_mem _ hx)
  have h2 := h c List.mem_cons_self
  have h3 : (256 : Int) ^ (c :: l).length = 256 ^ l.length * 256 := by rw [List.length_cons, Int.pow_succ]
  simp only [valI]
  rw [h3]
  omega
theorem or_byte (v c : Int) (hv : 0 ≤ v) (hv' : v < 72057594037927936) (hc : 0 ≤ c) (hc' : c < 256) : bits BinOp.or IntKind.u64 (v * 256) c = v * 256 + c := by
 have hw : ∀ n : Int, 0 ≤ n → n < 2 ^ 64 → IntKind.u64.wrap n = n := fun n h0 h1 => by rw [IntKind.wrap_u64]; omega
 exact bits_join .u64 64 (by decide) hw 8 _ _ (by omega) (by omega) (by omega) hc hc' (by omega)
theorem valI_drop (l : List Int) (i : Nat) (h : i < l.length) : valI (l.drop i) = valI (l.drop (i + 1)) * 256 + l[i] := by
 rw [List.drop_eq_getElem_cons h]; rfl
theorem val_step (l : List Int) (hw : ∀ x ∈ l, 0 ≤ x ∧ x < 256) (h8 : l.length ≤ 8) (i : Nat) (h : i < l.length) : bits BinOp.or IntKind.u64 (valI (l.drop (i + 1)) * 256) l[i] = valI (l.drop i) ∧ 0 ≤ valI (l.drop (i + 1)) ∧ valI (l.drop (i + 1)) < 72057594037927936 := by
 have h1 := valI_bd (l.drop (i + 1)) fun x hx => hw x (List.mem_of_mem_drop hx)
 have h2 := hw l[i] (List.getElem_mem h)
 have hm : (l.drop (i + 1)).length ≤ 7 := by rw [List.length_drop]; omega
 have h30 : (256 : Nat) ^ (l.drop (i + 1)).length ≤ 72057594037927936 := Nat.le_trans (Nat.pow_le_pow_right (by decide) hm) (by decide)
 have h31 : (256 : Int) ^ (l.drop (i + 1)).length = ((256 ^ (l.drop (i + 1)).length : Nat) : Int) := by rw [Int.natCast_pow]; rfl
 have h4 : valI (l.drop (i + 1)) < 72057594037927936 := by omega
 exact ⟨by rw [or_byte _ _ h1.1 h4 h2.1 h2.2, valI_drop l i h], h1.1, h4⟩

/-- The bytes from the last on, each with its place. -/
def backI' (l : List Int) : List (Int × Int) := (List.range l.length).map fun (j : Nat) => (((l.length - 1 - j : Nat) : Int), l.getD (l.length - 1 - j) 0)
theorem backI'_len (l : List Int) : (backI' l).length = l.length := by simp [backI']
theorem backI'_get (l : List Int) (j : Nat) (h : j < (backI' l).length) : (backI' l)[j] = (((l.length - 1 - j : Nat) : Int), l.getD (l.length - 1 - j) 0) := by simp [backI']
theorem Backward_calls (ad : Option Addr) (n cap : Nat) (w : World) : Calls Tryz.prog 204 #[.slice ad n cap] w fun e w' => e = .returned (.func (.func 212) #[] #[.pointer (some ⟨w.heap.size, 0, none⟩)]) ∧ w' = w.alloc (.cells #[.slice ad n cap] 44) := by
 go_enter Tryz.func204, Tryz.ntmps204
 go_wp2
 go_ret
 exact ⟨rfl, rfl⟩
theorem Backward_iter (v : Value) (l : List Int) (hl : l.length ≤ maxLen) (B bs : Nat) :
  IterK Tryz.prog 212 #[.pointer (some ⟨bs, 0, none⟩)] (fun p : Int × Int => #[.int .i64 p.1, .int .u8 p.2]) (backI' l)
   (fun W => W.cell? ⟨bs, 0, none⟩ = some v ∧ RowAt B W v l.length (intVals .u8 l)) := by
 intro L J Jx W hJ hJx hA hY h0
 unfold maxLen at hl
 obtain ⟨_, ad, cap, rfl, hcap, _⟩ := hA _ _ h0
 refine calls_in Tryz.func212 rfl ?_; simp only [Tryz.ntmps212, List.size_toArray, List.length_cons, List.length_nil, Nat.reduceAdd, Nat.reduceSub, Array.replicate_succ, Array.replicate_zero, List.push_toArray, List.append_toArray, List.nil_append, List.cons_append]
 have hc0 := (hA _ _ h0).1
 gi_wp2
 gi_loopw [3] (fun i wr => ∃ k : Nat, k ≤ l.length ∧ i = .int .i64 ((l.length : Int) - 1 - k) ∧ J ((backI' l).take k) wr ∧ W.heap.size ≤ wr.heap.size) (fun i _ => (intOf i + 1).toNat)
 case atStart => exact ⟨0, by omega, by simp, by simpa using h0, Nat.le_refl _⟩
 case round =>
  clear hc0
  obtain ⟨k, hk, rfl, hJk, hsz⟩ := hrel
  obtain ⟨hc1, _, _, he, _, hrow⟩ := hA _ _ hJk
  cases he
  by_cases hlt : k < l.length
  ·have hll : k < (backI' l).length := by rw [backI'_len]; exact hlt
   have hsp := Lib.hid (split_at _ k hll)
   have htk := Lib.hid (take_next _ k hll)
   rcases hrow with h0 | ⟨b, off, rfl, hbB, hc⟩
   ·exfalso; have := congrArg List.length h0; simp [intVals] at this; subst this; simp at hlt
   obtain ⟨q, hq⟩ : ∃ q : Nat, l.length - 1 - k = q := ⟨_, rfl⟩
   have hql : q < l.length := by omega
   have hck : wr.cell? ⟨b, off + q, none⟩ = some (.int .u8 l[q]) := by
    rw [hc q (by simpa [intVals] using hql), intVals_get _ _ _ hql]
   have hx : (backI' l)[k] = ((q : Int), l[q]) := by rw [backI'_get, hq]; simp [List.getD, hql]
   have hidx : (l.length : Int) - 1 - k = q := by omega
   clear hc hq
   obtain ⟨fn, tmps, assign, body, hy, hR⟩ := hY _ _ _ wr hsp.out hJk hsz
   rw [hx] at hy
   have HX := Lib.hid hx
   clear hY hx
   rw [hidx]
   have HI := Lib.hid hidx
   clear hidx
   have i0 : (0 : Int) ≤ q := by omega
   have i1 : (q : Int) < l.length := by omega
   gi_wp2_with fail
   refine (hR _).mono ?_; rintro e W3 (⟨rfl, hJ3, hs3⟩ | ⟨rfl, hJx3, hs3⟩)
   ·gi_wp2
    go_roundw
    case rel => exact ⟨k + 1, by omega, by have := HI.out; exact congrArg (Value.int .i64) (by omega), by rw [htk.out]; exact hJ3, by omega⟩
    case measure => have := HI.out; simp [intOf]
   ·gi_wp2
    refine bodyPost_ret (results_none rfl _ _ _) rfl ?_
    exact ⟨⟨_, rfl⟩, .inr hJx3⟩
  ·obtain rfl : k = l.length := by omega
   gi_wp2
   go_end0
   exact ⟨⟨_, rfl⟩, .inl (by rw [List.take_of_length_le (by rw [backI'_len]; omega)] at hJk; exact hJk)⟩
theorem Get_okO (v : Value) (l : List Int) (hw : ∀ x ∈ l, 0 ≤ x ∧ x < 256) (B : Nat) (w : World) (hB : B ≤ w.heap.size) (h : isW l.length = true) (hv : RowAt B w v l.length (intVals .u8 l)) : Calls Tryz.prog 178 #[v] w fun e w' => e = .returned (.tuple #[.int .u64 (valI l), .int .i64 0]) ∧ Below w.heap.size w w' := by
 have h8 : l.length ≤ 8 := by have := isW_cases h; omega
 obtain ⟨ad, cap, rfl, _, _⟩ := id hv
 refine calls_of_wp_marks Tryz.func178 rfl ?_; simp only [Tryz.ntmps178, List.size_toArray, List.length_cons, List.length_nil, Nat.reduceAdd, Nat.reduceSub, Array.replicate_succ, Array.replicate_zero, List.push_toArray, List.append_toArray, List.nil_append, List.cons_append]
 go_wp2_with fail
 refine (is_callsO _ _).mono ?_; rintro e w1 ⟨rfl, hb1⟩
 have hz1 := hb1.size
 go_wp2_with fail
 refine (Backward_calls _ _ _ _).mono ?_; rintro e w2 ⟨rfl, rfl⟩
 go_wp2_with fail
 refine wp_range1 rfl (enters_of Tryz.func212 (by kernel_rfl) rfl) (Backward_iter (.slice ad l.length cap) l (by unfold maxLen; omega) B (w1.heap.size + 1)) (fun _ => rfl)
  (fun pre W => Blk W w1.heap.size #[.int .u64 (valI (l.drop (l.length - pre.length)))] 57 ∧ Blk W (w1.heap.size + 1) #[.slice ad l.length cap] 44 ∧ RowAt B W (.slice ad l.length cap) l.length (intVals .u8 l) ∧ Below w.heap.size w W)
  (fun _ _ => False) ?a1 ?ha ?hI ?hIx ?hA ?h0 ?hbody ?hdone ?hstop
 case ha => intro m l x W K hK; gi_wp2; exact hK
 case hI => rintro pre X Y ⟨h1, h2, h3, h4⟩ hk; exact ⟨h1.keeps hk, h2.keeps hk, h3.keeps hk, h4.keeps hk (by simp; omega)⟩
 case hIx => exact stab_false _
 case hA => rintro pre W ⟨h1, h2, h3, h4⟩; exact ⟨h2.cell 0 rfl, h3⟩
 case h0 =>
  refine ⟨?_, Blk.newAt _ _ _ (by simp), ?_, (hb1.alloc hz1 _).alloc (by simp; omega) _⟩
  ·rw [List.length_nil, Nat.sub_zero, List.drop_of_length_le (Nat.le_refl _)]
   exact (Blk.new w1 _ _).alloc _
  ·exact ((hv.below hb1 hB).below ((Below.refl _ w1).alloc (Nat.le_refl _) _) (by omega)).below ((Below.refl _ _).alloc (Nat.le_refl _) _) (by simp; omega)
 case hbody =>
  rintro m L pre x suf W hxs hl hrec ⟨h1, h2, h3, h4⟩
  have hpl : pre.length < l.length := by have := congrArg List.length hxs; rw [backI'_len] at this; simp at this; omega
  obtain ⟨q, hq⟩ : ∃ q : Nat, l.length - 1 - pre.length = q := ⟨_, rfl⟩
  have hql : q < l.length := by omega
  have hx : x = ((q : Int), l[q]) := by
   have h1 : (backI' l)[pre.length]'(by rw [backI'_len]; exact hpl) = x := by simp [hxs]
   rw [← h1, backI'_get, hq]; simp [List.getD, hql]
  obtain ⟨hs1, hs2, hs3⟩ := val_step l hw h8 q hql
  rw [show l.length - pre.length = q + 1 by omega] at h1
  have hn : l.length - (pre ++ [x]).length = q := by simp; omega
  subst hx
  have c1 : W.cell? ⟨w1.heap.size, 0, none⟩ = some (.int .u64 (valI (l.drop (q + 1)))) := h1.cell 0 rfl
  have f1 := h1.frozen 0
  have hb := hw l[q] (List.getElem_mem hql)
  have HS := Lib.hid hs1
  have HN := Lib.hid hn
  clear hs1 hn hq
  gi_wp2
  refine ⟨(KeepsRec.refl W).setCell _ _, ?_⟩
  dsimp only
  rw [HN.out, HS.out]
  refine ⟨h1.set 0 _, h2.setOther _ _ (by simp), ?_, h4.setCell (p := ⟨w1.heap.size, 0, none⟩) hz1 _⟩
  exact h3.below (m := w1.heap.size) ((Below.refl _ W).setCell (p := ⟨w1.heap.size, 0, none⟩) (Nat.le_refl _) _) (by omega)
 case hdone =>
  rintro D W hD ⟨h1, h2, h3, h4⟩ hK
  rw [backI'_len, Nat.sub_self, List.drop_zero] at h1
  have c1 : W.cell? ⟨w1.heap.size, 0, none⟩ = some (.int .u64 (valI l)) := h1.cell 0 rfl
  go_wp2_with fail
  exact postM_ret hK (results_tmp2 rfl _ _ _) ⟨rfl, below_putObj h4 (by simp at hD; omega) _ (Array.getElem?_eq_some_iff.1 hK).1⟩
 case hstop => exact fun _ _ _ _ h => h.elim

end Go.Proofs.YtlpchcdalfkfcaaGreat

