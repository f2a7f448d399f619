/-
  Package bits: marks in memory; none, has, spot, Len, New. Conditions: at most 4096 places.
-/
import Derived.Test.YtbkegknfmcanaaaDoorBiA
import Derived.Test.YtbkegknfmcanaaaDoorStB
import Derived.StillTailTactics
namespace Go.Proofs.YtbkegknfmcanaaaDoor
open Go.RowKit
attribute [local go_sem] Oper.semAt_some
set_option maxHeartbeats 2000000
set_option maxRecDepth 8000

theorem info64 : ElemInfo Tryd.prog 3 (.int .i64 0) 1 8 := elemInfo_of (by kernel_rfl) rfl (by decide)
theorem infoU64 : ElemInfo Tryd.prog 70 (.int .u64 0) 1 8 := elemInfo_of (by kernel_rfl) rfl (by decide)
theorem infoB : ElemInfo Tryd.prog 4 (.bool false) 1 1 := elemInfo_of (by kernel_rfl) rfl (by decide)

/-! ### Words of marks -/
def nW (n : Nat) : Nat := (n + 63) / 64
def wdL (L : List Bool) (j : Nat) : Nat := bitsN (fun i => L.getD (64 * j + i) false) 64
def wdsL (L : List Bool) : List Int := (List.range (nW L.length)).map fun j => ((wdL L j : Nat) : Int)
theorem wdsL_len (L : List Bool) : (wdsL L).length = nW L.length := by simp [wdsL]
theorem wdsL_get (L : List Bool) (j : Nat) (h : j < (wdsL L).length) : (wdsL L)[j] = ((wdL L j : Nat) : Int) := by simp [wdsL]
theorem wdL_lt (L : List Bool) (j : Nat) : wdL L j < 18446744073709551616 := bitsN_lt _ 64
theorem wdL_bit (L : List Bool) (k : Nat) : (wdL L (k / 64)).testBit (k % 64) = L.getD k false := by
  unfold wdL
  rw [testBit_bitsN, show 64 * (k / 64) + k % 64 = k by omega]
  simp; intro h; omega
theorem wdsL_zero (n : Nat) : wdsL (List.replicate n false) = List.replicate (nW n) 0 := by
  refine List.ext_getElem (by simp [wdsL]) fun i h1 h2 => ?_
  rw [wdsL_get, List.getElem_replicate]
  have : wdL (List.replicate n false) i = 0 := by
    unfold wdL
    refine Nat.eq_of_testBit_eq fun b => ?_
    rw [testBit_bitsN]
    have h3 : (List.replicate n false).getD (64 * i + b) false = false := by
      rw [List.getD_eq_getElem?_getD, List.getElem?_replicate]; split <;> rfl
    simp only [h3]; simp
  rw [this]; rfl
/-- The word of a place, shifted and masked, is what the place holds. -/
theorem bit_and (L : List Bool) (k : Nat) : bits .and .u64 (((wdL L (k / 64) : Nat) : Int) / 2 ^ (k % 64)) 1 = if L.getD k false then 1 else 0 := by
  have hlt := wdL_lt L (k / 64)
  have h1 : (((wdL L (k / 64) : Nat) : Int) / 2 ^ (k % 64)) = ((wdL L (k / 64) / 2 ^ (k % 64) : Nat) : Int) := by push_cast; rfl
  have h2 : wdL L (k / 64) / 2 ^ (k % 64) < 18446744073709551616 := Nat.lt_of_le_of_lt (Nat.div_le_self _ _) hlt
  have h3 := bits_and_u64_nat (wdL L (k / 64) / 2 ^ (k % 64)) 1 h2 (by decide)
  rw [h1]
  refine h3.trans ?_
  have h4 := wdL_bit L k
  rw [Nat.testBit_eq_decide_div_mod_eq] at h4
  rw [Nat.and_one_is_mod, ← h4]
  by_cases h : wdL L (k / 64) / 2 ^ (k % 64) % 2 = 1
  · rw [h]; simp
  · have : wdL L (k / 64) / 2 ^ (k % 64) % 2 = 0 := by omega
    rw [this]; simp
/-- The word of a place, turned at that place. -/
theorem bit_xor (L : List Bool) (k : Nat) (hk : k < L.length) : bits .xor .u64 ((wdL L (k / 64) : Nat) : Int) ((2 ^ (k % 64) : Nat) : Int) = ((wdL (L.set k (!L.getD k false)) (k / 64) : Nat) : Int) := by
  have hlt := wdL_lt L (k / 64)
  have hp : 2 ^ (k % 64) < 18446744073709551616 := Nat.pow_lt_pow_right (by omega) (show k % 64 < 64 by omega)
  rw [bits_xor_u64_nat _ _ hlt hp]
  congr 1
  refine Nat.eq_of_testBit_eq fun b => ?_
  rw [Nat.testBit_xor, Nat.testBit_two_pow]
  unfold wdL
  rw [testBit_bitsN, testBit_bitsN]
  by_cases hb : b < 64
  · rw [List.getD_eq_getElem?_getD, List.getD_eq_getElem?_getD, List.getElem?_set]
    by_cases e : k = 64 * (k / 64) + b
    · have e2 : k % 64 = b := by omega
      rw [if_pos e, if_pos hk, ← e, e2, List.getD_eq_getElem?_getD]; simp [hb]
    · have e2 : k % 64 ≠ b := by omega
      rw [if_neg e]; simp [e2, hb]
  · have e2 : k % 64 ≠ b := by omega
    simp [hb, e2]
theorem wd_other (L : List Bool) (k j : Nat) (v : Bool) (hj : j ≠ k / 64) : wdL (L.set k v) j = wdL L j := by
  unfold wdL
  refine bitsN_congr _ fun i hi => ?_
  rw [List.getD_eq_getElem?_getD, List.getD_eq_getElem?_getD, List.getElem?_set_ne (by omega)]
theorem wdsL_set (L : List Bool) (k : Nat) (hk : k < L.length) : wdsL (L.set k (!L.getD k false)) = (wdsL L).set (k / 64) ((wdL (L.set k (!L.getD k false)) (k / 64) : Nat) : Int) := by
  refine List.ext_getElem (by simp [wdsL]) fun i h1 h2 => ?_
  rw [wdsL_get, List.getElem_set]
  by_cases e : k / 64 = i
  · rw [if_pos e, e]
  · rw [if_neg e, wd_other _ _ _ _ (Ne.symm e), wdsL_get]
end Go.Proofs.YtbkegknfmcanaaaDoor
