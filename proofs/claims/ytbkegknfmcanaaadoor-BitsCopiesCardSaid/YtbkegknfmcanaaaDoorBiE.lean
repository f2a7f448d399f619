/-
  Package math/bits: OnesCount64; package bits: Count. Conditions: at most 4096 places.
-/
import Derived.Test.YtbkegknfmcanaaaDoorBiD
namespace Go.Proofs.YtbkegknfmcanaaaDoor
open Go.RowKit
attribute [local go_sem] Oper.semAt_some
set_option maxHeartbeats 2000000
set_option maxRecDepth 8000

theorem and_div (x y c m : Nat) (hx : x < 18446744073709551616) (hm : m < 18446744073709551616) (hy : x / c = y) : bits .and .u64 ((x : Int) / (c : Int)) (m : Int) = ((y &&& m : Nat) : Int) := by
  subst hy
  rw [← bits_and_u64_nat _ _ (Nat.lt_of_le_of_lt (Nat.div_le_self x c) hx) hm]
  push_cast; rfl
theorem wrap_nat (x : Nat) (hx : x < 18446744073709551616) : IntKind.u64.wrap (x : Int) = (x : Int) := by rw [IntKind.wrap_u64]; omega
theorem Ones_ok (f : Nat → Bool) (w : World) : Calls Tryd.prog 36 #[.int .u64 ((bitsN f 64 : Nat) : Int)] w fun e w' => e = .returned (.int .i64 ((cntN f 64 : Nat) : Int)) ∧ w = w' := by
  obtain ⟨x, hx⟩ : ∃ x, x = bitsN f 64 := ⟨_, rfl⟩
  obtain ⟨x1, h1⟩ : ∃ x1, x1 = ((x / 2) &&& 6148914691236517205) + (x &&& 6148914691236517205) := ⟨_, rfl⟩
  obtain ⟨x2, h2⟩ : ∃ x2, x2 = ((x1 / 4) &&& 3689348814741910323) + (x1 &&& 3689348814741910323) := ⟨_, rfl⟩
  obtain ⟨x3, h3⟩ : ∃ x3, x3 = (x2 / 16 + x2) &&& 1085102592571150095 := ⟨_, rfl⟩
  obtain ⟨x4, h4⟩ : ∃ x4, x4 = x3 + x3 / 256 := ⟨_, rfl⟩
  obtain ⟨x5, h5⟩ : ∃ x5, x5 = x4 + x4 / 65536 := ⟨_, rfl⟩
  obtain ⟨x6, h6⟩ : ∃ x6, x6 = x5 + x5 / 4294967296 := ⟨_, rfl⟩
  obtain ⟨l0, l1, l2, l3, l4, l5, l6, l7, hc⟩ := ones64 f hx h1 h2 h3 h4 h5 h6
  have e1 : IntKind.u64.wrap (bits .and .u64 ((x : Int) / 2) 6148914691236517205 + bits .and .u64 (x : Int) 6148914691236517205) = (x1 : Int) := by
    have a1 : bits .and .u64 ((x : Int) / 2) 6148914691236517205 = ((x / 2 &&& 6148914691236517205 : Nat) : Int) := and_div x _ 2 6148914691236517205 l0 (by decide) rfl
    have a2 : bits .and .u64 (x : Int) 6148914691236517205 = ((x &&& 6148914691236517205 : Nat) : Int) := bits_and_u64_nat x 6148914691236517205 l0 (by decide)
    rw [a1, a2, ← wrap_nat x1 l1, h1]
    push_cast; rfl
  have e2 : IntKind.u64.wrap (bits .and .u64 ((x1 : Int) / 4) 3689348814741910323 + bits .and .u64 (x1 : Int) 3689348814741910323) = (x2 : Int) := by
    have a1 : bits .and .u64 ((x1 : Int) / 4) 3689348814741910323 = ((x1 / 4 &&& 3689348814741910323 : Nat) : Int) := and_div x1 _ 4 3689348814741910323 l1 (by decide) rfl
    have a2 : bits .and .u64 (x1 : Int) 3689348814741910323 = ((x1 &&& 3689348814741910323 : Nat) : Int) := bits_and_u64_nat x1 3689348814741910323 l1 (by decide)
    rw [a1, a2, ← wrap_nat x2 l2, h2]
    push_cast; rfl
  have e3 : bits .and .u64 (IntKind.u64.wrap ((x2 : Int) / 16 + x2)) 1085102592571150095 = (x3 : Int) := by
    have a1 := wrap_nat (x2 / 16 + x2) l3
    have a2 : bits .and .u64 ((x2 / 16 + x2 : Nat) : Int) 1085102592571150095 = (((x2 / 16 + x2) &&& 1085102592571150095 : Nat) : Int) := bits_and_u64_nat (x2 / 16 + x2) 1085102592571150095 l3 (by decide)
    rw [h3, ← a2, ← a1]
    congr 2
  have e4 : IntKind.u64.wrap ((x3 : Int) + (x3 : Int) / 256) = (x4 : Int) := by
    rw [← wrap_nat x4 l5, h4]; congr 1
  have e5 : IntKind.u64.wrap ((x4 : Int) + (x4 : Int) / 65536) = (x5 : Int) := by
    rw [← wrap_nat x5 l6, h5]; congr 1
  have e6 : IntKind.u64.wrap ((x5 : Int) + (x5 : Int) / 4294967296) = (x6 : Int) := by
    rw [← wrap_nat x6 (by omega), h6]; congr 1
  have HC := Lib.hid hc
  have hr : bits .and .i64 (x6 : Int) 127 = ((x6 % 128 : Nat) : Int) := by
    have := bits_mask .i64 63 (by decide) (fun n h0 h1 => IntWalk.i64_in _ (by omega)) 7 (by decide) (x6 : Int) (by omega) (by omega)
    rw [show (127 : Int) = 2 ^ 7 - 1 from rfl, this]
    omega
  rw [← hx]
  clear hx h1 h2 h3 h4 h5 h6 l0 l1 l2 l3 l4 l5 l6 hc
  go_enter Tryd.func36, Tryd.ntmps36
  go_wp2_with fail
  go_ret
  refine ⟨?_, rfl⟩
  show Ending.returned (.int .i64 ((x6 : Int) % 128)) = _
  rw [← HC.out]; rfl
theorem Count1_ok (n : Int) (f : Nat → Bool) (w : World) (h0 : 0 ≤ n) (h1 : n ≤ 1000000) : Calls Tryd.prog 35 #[.int .i64 n, .int .u64 ((bitsN f 64 : Nat) : Int)] w fun e w' => e = .returned (.int .i64 (n + ((cntN f 64 : Nat) : Int))) ∧ w = w' := by
  have H := Ones_ok f w
  have hc := cntN_le f 64
  obtain ⟨c, hc9⟩ : ∃ c : Int, ((cntN f 64 : Nat) : Int) = c := ⟨_, rfl⟩
  obtain ⟨x, hx⟩ : ∃ x : Int, ((bitsN f 64 : Nat) : Int) = x := ⟨_, rfl⟩
  have c0 : 0 ≤ c := by omega
  have c1 : c ≤ 64 := by omega
  rw [hc9, hx] at H
  rw [hc9, hx]
  clear hc hc9 hx
  go_enter Tryd.func35, Tryd.ntmps35
  go_wp2_with fail
  refine H.mono ?_; rintro e _ ⟨rfl, rfl⟩
  go_wp2_with fail
  go_ret
  exact ⟨rfl, rfl⟩
/-- How many places are marked. -/
def cntB (L : List Bool) (k : Nat) : Nat := cntN (fun i => L.getD i false) k
theorem cntB_le (L : List Bool) (k : Nat) : cntB L k ≤ k := cntN_le _ k
theorem cntB_word (L : List Bool) (j : Nat) : cntB L (64 * (j + 1)) = cntB L (64 * j) + cntN (fun i => L.getD (64 * j + i) false) 64 := by
  unfold cntB
  rw [Nat.mul_add, cntN_split]
theorem cntB_far (L : List Bool) (k : Nat) : cntB L (L.length + k) = cntB L L.length := by
  induction k with
  | zero => rfl
  | succ k ih =>
    have : L.getD (L.length + k) false = false := by rw [List.getD_eq_getElem?_getD, List.getElem?_eq_none (by omega)]; rfl
    rw [← Nat.add_assoc]
    unfold cntB at ih ⊢
    rw [cntN, ih, this]; rfl
theorem cntB_all (L : List Bool) : cntB L (64 * nW L.length) = cntB L L.length := by
  obtain ⟨d, hd⟩ : ∃ d, 64 * nW L.length = L.length + d := ⟨64 * nW L.length - L.length, by unfold nW; omega⟩
  rw [hd, cntB_far]
theorem folded_ok (v : Value) (L : List Bool) (B : Nat) (w : World) (hB : B ≤ w.heap.size) (hl : L.length ≤ 4096) (hv : RowAt B w v (nW L.length) (intVals .u64 (wdsL L))) :
    Calls Tryd.prog 34 #[.int .i64 0, .func (.func 35) #[] #[], v] w fun e w' => e = .returned (.int .i64 ((cntB L L.length : Nat) : Int)) ∧ Below w.heap.size w w' := by
  have H1 := Lib.hid hv
  obtain ⟨ad, cap, rfl, _⟩ := hv.len
  have hw : nW L.length ≤ 64 := by unfold nW; omega
  have HF := Lib.hid (cntB_all L)
  clear hv
  go_enter Tryd.func34, Tryd.ntmps34
  go_wp2_with fail
  go_loopw [0, 11] (fun n i wr => ∃ k : Nat, k ≤ nW L.length ∧ i = .int .i64 k ∧ n = .int .i64 ((cntB L (64 * k) : Nat) : Int) ∧ Below w.heap.size w wr) (fun _ i _ => nW L.length - (intOf i).toNat)
  case atStart => exact ⟨0, by omega, rfl, rfl, Below.refl _ _⟩
  case round =>
    obtain ⟨k, hk, rfl, rfl, hb⟩ := hrel
    by_cases hlt : k < nW L.length
    · obtain ⟨b, off, rfl, _, q⟩ := (H1.out.below hb hB).getu (wdsL_len L) k hlt
      have i0 : (0 : Int) ≤ k := by omega
      have i1 : (k : Int) < (nW L.length : Nat) := by omega
      rw [List.getD_eq_getElem?_getD, List.getElem?_eq_getElem (show k < (wdsL L).length by rw [wdsL_len]; exact hlt), wdsL_get] at q
      have hst := cntB_word L k
      have hle := cntB_le L (64 * k)
      obtain ⟨n, hn⟩ : ∃ n : Nat, cntB L (64 * k) = n := ⟨_, rfl⟩
      rw [hn] at hst hle ⊢
      have HST := Lib.hid hst
      have HC := Lib.hid (fun W => Count1_ok (n : Int) (fun i => L.getD (64 * k + i) false) W (by omega) (by omega))
      obtain ⟨c, hc⟩ : ∃ c : Nat, cntN (fun i => L.getD (64 * k + i) false) 64 = c := ⟨_, rfl⟩
      have H2 := HC.out
      rw [show wdL L k = bitsN (fun i => L.getD (64 * k + i) false) 64 from rfl] at q
      obtain ⟨wd, hwd⟩ : ∃ wd : Int, ((bitsN (fun i => L.getD (64 * k + i) false) 64 : Nat) : Int) = wd := ⟨_, rfl⟩
      rw [hwd, hc] at H2
      rw [hwd] at q
      rw [hc] at HST
      have H3 := Lib.hid H2
      have hc64 : c ≤ 64 := by rw [← hc]; exact cntN_le _ 64
      clear hc hwd H2 hst HC hn
      go_wp2_with fail
      refine (H3.out _).mono ?_; rintro e _ ⟨rfl, rfl⟩
      go_wp2_with fail
      exact ⟨⟨k + 1, by omega, by go_num, by rw [HST.out]; push_cast; rfl, hb⟩, by simp [intOf]; omega⟩
    · obtain rfl : k = nW L.length := by omega
      rw [HF.out]
      go_wp2_with fail
      go_ret
      exact ⟨rfl, hb⟩
theorem Count_none {w : World} {p : Option Addr} (h : NoMk w p) : Calls Tryd.prog 15 #[.pointer p] w fun e w' => e = .returned (.int .i64 0) ∧ w = w' := by
  go_enter Tryd.func15, Tryd.ntmps15
  go_wp2_with fail
  refine (none_none h).mono ?_; rintro e _ ⟨rfl, rfl⟩
  go_wp2_with fail
  go_ret
  exact ⟨rfl, rfl⟩
theorem Count_ok {lo hi : Nat} {w : World} {s : Nat} {L : List Bool} (h : MkAt lo hi w s L) (hl : L.length ≤ 4096) : Calls Tryd.prog 15 #[.pointer (some ⟨s, 0, none⟩)] w fun e w' => e = .returned (.int .i64 ((cntB L L.length : Nat) : Int)) ∧ Below w.heap.size w w' := by
  obtain ⟨a, cap, _, c1, _, hr⟩ := h.open
  have HR := Lib.hid hr
  clear hr
  go_enter Tryd.func15, Tryd.ntmps15
  go_wp2_with fail
  refine (none_live h).mono ?_; rintro e _ ⟨rfl, rfl⟩
  go_wp2_with fail
  refine (folded_ok _ L hi w h.2.2.1 hl HR.out).mono ?_; rintro e w1 ⟨rfl, k1⟩
  go_wp2_with fail
  go_ret
  exact ⟨rfl, k1⟩
end Go.Proofs.YtbkegknfmcanaaaDoor
