/-
  Package bits: New, Has, Count. Conditions: at most 4096 places.
-/
import Derived.Test.YtbkegknfmcanaaaDoorBiC
namespace Go.Proofs.YtbkegknfmcanaaaDoor
open Go.RowKit
attribute [local go_sem] Oper.semAt_some
set_option maxHeartbeats 2000000
set_option maxRecDepth 8000

theorem run_ix0 (a b : Value) (W : World) : (Instr.index 81 (.agg #[a, b]) (.int .i64 0)).run Tryd.prog W = .ok a W := by kernel_rfl
theorem run_ix1 (a b : Value) (W : World) : (Instr.index 81 (.agg #[a, b]) (.int .i64 1)).run Tryd.prog W = .ok b W := by kernel_rfl
theorem New_no (many : Int) (w : World) (h : many < 0 ∨ 4096 < many) : Calls Tryd.prog 9 #[.int .i64 many] w fun e w' => e = .returned (.tuple #[.pointer none, .int .i64 2]) ∧ w = w' := by
  by_cases h0 : many < 0
  · clear h
    go_enter Tryd.func9, Tryd.ntmps9
    go_wp2_with fail
    go_ret2
    exact ⟨rfl, rfl⟩
  · have h1 : 4096 < many := by omega
    clear h
    go_enter Tryd.func9, Tryd.ntmps9
    go_wp2_with fail
    go_ret2
    exact ⟨rfl, rfl⟩
theorem New_ok (n : Nat) (w : World) (h : n ≤ 4096) : Calls Tryd.prog 9 #[.int .i64 n] w fun e w' => ∃ s, e = .returned (.tuple #[.pointer (some ⟨s, 0, none⟩), .int .i64 0]) ∧ MkAt w.heap.size w'.heap.size w' s (List.replicate n false) ∧ Below w.heap.size w w' := by
  obtain ⟨ii, hii, hiz, his, hib, _⟩ := infoU64
  have h0 : (0 : Int) ≤ n := by omega
  have h1 : (n : Int) ≤ 4096 := by omega
  have hq : ((n : Int) + 64 - 1) / 64 = ((nW n : Nat) : Int) := by unfold nW; omega
  have hw : nW n ≤ 64 := by unfold nW; omega
  have hw0 : (0 : Int) ≤ (nW n : Nat) := by omega
  have hw1 : ((nW n : Nat) : Int) ≤ 64 := by omega
  have hq0 : (0 : Int) ≤ ((n : Int) + 64 - 1) / 64 := by omega
  have HQ := Lib.hid hq
  clear hq
  go_enter Tryd.func9, Tryd.ntmps9
  go_wp2_with (at_make; refine wpList_make_full _ rfl _ _ 48 rfl w.heap.size 70 ii (.int .u64 0) 1 Tryd.underlying48 hii hiz his .i64 .i64 (((n : Int) + 64 - 1) / 64) (((n : Int) + 64 - 1) / 64) (nW n) rfl rfl HQ.out HQ.out (by rw [hib]; omega) (by unfold maxLen; omega) (Nat.le_refl _) ?_)
  intro W1 ho1 hg1
  have k1 : Below w.heap.size w W1 := (Below.refl _ w).grown hg1 (Nat.le_refl _) (fun k e => by cases e)
  obtain ⟨_, hlt⟩ := owns_block ho1 w.heap.size rfl
  rw [show (madeCells #[Value.int IntKind.u64 0] (nW n)).toList = intVals .u64 (List.replicate (nW n) 0) by rw [made_one]; simp [intVals]] at ho1
  clear hg1
  go_wp2_with fail
  go_ret2
  refine ⟨_, rfl, ⟨k1.size, by simp, Nat.le_refl _, .slice (some ⟨w.heap.size, 0, none⟩) (nW n) (nW n), ?_, ?_, fun e => by simp only [Value.ownBlock, Option.some.injEq] at e; omega, fun g e => by simp only [Value.ownBlock, Option.some.injEq] at e; simp; omega⟩, k1.alloc k1.size _⟩
  · have := Blk.new W1 #[.int .i64 n, .slice (some ⟨w.heap.size, 0, none⟩) (nW n) (nW n), .bool true] 50
    simpa using this
  · rw [List.length_replicate, wdsL_zero]
    exact owns_below ho1 ((Below.refl _ W1).alloc (Nat.le_refl _) _) (Nat.le_refl _)
theorem Has_none {w : World} {p : Option Addr} (h : NoMk w p) (i : Int) : Calls Tryd.prog 21 #[.pointer p, .int .i64 i] w fun e w' => e = .returned (.bool false) ∧ Below w.heap.size w w' := by
  go_enter Tryd.func21, Tryd.ntmps21
  go_wp2_with fail
  refine wp_region_after w.heap.size (by kernel_rfl) (by kernel_rfl) ?_
  repeat (first | go_big_quiet_step (first | (go_at_call 33; exact after_same (none_none (h.step (After.below _)))) | fail))
  refine wpQuiet_nil ?_
  rintro W ⟨xx, hx⟩
  have k : Below w.heap.size w W := by rw [hx]; exact xx.2
  clear hx xx
  go_wp2_with fail
  go_ret
  exact ⟨rfl, k⟩
/-- What a place holds. -/
def hasB (L : List Bool) (i : Int) : Bool := inI L.length i && L.getD i.toNat false
theorem Has_ok {lo hi : Nat} {w : World} {s : Nat} {L : List Bool} (h : MkAt lo hi w s L) (hl : L.length ≤ 4096) (i : Int) : Calls Tryd.prog 21 #[.pointer (some ⟨s, 0, none⟩), .int .i64 i] w fun e w' => e = .returned (.bool (hasB L i)) ∧ Below w.heap.size w w' := by
  obtain ⟨a, cap, c0, _, c2, _⟩ := h.open
  have hlt := h.lt
  cases hi9 : inI L.length i with
  | false =>
    have e1 : hasB L i = false := by unfold hasB; rw [hi9]; rfl
    rw [e1]
    have HH : ∀ W, Calls Tryd.prog 43 #[.int .i64 L.length, .int .i64 i] W fun e w' => e = .returned (.bool false) ∧ W = w' := fun W => by have := has_calls L.length i W; rwa [hi9] at this
    clear hi9 e1
    go_enter Tryd.func21, Tryd.ntmps21
    go_wp2_with fail
    refine wp_region_after w.heap.size (by kernel_rfl) (by kernel_rfl) ?_
    have hc0 : ∀ x : After w.heap.size w, x.1.cell? ⟨s, 0, none⟩ = some (.int .i64 L.length) := fun x => x.cell c0 hlt
    repeat (first | go_big_quiet_step (first | (go_at_call 33; exact after_same (none_live (h.step (After.below _)))) | (go_at_call 43; exact after_same (HH _))))
    refine wpQuiet_nil ?_
    rintro W ⟨xx, hx⟩
    have k : Below w.heap.size w W := by rw [hx]; exact xx.2
    clear hx xx
    go_wp2_with fail
    go_ret
    exact ⟨rfl, k⟩
  | true =>
    obtain ⟨k, rfl, hk⟩ := inI_true hi9
    obtain ⟨b, off, cap', c1, q, hb⟩ := h.word k hk
    have hh := h.2.2.1
    have HH : ∀ W, Calls Tryd.prog 43 #[.int .i64 L.length, .int .i64 k] W fun e w' => e = .returned (.bool true) ∧ W = w' := fun W => by have := has_calls L.length k W; rwa [hi9] at this
    have hbit := bit_and L k
    have e1 : hasB L k = L.getD k false := by unfold hasB; rw [hi9, Int.toNat_natCast]; simp
    rw [e1]
    obtain ⟨wd, hwd⟩ : ∃ wd : Int, ((wdL L (k / 64) : Nat) : Int) = wd := ⟨_, rfl⟩
    obtain ⟨d, hd⟩ : ∃ d, L.getD k false = d := ⟨_, rfl⟩
    rw [hwd] at q hbit
    rw [hd] at hbit ⊢
    obtain ⟨kq, hkq⟩ : ∃ kq, k / 64 = kq := ⟨_, rfl⟩
    obtain ⟨kr, hkr⟩ : ∃ kr, k % 64 = kr := ⟨_, rfl⟩
    have hkq1 : kq < nW L.length := by unfold nW; omega
    have hkr1 : kr < 64 := by omega
    have HS : ∀ W, Calls Tryd.prog 40 #[.int .i64 k] W fun e w' => e = .returned (.agg #[.int .i64 (kq : Int), .int .i64 (kr : Int)]) ∧ Below W.heap.size W w' := fun W => by have := spot_ok k (by omega) W; rwa [hkq, hkr] at this
    rw [hkq] at q
    rw [hkr] at hbit
    have HB := Lib.hid (show (bits .and .u64 (wd / 2 ^ kr) 1 == 1) = d by rw [hbit]; cases d <;> rfl)
    have x0 := run_ix0
    have x1 := run_ix1
    clear hi9 e1 hwd hd hkq hkr hbit
    have j0 : (0 : Int) ≤ kq := by omega
    have j1 : (kq : Int) < (nW L.length : Nat) := by omega
    have j2 : (0 : Int) ≤ kr := by omega
    have j3 : (kr : Int) < 64 := by omega
    go_enter Tryd.func21, Tryd.ntmps21
    go_wp2_with fail
    refine wp_region_after w.heap.size (by kernel_rfl) (by kernel_rfl) ?_
    have hc0 : ∀ x : After w.heap.size w, x.1.cell? ⟨s, 0, none⟩ = some (.int .i64 L.length) := fun x => x.cell c0 hlt
    have hc1 : ∀ x : After w.heap.size w, x.1.cell? ⟨s, 1, none⟩ = some (.slice (some ⟨b, off, none⟩) (nW L.length) cap') := fun x => x.cell c1 hlt
    have hc2 : ∀ x : After w.heap.size w, x.1.cell? ⟨b, off + kq, none⟩ = some (.int .u64 wd) := fun x => x.cell q (by omega)
    repeat (first | go_big_quiet_step (first | (go_at_call 33; exact after_same (none_live (h.step (After.below _)))) | (go_at_call 43; exact after_same (HH _)) | (go_at_call 40; exact after_call (Nat.le_refl _) (HS _))))
    rw [HB.out]
    refine wpQuiet_nil ?_
    rintro W ⟨xx, hx⟩
    have k9 : Below w.heap.size w W := by rw [hx]; exact xx.2
    clear hx xx
    go_wp2_with fail
    go_ret
    exact ⟨rfl, k9⟩
end Go.Proofs.YtbkegknfmcanaaaDoor
