/-
  Package cache: the question for a shelf; On; New. Conditions: rows of fewer than a million.
-/
import Derived.Test.YtkilmppmghkigaaCaC
namespace Go.Proofs.Ytkilmppmghkigaa
open Go.RowKit
attribute [local go_sem] Oper.semAt_some
set_option maxHeartbeats 4000000
set_option maxRecDepth 4000

def shAsks (s p1 p2 : Nat) (t c : Int) : List Ask :=
  [⟨44, #[.pointer (some ⟨s, 0, none⟩)], #[], 1, false⟩, ⟨53, #[], #[.pointer (some ⟨p1, 0, none⟩), .pointer (some ⟨p1 + 1, 0, none⟩)], 2, badIn t 4⟩,
   ⟨53, #[], #[.pointer (some ⟨p2, 0, none⟩), .pointer (some ⟨p2 + 1, 0, none⟩)], 2, badIn c 8⟩]
def shErr (t c : Int) : Int := if badIn t 4 = true then 2 else if badIn c 8 = true then 2 else 0
theorem shErr_eq (s p1 p2 : Nat) (t c : Int) : firstErr (shAsks s p1 p2 t c) = shErr t c := by simp [firstErr, shAsks, shErr]
theorem sh_answers {w : World} {s p1 p2 : Nat} {L : Nat → List Int} {t c : Int} (hS : ShAt w s L) (h1 : Blk w p1 #[.int .i64 t] 3) (h2 : Blk w (p1 + 1) #[.int .i64 4] 3) (h3 : Blk w p2 #[.int .i64 c] 3) (h4 : Blk w (p2 + 1) #[.int .i64 8] 3) :
    Answers w (shAsks s p1 p2 t c) := by
  constructor
  · intro i h args W
    match i, h with
    | 0, _ => exact enters_of Try.func44 (by kernel_rfl) rfl args W
    | 1, _ => exact enters_of Try.func53 (by kernel_rfl) rfl args W
    | 2, _ => exact enters_of Try.func53 (by kernel_rfl) rfl args W
  · intro i h _ W k
    match i, h with
    | 0, _ => exact none_live (hS.step k)
    | 1, _ => exact in1_calls t 4 p1 (p1 + 1) W ((h1.below k h1.lt).cell 0 rfl) ((h2.below k h2.lt).cell 0 rfl)
    | 2, _ => exact in1_calls c 8 p2 (p2 + 1) W ((h3.below k h3.lt).cell 0 rfl) ((h4.below k h4.lt).cell 0 rfl)
theorem shelf_calls {w : World} {s : Nat} {L : Nat → List Int} (hS : ShAt w s L) (t c : Int) : Calls Try.prog 33 #[.pointer (some ⟨s, 0, none⟩), .int .i64 t, .int .i64 c] w fun e w' => e = .returned (.int .i64 (shErr t c)) ∧ Below w.heap.size w w' := by
  go_enter Try.func33, Try.ntmps33
  go_wp2_with fail
  refine (is_calls _ _).mono ?_; rintro e w1 ⟨rfl, k1⟩
  go_wp2_with fail
  refine (in_calls t 4 2 _).mono ?_; rintro e w2 ⟨rfl, a1, a2, j2⟩
  have k2 := k1.trans (j2.mono k1.size)
  go_wp2_with fail
  refine (in_calls c 8 2 _).mono ?_; rintro e w3 ⟨rfl, a3, a4, j3⟩
  have k3 := k2.trans (j3.mono k2.size)
  replace a1 := a1.below j3 a1.lt
  replace a2 := a2.below j3 a2.lt
  go_wp2_with fail
  have jx : Below w3.heap.size w3 (w3.alloc (.cells (askList (shAsks s w1.heap.size w2.heap.size t c)).toArray 66)) := (Below.refl _ w3).alloc (Nat.le_refl _) _
  have k4 := k3.trans (jx.mono k3.size)
  have hrow : AskRow (w3.alloc (.cells (askList (shAsks s w1.heap.size w2.heap.size t c)).toArray 66)) w3.heap.size (shAsks s w1.heap.size w2.heap.size t c) := askRow_of (Blk.new w3 _ _)
  have hans := sh_answers (t := t) (c := c) (hS.step k4) (a1.below jx a1.lt) (a2.below jx a2.lt) (a3.below jx a3.lt) (a4.below jx a4.lt)
  refine (asked_ok _ w3.heap.size 3 3 _ rfl (by simp [shAsks]) (Lib.hid hrow) (Lib.hid hans)).mono ?_; rintro e w4 ⟨rfl, h4⟩
  rw [shErr_eq]
  go_wp2_with fail
  go_ret
  exact ⟨rfl, k4.trans (h4.mono k4.size)⟩
theorem shErr_zero {t c : Int} (h : shErr t c = 0) : (0 ≤ t ∧ t < 4) ∧ 0 ≤ c ∧ c < 8 := by
  unfold shErr badIn at h
  by_cases h1 : t < 0 ∨ 4 ≤ t
  · simp [h1] at h
  · by_cases h2 : c < 0 ∨ 8 ≤ c
    · simp [h1, h2] at h
    · omega
theorem shErr_two {t c : Int} (h : shErr t c ≠ 0) : shErr t c = 2 := by
  unfold shErr at h ⊢
  by_cases h1 : badIn t 4 = true
  · simp [h1]
  · by_cases h2 : badIn c 8 = true
    · simp [h1, h2]
    · simp [h1, h2] at h
/-- What is on a shelf, as it is told. -/
def onL (L : Nat → List Int) (t c : Int) : List Int := if shErr t c = 0 then L (t.toNat * 8 + c.toNat) else []
theorem On_ok {w : World} {s : Nat} {L : Nat → List Int} (hS : ShAt w s L) (hL : ∀ i, (L i).length < 1000000) (t c : Int) : Calls Try.prog 15 #[.pointer (some ⟨s, 0, none⟩), .int .i64 t, .int .i64 c] w fun e w' =>
    ∃ v, e = .returned v ∧ w'.ownsRow w.heap.size 3 1 v (onL L t c).length (intVals .i64 (onL L t c)) ∧ Below w.heap.size w w' := by
  by_cases h0 : shErr t c = 0
  · obtain ⟨⟨t0, t1⟩, c0, c1⟩ := shErr_zero h0
    obtain ⟨a, rfl⟩ : ∃ a : Nat, t = a := ⟨t.toNat, by omega⟩
    obtain ⟨b, rfl⟩ : ∃ b : Nat, c = b := ⟨c.toNat, by omega⟩
    have hO : onL L a b = L (a * 8 + b) := by unfold onL; rw [if_pos h0]; simp
    rw [hO]
    have HL := Lib.hid (hL (a * 8 + b))
    clear hO hL
    go_enter Try.func15, Try.ntmps15
    go_wp2_with fail
    refine (shelf_calls hS a b).mono ?_; rintro e w1 ⟨rfl, k1⟩
    rw [h0]
    have hS1 := hS.step k1
    go_wp2_with fail
    refine (on_calls s a b (by omega) (by omega) w1).mono ?_; rintro e _ ⟨rfl, rfl⟩
    obtain ⟨v, q1, _, hr⟩ := hS1.row (a * 8 + b) (by omega)
    have HR := Lib.hid hr
    obtain ⟨sa, sc, rfl, _⟩ := hr
    go_wp2_with fail
    refine (clone_ok _ _ w1.heap.size w1 (Nat.le_refl _) HL.out HR.out).mono ?_; rintro e w2 ⟨v, rfl, ho, k2⟩
    go_wp2_with fail
    go_ret
    exact ⟨v, rfl, owns_weaken ho k1.size, k1.trans (k2.mono k1.size)⟩
  · have hO : onL L t c = [] := by unfold onL; rw [if_neg h0]
    rw [hO]
    have h2 := shErr_two h0
    clear hO
    go_enter Try.func15, Try.ntmps15
    go_wp2_with fail
    refine (shelf_calls hS t c).mono ?_; rintro e w1 ⟨rfl, k1⟩
    rw [h2]
    go_wp2_with fail
    go_ret
    exact ⟨_, rfl, ⟨rfl, .inl ⟨rfl, rfl⟩⟩, k1⟩
theorem New_calls (w : World) : Calls Try.prog 9 #[] w fun e w' => e = .returned (.pointer (some ⟨w.heap.size, 0, none⟩)) ∧ ShAt w' w.heap.size (fun _ => []) ∧ Below w.heap.size w w' := by
  go_enter Try.func9, Try.ntmps9
  go_wp2_with fail
  go_ret
  refine ⟨rfl, ⟨List.replicate 32 (.slice none 0 0), by simp, Blk.new w _ _, fun i hi => ?_⟩, (Below.refl _ w).alloc (Nat.le_refl _) _⟩
  rw [List.getElem_replicate]
  exact RowAt.nil _ _
end Go.Proofs.Ytkilmppmghkigaa
