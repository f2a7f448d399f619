/-
  Package pinfoldlaw14: num, works; StateMays. No condition.
-/
import Derived.Test.YtdhbhjkfcpglbaaDoorStF
namespace Go.Proofs.YtdhbhjkfcpglbaaDoor
open Go.RowKit
attribute [local go_sem] Oper.semAt_some
set_option maxHeartbeats 8000000
set_option maxRecDepth 8000

theorem num_calls (n : Int) (w : World) : Calls Tryd.prog 14 #[.int .i64 n] w fun e w' => e = .returned (.int .i64 n) ∧ w = w' := by
  go_enter Tryd.func14, Tryd.ntmps14
  go_wp2_with fail
  go_ret
  exact ⟨rfl, rfl⟩
theorem mv {lo hi : Nat} {w : World} {s : Nat} {l : List Int} (h : ShAt lo hi w s l) (i to v er : Int) (l' : List Int) (hl : l.length < 1000000) (h0 : movVal l i to = v) (h1 : movErr l i to = er) (h2 : movL l i to = l') :
    Calls Tryd.prog 16 #[.pointer (some ⟨s, 0, none⟩), .int .i64 i, .int .i64 to] w fun e w' => e = .returned (.tuple #[.int .i64 v, .int .i64 er]) ∧ ShAt lo hi w' s l' ∧ Tur lo hi w w' := by
  subst h0 h1 h2
  exact Move_ok h hl i to
theorem works_ok (w : World) : Calls Tryd.prog 12 #[] w fun e w' => e = .returned (.bool true) ∧ Below w.heap.size w w' := by
  go_enter Tryd.func12, Tryd.ntmps12
  go_wp2_with fail
  refine (New_ok 2 w (by decide)).mono ?_; rintro e w1 ⟨s, rfl, hS, k⟩
  obtain ⟨hi, hhi⟩ : ∃ hi, w1.heap.size = hi := ⟨_, rfl⟩
  rw [hhi] at hS
  clear hhi
  go_wp2_with fail
  refine (mv hS 0 1 0 0 [1, 0] (by decide) (by decide) (by decide) (by decide)).mono ?_; rintro e w1 ⟨rfl, hS, hT⟩
  replace k := k.trans (hT.below (Nat.le_refl _) k.size)
  clear hT
  go_wp2_with fail
  refine (mv hS 0 2 1 0 [2, 0] (by decide) (by decide) (by decide) (by decide)).mono ?_; rintro e w1 ⟨rfl, hS, hT⟩
  replace k := k.trans (hT.below (Nat.le_refl _) k.size)
  clear hT
  go_wp2_with fail
  refine (mv hS 1 2 0 240 [2, 0] (by decide) (by decide) (by decide) (by decide)).mono ?_; rintro e w1 ⟨rfl, hS, hT⟩
  replace k := k.trans (hT.below (Nat.le_refl _) k.size)
  clear hT
  go_wp2_with fail
  refine (Text_ok hS (by decide) (by decide)).mono ?_; rintro e w1 ⟨rfl, h⟩
  replace k := k.trans (h.mono k.size)
  replace hS := hS.step h
  clear h
  rw [show txtL [2, 0] = [108, 102] from rfl]
  go_wp2_with fail
  refine (mv hS 0 4 2 0 [4, 0] (by decide) (by decide) (by decide) (by decide)).mono ?_; rintro e w1 ⟨rfl, hS, hT⟩
  replace k := k.trans (hT.below (Nat.le_refl _) k.size)
  clear hT
  go_wp2_with fail
  refine (mv hS 0 0 0 240 [4, 0] (by decide) (by decide) (by decide) (by decide)).mono ?_; rintro e w1 ⟨rfl, hS, hT⟩
  replace k := k.trans (hT.below (Nat.le_refl _) k.size)
  clear hT
  go_wp2_with fail
  refine (Count_ok hS (by decide) 4).mono ?_; rintro e w1 ⟨rfl, h⟩
  replace k := k.trans (h.mono k.size)
  replace hS := hS.step h
  clear h
  rw [show cntI [4, 0] 4 = 1 from rfl]
  go_wp2_with fail
  refine (mv hS 2 1 0 4 [4, 0] (by decide) (by decide) (by decide) (by decide)).mono ?_; rintro e w1 ⟨rfl, hS, hT⟩
  replace k := k.trans (hT.below (Nat.le_refl _) k.size)
  clear hT
  go_wp2_with fail
  refine (mv hS 0 9 0 2 [4, 0] (by decide) (by decide) (by decide) (by decide)).mono ?_; rintro e w1 ⟨rfl, hS, hT⟩
  replace k := k.trans (hT.below (Nat.le_refl _) k.size)
  clear hT
  go_wp2_with fail
  refine (Parse_no ⟨#[102, 120]⟩ _ (by decide) (by decide)).mono ?_; rintro e w1 ⟨rfl, h⟩
  replace k := k.trans (h.mono k.size)
  clear h
  go_wp2_with fail
  refine (num_calls _ _).mono ?_; rintro e _ ⟨rfl, rfl⟩
  go_wp2_with fail
  refine (num_calls _ _).mono ?_; rintro e _ ⟨rfl, rfl⟩
  go_wp2_with fail
  refine (num_calls _ _).mono ?_; rintro e _ ⟨rfl, rfl⟩
  go_wp2_with fail
  refine (num_calls _ _).mono ?_; rintro e _ ⟨rfl, rfl⟩
  go_wp2_with fail
  refine (num_calls _ _).mono ?_; rintro e _ ⟨rfl, rfl⟩
  go_wp2_with fail
  refine (num_calls _ _).mono ?_; rintro e _ ⟨rfl, rfl⟩
  go_wp2_with fail
  refine (num_calls _ _).mono ?_; rintro e _ ⟨rfl, rfl⟩
  go_wp2_with fail
  refine (num_calls _ _).mono ?_; rintro e _ ⟨rfl, rfl⟩
  go_wp2_with fail
  refine (num_calls _ _).mono ?_; rintro e _ ⟨rfl, rfl⟩
  go_wp2_with fail
  refine (Name_ok 3 _).mono ?_; rintro e w1 ⟨rfl, h⟩
  replace k := k.trans (h.mono k.size)
  clear h
  rw [show nameS 3 = ⟨#[104, 101, 108, 100]⟩ from rfl]
  go_wp2_with fail
  go_ret
  exact ⟨rfl, k⟩
theorem mays_body (a b : Int) (w : World) : Calls Tryd.prog 3 #[.int .i64 a, .int .i64 b] w fun e w' => e = .returned (.bool true) ∧ Below w.heap.size w w' := by
  go_enter Tryd.func3, Tryd.ntmps3
  go_wp2_with fail
  refine (May_ok a b w).mono ?_; rintro e w1 ⟨rfl, k⟩
  obtain ⟨st, hst⟩ : ∃ st, nameS a = st := ⟨_, rfl⟩
  have HN := fun w => Name_ok a w
  have HR := fun w => rName_ok a w
  rw [hst] at HN HR
  clear hst
  obtain ⟨m, hm⟩ : ∃ m, mayI a b = m := ⟨_, rfl⟩
  have HM := fun w => rMay_calls a b w
  rw [hm] at HM ⊢
  clear hm
  cases hb : isSt b with
  | false =>
    have HB := Lib.hid hb
    clear hb
    go_wp2_with fail
    refine (rState_calls _ _).mono ?_; rintro e _ ⟨rfl, rfl⟩
    rw [HB.out]
    go_wp2_with fail
    refine (HN _).mono ?_; rintro e w1 ⟨rfl, h⟩
    replace k := k.trans (h.mono k.size)
    clear h
    go_wp2_with fail
    refine (HR _).mono ?_; rintro e w1 ⟨rfl, h⟩
    replace k := k.trans (h.mono k.size)
    clear h
    go_wp2_with fail
    refine (works_ok _).mono ?_; rintro e w1 ⟨rfl, h⟩
    replace k := k.trans (h.mono k.size)
    clear h
    go_wp2_with fail
    go_ret
    exact ⟨rfl, k⟩
  | true =>
    have HB := Lib.hid hb
    clear hb
    go_wp2_with fail
    refine (rState_calls _ _).mono ?_; rintro e _ ⟨rfl, rfl⟩
    rw [HB.out]
    go_wp2_with fail
    refine (HM _).mono ?_; rintro e _ ⟨rfl, rfl⟩
    go_wp2_with fail
    refine (HN _).mono ?_; rintro e w1 ⟨rfl, h⟩
    replace k := k.trans (h.mono k.size)
    clear h
    go_wp2_with fail
    refine (HR _).mono ?_; rintro e w1 ⟨rfl, h⟩
    replace k := k.trans (h.mono k.size)
    clear h
    go_wp2_with fail
    refine (works_ok _).mono ?_; rintro e w1 ⟨rfl, h⟩
    replace k := k.trans (h.mono k.size)
    clear h
    go_wp2_with fail
    go_ret
    exact ⟨rfl, k⟩
end Go.Proofs.YtdhbhjkfcpglbaaDoor
