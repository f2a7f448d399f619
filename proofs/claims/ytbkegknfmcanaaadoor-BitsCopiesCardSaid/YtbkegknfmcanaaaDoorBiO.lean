/-
  Package pinfoldlaw04: num, works. No condition.
-/
import Derived.Test.YtbkegknfmcanaaaDoorBiN
namespace Go.Proofs.YtbkegknfmcanaaaDoor
open Go.RowKit
attribute [local go_sem] Oper.semAt_some
set_option maxHeartbeats 8000000
set_option maxRecDepth 8000

theorem num_calls (n : Int) (w : World) : Calls Tryd.prog 11 #[.int .i64 n] w fun e w' => e = .returned (.int .i64 n) ∧ w = w' := by
  go_enter Tryd.func11, Tryd.ntmps11
  go_wp2_with fail
  go_ret
  exact ⟨rfl, rfl⟩
/-- Marks made since a world. -/
structure Run (B : Nat) (w0 wr : World) (lo hi s : Nat) (L : List Bool) : Prop where
  sh : MkAt lo hi wr s L
  bel : Below B w0 wr
  low : B ≤ lo
  big : B ≤ wr.heap.size
  few : L.length ≤ 4096
theorem Run.v {B : Nat} {w0 wr : World} {lo hi s : Nat} {L : List Bool} (h : Run B w0 wr lo hi s L) : MkV wr (some ⟨s, 0, none⟩) L := .inr ⟨lo, hi, s, rfl, h.sh, h.few⟩
theorem Run.step {B : Nat} {w0 wr w1 : World} {lo hi s : Nat} {L : List Bool} (h : Run B w0 wr lo hi s L) (k : Below wr.heap.size wr w1) : Run B w0 w1 lo hi s L :=
  ⟨h.sh.step k, h.bel.trans (k.mono h.big), h.low, Nat.le_trans h.big k.size, h.few⟩
theorem Run.to {B : Nat} {w0 wr w1 : World} {lo hi s : Nat} {L L' : List Bool} (h : Run B w0 wr lo hi s L) (h1 : MkAt lo hi w1 s L') (hl : L'.length = L.length) (k : Tur lo hi wr w1) : Run B w0 w1 lo hi s L' :=
  ⟨h1, h.bel.trans (k.below h.low h.big), h.low, Nat.le_trans h.big k.size, by rw [hl]; exact h.few⟩
theorem Run.turned {B : Nat} {w0 W W' : World} {lo hi s a b : Nat} {L : List Bool} (h : Run B w0 W lo hi s L) (k : Tur a b W W') (hB : B ≤ a) (hd : hi ≤ a ∨ b ≤ lo) : Run B w0 W' lo hi s L :=
  ⟨h.sh.turned k hd, h.bel.trans (k.below hB h.big), h.low, Nat.le_trans h.big k.size, h.few⟩
theorem set_at {B : Nat} {w0 W : World} {lo hi s : Nat} {L : List Bool} {k : Nat} {v was : Bool} {L' : List Bool} (h : Run B w0 W lo hi s L) (hk : k < L.length) (h1 : L.getD k false = was) (h2 : L.set k v = L') :
    Calls Tryd.prog 22 #[.pointer (some ⟨s, 0, none⟩), .int .i64 k, .bool v] W fun e w' => e = .returned (.tuple #[.bool was, .int .i64 0]) ∧ Run B w0 w' lo hi s L' ∧ Tur lo hi W w' := by
  subst h1 h2
  exact (Set_ok h.sh h.few k hk v).mono fun e w' ⟨he, k1, k2⟩ => ⟨he, h.to k1 (by simp) k2, k2⟩
theorem nth_ok {B : Nat} {w0 W : World} {lo hi s : Nat} {L : List Bool} {k x : Int} {b t : Bool} (h : Run B w0 W lo hi s L) (hk : k ≤ 9223372036854775807) (h1 : nthV (sucL L 0 b) k = x) (h2 : nthB (sucL L 0 b) k = t) :
    Calls Tryd.prog 12 #[.pointer (some ⟨s, 0, none⟩), .int .i64 k, .bool b] W fun e w' => e = .returned (.tuple #[.int .i64 x, .bool t]) ∧ Run B w0 w' lo hi s L ∧ Below W.heap.size W w' := by
  subst h1 h2
  exact (Nth_ok h.v k b hk).mono fun e w' ⟨he, k1⟩ => ⟨he, h.step k1, k1⟩
theorem next_ok {B : Nat} {w0 W : World} {lo hi s : Nat} {L : List Bool} {f x : Int} {b t : Bool} (h : Run B w0 W lo hi s L) (hk : f ≤ 9223372036854775807) (h1 : nthV (sucL L f b) 0 = x) (h2 : nthB (sucL L f b) 0 = t) :
    Calls Tryd.prog 13 #[.pointer (some ⟨s, 0, none⟩), .int .i64 f, .bool b] W fun e w' => e = .returned (.tuple #[.int .i64 x, .bool t]) ∧ Run B w0 w' lo hi s L ∧ Below W.heap.size W w' := by
  subst h1 h2
  exact (Next_ok h.v f b hk).mono fun e w' ⟨he, k1⟩ => ⟨he, h.step k1, k1⟩
theorem text_ok {B : Nat} {w0 W : World} {lo hi s : Nat} {L : List Bool} {t : ByteArray} (h : Run B w0 W lo hi s L) (h1 : (⟨(txtB L).toArray⟩ : ByteArray) = t) :
    Calls Tryd.prog 19 #[.pointer (some ⟨s, 0, none⟩)] W fun e w' => e = .returned (.string t) ∧ Run B w0 w' lo hi s L ∧ Below W.heap.size W w' := by
  subst h1
  exact (Text_ok h.sh h.few).mono fun e w' ⟨he, k1⟩ => ⟨he, h.step k1, k1⟩
theorem count_ok {B : Nat} {w0 W : World} {lo hi s : Nat} {L : List Bool} {n : Nat} (h : Run B w0 W lo hi s L) (h1 : cntB L L.length = n) :
    Calls Tryd.prog 15 #[.pointer (some ⟨s, 0, none⟩)] W fun e w' => e = .returned (.int .i64 n) ∧ Run B w0 w' lo hi s L ∧ Below W.heap.size W w' := by
  subst h1
  exact (Count_ok h.sh h.few).mono fun e w' ⟨he, k1⟩ => ⟨he, h.step k1, k1⟩
theorem works_ok (w : World) : Calls Tryd.prog 8 #[] w fun e w' => e = .returned (.bool true) ∧ Below w.heap.size w w' := by
  go_enter Tryd.func8, Tryd.ntmps8
  go_wp2_with fail
  refine (New_ok 5 w (by decide)).mono ?_; rintro e w1 ⟨s, rfl, hS, k⟩
  have hR : ∃ lo hi, Run w.heap.size w w1 lo hi s [false, false, false, false, false] := ⟨_, _, hS, k, Nat.le_refl _, k.size, by decide⟩
  obtain ⟨lo, hi, hR⟩ := hR
  clear hS k
  go_wp2_with fail
  refine (set_at (k := 1) (L' := [false, true, false, false, false]) hR (by decide) rfl rfl).mono ?_; rintro e w1 ⟨rfl, hR, _⟩
  go_wp2_with fail
  refine (set_at (k := 4) (L' := [false, true, false, false, true]) hR (by decide) rfl rfl).mono ?_; rintro e w1 ⟨rfl, hR, _⟩
  go_wp2_with fail
  refine (text_ok (t := ⟨#[48, 49, 48, 48, 49]⟩) hR (by decide)).mono ?_; rintro e w1 ⟨rfl, hR, _⟩
  go_wp2_with fail
  refine (count_ok (n := 2) hR (by decide)).mono ?_; rintro e w1 ⟨rfl, hR, _⟩
  go_wp2_with fail
  refine (nth_ok (x := 4) (t := true) hR (by decide) (by decide) (by decide)).mono ?_; rintro e w1 ⟨rfl, hR, _⟩
  go_wp2_with fail
  refine (nth_ok (x := 3) (t := true) hR (by decide) (by decide) (by decide)).mono ?_; rintro e w1 ⟨rfl, hR, _⟩
  go_wp2_with fail
  refine (next_ok (x := 4) (t := true) hR (by decide) (by decide) (by decide)).mono ?_; rintro e w1 ⟨rfl, hR, _⟩
  go_wp2_with fail
  refine (set_at (k := 1) (L' := [false, true, false, false, true]) hR (by decide) rfl rfl).mono ?_; rintro e w1 ⟨rfl, hR, _⟩
  go_wp2_with fail
  refine (Set_no hR.sh 5 true (by decide)).mono ?_; rintro e _ ⟨rfl, rfl⟩
  go_wp2_with fail
  refine (nth_ok (x := 0) (t := false) hR (by decide) (by decide) (by decide)).mono ?_; rintro e w1 ⟨rfl, hR, _⟩
  go_wp2_with fail
  refine (Parse_no ⟨#[48, 49, 50]⟩ _ (by decide) (.inl (by decide))).mono ?_; rintro e w1 ⟨rfl, k⟩
  have hR := hR.step k
  go_wp2_with fail
  refine (num_calls _ _).mono ?_; rintro e _ ⟨rfl, rfl⟩
  go_wp2_with fail
  refine (num_calls _ _).mono ?_; rintro e _ ⟨rfl, rfl⟩
  go_wp2_with fail
  refine (num_calls _ _).mono ?_; rintro e _ ⟨rfl, rfl⟩
  go_wp2_with fail
  refine (num_calls _ _).mono ?_; rintro e _ ⟨rfl, rfl⟩
  go_wp2_with fail
  refine (num_calls _ _).mono ?_; rintro e _ ⟨rfl, rfl⟩
  go_wp2_with fail
  refine (num_calls _ _).mono ?_; rintro e _ ⟨rfl, rfl⟩
  go_wp2_with fail
  go_ret
  exact ⟨rfl, hR.bel⟩
end Go.Proofs.YtbkegknfmcanaaaDoor
