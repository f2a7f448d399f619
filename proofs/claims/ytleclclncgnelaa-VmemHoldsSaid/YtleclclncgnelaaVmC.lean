/-
  Package vmem: whether an owner reaches a page; what is wrong with a reach. Conditions: books in order.
-/
import Derived.Test.YtleclclncgnelaaVmB
import Derived.Test.YtleclclncgnelaaBFrN
namespace Go.Proofs.Ytleclclncgnelaa
open Go.RowKit
attribute [local go_sem] Oper.semAt_some
set_option maxHeartbeats 2000000
set_option maxRecDepth 4000

/-- Does an owner reach a page? -/
def rchB (D : Tb) (owner may n : Int) : Bool := hasR D n && (decide (owner = -2) || (decide ((getE D n).o = owner) && decide (may ≤ (getE D n).m)))
def badMany (n : Int) : Bool := !(decide (1 ≤ n) && decide (n ≤ 16777216))
def badWho (o : Int) : Bool := !(decide (o = -2) || (decide (0 ≤ o) && decide (o < 64)))
/-- What is wrong with a reach. -/
def rchE (D : Tb) (owner at_ many may : Int) : Int :=
  if badMany many = true then 2 else if badWho owner = true then 2 else if 16777216 - many < at_ then 4 else if ((partsL at_ many).all fun x => rchB D owner may x.1) = true then 0 else 190
theorem reaches_ok (k : Mb) (owner may : Int) (w : World) : Calls Try.prog 79 #[.pointer (some ⟨k.b, 0, none⟩), .int .i64 owner, .int .i64 may] w fun e w' =>
    e = .returned (.func (.func 84) #[] #[.pointer (some ⟨w.heap.size, 0, none⟩), .pointer (some ⟨w.heap.size + 1, 0, none⟩), .pointer (some ⟨w.heap.size + 1 + 1, 0, none⟩)]) ∧
    (Blk w' w.heap.size #[.pointer (some ⟨k.b, 0, none⟩)] 25 ∧ Blk w' (w.heap.size + 1) #[.int .i64 owner] 3 ∧ Blk w' (w.heap.size + 1 + 1) #[.int .i64 may] 33) ∧ Below w.heap.size w w' := by
  go_enter Try.func79, Try.ntmps79
  go_wp2_with fail
  go_ret
  exact ⟨rfl, ⟨((Blk.new w _ _).alloc _).alloc _, (Blk.newAt _ _ _ (by simp)).alloc _, Blk.newAt _ _ _ (by simp)⟩, (((Below.refl _ w).alloc (Nat.le_refl _) _).alloc (by simp) _).alloc (by simp; omega) _⟩
theorem reaches1_ok {w : World} {k : Mb} {s : Ms} (h : MemAt w k s) {p1 p2 p3 : Nat} {owner may : Int} (h1 : w.cell? ⟨p1, 0, none⟩ = some (.pointer (some ⟨k.b, 0, none⟩))) (h2 : w.cell? ⟨p2, 0, none⟩ = some (.int .i64 owner)) (h3 : w.cell? ⟨p3, 0, none⟩ = some (.int .i64 may)) (n : Int) :
    Calls Try.prog 84 #[.int .i64 n, .pointer (some ⟨p1, 0, none⟩), .pointer (some ⟨p2, 0, none⟩), .pointer (some ⟨p3, 0, none⟩)] w fun e w' => e = .returned (.bool (rchB s.D owner may n)) ∧ Below w.heap.size w w' := by
  obtain ⟨c0, c1⟩ := h.cells
  have l2 := World.block_lt_of_cell? w _ h2
  have l3 := World.block_lt_of_cell? w _ h3
  obtain ⟨r, hr⟩ : ∃ r, rchB s.D owner may n = r := ⟨_, rfl⟩
  rw [hr]
  unfold rchB at hr
  have HR := Lib.hid hr
  clear hr
  go_enter Try.func84, Try.ntmps84
  go_wp2_with fail
  refine (Get_ok h.tb n).mono ?_; rintro e w1 ⟨rfl, k1⟩
  have q2 : w1.cell? ⟨p2, 0, none⟩ = some (.int .i64 owner) := (k1.cell (p := ⟨p2, 0, none⟩) l2).trans h2
  have q3 : w1.cell? ⟨p3, 0, none⟩ = some (.int .i64 may) := (k1.cell (p := ⟨p3, 0, none⟩) l3).trans h3
  have m2 : p2 < w1.heap.size := Nat.lt_of_lt_of_le l2 k1.size
  have m3 : p3 < w1.heap.size := Nat.lt_of_lt_of_le l3 k1.size
  unfold encE
  obtain ⟨x, hx⟩ : ∃ x, getE s.D n = x := ⟨_, rfl⟩
  rw [hx] at HR ⊢
  obtain ⟨xo, xm, xf⟩ := x
  dsimp only
  obtain ⟨w2, hw2⟩ : ∃ w2, w1.alloc (.cells #[.int .i64 xo, .int .i64 xm, .int .i64 xf] 55) = w2 := ⟨_, rfl⟩
  have k2 : Below w1.heap.size w1 w2 := by rw [← hw2]; exact (Below.refl _ w1).alloc (Nat.le_refl _) _
  have hX : Blk w2 w1.heap.size #[.int .i64 xo, .int .i64 xm, .int .i64 xf] 55 := by rw [← hw2]; exact Blk.new w1 _ _
  have x0 := hX.cell 0 rfl
  have x1 := hX.cell 1 rfl
  have r2 : w2.cell? ⟨p2, 0, none⟩ = some (.int .i64 owner) := (k2.cell (p := ⟨p2, 0, none⟩) m2).trans q2
  have r3 : w2.cell? ⟨p3, 0, none⟩ = some (.int .i64 may) := (k2.cell (p := ⟨p3, 0, none⟩) m3).trans q3
  have kk := k1.trans (k2.mono k1.size)
  clear hx h1 h2 h3 q2 q3 c0 c1
  obtain ⟨y, hy⟩ : ∃ y, hasR s.D n = y := ⟨_, rfl⟩
  rw [hy] at HR ⊢
  clear hy
  cases y
  · go_wp2_with fail
    go_ret
    exact ⟨by rw [← HR.out]; rfl, kk⟩
  · by_cases e1 : owner = -2
    · subst e1
      go_wp2_with fail
      go_ret
      exact ⟨by rw [← HR.out]; rfl, kk⟩
    · have e1' : (owner == -2) = false := by simpa using e1
      by_cases e2 : xo = owner
      · subst e2
        by_cases e3 : may ≤ xm
        · go_wp2_with fail
          go_ret
          exact ⟨by rw [← HR.out]; simp; omega, kk⟩
        · go_wp2_with fail
          go_ret
          exact ⟨by rw [← HR.out]; simp; omega, kk⟩
      · have e2' : (xo == owner) = false := by simpa using e2
        go_wp2_with fail
        go_ret
        exact ⟨by rw [← HR.out]; simp; omega, kk⟩
theorem asked1_ok {w : World} {p : Nat} {n : Int} (hp : w.cell? ⟨p, 0, none⟩ = some (.int .i64 n)) : Calls Try.prog 75 #[.pointer (some ⟨p, 0, none⟩)] w fun e w' => e = .returned (.bool (!badMany n)) ∧ Below w.heap.size w w' := by
  unfold badMany
  rw [Bool.not_not]
  by_cases h1 : 1 ≤ n
  · by_cases h2 : n ≤ 16777216
    · go_enter Try.func75, Try.ntmps75
      go_wp2_with fail
      go_ret
      exact ⟨by simp <;> omega, Below.refl _ _⟩
    · go_enter Try.func75, Try.ntmps75
      go_wp2_with fail
      go_ret
      exact ⟨by simp <;> omega, Below.refl _ _⟩
  · go_enter Try.func75, Try.ntmps75
    go_wp2_with fail
    go_ret
    exact ⟨by simp <;> omega, Below.refl _ _⟩
theorem asked2_ok {w : World} {p : Nat} {o : Int} (hp : w.cell? ⟨p, 0, none⟩ = some (.int .i64 o)) : Calls Try.prog 76 #[.pointer (some ⟨p, 0, none⟩)] w fun e w' => e = .returned (.bool (!badWho o)) ∧ Below w.heap.size w w' := by
  unfold badWho
  rw [Bool.not_not]
  by_cases h0 : o = -2
  · subst h0
    go_enter Try.func76, Try.ntmps76
    go_wp2_with fail
    go_ret
    exact ⟨rfl, Below.refl _ _⟩
  · have h0' : (o == -2) = false := by simpa using h0
    have h9 : decide (o = -2) = false := decide_eq_false h0
    by_cases h1 : 0 ≤ o
    · by_cases h2 : o < 64
      · go_enter Try.func76, Try.ntmps76
        go_wp2_with fail
        go_ret
        exact ⟨by simp <;> omega, Below.refl _ _⟩
      · go_enter Try.func76, Try.ntmps76
        go_wp2_with fail
        go_ret
        exact ⟨by simp <;> omega, Below.refl _ _⟩
    · go_enter Try.func76, Try.ntmps76
      go_wp2_with fail
      go_ret
      exact ⟨by simp <;> omega, Below.refl _ _⟩
theorem asked3_ok {w : World} {p q : Nat} {a n : Int} (hp : w.cell? ⟨p, 0, none⟩ = some (.int .u32 a)) (hq : w.cell? ⟨q, 0, none⟩ = some (.int .i64 n)) (h0 : 0 ≤ a) (h1 : a < 4294967296) (h2 : 1 ≤ n) (h3 : n ≤ 16777216) :
    Calls Try.prog 77 #[.pointer (some ⟨p, 0, none⟩), .pointer (some ⟨q, 0, none⟩)] w fun e w' => e = .returned (.bool (!decide (16777216 - n < a))) ∧ Below w.heap.size w w' := by
  have e1 : IntKind.i64.wrap a = a := IntWalk.i64_in _ (by omega)
  obtain ⟨r, hr⟩ : ∃ r, (!decide (16777216 - n < a)) = r := ⟨_, rfl⟩
  rw [hr]
  have HR := Lib.hid hr
  clear hr
  by_cases h4 : 16777216 - n < a
  · go_enter Try.func77, Try.ntmps77
    have h5 : decide (a ≤ 16777216 - n) = false := by simp; omega
    go_wp2_with fail
    go_ret
    exact ⟨by rw [← HR.out]; simp; omega, Below.refl _ _⟩
  · go_enter Try.func77, Try.ntmps77
    have h5 : decide (a ≤ 16777216 - n) = true := by simp; omega
    go_wp2_with fail
    go_ret
    exact ⟨by rw [← HR.out]; simp; omega, Below.refl _ _⟩
end Go.Proofs.Ytleclclncgnelaa
