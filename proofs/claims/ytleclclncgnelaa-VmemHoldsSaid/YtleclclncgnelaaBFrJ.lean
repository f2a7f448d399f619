/-
  Package frame: what is wrong with a frame, and so many bytes of it. Conditions: a pool whose books are in order.
-/
import Derived.Test.YtleclclncgnelaaFrI
import Derived.Laws.CopyOwn
namespace Go.Proofs.Ytleclclncgnelaa
open Go.RowKit
attribute [local go_sem] Oper.semAt_some
set_option maxHeartbeats 4000000
set_option maxRecDepth 4000

def thrAsks (b pp pf pa pn : Nat) (many : Int) (F : List Fr) (fr at_ n : Int) : List Ask :=
  [⟨61, #[.pointer (some ⟨b, 0, none⟩)], #[], 1, false⟩, ⟨72, #[], #[.pointer (some ⟨pf, 0, none⟩), .pointer (some ⟨pp, 0, none⟩)], 4, offI many fr⟩,
   ⟨73, #[], #[.pointer (some ⟨pa, 0, none⟩), .pointer (some ⟨pn, 0, none⟩)], 4, badI at_ n⟩,
   ⟨74, #[], #[.pointer (some ⟨pp, 0, none⟩), .pointer (some ⟨pf, 0, none⟩)], 5, !inF F fr⟩]
def thrErr (many : Int) (F : List Fr) (fr at_ n : Int) : Int := if offI many fr = true then 4 else if badI at_ n = true then 4 else if inF F fr = true then 0 else 5
theorem thrErr_eq (b pp pf pa pn : Nat) (many : Int) (F : List Fr) (fr at_ n : Int) : firstErr (thrAsks b pp pf pa pn many F fr at_ n) = thrErr many F fr at_ n := by
  cases h : inF F fr <;> simp [firstErr, thrAsks, thrErr, h]
theorem thr_answers {w : World} {b bf br pp pf pa pn : Nat} {fr at_ n many : Int} {F : List Fr} {R : List (Int × Int)} (hpo : PoolAt w b bf br many F R) (h256 : ∀ x ∈ F, x.2.2.length = 256) (hp : w.cell? ⟨pp, 0, none⟩ = some (.pointer (some ⟨b, 0, none⟩)))
    (hf : w.cell? ⟨pf, 0, none⟩ = some (.int .i64 fr)) (ha : w.cell? ⟨pa, 0, none⟩ = some (.int .i64 at_)) (hn : w.cell? ⟨pn, 0, none⟩ = some (.int .i64 n)) : Answers w (thrAsks b pp pf pa pn many F fr at_ n) := by
  constructor
  · intro i h args W
    match i, h with
    | 0, _ => exact enters_of Try.func61 (by kernel_rfl) rfl args W
    | 1, _ => exact enters_of Try.func72 (by kernel_rfl) rfl args W
    | 2, _ => exact enters_of Try.func73 (by kernel_rfl) rfl args W
    | 3, _ => exact enters_of Try.func74 (by kernel_rfl) rfl args W
  · intro i h W k
    have tp := (k.cell (p := ⟨pp, 0, none⟩) (World.block_lt_of_cell? w _ hp)).trans hp
    have tf := (k.cell (p := ⟨pf, 0, none⟩) (World.block_lt_of_cell? w _ hf)).trans hf
    have ta := (k.cell (p := ⟨pa, 0, none⟩) (World.block_lt_of_cell? w _ ha)).trans ha
    have tn := (k.cell (p := ⟨pn, 0, none⟩) (World.block_lt_of_cell? w _ hn)).trans hn
    match i, h with
    | 0, _ => exact none_live (hpo.step k)
    | 1, _ => exact thr1_calls (hpo.step k) tf tp
    | 2, _ => exact thr2_calls ta tn
    | 3, _ => exact thr3_calls (hpo.step k) h256 tf tp
theorem there_calls {w : World} {b bf br : Nat} {many : Int} {F : List Fr} {R : List (Int × Int)} (hpo : PoolAt w b bf br many F R) (h256 : ∀ x ∈ F, x.2.2.length = 256) (fr at_ n : Int) :
    Calls Try.prog 53 #[.pointer (some ⟨b, 0, none⟩), .int .i64 fr, .int .i64 at_, .int .i64 n] w fun e w' => e = .returned (.int .i64 (thrErr many F fr at_ n)) ∧ Below w.heap.size w w' := by
  obtain ⟨w0, hw0⟩ : ∃ w0, (((w.alloc (.cells #[.pointer (some ⟨b, 0, none⟩)] 45)).alloc (.cells #[.int .i64 fr] 3)).alloc (.cells #[.int .i64 at_] 3)).alloc (.cells #[.int .i64 n] 3) = w0 := ⟨_, rfl⟩
  have hA : Blk w0 w.heap.size #[.pointer (some ⟨b, 0, none⟩)] 45 := by rw [← hw0]; exact (((Blk.new w _ _).alloc _).alloc _).alloc _
  have hB : Blk w0 (w.heap.size + 1) #[.int .i64 fr] 3 := by rw [← hw0]; exact ((Blk.newAt _ _ _ (by simp)).alloc _).alloc _
  have hC : Blk w0 (w.heap.size + 1 + 1) #[.int .i64 at_] 3 := by rw [← hw0]; exact (Blk.newAt _ _ _ (by simp)).alloc _
  have hD : Blk w0 (w.heap.size + 1 + 1 + 1) #[.int .i64 n] 3 := by rw [← hw0]; exact Blk.newAt _ _ _ (by simp)
  have h0 : PoolAt w0 b bf br many F R := by rw [← hw0]; exact (((hpo.alloc _).alloc _).alloc _).alloc _
  have hb0 : Below w.heap.size w w0 := by rw [← hw0]; exact ((((Below.refl _ w).alloc (Nat.le_refl _) _).alloc (by simp) _).alloc (by simp; omega) _).alloc (by simp; omega) _
  have a0 : w0.cell? ⟨w.heap.size, 0, none⟩ = some (.pointer (some ⟨b, 0, none⟩)) := hA.cell 0 rfl
  go_enter Try.func53, Try.ntmps53
  go_wp2_with fail
  clear hw0
  refine (is_calls _ _).mono ?_; rintro e w1 ⟨rfl, h1⟩
  go_wp2_with fail
  have k2 : Below w0.heap.size w0 (w1.alloc (.cells (askList (thrAsks b w.heap.size (w.heap.size + 1) (w.heap.size + 1 + 1) (w.heap.size + 1 + 1 + 1) many F fr at_ n)).toArray 78)) := (h1.mono (Nat.le_refl _)).alloc h1.size _
  have hrow : AskRow (w1.alloc (.cells (askList (thrAsks b w.heap.size (w.heap.size + 1) (w.heap.size + 1 + 1) (w.heap.size + 1 + 1 + 1) many F fr at_ n)).toArray 78)) w1.heap.size (thrAsks b w.heap.size (w.heap.size + 1) (w.heap.size + 1 + 1) (w.heap.size + 1 + 1 + 1) many F fr at_ n) := askRow_of (Blk.new w1 _ _)
  have hans := thr_answers (h0.step k2) h256 ((hA.below k2 hA.lt).cell 0 rfl) ((hB.below k2 hB.lt).cell 0 rfl) ((hC.below k2 hC.lt).cell 0 rfl) ((hD.below k2 hD.lt).cell 0 rfl)
  refine (asked_ok _ w1.heap.size 4 4 _ rfl (by simp [thrAsks]) (Lib.hid hrow) (Lib.hid hans)).mono ?_; rintro e w4 ⟨rfl, h4⟩
  rw [thrErr_eq]
  go_wp2_with fail
  go_ret
  exact ⟨rfl, hb0.trans ((k2.trans (h4.mono k2.size)).mono hb0.size)⟩
end Go.Proofs.Ytleclclncgnelaa

/-
  Package frame: Give. Conditions: a pool whose books are in order.
-/
namespace Go.Proofs.Ytleclclncgnelaa
open Go.RowKit
attribute [local go_sem] Oper.semAt_some
set_option maxHeartbeats 4000000
set_option maxRecDepth 4000

def delF (F : List Fr) (fr : Int) : List Fr := F.filter fun x => !(x.1 == fr)
def givErr (many : Int) (F : List Fr) (fr : Int) : Int := thrErr many F fr 0 0
def givAfter (many : Int) (F : List Fr) (fr : Int) : List Fr := if givErr many F fr = 0 then delF F fr else F
theorem Give_ok {w : World} {b bf br : Nat} {many : Int} {F : List Fr} {R : List (Int × Int)} (hpo : PoolAt w b bf br many F R) (h256 : ∀ x ∈ F, x.2.2.length = 256) (fr : Int) :
    Calls Try.prog 27 #[.pointer (some ⟨b, 0, none⟩), .int .i64 fr] w fun e w' => e = .returned (.int .i64 (givErr many F fr)) ∧ PoolAt w' b bf br many (givAfter many F fr) R ∧ Chg bf w w' := by
  obtain ⟨q, hq⟩ : ∃ q, givErr many F fr = q := ⟨_, rfl⟩
  have HQ := Lib.hid hq
  rw [hq]
  go_enter Try.func27, Try.ntmps27
  go_wp2_with fail
  refine (there_calls hpo h256 fr 0 0).mono ?_; rintro e w1 ⟨rfl, h1⟩
  rw [show thrErr many F fr 0 0 = q from hq]
  clear hq
  have hP1 := hpo.step h1
  obtain ⟨c0, c1, c2⟩ := hP1.cells
  by_cases h9 : q = 0
  · subst h9
    obtain ⟨wu, hrun, hMu, hTu⟩ := hP1.fr.drop (P := Try.prog) Try.underlying66 Try.underlying3 fr 3 0
    rw [delA_encF] at hMu
    go_wp2_with fail
    go_ret
    have hPu : PoolAt wu b bf br many (delF F fr) R := ⟨(hTu.block b hpo.apart.1).trans hP1.blk, hMu, hP1.re.turn hTu (Ne.symm hpo.ne), hpo.ne⟩
    exact ⟨rfl, by rw [show givAfter many F fr = delF F fr by unfold givAfter; rw [HQ.out, if_pos rfl]]; exact hPu, (Chg.of_below h1).trans (.of_turn hTu)⟩
  · go_wp2_with fail
    go_ret
    exact ⟨rfl, by rw [show givAfter many F fr = F by unfold givAfter; rw [HQ.out, if_neg h9]]; exact hP1, .of_below h1⟩
end Go.Proofs.Ytleclclncgnelaa
