/-
  Package frame: Give. Conditions: a pool whose books are in order.
-/
import Derived.Test.YtfmkjckckekliaaFrJ
import Derived.Laws.CopyOwn
namespace Go.Proofs.Ytfmkjckckekliaa
open Go.RowKit
attribute [local go_sem] Oper.semAt_some
set_option maxHeartbeats 4000000
set_option maxRecDepth 4000

def delF (F : List Fr) (fr : Int) : List Fr := F.filter fun x => !(x.1 == fr)
def givErr (many : Int) (F : List Fr) (fr : Int) : Int := thrErr many F fr 0 0
def givAfter (many : Int) (F : List Fr) (fr : Int) : List Fr := if givErr many F fr = 0 then delF F fr else F
theorem Give_ok {w : World} {b bf br : Nat} {many : Int} {F : List Fr} {R : List (Int × Int)} (hpo : PoolAt w b bf br many F R) (h256 : ∀ x ∈ F, x.2.2.length = 256) (fr : Int) :
    Calls Try.prog 14 #[.pointer (some ⟨b, 0, none⟩), .int .i64 fr] w fun e w' => e = .returned (.int .i64 (givErr many F fr)) ∧ PoolAt w' b bf br many (givAfter many F fr) R ∧ Chg bf w w' := by
  obtain ⟨q, hq⟩ : ∃ q, givErr many F fr = q := ⟨_, rfl⟩
  have HQ := Lib.hid hq
  rw [hq]
  go_enter Try.func14, Try.ntmps14
  go_wp2_with fail
  refine (there_calls hpo h256 fr 0 0).mono ?_; rintro e w1 ⟨rfl, h1⟩
  rw [show thrErr many F fr 0 0 = q from hq]
  clear hq
  have hP1 := hpo.step h1
  obtain ⟨c0, c1, c2⟩ := hP1.cells
  by_cases h9 : q = 0
  · subst h9
    obtain ⟨wu, hrun, hMu, hTu⟩ := hP1.fr.drop (P := Try.prog) Try.underlying72 Try.underlying3 fr 3 0
    rw [delA_encF] at hMu
    go_wp2_with fail
    go_ret
    have hPu : PoolAt wu b bf br many (delF F fr) R := ⟨(hTu.block b hpo.apart.1).trans hP1.blk, hMu, hP1.re.turn hTu (Ne.symm hpo.ne), hpo.ne⟩
    exact ⟨rfl, by rw [show givAfter many F fr = delF F fr by unfold givAfter; rw [HQ.out, if_pos rfl]]; exact hPu, (Chg.of_below h1).trans (.of_turn hTu)⟩
  · go_wp2_with fail
    go_ret
    exact ⟨rfl, by rw [show givAfter many F fr = F by unfold givAfter; rw [HQ.out, if_neg h9]]; exact hP1, .of_below h1⟩
end Go.Proofs.Ytfmkjckckekliaa
