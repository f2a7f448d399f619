/-
  Package desk: Bind's questions. No condition.
-/
import Derived.Test.YtchknegenaoliaaDeH
namespace Go.Proofs.Ytchknegenaoliaa
open Go.RowKit
attribute [local go_sem] Oper.semAt_some
set_option maxHeartbeats 500000
set_option maxRecDepth 4000

def binAsks (b p1 p2 p3 : Nat) (P : List Ten) (t : Int) (h : Hnd) : List Ask := [liveAsk b, withinAsk p1 (p1 + 1) t 3, placeAsk p2 (p2 + 1) h.s, whoseAsk p3 (p3 + 1) P h]
theorem binAsks_eq (b p1 p2 p3 : Nat) (P : List Ten) (t : Int) (h : Hnd) : firstErr (binAsks b p1 p2 p3 P t h) = binE P t h := by
  have := chkAsks_eq b p2 p3 P h
  unfold chkAsks liveAsk at this
  unfold binAsks liveAsk withinAsk binE
  simp only [firstErr] at this ⊢
  cases badN t 3
  · simpa using this
  · simp
theorem bin_answers {W : World} {b m p1 p2 p3 : Nat} {P : List Ten} {T : Thr} {t : Int} {h : Hnd} (hD : DkAt W b m P T) (h0 : NumB W p1 (p1 + 1) t 3) (h1 : TwoB W p2 (p2 + 1) b #[.int .i64 h.s] 3) (h2 : TwoB W p3 (p3 + 1) b #[.int .i64 h.s, .int .i64 h.g] 28) : Answers W (binAsks b p1 p2 p3 P t h) := by
  constructor
  · intro i hi args W
    match i, hi with
    | 0, _ => exact live_enter args W
    | 1, _ => exact within_enter args W
    | 2, _ => exact place_enter args W
    | 3, _ => exact whose_enter args W
  · intro i hi X hel kx
    match i, hi with
    | 0, _ => exact none_live (hD.step kx)
    | 1, _ => exact within1_calls t 3 _ _ X ((h0.step kx).n.cell 0 rfl) ((h0.step kx).m.cell 0 rfl)
    | 2, _ => exact place_ans (h1.step kx)
    | 3, _ => exact whose_ans (hD.step kx) (h2.step kx) (by have := hel 2 (by simp [binAsks]) (by omega); simpa [binAsks, placeAsk] using this)
end Go.Proofs.Ytchknegenaoliaa
