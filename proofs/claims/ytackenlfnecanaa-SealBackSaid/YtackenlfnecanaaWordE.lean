/-
  Package word: the reference's First and Differ.
-/
import Derived.Test.YtackenlfnecanaaWordD
namespace Go.Proofs.Ytackenlfnecanaa
open Go.RowKit
attribute [local go_sem] Oper.semAt_some
set_option maxHeartbeats 400000

/-- A cell of a slice that is read. -/
theorem RowAt.get {B : Nat} {w : World} {ad : Option Addr} {cap : Nat} {l : List Int} (h : RowAt B w (.slice ad l.length cap) l.length (intVals .u8 l)) (k : Nat) (hk : k < l.length) :
    ∃ b off : Nat, ad = some ⟨b, off, none⟩ ∧ b < B ∧ ∀ W, Below B w W → W.cell? ⟨b, off + k, none⟩ = some (.int .u8 l[k]) := by
  obtain ⟨ad', cap', he, _, hrow⟩ := h
  cases he
  rcases hrow with h0 | ⟨b, off, rfl, hbB, hc⟩
  · exfalso; have := congrArg List.length h0; simp [intVals] at this; subst this; simp at hk
  · refine ⟨b, off, rfl, hbB, fun W hW => ?_⟩
    rw [hW.cell (p := ⟨b, off + k, none⟩) hbB, hc k (by simpa [intVals] using hk), intVals_get _ _ _ hk]
end Go.Proofs.Ytackenlfnecanaa
