/-
  Groundwork: a range over a function whose loop variable lies in a box of its own.
-/
import Derived.Test.YtfmkjckckekliaaCore
namespace Go.Proofs.Ytfmkjckckekliaa
open Go.RowKit
variable {P : Program}

theorem wp_rangeB {α : Type} {g : Operand} {ps : Array Tmp} {assign body : Code} {Q : Exit → Act → World → Prop} {a : Act} {w : World}
    {gf : Nat} {lb : Array Value} (hg : a.eval g = .func (.func gf) #[] lb) (eg : ∀ args w, (callFunc gf args).run P w = .ok (.enter gf args) w)
    {encs : α → Array Value} {xs : List α} {A : World → Prop} (hseq : IterK P gf lb encs xs A) (hps : ∀ x, (encs x).size = ps.size)
    (I : List α → World → Prop) (Ix : Code → World → Prop) (a₁ : α → Nat → Act) (M : List α → α → Nat → World → Prop)
    (hI : Stab w.heap.size I) (hIx : Stab w.heap.size Ix) (hMid : ∀ pre x, Stab w.heap.size (M pre x)) (hA : ∀ pre W', I pre W' → A W') (h0 : I [] w)
    (hassign : ∀ m l pre x suf W (K : Act → World → Prop), xs = pre ++ x :: suf → I pre W → w.heap.size < W.heap.size → (∀ b W', KeepsRec W W' → M pre x b W' → K (a₁ x b) W') →
      assign.wpIn (Fence.wide.inRound l) m P (Exit.then K (fun _ _ _ => False)) { tmps := (ps.zip (encs x)).foldl (fun t (p, v) => t.setIfInBounds p v) a.tmps, defers := [] } W)
    (hbody : ∀ m l pre x suf b W, xs = pre ++ x :: suf → w.heap.size < l → (∃ r, W.heap[l]? = some (.loop r)) → M pre x b W → body.wpIn (Fence.wide.inRound l) m P (roundEnd I Ix (pre ++ [x]) W) (a₁ x b) W)
    (hdone : ∀ D W, w.heap.size ≤ D → I xs W → W.heap[D]? = some (.deferred (some [])) → Q .normal { a with defers := { target := .collected D, args := #[] } :: a.defers } W)
    (hstop : ∀ D c W, w.heap.size ≤ D → Ix c W → W.heap[D]? = some (.deferred (some [])) → c.wp P Q { a with defers := { target := .collected D, args := #[] } :: a.defers } W) :
    (Code.rangeFunc g ps assign body).wp P Q a w :=
  wp_range hg eg hseq hps I Ix (fun pre x a' W => ∃ b, a' = a₁ x b ∧ M pre x b W) hI hIx (fun pre x a' X Y h hk => by obtain ⟨b, h1, h2⟩ := h; exact ⟨b, h1, hMid _ _ _ _ _ h2 hk⟩) hA h0
    (fun m l pre x suf W hxs hi hlt => hassign m l pre x suf W _ hxs hi hlt fun b W' hk hM => ⟨hk, b, rfl, hM⟩)
    (fun m l pre x suf a' W hxs hl hr h => by obtain ⟨b, rfl, h⟩ := h; exact hbody m l pre x suf b W hxs hl hr h) hdone hstop
/-- A contract, in a round. -/
theorem _root_.Go.Calls.inR {n : Nat} {f : FuncId} {args : Array Value} {w : World} {R : Ending → World → Prop} (l : Nat) (h : Calls P f args w R) : CallsIn (Fence.wide.inRound l) n P f args w R := (callsIn_wide.2 h).inRound l
end Go.Proofs.Ytfmkjckckekliaa
