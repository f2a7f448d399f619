/-
  Groundwork: the law of a range over a function where one loop variable is boxed anew in each round. No condition.
-/
import Derived.Test.YtchknegenaoliaaCoreS
namespace Go.Proofs.Ytchknegenaoliaa
open Go.RowKit
variable {P : Program}
theorem wp_rangeSA {α : Type} {g : Operand} {ps : Array Tmp} {assign body : Code} {Q : Exit → Act → World → Prop} {a : Act} {w : World}
    {gf : Nat} {lb : Array Value} (hg : a.eval g = .func (.func gf) #[] lb) (eg : ∀ args w, (callFunc gf args).run P w = .ok (.enter gf args) w)
    {encs : α → Array Value} {xs : List α} {A : World → Prop} (hseq : IterS P gf lb encs xs A) (hps : ∀ x, (encs x).size = ps.size)
    (I : Nat → List α → World → Prop) (Ix : Code → World → Prop) (a₁ : α → Nat → Act) (cells : α → Array Value) (t : TypeId)
    (hassign : ∀ m l x W b (K : Act → World → Prop), W.heap.size = b → K (a₁ x b) (W.alloc (.cells (cells x) t)) → assign.wpIn (Fence.wide.inRound l) m P (Exit.then K (fun _ _ _ => False)) { tmps := (ps.zip (encs x)).foldl (fun t (p, v) => t.setIfInBounds p v) a.tmps, defers := [] } W)
    (hI : ∀ hi, Stab w.heap.size (I hi)) (hIx : Stab w.heap.size Ix) (hA : ∀ hi pre W', I hi pre W' → A W') (h0 : ∀ hi, w.heap.size + 2 ≤ hi → I hi [] w)
    (hbody : ∀ m l hi pre x suf W b, xs = pre ++ x :: suf → w.heap.size < l → (∃ r, W.heap[l]? = some (.loop r)) → w.heap.size + 2 ≤ hi → hi ≤ W.heap.size → hi ≤ b → Blk W b (cells x) t → I hi pre W → body.wpIn (Fence.wide.inRound l) m P (roundEndS w.heap.size hi (I hi) Ix (pre ++ [x]) W) (a₁ x b) W)
    (hdone : ∀ D W hi, w.heap.size ≤ D → I hi xs W → W.heap[D]? = some (.deferred (some [])) → Q .normal { a with defers := { target := .collected D, args := #[] } :: a.defers } W)
    (hstop : ∀ D c W, w.heap.size ≤ D → Ix c W → W.heap[D]? = some (.deferred (some [])) → c.wp P Q { a with defers := { target := .collected D, args := #[] } :: a.defers } W) :
    (Code.rangeFunc g ps assign body).wp P Q a w :=
  wpIn_wide (n := 0) |>.1 (wpIn_rangeS hg eg hseq hps I Ix (fun hi pre x a' W => ∃ b, a' = a₁ x b ∧ hi ≤ b ∧ Blk W b (cells x) t ∧ I hi pre W) hI hIx
    (fun hi pre x a' X Y h hk => by obtain ⟨b, h1, h2, h3, h4⟩ := h; exact ⟨b, h1, h2, h3.keeps hk, hI hi _ _ _ h4 hk⟩) hA h0
    (fun m l hi pre x suf W _ hi0 hh hW => hassign m l x W _ _ rfl ⟨(Sm.refl _ _ W).alloc hW _, W.heap.size, rfl, hW, Blk.new W _ _, hI hi _ _ _ hi0 ((Keeps.refl _ W).alloc (by omega) _)⟩)
    (fun m l hi pre x suf a' W hxs hl hr h1 h2 h => by obtain ⟨b, rfl, h3, h4, h5⟩ := h; exact hbody m l hi pre x suf W b hxs hl hr h1 h2 h3 h4 h5) hdone (fun D c W h1 h2 h3 => wpIn_wide.2 (hstop D c W h1 h2 h3)))
end Go.Proofs.Ytchknegenaoliaa
