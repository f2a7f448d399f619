/-
  Package pinfoldlaw07: num, works. No condition.
-/
import Derived.Test.YtleclclncgnelaaFrM
import Derived.Test.YtleclclncgnelaaCore
namespace Go.Proofs.Ytleclclncgnelaa
open Go.RowKit
attribute [local go_sem] Oper.semAt_some
set_option maxHeartbeats 4000000
set_option maxRecDepth 4000

/-- A pool that was made behind w0. -/
structure Live (w0 W : World) (b bf br : Nat) (many : Int) (F : List Fr) (R : List (Int × Int)) : Prop where
  pool : PoolAt W b bf br many F R
  bel : Below w0.heap.size w0 W
  lf : w0.heap.size ≤ bf
  lr : w0.heap.size ≤ br
section
variable {w0 W W' : World} {b bf br : Nat} {many : Int} {F F' : List Fr} {R R' : List (Int × Int)}
theorem Live.step (h : Live w0 W b bf br many F R) (k : Below W.heap.size W W') : Live w0 W' b bf br many F R := ⟨h.pool.step k, h.bel.trans (k.mono h.bel.size), h.lf, h.lr⟩
theorem Live.frames (h : Live w0 W b bf br many F R) (hp : PoolAt W' b bf br many F' R) (k : Chg bf W W') : Live w0 W' b bf br many F' R := ⟨hp, h.bel.trans (k.below h.lf h.bel.size), h.lf, h.lr⟩
theorem Live.owners (h : Live w0 W b bf br many F R) (hp : PoolAt W' b bf br many F R') (k : Chg br W W') : Live w0 W' b bf br many F R' := ⟨hp, h.bel.trans (k.below h.lr h.bel.size), h.lf, h.lr⟩
theorem Live.reserve (h : Live w0 W b bf br many F R) (hs : Sound many F R) (who n er : Int) (R' : List (Int × Int)) (h1 : resErr many F R who n = er) (h2 : resAfter many F R who n = R') :
    Calls Try.prog 17 #[.pointer (some ⟨b, 0, none⟩), .int .i64 who, .int .i64 n] W fun e W' => e = .returned (.int .i64 er) ∧ Live w0 W' b bf br many F R' := by
  refine (Reserve_ok h.pool hs who n).mono ?_
  rintro e W' ⟨rfl, hp, hc⟩
  rw [h2] at hp
  exact ⟨by rw [h1], h.owners hp hc⟩
theorem Live.take (h : Live w0 W b bf br many F R) (hs : Sound many F R) (who at_ er : Int) (F' : List Fr) (hf : takErr F R who = 0 → ∃ k suf, freeI many F = k :: suf) (h0 : takAt many F R who = at_) (h1 : takErr F R who = er) (h2 : takAfter many F R who = F') :
    Calls Try.prog 26 #[.pointer (some ⟨b, 0, none⟩), .int .i64 who] W fun e W' => e = .returned (.tuple #[.int .i64 at_, .int .i64 er]) ∧ Live w0 W' b bf br many F' R := by
  refine (Take_ok h.pool hs who hf).mono ?_
  rintro e W' ⟨rfl, hp, hc⟩
  rw [h2] at hp
  exact ⟨by rw [h0, h1], h.frames hp hc⟩
theorem Live.give (h : Live w0 W b bf br many F R) (hs : Sound many F R) (fr er : Int) (F' : List Fr) (h1 : givErr many F fr = er) (h2 : givAfter many F fr = F') :
    Calls Try.prog 27 #[.pointer (some ⟨b, 0, none⟩), .int .i64 fr] W fun e W' => e = .returned (.int .i64 er) ∧ Live w0 W' b bf br many F' R := by
  refine (Give_ok h.pool hs.b256 fr).mono ?_
  rintro e W' ⟨rfl, hp, hc⟩
  rw [h2] at hp
  exact ⟨by rw [h1], h.frames hp hc⟩
theorem Live.write (h : Live w0 W b bf br many F R) (hs : Sound many F R) (fr at_ er : Int) (F' : List Fr) {v : Value} {n : Nat} (xs : List Int) (hv : RowAt W.heap.size W v n (intVals .u8 xs)) (hn : n = xs.length) (h1 : wrtErr many F fr at_ xs = er) (h2 : wrtAfter many F fr at_ xs = F') :
    Calls Try.prog 57 #[.pointer (some ⟨b, 0, none⟩), .int .i64 fr, .int .i64 at_, v] W fun e W' => e = .returned (.int .i64 er) ∧ Live w0 W' b bf br many F' R := by
  refine (Write_ok h.pool hs.b256 fr at_ xs hv hn).mono ?_
  rintro e W' ⟨rfl, hp, hc⟩
  rw [h2] at hp
  exact ⟨by rw [h1], h.frames hp hc⟩
end
abbrev fr0 : Fr := (0, 1, zeros256)
abbrev fr1 : Fr := (1, 1, zeros256)
abbrev fr9 : Fr := (0, 1, putL zeros256 255 [9])
theorem snd0 : Sound 3 [] [] := ⟨by decide, by decide, by decide +kernel, by decide +kernel, by decide +kernel, by decide⟩
theorem snd1 : Sound 3 [] [(1, 2)] := ⟨by decide, by decide, by decide +kernel, by decide +kernel, by decide +kernel, by decide⟩
theorem snd2 : Sound 3 [fr0] [(1, 2)] := ⟨by decide, by decide, by decide +kernel, by decide +kernel, by decide +kernel, by decide⟩
theorem snd3 : Sound 3 [fr0, fr1] [(1, 2)] := ⟨by decide, by decide, by decide +kernel, by decide +kernel, by decide +kernel, by decide⟩
theorem snd4 : Sound 3 [fr9, fr1] [(1, 2)] := ⟨by decide, by decide, by decide +kernel, by decide +kernel, by decide +kernel, by decide⟩
theorem snd5 : Sound 3 [fr1] [(1, 2)] := ⟨by decide, by decide, by decide +kernel, by decide +kernel, by decide +kernel, by decide⟩
theorem snd6 : Sound 3 [fr1, fr0] [(1, 2)] := ⟨by decide, by decide, by decide +kernel, by decide +kernel, by decide +kernel, by decide⟩
end Go.Proofs.Ytleclclncgnelaa

/-
  Groundwork: a range over a function whose loop variable lies in a box of its own.
-/
namespace Go.Proofs.Ytleclclncgnelaa
open Go.RowKit
variable {P : Program}

theorem wp_rangeB {α : Type} {g : Operand} {ps : Array Tmp} {assign body : Code} {Q : Exit → Act → World → Prop} {a : Act} {w : World}
    {gf : Nat} {lb : Array Value} (hg : a.eval g = .func (.func gf) #[] lb) (eg : ∀ args w, (callFunc gf args).run P w = .ok (.enter gf args) w)
    {encs : α → Array Value} {xs : List α} {A : World → Prop} (hseq : IterK P gf lb encs xs A) (hps : ∀ x, (encs x).size = ps.size)
    (I : List α → World → Prop) (Ix : Code → World → Prop) (a₁ : α → Nat → Act) (M : List α → α → Nat → World → Prop)
    (hI : Stab w.heap.size I) (hIx : Stab w.heap.size Ix) (hMid : ∀ pre x, Stab w.heap.size (M pre x)) (hA : ∀ pre W', I pre W' → A W') (h0 : I [] w)
    (hassign : ∀ m l pre x suf W (K : Act → World → Prop), xs = pre ++ x :: suf → I pre W → w.heap.size < W.heap.size → (∀ b W', KeepsRec W W' → M pre x b W' → K (a₁ x b) W') →
      assign.wpIn (Fence.wide.inRound l) m P (Exit.then K (fun _ _ _ => False)) { tmps := (ps.zip (encs x)).foldl (fun t (p, v) => t.setIfInBounds p v) a.tmps, defers := [] } W)
    (hbody : ∀ m l pre x suf b W, xs = pre ++ x :: suf → w.heap.size < l → (∃ r, W.heap[l]? = some (.loop r)) → M pre x b W → body.wpIn (Fence.wide.inRound l) m P (roundEnd I Ix (pre ++ [x]) W) (a₁ x b) W)
    (hdone : ∀ D W, w.heap.size ≤ D → I xs W → W.heap[D]? = some (.deferred (some [])) → Q .normal { a with defers := { target := .collected D, args := #[] } :: a.defers } W)
    (hstop : ∀ D c W, w.heap.size ≤ D → Ix c W → W.heap[D]? = some (.deferred (some [])) → c.wp P Q { a with defers := { target := .collected D, args := #[] } :: a.defers } W) :
    (Code.rangeFunc g ps assign body).wp P Q a w :=
  wp_range hg eg hseq hps I Ix (fun pre x a' W => ∃ b, a' = a₁ x b ∧ M pre x b W) hI hIx (fun pre x a' X Y h hk => by obtain ⟨b, h1, h2⟩ := h; exact ⟨b, h1, hMid _ _ _ _ _ h2 hk⟩) hA h0
    (fun m l pre x suf W hxs hi hlt => hassign m l pre x suf W _ hxs hi hlt fun b W' hk hM => ⟨hk, b, rfl, hM⟩)
    (fun m l pre x suf a' W hxs hl hr h => by obtain ⟨b, rfl, h⟩ := h; exact hbody m l pre x suf b W hxs hl hr h) hdone hstop
/-- A contract, in a round. -/
theorem _root_.Go.Calls.inR {n : Nat} {f : FuncId} {args : Array Value} {w : World} {R : Ending → World → Prop} (l : Nat) (h : Calls P f args w R) : CallsIn (Fence.wide.inRound l) n P f args w R := (callsIn_wide.2 h).inRound l
end Go.Proofs.Ytleclclncgnelaa
