/-
 Package page: questions, the first error of questions; a row of questions. No condition.
-/
import Derived.Test.YtlpchcdalfkfcaaGreatRows
import Derived.Test.YtlpchcdalfkfcaaGreatBFrame
import Derived.Laws.EntriesVeiled
import Derived.Deep.Slices
import Derived.Test.YtlpchcdalfkfcaaGreatBCore
namespace Go.Proofs.YtlpchcdalfkfcaaGreat
open Go.RowKit
attribute [local go_sem] Oper.semAt_some
set_option maxHeartbeats 400000
set_option maxRecDepth 4000

/-- A question: what is called, with what; its error; its answer. -/
structure AskP where
 fn : Nat
 recv : Array Value
 caps : Array Value
 err : Int
 wrong : Bool
def firstErrP : List AskP → Int
 | [] => 0
 | a :: r => if a.wrong = true then a.err else firstErrP r
theorem firstErr_hitP : ∀ (l : List AskP) (k : Nat) (h : k < l.length), (∀ j (hj : j < l.length), j < k → l[j].wrong = false) → l[k].wrong = true → firstErrP l = l[k].err
 | a :: r, 0, _, _, hw => by simp only [List.getElem_cons_zero] at hw ⊢; simp [firstErrP, hw]
 | a :: r, k + 1, h, hn, hw => by
  have h0 := hn 0 (by simp) (by omega)
  simp only [List.getElem_cons_zero] at h0
  simp only [List.getElem_cons_succ] at hw ⊢
  rw [firstErrP, if_neg (by rw [h0]; decide)]
  exact firstErr_hitP r k (by simpa using h) (fun j hj hjk => hn (j + 1) (by simpa using hj) (by omega)) hw
theorem firstErr_noneP : ∀ (l : List AskP), (∀ j (hj : j < l.length), l[j].wrong = false) → firstErrP l = 0
 | [], _ => rfl
 | a :: r, h => by
  have h0 := h 0 (by simp)
  simp only [List.getElem_cons_zero] at h0
  rw [firstErrP, if_neg (by rw [h0]; decide)]
  exact firstErr_noneP r fun j hj => h (j + 1) (by simpa using hj)
/-- The questions lie in a row; each is answered, whatever has been made since, if those ahead of it are all in order. -/
structure AskRowP (w : World) (bb : Nat) (l : List AskP) : Prop where
 c0 : ∀ i (h : i < l.length), w.cell? ⟨bb, i * 2, none⟩ = some (.func (.func l[i].fn) l[i].recv l[i].caps)
 c1 : ∀ i (h : i < l.length), w.cell? ⟨bb, i * 2 + 1, none⟩ = some (.int .i64 l[i].err)
 lt : bb < w.heap.size
structure AnswersP (w : World) (l : List AskP) : Prop where
 eg : ∀ i (h : i < l.length) args W, (callFunc l[i].fn args).run Tryz.prog W = .ok (.enter l[i].fn args) W
 ans : ∀ i (h : i < l.length) W, (∀ j (hj : j < l.length), j < i → l[j].wrong = false) → Below w.heap.size w W → Calls Tryz.prog l[i].fn (l[i].recv ++ l[i].caps) W fun e W' => e = .returned (.bool l[i].wrong) ∧ Below W.heap.size W W'
theorem asked_okP (w : World) (bb n cap : Nat) (l : List AskP) (hn : n = l.length) (hlen : l.length ≤ 1000) (hr : Hid (AskRowP w bb l)) (ha : Hid (AnswersP w l)) :
  Calls Tryz.prog 156 #[.slice (some ⟨bb, 0, none⟩) n cap] w fun e w' => e = .returned (.int .i64 (firstErrP l)) ∧ Below w.heap.size w w' := by
 subst hn
 have hbb := hr.out.lt
 go_enter Tryz.func156, Tryz.ntmps156
 go_wp2_with fail
 refine wp_scope_fwd 0 rfl ?_
 go_wp2_with (first | go_step3 | rw [fwd_goto] | rw [fwd_ret] | rw [Exit.noGoto_ret])
 go_loopw [7] (fun i wr => ∃ k : Nat, k ≤ l.length ∧ i = .int .i64 k ∧ (∀ j (hj : j < l.length), j < k → l[j].wrong = false) ∧ Below w.heap.size w wr) (fun i _ => l.length - (intOf i).toNat)
 case atStart => exact ⟨0, by omega, rfl, fun j _ hj => by omega, Below.refl _ _⟩
 case round =>
  obtain ⟨k, hk, rfl, hn, hb⟩ := hrel
  have hz := hb.size
  have HN := Lib.hid hn
  clear hn
  by_cases hlt : k < l.length
  ·have q0 : wr.cell? ⟨bb, k * 2, none⟩ = some (.func (.func l[k].fn) l[k].recv l[k].caps) := (hb.cell (p := ⟨bb, k * 2, none⟩) hbb).trans (hr.out.c0 k hlt)
   have q1 : wr.cell? ⟨bb, k * 2 + 1, none⟩ = some (.int .i64 l[k].err) := (hb.cell (p := ⟨bb, k * 2 + 1, none⟩) hbb).trans (hr.out.c1 k hlt)
   have i0 : (0 : Int) ≤ k := by omega
   have i1 : (k : Int) < l.length := by omega
   have hX := Blk.new wr #[.func (.func l[k].fn) l[k].recv l[k].caps, .int .i64 l[k].err] 204
   have hb1 := hb.alloc hz (.cells #[.func (.func l[k].fn) l[k].recv l[k].caps, .int .i64 l[k].err] 204)
   have hcall := Lib.hid (ha.out.ans k hlt _ (fun j hj hjk => HN.out j hj hjk) hb1)
   have heg := ha.out.eg k hlt
   by_cases hp : l[k].wrong = true
   ·have hres := Lib.hid (firstErr_hitP l k hlt (fun j hj hjk => HN.out j hj hjk) hp)
    rw [hp] at hcall
    clear hp
    go_wp2_with fail
    refine (hcall.out).mono ?_; rintro e w1 ⟨rfl, h1⟩
    have hX1 := hX.below h1 (by simp)
    go_wp2_with fail
    go_wp2_with (first | go_step3 | rw [fwd_goto] | rw [fwd_ret] | rw [Exit.noGoto_ret])
    go_ret
    exact ⟨by rw [hres.out]; rfl, hb1.trans (h1.mono (by simp; omega))⟩
   ·have hp' : l[k].wrong = false := by simpa using hp
    rw [hp'] at hcall
    have HP := Lib.hid hp'
    clear hp hp'
    go_wp2_with fail
    refine (hcall.out).mono ?_; rintro e w1 ⟨rfl, h1⟩
    go_wp2_with fail
    go_roundw
    case rel => exact ⟨k + 1, by omega, by go_num, fun j hj hjk => by rcases Nat.lt_or_ge j k with h | h; exact HN.out j hj h; (have : j = k := by omega); subst this; exact HP.out, hb1.trans (h1.mono (by simp; omega))⟩
    case measure => simp [intOf]; omega
  ·obtain rfl : k = l.length := by omega
   go_wp2_with fail
   rw [fwd_ret]
   go_ret
   exact ⟨by rw [firstErr_noneP l fun j hj => HN.out j hj hj]; rfl, hb⟩
def askListP (l : List AskP) : List Value := l.flatMap fun a => [.func (.func a.fn) a.recv a.caps, .int .i64 a.err]
theorem askList_atP : ∀ (l : List AskP) (i : Nat) (h : i < l.length), (askListP l)[i * 2]? = some (.func (.func l[i].fn) l[i].recv l[i].caps) ∧ (askListP l)[i * 2 + 1]? = some (.int .i64 l[i].err)
 | a :: r, 0, _ => ⟨rfl, rfl⟩
 | a :: r, i + 1, h => by
  have ih := askList_atP r i (by simpa using h)
  have e1 : (i + 1) * 2 = i * 2 + 1 + 1 := by omega
  refine ⟨?_, ?_⟩
  ·rw [e1]; exact ih.1
  ·rw [e1]; exact ih.2
theorem askRow_ofP {W : World} {bb : Nat} {l : List AskP} {t : TypeId} (h : Blk W bb (askListP l).toArray t) : AskRowP W bb l :=
 ⟨fun i hi => h.cell _ (by simpa using (askList_atP l i hi).1), fun i hi => h.cell _ (by simpa using (askList_atP l i hi).2), h.lt⟩
end Go.Proofs.YtlpchcdalfkfcaaGreat


/-
 Package meta: questions, the first error of questions. No condition.
-/
namespace Go.Proofs.YtlpchcdalfkfcaaGreat
open Go.RowKit
attribute [local go_sem] Oper.semAt_some
set_option maxHeartbeats 400000
set_option maxRecDepth 4000

theorem asked_okM (w : World) (bb n cap : Nat) (l : List AskP) (hn : n = l.length) (hlen : l.length ≤ 1000) (hr : Hid (AskRowP w bb l)) (ha : Hid (AnswersP w l)) :
  Calls Tryz.prog 24 #[.slice (some ⟨bb, 0, none⟩) n cap] w fun e w' => e = .returned (.int .i64 (firstErrP l)) ∧ Below w.heap.size w w' := by
 subst hn
 have hbb := hr.out.lt
 go_enter Tryz.func24, Tryz.ntmps24
 go_wp2_with fail
 refine wp_scope_fwd 0 rfl ?_
 go_wp2_with (first | go_step3 | rw [fwd_goto] | rw [fwd_ret] | rw [Exit.noGoto_ret])
 go_loopw [7] (fun i wr => ∃ k : Nat, k ≤ l.length ∧ i = .int .i64 k ∧ (∀ j (hj : j < l.length), j < k → l[j].wrong = false) ∧ Below w.heap.size w wr) (fun i _ => l.length - (intOf i).toNat)
 case atStart => exact ⟨0, by omega, rfl, fun j _ hj => by omega, Below.refl _ _⟩
 case round =>
  obtain ⟨k, hk, rfl, hn, hb⟩ := hrel
  have hz := hb.size
  have HN := Lib.hid hn
  clear hn
  by_cases hlt : k < l.length
  ·have q0 : wr.cell? ⟨bb, k * 2, none⟩ = some (.func (.func l[k].fn) l[k].recv l[k].caps) := (hb.cell (p := ⟨bb, k * 2, none⟩) hbb).trans (hr.out.c0 k hlt)
   have q1 : wr.cell? ⟨bb, k * 2 + 1, none⟩ = some (.int .i64 l[k].err) := (hb.cell (p := ⟨bb, k * 2 + 1, none⟩) hbb).trans (hr.out.c1 k hlt)
   have i0 : (0 : Int) ≤ k := by omega
   have i1 : (k : Int) < l.length := by omega
   have hX := Blk.new wr #[.func (.func l[k].fn) l[k].recv l[k].caps, .int .i64 l[k].err] 70
   have hb1 := hb.alloc hz (.cells #[.func (.func l[k].fn) l[k].recv l[k].caps, .int .i64 l[k].err] 70)
   have hcall := Lib.hid (ha.out.ans k hlt _ (fun j hj hjk => HN.out j hj hjk) hb1)
   have heg := ha.out.eg k hlt
   by_cases hp : l[k].wrong = true
   ·have hres := Lib.hid (firstErr_hitP l k hlt (fun j hj hjk => HN.out j hj hjk) hp)
    rw [hp] at hcall
    clear hp
    go_wp2_with fail
    refine (hcall.out).mono ?_; rintro e w1 ⟨rfl, h1⟩
    have hX1 := hX.below h1 (by simp)
    go_wp2_with fail
    go_wp2_with (first | go_step3 | rw [fwd_goto] | rw [fwd_ret] | rw [Exit.noGoto_ret])
    go_ret
    exact ⟨by rw [hres.out]; rfl, hb1.trans (h1.mono (by simp; omega))⟩
   ·have hp' : l[k].wrong = false := by simpa using hp
    rw [hp'] at hcall
    have HP := Lib.hid hp'
    clear hp hp'
    go_wp2_with fail
    refine (hcall.out).mono ?_; rintro e w1 ⟨rfl, h1⟩
    go_wp2_with fail
    go_roundw
    case rel => exact ⟨k + 1, by omega, by go_num, fun j hj hjk => by rcases Nat.lt_or_ge j k with h | h; exact HN.out j hj h; (have : j = k := by omega); subst this; exact HP.out, hb1.trans (h1.mono (by simp; omega))⟩
    case measure => simp [intOf]; omega
  ·obtain rfl : k = l.length := by omega
   go_wp2_with fail
   rw [fwd_ret]
   go_ret
   exact ⟨by rw [firstErr_noneP l fun j hj => HN.out j hj hj]; rfl, hb⟩
end Go.Proofs.YtlpchcdalfkfcaaGreat


/-
 Package pinfoldlaw15: spots, records, great ones as the caller hands them in. No condition.
-/
namespace Go.Proofs.YtlpchcdalfkfcaaGreat
open Go.ChangeShapes Go.WideShapes Go.ChangeAt Go.RowKit
set_option maxHeartbeats 1000000
set_option maxRecDepth 8000

theorem spot_of_cells {H : Type} {enc : TypeId × Value → H} {W : World} {base' fuel : Nat} {spare : Nat → Bool} {held : Bool} {c0 c1 c2 : Value} {x : DataW H × List MemPlace} (hf : DataW.trod enc Tryz.prog W base' spare held fuel 23 [c0, c1, c2] = some x) :
  ∃ n0 n1 n2, c0 = .int .i64 n0 ∧ c1 = .int .i64 n1 ∧ c2 = .int .i64 n2 := by
 obtain ⟨xs, n, rfl, _, _, hxl, hx⟩ := DataW.trod_struct Tryz.underlying23 hf
 have k0 : Tryz.prog.cellsOf 3 = 1 := by kernel_rfl
 have h0 : DataW.trod enc Tryz.prog W base' spare held n 3 (List.take (Tryz.prog.cellsOf 3) (List.drop 0 [c0, c1, c2])) = xs[0]? := hx 0 _ rfl
 have h1 : DataW.trod enc Tryz.prog W base' spare held n 3 (List.take (Tryz.prog.cellsOf 3) (List.drop 1 [c0, c1, c2])) = xs[1]? := hx 1 _ rfl
 have h2 : DataW.trod enc Tryz.prog W base' spare held n 3 (List.take (Tryz.prog.cellsOf 3) (List.drop 2 [c0, c1, c2])) = xs[2]? := hx 2 _ rfl
 have hsz : xs.length = 3 := hxl
 rw [List.getElem?_eq_getElem (by omega)] at h0 h1 h2
 simp only [k0, List.drop_zero, List.drop_succ_cons, List.take_succ_cons, List.take_zero] at h0 h1 h2
 obtain ⟨n0, e0, _, w0⟩ := DataW.trod_int Tryz.underlying3 h0
 simp only [List.cons.injEq, and_true] at e0
 obtain ⟨n1, e1, _, w1⟩ := DataW.trod_int Tryz.underlying3 h1
 simp only [List.cons.injEq, and_true] at e1
 obtain ⟨n2, e2, _, w2⟩ := DataW.trod_int Tryz.underlying3 h2
 simp only [List.cons.injEq, and_true] at e2
 exact ⟨n0, n1, n2, e0, e1, e2⟩
end Go.Proofs.YtlpchcdalfkfcaaGreat


/-
 Groundwork: a range over a function whose loop variable lies in a box of its own.
-/
namespace Go.Proofs.YtlpchcdalfkfcaaGreat
open Go.RowKit
variable {P : Program}

theorem wp_rangeB {α : Type} {g : Operand} {ps : Array Tmp} {assign body : Code} {Q : Exit → Act → World → Prop} {a : Act} {w : World}
  {gf : Nat} {lb : Array Value} (hg : a.eval g = .func (.func gf) #[] lb) (eg : ∀ args w, (callFunc gf args).run P w = .ok (.enter gf args) w)
  {encs : α → Array Value} {xs : List α} {A : World → Prop} (hseq : IterK P gf lb encs xs A) (hps : ∀ x, (encs x).size = ps.size)
  (I : List α → World → Prop) (Ix : Code → World → Prop) (a₁ : α → Nat → Act) (M : List α → α → Nat → World → Prop)
  (hI : Stab w.heap.size I) (hIx : Stab w.heap.size Ix) (hMid : ∀ pre x, Stab w.heap.size (M pre x)) (hA : ∀ pre W', I pre W' → A W') (h0 : I [] w)
  (hassign : ∀ m l pre x suf W (K : Act → World → Prop), xs = pre ++ x :: suf → I pre W → w.heap.size < W.heap.size → (∀ b W', KeepsRec W W' → M pre x b W' → K (a₁ x b) W') →
   assign.wpIn (Fence.wide.inRound l) m P (Exit.then K (fun _ _ _ => False)) { tmps := (ps.zip (encs x)).foldl (fun t (p, v) => t.setIfInBounds p v) a.tmps, defers := [] } W)
  (hbody : ∀ m l pre x suf b W, xs = pre ++ x :: suf → w.heap.size < l → (∃ r, W.heap[l]? = some (.loop r)) → M pre x b W → body.wpIn (Fence.wide.inRound l) m P (roundEnd I Ix (pre ++ [x]) W) (a₁ x b) W)
  (hdone : ∀ D W, w.heap.size ≤ D → I xs W → W.heap[D]? = some (.deferred (some [])) → Q .normal { a with defers := { target := .collected D, args := #[] } :: a.defers } W)
  (hstop : ∀ D c W, w.heap.size ≤ D → Ix c W → W.heap[D]? = some (.deferred (some [])) → c.wp P Q { a with defers := { target := .collected D, args := #[] } :: a.defers } W) :
  (Code.rangeFunc g ps assign body).wp P Q a w :=
 wp_range hg eg hseq hps I Ix (fun pre x a' W => ∃ b, a' = a₁ x b ∧ M pre x b W) hI hIx (fun pre x a' X Y h hk => by obtain ⟨b, h1, h2⟩ := h; exact ⟨b, h1, hMid _ _ _ _ _ h2 hk⟩) hA h0
  (fun m l pre x suf W hxs hi hlt => hassign m l pre x suf W _ hxs hi hlt fun b W' hk hM => ⟨hk, b, rfl, hM⟩)
  (fun m l pre x suf a' W hxs hl hr h => by obtain ⟨b, rfl, h⟩ := h; exact hbody m l pre x suf b W hxs hl hr h) hdone hstop
/-- A contract, in a round. -/
theorem _root_.Go.Calls.inR {n : Nat} {f : FuncId} {args : Array Value} {w : World} {R : Ending → World → Prop} (l : Nat) (h : Calls P f args w R) : CallsIn (Fence.wide.inRound l) n P f args w R := (callsIn_wide.2 h).inRound l
end Go.Proofs.YtlpchcdalfkfcaaGreat


/-
  Groundwork: an iterator that gives values that it makes itself, turns one cell of its own between, and may itself range over another one.
-/
namespace Go.Proofs.YtlpchcdalfkfcaaGreat
open Go.RowKit
variable {P : Program}

/-- The blocks from lo on, below hi, lie as they lay. -/
def Sm (lo hi : Nat) (W W' : World) : Prop := W.heap.size ≤ W'.heap.size ∧ ∀ k, lo ≤ k → k < hi → W'.heap[k]? = W.heap[k]?
theorem Sm.refl (lo hi : Nat) (W : World) : Sm lo hi W W := ⟨Nat.le_refl _, fun _ _ _ => rfl⟩
theorem Sm.trans {lo hi : Nat} {X Y Z : World} (h : Sm lo hi X Y) (k : Sm lo hi Y Z) : Sm lo hi X Z := ⟨Nat.le_trans h.1 k.1, fun i h1 h2 => (k.2 i h1 h2).trans (h.2 i h1 h2)⟩
theorem Sm.of_below {lo hi n : Nat} {X Y : World} (h : Below n X Y) (hn : hi ≤ n) : Sm lo hi X Y := ⟨h.size, fun k _ h2 => h.block k (by omega)⟩
theorem Sm.alloc {lo hi : Nat} {X Y : World} (h : Sm lo hi X Y) (hh : hi ≤ Y.heap.size) (o : Obj) : Sm lo hi X (Y.alloc o) := h.trans (.of_below ((Below.refl _ Y).alloc (Nat.le_refl _) o) hh)
theorem Sm.setCell {lo hi : Nat} {X Y : World} (h : Sm lo hi X Y) (a : Addr) (ha : hi ≤ a.block ∨ a.block < lo) (v : Value) : Sm lo hi X (Y.setCell a v) :=
  h.trans ⟨by simp, fun k h1 h2 => Below.heap_setCell Y a v k (by omega)⟩
theorem Yields.mono {l : Nat} {args : Array Value} {W : World} {R R' : Ending → World → Prop} (h : Yields P l args W R) (hr : ∀ e W', R e W' → R' e W') : Yields P l args W R' := by
  obtain ⟨fn, tmps, assign, body, h1, h2⟩ := h
  exact ⟨fn, tmps, assign, body, h1, fun m => (h2 m).mono hr⟩
/-- How a round's body may be left. -/
def roundEndS {α : Type} (lo hi : Nat) (I : List α → World → Prop) (Ix : Code → World → Prop) (xs : List α) (W : World) : Exit → Act → World → Prop
  | .normal, _, W' => Sm lo hi W W' ∧ I xs W'
  | .ret, _, W' => Sm lo hi W W' ∧ Ix .ret W'
  | .exit id, _, W' => Sm lo hi W W' ∧ Ix (.exit id) W'
  | .goto t, _, W' => Sm lo hi W W' ∧ Ix (.goto t) W'
  | .panic _, _, _ => False
  | .outgrown, _, _ => False

theorem round_ofS {α : Type} {l lo hi : Nat} {fn : FuncId} {recd : LoopState → Option Code → Loop} {assign body : Code} {tm : Array Value} {W : World} {B : Nat}
    {I : List α → World → Prop} {Ix : Code → World → Prop} {Mid : Act → World → Prop} {nx : List α}
    (hst : ∀ s p, (recd s p).state = s) (hpe : ∀ s p, (recd s p).pending = p) (hre : ∀ s p s' p', { (recd s p) with state := s', pending := p' } = recd s' p')
    (hl : W.heap[l]? = some (.loop (recd .ready none))) (hB : B ≤ l) (hlo : lo ≤ l) (hhi : l < hi) (hMid : Stab B (fun (a : Act) W => Mid a W)) (hI : Stab B I) (hIx : Stab B Ix)
    (hassign : ∀ m, assign.wpIn (Fence.wide.inRound l) m P (Exit.then (fun a' W' => Sm lo hi W W' ∧ Mid a' W') (fun _ _ _ => False)) { tmps := tm, defers := [] } W)
    (hbody : ∀ m a' W', (∃ r, W'.heap[l]? = some (.loop r)) → Mid a' W' → body.wpIn (Fence.wide.inRound l) m P (roundEndS lo hi I Ix nx W') a' W') (m : Nat) :
    RoundIn Fence.wide m P l fn tm assign body W fun e W' => (∀ k, k ≠ l → lo ≤ k → k < hi → W'.heap[k]? = W.heap[k]?) ∧ W.heap.size ≤ W'.heap.size ∧
      ((e = .returned (.bool true) ∧ I nx W' ∧ W'.heap[l]? = some (.loop (recd .ready none))) ∨
       (e = .returned (.bool false) ∧ ∃ c, Ix c W' ∧ W'.heap[l]? = some (.loop (recd .done (some c))))) := by
  refine roundIn_of_wpIn trivial (wpIn_mono (hassign m) ?_)
  rintro e a1 W1 hp
  cases e with
  | normal =>
    obtain ⟨hk1, hm1⟩ := hp
    have hl1 := (hk1.2 l hlo hhi).trans hl
    have hlt : l < W1.heap.size := (Array.getElem?_eq_some_iff.1 hl1).1
    have hrd : ∀ s' p', { (recd .ready none) with state := s', pending := p' } = recd s' p' := hre _ _
    refine ⟨_, run_beginRound hl1 (hst _ _), ?_⟩
    have eb : ({ (recd .ready none) with state := .busy } : Loop) = recd .busy none := by
      have := hrd .busy none; rw [← this]; simp [hpe]
    rw [eb]
    have hl2 : (W1.putObj l (.loop (recd .busy none))).heap[l]? = some (.loop (recd .busy none)) := World.putObj_heap_same hlt
    refine wpIn_mono (hbody m a1 _ ⟨_, hl2⟩ (hMid a1 _ _ hm1 (Keeps.putObj _ hB hl1 rfl))) ?_
    have fin : ∀ (jump : Option Code) (W3 : World), Sm lo hi (W1.putObj l (.loop (recd .busy none))) W3 →
        (Instr.endRound l jump).run P W3 = .ok (.bool jump.isNone) (W3.putObj l (.loop (recd (if jump.isNone then .ready else .done) jump))) ∧ W3.heap[l]? = some (.loop (recd .busy none)) ∧
        (W3.putObj l (.loop (recd (if jump.isNone then .ready else .done) jump))).heap[l]? = some (.loop (recd (if jump.isNone then .ready else .done) jump)) ∧
        (∀ k, k ≠ l → lo ≤ k → k < hi → (W3.putObj l (.loop (recd (if jump.isNone then .ready else .done) jump))).heap[k]? = W.heap[k]?) ∧ W.heap.size ≤ (W3.putObj l (.loop (recd (if jump.isNone then .ready else .done) jump))).heap.size := fun jump W3 hk3 => by
      have hl3 := (hk3.2 l hlo hhi).trans hl2
      have h1 := run_endRound (P := P) jump hl3
      rw [hre] at h1
      refine ⟨h1, hl3, World.putObj_heap_same (Array.getElem?_eq_some_iff.1 hl3).1, fun k hne h1 h2 => ?_, by have := hk1.1; have := hk3.1; simp at *; omega⟩
      rw [World.putObj_heap_other hne, hk3.2 k h1 h2, World.putObj_heap_other hne]
      exact hk1.2 k h1 h2
    rintro e a3 W3 hp
    cases e with
    | normal =>
      obtain ⟨hk3, hi3⟩ := hp
      obtain ⟨hr, hl3, hl4, hk4, hs4⟩ := fin none W3 hk3
      exact ⟨_, _, hr, hk4, hs4, .inl ⟨rfl, hI _ _ _ hi3 (Keeps.putObj _ hB hl3 rfl), hl4⟩⟩
    | ret =>
      obtain ⟨hk3, hi3⟩ := hp
      obtain ⟨hr, hl3, hl4, hk4, hs4⟩ := fin (some .ret) W3 hk3
      exact ⟨_, _, hr, hk4, hs4, .inr ⟨rfl, .ret, hIx _ _ _ hi3 (Keeps.putObj _ hB hl3 rfl), hl4⟩⟩
    | exit id =>
      obtain ⟨hk3, hi3⟩ := hp
      obtain ⟨hr, hl3, hl4, hk4, hs4⟩ := fin (some (.exit id)) W3 hk3
      exact ⟨_, _, hr, hk4, hs4, .inr ⟨rfl, .exit id, hIx _ _ _ hi3 (Keeps.putObj _ hB hl3 rfl), hl4⟩⟩
    | goto t =>
      obtain ⟨hk3, hi3⟩ := hp
      obtain ⟨hr, hl3, hl4, hk4, hs4⟩ := fin (some (.goto t)) W3 hk3
      exact ⟨_, _, hr, hk4, hs4, .inr ⟨rfl, .goto t, hIx _ _ _ hi3 (Keeps.putObj _ hB hl3 rfl), hl4⟩⟩
    | panic ch => exact hp.elim
    | outgrown => exact hp.elim
  | exit id => exact hp.elim
  | goto t => exact hp.elim
  | ret => exact hp.elim
  | panic ch => exact hp.elim
  | outgrown => exact hp.elim

end Go.Proofs.YtlpchcdalfkfcaaGreat


/-
 An iterator that turns the one cell of a block that lay there before it was called. No condition.
-/
namespace Go.Proofs.YtlpchcdalfkfcaaGreat
open Go.RowKit
variable {P : Program}


/-- THE CONTRACT OF AN ITERATOR that turns the cell of block 'ob' between its rounds; S: what it leans on at its call, of that cell too. Who ranges leaves that cell alone. -/
def IterO {α : Type} (P : Program) (gf : Nat) (lb : Array Value) (ob : Nat) (encs : List α → α → Array Value) (xs : List α) (A S : World → Prop) : Prop :=
 ∀ (l : Nat) (J : List α → World → Prop) (Jx : Unit → World → Prop) (W : World),
  Stab W.heap.size J → Stab W.heap.size Jx → (∀ pre X v, J pre X → J pre (X.setCell ⟨ob, 0, none⟩ v)) → (∀ pre W', J pre W' → A W') →
  (∀ pre x suf W1, xs = pre ++ x :: suf → J pre W1 → W.heap.size ≤ W1.heap.size →
   Yields P l (encs pre x) W1 fun e W' => (Sm ob (ob + 1) W1 W' ∧ Sm W.heap.size W1.heap.size W1 W') ∧ ((e = .returned (.bool true) ∧ J (pre ++ [x]) W') ∨ (e = .returned (.bool false) ∧ Jx () W'))) →
  J [] W → S W →
  Calls P gf (#[.func (.yield l) #[] #[]] ++ lb) W fun e W' => (∃ v, e = .returned v) ∧ (J xs W' ∨ Jx () W')
/-- The law of a range over such a function, outside every round. -/
theorem wpIn_rangeO {α : Type} {n : Nat} {g : Operand} {ps : Array Tmp} {assign body : Code} {Q : Exit → Act → World → Prop} {a : Act} {w : World}
  {gf : Nat} {lb : Array Value} (hg : a.eval g = .func (.func gf) #[] lb) (eg : ∀ args w, (callFunc gf args).run P w = .ok (.enter gf args) w)
  {ob : Nat} (hob : ob < w.heap.size) {encs : List α → α → Array Value} {xs : List α} {A S : World → Prop} (hseq : IterO P gf lb ob encs xs A S) (hps : ∀ pre x, (encs pre x).size = ps.size)
  (I : List α → World → Prop) (Ix : Code → World → Prop) (Mid : List α → α → Act → World → Prop)
  (hI : Stab w.heap.size I) (hIx : Stab w.heap.size Ix) (hMid : ∀ pre x, Stab w.heap.size (fun (a : Act) W => Mid pre x a W))
  (hO : ∀ pre X v, I pre X → I pre (X.setCell ⟨ob, 0, none⟩ v)) (hS : ∀ X Y, S X → Keeps w.heap.size X Y → S Y) (hA : ∀ pre W', I pre W' → A W') (h0 : I [] w) (hS0 : S w)
  (hassign : ∀ m l pre x suf W, xs = pre ++ x :: suf → I pre W → w.heap.size + 2 ≤ W.heap.size →
   assign.wpIn (Fence.wide.inRound l) m P (Exit.then (fun a' W' => Sm ob W.heap.size W W' ∧ Mid pre x a' W') (fun _ _ _ => False)) { tmps := (ps.zip (encs pre x)).foldl (fun t (p, v) => t.setIfInBounds p v) a.tmps, defers := [] } W)
  (hbody : ∀ m l pre x suf a' W hi, xs = pre ++ x :: suf → w.heap.size < l → (∃ r, W.heap[l]? = some (.loop r)) → hi ≤ W.heap.size → Mid pre x a' W → body.wpIn (Fence.wide.inRound l) m P (roundEndS ob hi I Ix (pre ++ [x]) W) a' W)
  (hdone : ∀ D W, w.heap.size ≤ D → I xs W → W.heap[D]? = some (.deferred (some [])) → Q .normal { a with defers := { target := .collected D, args := #[] } :: a.defers } W)
  (hstop : ∀ D c W, w.heap.size ≤ D → Ix c W → W.heap[D]? = some (.deferred (some [])) → c.wpIn Fence.wide n P Q { a with defers := { target := .collected D, args := #[] } :: a.defers } W) :
  (Code.rangeFunc g ps assign body).wpIn Fence.wide n P Q a w := by
 refine wpIn_rangeFunc ?_
 intro fn hfn
 rw [show Fence.wide.round = none from rfl]
 obtain ⟨recd, hrec⟩ : ∃ recd : LoopState → Option Code → Loop, recd = fun st pe => { state := st, pending := pe, fn, tmps := a.tmps, params := ps, assign, body, defers := w.heap.size } := ⟨_, rfl⟩
 obtain ⟨W1, hW1⟩ : ∃ W1, (w.alloc (.deferred (some []))).alloc (.loop (recd .ready none)) = W1 := ⟨_, rfl⟩
 have hz1 : W1.heap.size = w.heap.size + 2 := by rw [← hW1]; simp
 have hL1 : W1.heap[w.heap.size + 1]? = some (.loop (recd .ready none)) := by
  rw [← hW1]; have := World.alloc_heap_new (w.alloc (.deferred (some []))) (.loop (recd .ready none)); rwa [World.size_alloc] at this
 have hK1 : W1.heap[w.heap.size]? = some (.deferred (some [])) := by
  rw [← hW1]; exact (Below.heap_alloc _ _ _ (by simp)).trans (World.alloc_heap_new w _)
 have hS1 : S W1 := by rw [← hW1]; exact hS _ _ hS0 (((Keeps.refl _ w).alloc (Nat.le_refl _) _).alloc (Nat.le_refl _) _)
 have hI1 : I [] W1 := by rw [← hW1]; exact hI _ _ _ h0 (((Keeps.refl _ w).alloc (Nat.le_refl _) _).alloc (Nat.le_refl _) _)
 refine ⟨w.heap.size + 1, [{ target := .collected w.heap.size, args := #[] }], W1, { target := .fn (.func gf) lb, args := #[.func (.yield (w.heap.size + 1)) #[] #[]] }, W1, gf,
  #[.func (.yield (w.heap.size + 1)) #[] #[]] ++ lb, W1, ?_, ?_, ?_, ?_, fun h => by simp [Fence.wide] at h, ?_⟩
 ·rw [← hW1, hrec]; exact run_enterLoop_outer _ _ _ _ _
 ·simp only [resolve, hg]
  simp [go_sem]
 ·intro f' hf'; trivial
 ·simp [invoke, go_sem, eg]
 ·refine callsIn_wide.2 ((hseq (w.heap.size + 1)
   (fun pre W => I pre W ∧ W.heap[w.heap.size + 1]? = some (.loop (recd .ready none)) ∧ W.heap[w.heap.size]? = some (.deferred (some [])))
   (fun _ W => ∃ c, Ix c W ∧ W.heap[w.heap.size + 1]? = some (.loop (recd .done (some c))) ∧ W.heap[w.heap.size]? = some (.deferred (some [])))
   W1
   (fun s X Y hs hk => ⟨hI s X Y hs.1 (hk.mono (by omega)), (hk.low _ (by omega)).trans hs.2.1, (hk.low _ (by omega)).trans hs.2.2⟩)
   (fun s X Y hs hk => by obtain ⟨c, hc, hl, hd⟩ := hs; exact ⟨c, hIx _ X Y hc (hk.mono (by omega)), (hk.low _ (by omega)).trans hl, (hk.low _ (by omega)).trans hd⟩)
   (fun pre X v hs => ⟨hO pre X v hs.1, (Below.heap_setCell _ _ _ _ (by dsimp only; omega)).trans hs.2.1, (Below.heap_setCell _ _ _ _ (by dsimp only; omega)).trans hs.2.2⟩)
   (fun pre W' h => hA pre W' h.1) ?_ ⟨hI1, hL1, hK1⟩ hS1).mono ?_)
  ·rintro pre x suf W hxs ⟨hi, hl, hk⟩ hsz
   have hy := run_yield (P := P) (args := encs pre x) hl (by rw [hrec]; exact hps _ _)
   rw [hrec] at hy
   refine ⟨fn, _, assign, body, hy, fun m => ?_⟩
   refine (round_ofS (recd := recd) (B := w.heap.size) (lo := ob) (hi := W.heap.size) (I := I) (Ix := Ix) (Mid := fun a' W' => Mid pre x a' W' ∧ W.heap.size ≤ W'.heap.size) (nx := pre ++ [x]) (by rw [hrec]; intros; rfl) (by rw [hrec]; intros; rfl) (by rw [hrec]; intros; rfl) hl (by omega) (by omega) (by omega) (fun a' X Y h hk => ⟨hMid pre x a' X Y h.1 hk, Nat.le_trans h.2 hk.size⟩) hI hIx
    (fun m => wpIn_mono (hassign m _ pre x suf W hxs hi (by omega)) (fun e a' W' h => by cases e <;> first | exact ⟨h.1, h.2, h.1.1⟩ | exact h)) (fun m a' W' hr hm => hbody m _ pre x suf a' W' _ hxs (by omega) hr hm.2 hm.1) m).mono ?_
   rintro e W' ⟨hk', hs', h⟩
   refine ⟨⟨⟨hs', fun k h1 h2 => hk' k (by omega) (by omega) (by omega)⟩, ⟨hs', fun k h1 h2 => hk' k (by omega) (by omega) (by omega)⟩⟩, ?_⟩
   rcases h with ⟨rfl, hi', hl'⟩ | ⟨rfl, c, hi', hl'⟩
   ·exact .inl ⟨rfl, hi', hl', (hk' _ (by omega) (by omega) (by omega)).trans hk⟩
   ·exact .inr ⟨rfl, c, hi', hl', (hk' _ (by omega) (by omega) (by omega)).trans hk⟩
  ·rintro e W2 ⟨⟨v, rfl⟩, (⟨hi, hl, hk⟩ | ⟨c, hi, hl, hk⟩)⟩
   ·exact ⟨none, _, by have := run_endLoop (P := P) hl (by rw [hrec]; simp); rw [hrec] at this; exact this,
     hdone _ _ (Nat.le_refl _) (hI _ _ _ hi (Keeps.putObj _ (by omega) hl rfl)) ((World.putObj_heap_other (by omega)).trans hk)⟩
   ·exact ⟨some c, _, by have := run_endLoop (P := P) hl (by rw [hrec]; simp); rw [hrec] at this; exact this,
     hstop _ c _ (Nat.le_refl _) (hIx _ _ _ hi (Keeps.putObj _ (by omega) hl rfl)) ((World.putObj_heap_other (by omega)).trans hk)⟩
theorem wp_rangeO {α : Type} {g : Operand} {ps : Array Tmp} {assign body : Code} {Q : Exit → Act → World → Prop} {a : Act} {w : World}
  {gf : Nat} {lb : Array Value} (hg : a.eval g = .func (.func gf) #[] lb) (eg : ∀ args w, (callFunc gf args).run P w = .ok (.enter gf args) w)
  {ob : Nat} (hob : ob < w.heap.size) {encs : List α → α → Array Value} {xs : List α} {A S : World → Prop} (hseq : IterO P gf lb ob encs xs A S) (hps : ∀ pre x, (encs pre x).size = ps.size)
  (I : List α → World → Prop) (Ix : Code → World → Prop) (Mid : List α → α → Act → World → Prop)
  (hI : Stab w.heap.size I) (hIx : Stab w.heap.size Ix) (hMid : ∀ pre x, Stab w.heap.size (fun (a : Act) W => Mid pre x a W))
  (hO : ∀ pre X v, I pre X → I pre (X.setCell ⟨ob, 0, none⟩ v)) (hS : ∀ X Y, S X → Keeps w.heap.size X Y → S Y) (hA : ∀ pre W', I pre W' → A W') (h0 : I [] w) (hS0 : S w)
  (hassign : ∀ m l pre x suf W, xs = pre ++ x :: suf → I pre W → w.heap.size + 2 ≤ W.heap.size →
   assign.wpIn (Fence.wide.inRound l) m P (Exit.then (fun a' W' => Sm ob W.heap.size W W' ∧ Mid pre x a' W') (fun _ _ _ => False)) { tmps := (ps.zip (encs pre x)).foldl (fun t (p, v) => t.setIfInBounds p v) a.tmps, defers := [] } W)
  (hbody : ∀ m l pre x suf a' W hi, xs = pre ++ x :: suf → w.heap.size < l → (∃ r, W.heap[l]? = some (.loop r)) → hi ≤ W.heap.size → Mid pre x a' W → body.wpIn (Fence.wide.inRound l) m P (roundEndS ob hi I Ix (pre ++ [x]) W) a' W)
  (hdone : ∀ D W, w.heap.size ≤ D → I xs W → W.heap[D]? = some (.deferred (some [])) → Q .normal { a with defers := { target := .collected D, args := #[] } :: a.defers } W)
  (hstop : ∀ D c W, w.heap.size ≤ D → Ix c W → W.heap[D]? = some (.deferred (some [])) → c.wp P Q { a with defers := { target := .collected D, args := #[] } :: a.defers } W) :
  (Code.rangeFunc g ps assign body).wp P Q a w :=
 wpIn_wide (n := 0) |>.1 (wpIn_rangeO hg eg hob hseq hps I Ix Mid hI hIx hMid hO hS hA h0 hS0 hassign hbody hdone (fun D c W h1 h2 h3 => wpIn_wide.2 (hstop D c W h1 h2 h3)))
theorem Yields.bool {P : Program} {l : Nat} {args : Array Value} {W1 : World} {S A B : World → Prop} (h : Yields P l args W1 fun e W' => S W' ∧ ((e = .returned (.bool true) ∧ A W') ∨ (e = .returned (.bool false) ∧ B W'))) :
  Yields P l args W1 fun e W' => S W' ∧ ∃ t : Bool, e = .returned (.bool t) ∧ (t = true → A W') ∧ (t = false → B W') := by
 refine h.mono ?_
 rintro e W' ⟨h1, ⟨h2, h3⟩ | ⟨h2, h3⟩⟩
 ·exact ⟨h1, true, h2, fun _ => h3, (fun h => by cases h)⟩
 ·exact ⟨h1, false, h2, (fun h => by cases h), fun _ => h3⟩
end Go.Proofs.YtlpchcdalfkfcaaGreat

