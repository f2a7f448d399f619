/-
  Groundwork: a range over a function whose loop variable lies in a box of its own.
-/
import Derived.Test.YtlpchcdalfkfcaaGreatBCore
namespace Go.Proofs.YtlpchcdalfkfcaaGreat
open Go.RowKit
variable {P : Program}

theorem wp_rangeB {α : Type} {g : Operand} {ps : Array Tmp} {assign body : Code} {Q : Exit → Act → World → Prop} {a : Act} {w : World}
    {gf : Nat} {lb : Array Value} (hg : a.eval g = .func (.func gf) #[] lb) (eg : ∀ args w, (callFunc gf args).run P w = .ok (.enter gf args) w)
    {encs : α → Array Value} {xs : List α} {A : World → Prop} (hseq : IterK P gf lb encs xs A) (hps : ∀ x, (encs x).size = ps.size)
    (I : List α → World → Prop) (Ix : Code → World → Prop) (a₁ : α → Nat → Act) (M : List α → α → Nat → World → Prop)
    (hI : Stab w.heap.size I) (hIx : Stab w.heap.size Ix) (hMid : ∀ pre x, Stab w.heap.size (M pre x)) (hA : ∀ pre W', I pre W' → A W') (h0 : I [] w)
    (hassign : ∀ m l pre x suf W (K : Act → World → Prop), xs = pre ++ x :: suf → I pre W → w.heap.size < W.heap.size → (∀ b W', KeepsRec W W' → M pre x b W' → K (a₁ x b) W') →
      assign.wpIn (Fence.wide.inRound l) m P (Exit.then K (fun _ _ _ => False)) { tmps := (ps.zip (encs x)).foldl (fun t (p, v) => t.setIfInBounds p v) a.tmps, defers := [] } W)
    (hbody : ∀ m l pre x suf b W, xs = pre ++ x :: suf → w.heap.size < l → (∃ r, W.heap[l]? = some (.loop r)) → M pre x b W → body.wpIn (Fence.wide.inRound l) m P (roundEnd I Ix (pre ++ [x]) W) (a₁ x b) W)
    (hdone : ∀ D W, w.heap.size ≤ D → I xs W → W.heap[D]? = some (.deferred (some [])) → Q .normal { a with defers := { target := .collected D, args := #[] } :: a.defers } W)
    (hstop : ∀ D c W, w.heap.size ≤ D → Ix c W → W.heap[D]? = some (.deferred (some [])) → c.wp P Q { a with defers := { target := .collected D, args := #[] } :: a.defers } W) :
    (Code.rangeFunc g ps assign body).wp P Q a w :=
  wp_range hg eg hseq hps I Ix (fun pre x a' W => ∃ b, a' = a₁ x b ∧ M pre x b W) hI hIx (fun pre x a' X Y h hk => by obtain ⟨b, h1, h2⟩ := h; exact ⟨b, h1, hMid _ _ _ _ _ h2 hk⟩) hA h0
    (fun m l pre x suf W hxs hi hlt => hassign m l pre x suf W _ hxs hi hlt fun b W' hk hM => ⟨hk, b, rfl, hM⟩)
    (fun m l pre x suf a' W hxs hl hr h => by obtain ⟨b, rfl, h⟩ := h; exact hbody m l pre x suf b W hxs hl hr h) hdone hstop
/-- A contract, in a round. -/
theorem _root_.Go.Calls.inR {n : Nat} {f : FuncId} {args : Array Value} {w : World} {R : Ending → World → Prop} (l : Nat) (h : Calls P f args w R) : CallsIn (Fence.wide.inRound l) n P f args w R := (callsIn_wide.2 h).inRound l
end Go.Proofs.YtlpchcdalfkfcaaGreat

/-
  Groundwork: an iterator that gives values that it makes itself, turns one cell of its own between, and may itself range over another one.
-/
namespace Go.Proofs.YtlpchcdalfkfcaaGreat
open Go.RowKit
variable {P : Program}

/-- The blocks from lo on, below hi, lie as they lay. -/
def Sm (lo hi : Nat) (W W' : World) : Prop := W.heap.size ≤ W'.heap.size ∧ ∀ k, lo ≤ k → k < hi → W'.heap[k]? = W.heap[k]?
theorem Sm.refl (lo hi : Nat) (W : World) : Sm lo hi W W := ⟨Nat.le_refl _, fun _ _ _ => rfl⟩
theorem Sm.trans {lo hi : Nat} {X Y Z : World} (h : Sm lo hi X Y) (k : Sm lo hi Y Z) : Sm lo hi X Z := ⟨Nat.le_trans h.1 k.1, fun i h1 h2 => (k.2 i h1 h2).trans (h.2 i h1 h2)⟩
theorem Sm.of_below {lo hi n : Nat} {X Y : World} (h : Below n X Y) (hn : hi ≤ n) : Sm lo hi X Y := ⟨h.size, fun k _ h2 => h.block k (by omega)⟩
theorem Sm.alloc {lo hi : Nat} {X Y : World} (h : Sm lo hi X Y) (hh : hi ≤ Y.heap.size) (o : Obj) : Sm lo hi X (Y.alloc o) := h.trans (.of_below ((Below.refl _ Y).alloc (Nat.le_refl _) o) hh)
theorem Sm.setCell {lo hi : Nat} {X Y : World} (h : Sm lo hi X Y) (a : Addr) (ha : hi ≤ a.block ∨ a.block < lo) (v : Value) : Sm lo hi X (Y.setCell a v) :=
  h.trans ⟨by simp, fun k h1 h2 => Below.heap_setCell Y a v k (by omega)⟩
theorem Sm.drewN {lo hi : Nat} {X Y : World} (h : Sm lo hi X Y) (n : Nat) : Sm lo hi X (Y.drewN n) := ⟨h.1, h.2⟩
theorem Sm.drew {lo hi : Nat} {X Y : World} (h : Sm lo hi X Y) : Sm lo hi X Y.drew := ⟨h.1, h.2⟩

/-- THE CONTRACT OF AN ITERATOR whose values are made as they are given. E B x W0 W1 vals: B: the heap's size at its call; W0: a world behind the last round; W1: the world in which it yields. The cnt blocks that it makes first are its own; it may turn the cell of the one at 'own'. -/
def IterR {α : Type} (P : Program) (gf : Nat) (lb : Array Value) (cnt : Nat) (own : Option Nat) (E : Nat → α → World → World → Array Value → Prop) (xs : List α) (A : World → Prop) : Prop :=
  ∀ (l : Nat) (J : List α → World → Prop) (Jx : Unit → World → Prop) (W : World),
    Stab W.heap.size J → Stab W.heap.size Jx → (∀ o, own = some o → ∀ pre X v, J pre X → J pre (X.setCell ⟨W.heap.size + o, 0, none⟩ v)) → (∀ o, own = some o → ∀ u X v, Jx u X → Jx u (X.setCell ⟨W.heap.size + o, 0, none⟩ v)) → (∀ pre W', J pre W' → A W') →
    (∀ pre x suf W0 W1 vals, xs = pre ++ x :: suf → J pre W0 → W.heap.size ≤ W0.heap.size → Keeps W.heap.size W0 W1 → E W.heap.size x W0 W1 vals →
      Yields P l vals W1 fun e W' => Sm W.heap.size (W.heap.size + cnt) W1 W' ∧ ((e = .returned (.bool true) ∧ J (pre ++ [x]) W') ∨ (e = .returned (.bool false) ∧ Jx () W'))) →
    J [] W →
    Calls P gf (#[.func (.yield l) #[] #[]] ++ lb) W fun e W' => (∃ v, e = .returned v) ∧ (J xs W' ∨ Jx () W')
theorem Yields.mono {l : Nat} {args : Array Value} {W : World} {R R' : Ending → World → Prop} (h : Yields P l args W R) (hr : ∀ e W', R e W' → R' e W') : Yields P l args W R' := by
  obtain ⟨fn, tmps, assign, body, h1, h2⟩ := h
  exact ⟨fn, tmps, assign, body, h1, fun m => (h2 m).mono hr⟩
/-- An iterator whose values are known beforehand is such a one. -/
theorem IterK.toR {α : Type} {gf : Nat} {lb : Array Value} {encs : α → Array Value} {xs : List α} {A : World → Prop} (h : IterK P gf lb encs xs A) : IterR P gf lb 0 none (fun _ x _ _ vals => vals = encs x) xs A := by
  intro l J Jx W hJ hJx _ _ hA hY h0
  refine h l J Jx W hJ hJx hA (fun pre x suf W1 hxs hJ1 hsz => (hY pre x suf W1 W1 (encs x) hxs hJ1 hsz (Keeps.refl _ _) rfl).mono ?_) h0
  rintro e W' ⟨hs, ⟨h1, h2⟩ | ⟨h1, h2⟩⟩
  · exact .inl ⟨h1, h2, hs.1⟩
  · exact .inr ⟨h1, h2, hs.1⟩
theorem RoundIn_inR {n : Nat} {l : Nat} {f : FuncId} {tmps : Array Value} {assign body : Code} {w : World} {R : Ending → World → Prop} (l' : Nat) (h : RoundIn Fence.wide n P l f tmps assign body w R) : RoundIn (Fence.wide.inRound l') n P l f tmps assign body w R := h

/-- How a round's body may be left. -/
def roundEndS {α : Type} (lo hi : Nat) (I : List α → World → Prop) (Ix : Code → World → Prop) (xs : List α) (W : World) : Exit → Act → World → Prop
  | .normal, _, W' => Sm lo hi W W' ∧ I xs W'
  | .ret, _, W' => Sm lo hi W W' ∧ Ix .ret W'
  | .exit id, _, W' => Sm lo hi W W' ∧ Ix (.exit id) W'
  | .goto t, _, W' => Sm lo hi W W' ∧ Ix (.goto t) W'
  | .panic _, _, _ => False
  | .outgrown, _, _ => False

theorem round_ofS {α : Type} {l lo hi : Nat} {fn : FuncId} {recd : LoopState → Option Code → Loop} {assign body : Code} {tm : Array Value} {W : World} {B : Nat}
    {I : List α → World → Prop} {Ix : Code → World → Prop} {Mid : Act → World → Prop} {nx : List α}
    (hst : ∀ s p, (recd s p).state = s) (hpe : ∀ s p, (recd s p).pending = p) (hre : ∀ s p s' p', { (recd s p) with state := s', pending := p' } = recd s' p')
    (hl : W.heap[l]? = some (.loop (recd .ready none))) (hB : B ≤ l) (hlo : lo ≤ l) (hhi : l < hi) (hMid : Stab B (fun (a : Act) W => Mid a W)) (hI : Stab B I) (hIx : Stab B Ix)
    (hassign : ∀ m, assign.wpIn (Fence.wide.inRound l) m P (Exit.then (fun a' W' => Sm lo hi W W' ∧ Mid a' W') (fun _ _ _ => False)) { tmps := tm, defers := [] } W)
    (hbody : ∀ m a' W', (∃ r, W'.heap[l]? = some (.loop r)) → Mid a' W' → body.wpIn (Fence.wide.inRound l) m P (roundEndS lo hi I Ix nx W') a' W') (m : Nat) :
    RoundIn Fence.wide m P l fn tm assign body W fun e W' => (∀ k, k ≠ l → lo ≤ k → k < hi → W'.heap[k]? = W.heap[k]?) ∧ W.heap.size ≤ W'.heap.size ∧
      ((e = .returned (.bool true) ∧ I nx W' ∧ W'.heap[l]? = some (.loop (recd .ready none))) ∨
       (e = .returned (.bool false) ∧ ∃ c, Ix c W' ∧ W'.heap[l]? = some (.loop (recd .done (some c))))) := by
  refine roundIn_of_wpIn trivial (wpIn_mono (hassign m) ?_)
  rintro e a1 W1 hp
  cases e with
  | normal =>
    obtain ⟨hk1, hm1⟩ := hp
    have hl1 := (hk1.2 l hlo hhi).trans hl
    have hlt : l < W1.heap.size := (Array.getElem?_eq_some_iff.1 hl1).1
    have hrd : ∀ s' p', { (recd .ready none) with state := s', pending := p' } = recd s' p' := hre _ _
    refine ⟨_, run_beginRound hl1 (hst _ _), ?_⟩
    have eb : ({ (recd .ready none) with state := .busy } : Loop) = recd .busy none := by
      have := hrd .busy none; rw [← this]; simp [hpe]
    rw [eb]
    have hl2 : (W1.putObj l (.loop (recd .busy none))).heap[l]? = some (.loop (recd .busy none)) := World.putObj_heap_same hlt
    refine wpIn_mono (hbody m a1 _ ⟨_, hl2⟩ (hMid a1 _ _ hm1 (Keeps.putObj _ hB hl1 rfl))) ?_
    have fin : ∀ (jump : Option Code) (W3 : World), Sm lo hi (W1.putObj l (.loop (recd .busy none))) W3 →
        (Instr.endRound l jump).run P W3 = .ok (.bool jump.isNone) (W3.putObj l (.loop (recd (if jump.isNone then .ready else .done) jump))) ∧ W3.heap[l]? = some (.loop (recd .busy none)) ∧
        (W3.putObj l (.loop (recd (if jump.isNone then .ready else .done) jump))).heap[l]? = some (.loop (recd (if jump.isNone then .ready else .done) jump)) ∧
        (∀ k, k ≠ l → lo ≤ k → k < hi → (W3.putObj l (.loop (recd (if jump.isNone then .ready else .done) jump))).heap[k]? = W.heap[k]?) ∧ W.heap.size ≤ (W3.putObj l (.loop (recd (if jump.isNone then .ready else .done) jump))).heap.size := fun jump W3 hk3 => by
      have hl3 := (hk3.2 l hlo hhi).trans hl2
      have h1 := run_endRound (P := P) jump hl3
      rw [hre] at h1
      refine ⟨h1, hl3, World.putObj_heap_same (Array.getElem?_eq_some_iff.1 hl3).1, fun k hne h1 h2 => ?_, by have := hk1.1; have := hk3.1; simp at *; omega⟩
      rw [World.putObj_heap_other hne, hk3.2 k h1 h2, World.putObj_heap_other hne]
      exact hk1.2 k h1 h2
    rintro e a3 W3 hp
    cases e with
    | normal =>
      obtain ⟨hk3, hi3⟩ := hp
      obtain ⟨hr, hl3, hl4, hk4, hs4⟩ := fin none W3 hk3
      exact ⟨_, _, hr, hk4, hs4, .inl ⟨rfl, hI _ _ _ hi3 (Keeps.putObj _ hB hl3 rfl), hl4⟩⟩
    | ret =>
      obtain ⟨hk3, hi3⟩ := hp
      obtain ⟨hr, hl3, hl4, hk4, hs4⟩ := fin (some .ret) W3 hk3
      exact ⟨_, _, hr, hk4, hs4, .inr ⟨rfl, .ret, hIx _ _ _ hi3 (Keeps.putObj _ hB hl3 rfl), hl4⟩⟩
    | exit id =>
      obtain ⟨hk3, hi3⟩ := hp
      obtain ⟨hr, hl3, hl4, hk4, hs4⟩ := fin (some (.exit id)) W3 hk3
      exact ⟨_, _, hr, hk4, hs4, .inr ⟨rfl, .exit id, hIx _ _ _ hi3 (Keeps.putObj _ hB hl3 rfl), hl4⟩⟩
    | goto t =>
      obtain ⟨hk3, hi3⟩ := hp
      obtain ⟨hr, hl3, hl4, hk4, hs4⟩ := fin (some (.goto t)) W3 hk3
      exact ⟨_, _, hr, hk4, hs4, .inr ⟨rfl, .goto t, hIx _ _ _ hi3 (Keeps.putObj _ hB hl3 rfl), hl4⟩⟩
    | panic ch => exact hp.elim
    | outgrown => exact hp.elim
  | exit id => exact hp.elim
  | goto t => exact hp.elim
  | ret => exact hp.elim
  | panic ch => exact hp.elim
  | outgrown => exact hp.elim

/-- The law of a range over such a function, outside every round. -/
theorem wpIn_rangeR {α : Type} {n : Nat} {g : Operand} {ps : Array Tmp} {assign body : Code} {Q : Exit → Act → World → Prop} {a : Act} {w : World}
    {gf : Nat} {lb : Array Value} (hg : a.eval g = .func (.func gf) #[] lb) (eg : ∀ args w, (callFunc gf args).run P w = .ok (.enter gf args) w)
    {cnt : Nat} {own : Option Nat} {E : Nat → α → World → World → Array Value → Prop} {xs : List α} {A : World → Prop} (hseq : IterR P gf lb cnt own E xs A) (hps : ∀ B x X Y vals, E B x X Y vals → vals.size = ps.size)
    (I : List α → World → Prop) (Ix : Code → World → Prop) (Mid : List α → α → Act → World → Prop)
    (hI : Stab w.heap.size I) (hIx : Stab w.heap.size Ix) (hMid : ∀ pre x, Stab w.heap.size (fun (a : Act) W => Mid pre x a W))
    (hO : ∀ o, own = some o → ∀ pre X v, I pre X → I pre (X.setCell ⟨w.heap.size + 2 + o, 0, none⟩ v)) (hOx : ∀ o, own = some o → ∀ c X v, Ix c X → Ix c (X.setCell ⟨w.heap.size + 2 + o, 0, none⟩ v)) (hA : ∀ pre W', I pre W' → A W') (h0 : I [] w)
    (hassign : ∀ m l pre x suf W0 W vals, xs = pre ++ x :: suf → I pre W0 → Keeps w.heap.size W0 W → w.heap.size + 2 ≤ W0.heap.size → E (w.heap.size + 2) x W0 W vals →
      assign.wpIn (Fence.wide.inRound l) m P (Exit.then (fun a' W' => Sm w.heap.size (w.heap.size + 2 + cnt) W W' ∧ Mid pre x a' W') (fun _ _ _ => False)) { tmps := (ps.zip vals).foldl (fun t (p, v) => t.setIfInBounds p v) a.tmps, defers := [] } W)
    (hbody : ∀ m l pre x suf a' W, xs = pre ++ x :: suf → w.heap.size < l → (∃ r, W.heap[l]? = some (.loop r)) → Mid pre x a' W → body.wpIn (Fence.wide.inRound l) m P (roundEndS w.heap.size (w.heap.size + 2 + cnt) I Ix (pre ++ [x]) W) a' W)
    (hdone : ∀ D W, w.heap.size ≤ D → I xs W → W.heap[D]? = some (.deferred (some [])) → Q .normal { a with defers := { target := .collected D, args := #[] } :: a.defers } W)
    (hstop : ∀ D c W, w.heap.size ≤ D → Ix c W → W.heap[D]? = some (.deferred (some [])) → c.wpIn Fence.wide n P Q { a with defers := { target := .collected D, args := #[] } :: a.defers } W) :
    (Code.rangeFunc g ps assign body).wpIn Fence.wide n P Q a w := by
  refine wpIn_rangeFunc ?_
  intro fn hfn
  rw [show Fence.wide.round = none from rfl]
  obtain ⟨recd, hrec⟩ : ∃ recd : LoopState → Option Code → Loop, recd = fun st pe => { state := st, pending := pe, fn, tmps := a.tmps, params := ps, assign, body, defers := w.heap.size } := ⟨_, rfl⟩
  obtain ⟨W1, hW1⟩ : ∃ W1, (w.alloc (.deferred (some []))).alloc (.loop (recd .ready none)) = W1 := ⟨_, rfl⟩
  have hz1 : W1.heap.size = w.heap.size + 2 := by rw [← hW1]; simp
  have hL1 : W1.heap[w.heap.size + 1]? = some (.loop (recd .ready none)) := by
    rw [← hW1]; have := World.alloc_heap_new (w.alloc (.deferred (some []))) (.loop (recd .ready none)); rwa [World.size_alloc] at this
  have hK1 : W1.heap[w.heap.size]? = some (.deferred (some [])) := by
    rw [← hW1]; exact (Below.heap_alloc _ _ _ (by simp)).trans (World.alloc_heap_new w _)
  have hI1 : I [] W1 := by rw [← hW1]; exact hI _ _ _ h0 (((Keeps.refl _ w).alloc (Nat.le_refl _) _).alloc (Nat.le_refl _) _)
  refine ⟨w.heap.size + 1, [{ target := .collected w.heap.size, args := #[] }], W1, { target := .fn (.func gf) lb, args := #[.func (.yield (w.heap.size + 1)) #[] #[]] }, W1, gf,
    #[.func (.yield (w.heap.size + 1)) #[] #[]] ++ lb, W1, ?_, ?_, ?_, ?_, fun h => by simp [Fence.wide] at h, ?_⟩
  · rw [← hW1, hrec]; exact run_enterLoop_outer _ _ _ _ _
  · simp only [resolve, hg]
    simp [go_sem]
  · intro f' hf'; trivial
  · simp [invoke, go_sem, eg]
  · refine callsIn_wide.2 ((hseq (w.heap.size + 1)
      (fun pre W => I pre W ∧ W.heap[w.heap.size + 1]? = some (.loop (recd .ready none)) ∧ W.heap[w.heap.size]? = some (.deferred (some [])))
      (fun _ W => ∃ c, Ix c W ∧ W.heap[w.heap.size + 1]? = some (.loop (recd .done (some c))) ∧ W.heap[w.heap.size]? = some (.deferred (some [])))
      W1
      (fun s X Y hs hk => ⟨hI s X Y hs.1 (hk.mono (by omega)), (hk.low _ (by omega)).trans hs.2.1, (hk.low _ (by omega)).trans hs.2.2⟩)
      (fun s X Y hs hk => by obtain ⟨c, hc, hl, hd⟩ := hs; exact ⟨c, hIx _ X Y hc (hk.mono (by omega)), (hk.low _ (by omega)).trans hl, (hk.low _ (by omega)).trans hd⟩)
      (fun o ho pre X v hs => ⟨by have := hO o ho pre X v hs.1; rwa [← hz1] at this, (Below.heap_setCell _ _ _ _ (by rw [hz1]; dsimp only; omega)).trans hs.2.1, (Below.heap_setCell _ _ _ _ (by rw [hz1]; dsimp only; omega)).trans hs.2.2⟩)
      (fun o ho _ X v hs => by obtain ⟨c, hc, hl, hd⟩ := hs; exact ⟨c, by have := hOx o ho c X v hc; rwa [← hz1] at this, (Below.heap_setCell _ _ _ _ (by rw [hz1]; dsimp only; omega)).trans hl, (Below.heap_setCell _ _ _ _ (by rw [hz1]; dsimp only; omega)).trans hd⟩)
      (fun pre W' h => hA pre W' h.1) ?_ ⟨hI1, hL1, hK1⟩).mono ?_)
    · rintro pre x suf W0 W vals hxs ⟨hi0, hl0, hk0⟩ hsz hkp hE
      have hi := hI pre _ _ hi0 (hkp.mono (by omega))
      have hl := (hkp.low _ (by omega)).trans hl0
      have hk := (hkp.low _ (by omega)).trans hk0
      have hszW := hkp.size
      rw [hz1] at hE
      have hy := run_yield (P := P) (args := vals) hl (by rw [hrec]; exact hps _ _ _ _ _ hE)
      rw [hrec] at hy
      refine ⟨fn, _, assign, body, hy, fun m => ?_⟩
      refine (round_ofS (recd := recd) (B := w.heap.size) (lo := w.heap.size) (hi := w.heap.size + 2 + cnt) (I := I) (Ix := Ix) (Mid := Mid pre x) (nx := pre ++ [x]) (by rw [hrec]; intros; rfl) (by rw [hrec]; intros; rfl) (by rw [hrec]; intros; rfl) hl (by omega) (by omega) (by omega) (hMid pre x) hI hIx
        (fun m => hassign m _ pre x suf W0 W vals hxs hi0 (hkp.mono (by omega)) (by omega) hE) (fun m a' W' hr hm => hbody m _ pre x suf a' W' hxs (by omega) hr hm) m).mono ?_
      rintro e W' ⟨hk', hs', h⟩
      refine ⟨⟨hs', fun k h1 h2 => hk' k (by omega) (by omega) (by omega)⟩, ?_⟩
      rcases h with ⟨rfl, hi', hl'⟩ | ⟨rfl, c, hi', hl'⟩
      · exact .inl ⟨rfl, hi', hl', (hk' _ (by omega) (by omega) (by omega)).trans hk⟩
      · exact .inr ⟨rfl, c, hi', hl', (hk' _ (by omega) (by omega) (by omega)).trans hk⟩
    · rintro e W2 ⟨⟨v, rfl⟩, (⟨hi, hl, hk⟩ | ⟨c, hi, hl, hk⟩)⟩
      · exact ⟨none, _, by have := run_endLoop (P := P) hl (by rw [hrec]; simp); rw [hrec] at this; exact this,
          hdone _ _ (Nat.le_refl _) (hI _ _ _ hi (Keeps.putObj _ (by omega) hl rfl)) ((World.putObj_heap_other (by omega)).trans hk)⟩
      · exact ⟨some c, _, by have := run_endLoop (P := P) hl (by rw [hrec]; simp); rw [hrec] at this; exact this,
          hstop _ c _ (Nat.le_refl _) (hIx _ _ _ hi (Keeps.putObj _ (by omega) hl rfl)) ((World.putObj_heap_other (by omega)).trans hk)⟩
/-- The same in a plain walk, the loop variables in slots. -/
theorem wp_rangeRA {α : Type} {g : Operand} {ps : Array Tmp} {assign body : Code} {Q : Exit → Act → World → Prop} {a : Act} {w : World}
    {gf : Nat} {lb : Array Value} (hg : a.eval g = .func (.func gf) #[] lb) (eg : ∀ args w, (callFunc gf args).run P w = .ok (.enter gf args) w)
    {cnt : Nat} {own : Option Nat} {E : Nat → α → World → World → Array Value → Prop} {xs : List α} {A : World → Prop} (hseq : IterR P gf lb cnt own E xs A) (hps : ∀ B x X Y vals, E B x X Y vals → vals.size = ps.size)
    (I : List α → World → Prop) (Ix : Code → World → Prop) (R : Array Value → Act → Prop)
    (hassign : ∀ m l B x W0 W vals (K : Act → World → Prop), E B x W0 W vals → (∀ a', R vals a' → K a' W) → assign.wpIn (Fence.wide.inRound l) m P (Exit.then K (fun _ _ _ => False)) { tmps := (ps.zip vals).foldl (fun t (p, v) => t.setIfInBounds p v) a.tmps, defers := [] } W)
    (hI : Stab w.heap.size I) (hIx : Stab w.heap.size Ix) (hE : ∀ W0 x vals, Stab w.heap.size (fun (_ : Unit) W => E (w.heap.size + 2) x W0 W vals))
    (hO : ∀ o, own = some o → ∀ pre X v, I pre X → I pre (X.setCell ⟨w.heap.size + 2 + o, 0, none⟩ v)) (hOx : ∀ o, own = some o → ∀ c X v, Ix c X → Ix c (X.setCell ⟨w.heap.size + 2 + o, 0, none⟩ v)) (hA : ∀ pre W', I pre W' → A W') (h0 : I [] w)
    (hbody : ∀ m l pre x suf W0 W vals a', R vals a' → xs = pre ++ x :: suf → w.heap.size < l → (∃ r, W.heap[l]? = some (.loop r)) → I pre W0 → Keeps w.heap.size W0 W → w.heap.size + 2 ≤ W0.heap.size → E (w.heap.size + 2) x W0 W vals →
      body.wpIn (Fence.wide.inRound l) m P (roundEndS w.heap.size (w.heap.size + 2 + cnt) I Ix (pre ++ [x]) W) a' W)
    (hdone : ∀ D W, w.heap.size ≤ D → I xs W → W.heap[D]? = some (.deferred (some [])) → Q .normal { a with defers := { target := .collected D, args := #[] } :: a.defers } W)
    (hstop : ∀ D c W, w.heap.size ≤ D → Ix c W → W.heap[D]? = some (.deferred (some [])) → c.wp P Q { a with defers := { target := .collected D, args := #[] } :: a.defers } W) :
    (Code.rangeFunc g ps assign body).wp P Q a w :=
  wpIn_wide (n := 0) |>.1 (wpIn_rangeR hg eg hseq hps I Ix
    (fun pre x a' W => ∃ W0 vals, R vals a' ∧ I pre W0 ∧ Keeps w.heap.size W0 W ∧ w.heap.size + 2 ≤ W0.heap.size ∧ E (w.heap.size + 2) x W0 W vals) hI hIx
    (fun pre x a' X Y h hk => by obtain ⟨W0, vals, h1, h2, h3, h4, h6⟩ := h; exact ⟨W0, vals, h1, h2, h3.trans hk, h4, hE W0 x vals () _ _ h6 hk⟩) hO hOx hA h0
    (fun m l pre x suf W0 W vals _ hi0 hk h2 hEv => hassign m l _ x W0 W vals _ hEv fun a' hR => ⟨Sm.refl _ _ W, W0, vals, hR, hi0, hk, h2, hEv⟩)
    (fun m l pre x suf a' W hxs hl hr h => by obtain ⟨W0, vals, h1, h2, h3, h4, h6⟩ := h; exact hbody m l pre x suf W0 W vals a' h1 hxs hl hr h2 h3 h4 h6) hdone (fun D c W h1 h2 h3 => wpIn_wide.2 (hstop D c W h1 h2 h3)))
theorem wp_rangeR1 {α : Type} {g : Operand} {ps : Array Tmp} {assign body : Code} {Q : Exit → Act → World → Prop} {a : Act} {w : World}
    {gf : Nat} {lb : Array Value} (hg : a.eval g = .func (.func gf) #[] lb) (eg : ∀ args w, (callFunc gf args).run P w = .ok (.enter gf args) w)
    {cnt : Nat} {own : Option Nat} {E : Nat → α → World → World → Array Value → Prop} {xs : List α} {A : World → Prop} (hseq : IterR P gf lb cnt own E xs A) (hps : ∀ B x X Y vals, E B x X Y vals → vals.size = ps.size)
    (I : List α → World → Prop) (Ix : Code → World → Prop) (a₁ : Value → Act)
    (hassign : ∀ m l B x W0 W vals (K : Act → World → Prop), E B x W0 W vals → (∀ v, vals = #[v] → K (a₁ v) W) → assign.wpIn (Fence.wide.inRound l) m P (Exit.then K (fun _ _ _ => False)) { tmps := (ps.zip vals).foldl (fun t (p, v) => t.setIfInBounds p v) a.tmps, defers := [] } W)
    (hI : Stab w.heap.size I) (hIx : Stab w.heap.size Ix) (hE : ∀ W0 x vals, Stab w.heap.size (fun (_ : Unit) W => E (w.heap.size + 2) x W0 W vals))
    (hO : ∀ o, own = some o → ∀ pre X v, I pre X → I pre (X.setCell ⟨w.heap.size + 2 + o, 0, none⟩ v)) (hOx : ∀ o, own = some o → ∀ c X v, Ix c X → Ix c (X.setCell ⟨w.heap.size + 2 + o, 0, none⟩ v)) (hA : ∀ pre W', I pre W' → A W') (h0 : I [] w)
    (hbody : ∀ m l pre x suf W0 W vals v, vals = #[v] → xs = pre ++ x :: suf → w.heap.size < l → (∃ r, W.heap[l]? = some (.loop r)) → I pre W0 → Keeps w.heap.size W0 W → w.heap.size + 2 ≤ W0.heap.size → E (w.heap.size + 2) x W0 W vals →
      body.wpIn (Fence.wide.inRound l) m P (roundEndS w.heap.size (w.heap.size + 2 + cnt) I Ix (pre ++ [x]) W) (a₁ v) W)
    (hdone : ∀ D W, w.heap.size ≤ D → I xs W → W.heap[D]? = some (.deferred (some [])) → Q .normal { a with defers := { target := .collected D, args := #[] } :: a.defers } W)
    (hstop : ∀ D c W, w.heap.size ≤ D → Ix c W → W.heap[D]? = some (.deferred (some [])) → c.wp P Q { a with defers := { target := .collected D, args := #[] } :: a.defers } W) :
    (Code.rangeFunc g ps assign body).wp P Q a w :=
  wp_rangeRA hg eg hseq hps I Ix (fun vals a' => ∃ v, vals = #[v] ∧ a' = a₁ v) (fun m l B x W0 W vals K hE hK => hassign m l B x W0 W vals K hE fun v hv => hK _ ⟨v, hv, rfl⟩) hI hIx hE hO hOx hA h0
    (fun m l pre x suf W0 W vals a' hR => by obtain ⟨v, hv, rfl⟩ := hR; exact hbody m l pre x suf W0 W vals v hv) hdone hstop
theorem wp_rangeR2 {α : Type} {g : Operand} {ps : Array Tmp} {assign body : Code} {Q : Exit → Act → World → Prop} {a : Act} {w : World}
    {gf : Nat} {lb : Array Value} (hg : a.eval g = .func (.func gf) #[] lb) (eg : ∀ args w, (callFunc gf args).run P w = .ok (.enter gf args) w)
    {cnt : Nat} {own : Option Nat} {E : Nat → α → World → World → Array Value → Prop} {xs : List α} {A : World → Prop} (hseq : IterR P gf lb cnt own E xs A) (hps : ∀ B x X Y vals, E B x X Y vals → vals.size = ps.size)
    (I : List α → World → Prop) (Ix : Code → World → Prop) (a₁ : Value → Value → Act)
    (hassign : ∀ m l B x W0 W vals (K : Act → World → Prop), E B x W0 W vals → (∀ u v, vals = #[u, v] → K (a₁ u v) W) → assign.wpIn (Fence.wide.inRound l) m P (Exit.then K (fun _ _ _ => False)) { tmps := (ps.zip vals).foldl (fun t (p, v) => t.setIfInBounds p v) a.tmps, defers := [] } W)
    (hI : Stab w.heap.size I) (hIx : Stab w.heap.size Ix) (hE : ∀ W0 x vals, Stab w.heap.size (fun (_ : Unit) W => E (w.heap.size + 2) x W0 W vals))
    (hO : ∀ o, own = some o → ∀ pre X v, I pre X → I pre (X.setCell ⟨w.heap.size + 2 + o, 0, none⟩ v)) (hOx : ∀ o, own = some o → ∀ c X v, Ix c X → Ix c (X.setCell ⟨w.heap.size + 2 + o, 0, none⟩ v)) (hA : ∀ pre W', I pre W' → A W') (h0 : I [] w)
    (hbody : ∀ m l pre x suf W0 W vals u v, vals = #[u, v] → xs = pre ++ x :: suf → w.heap.size < l → (∃ r, W.heap[l]? = some (.loop r)) → I pre W0 → Keeps w.heap.size W0 W → w.heap.size + 2 ≤ W0.heap.size → E (w.heap.size + 2) x W0 W vals →
      body.wpIn (Fence.wide.inRound l) m P (roundEndS w.heap.size (w.heap.size + 2 + cnt) I Ix (pre ++ [x]) W) (a₁ u v) W)
    (hdone : ∀ D W, w.heap.size ≤ D → I xs W → W.heap[D]? = some (.deferred (some [])) → Q .normal { a with defers := { target := .collected D, args := #[] } :: a.defers } W)
    (hstop : ∀ D c W, w.heap.size ≤ D → Ix c W → W.heap[D]? = some (.deferred (some [])) → c.wp P Q { a with defers := { target := .collected D, args := #[] } :: a.defers } W) :
    (Code.rangeFunc g ps assign body).wp P Q a w :=
  wp_rangeRA hg eg hseq hps I Ix (fun vals a' => ∃ u v, vals = #[u, v] ∧ a' = a₁ u v) (fun m l B x W0 W vals K hE hK => hassign m l B x W0 W vals K hE fun u v hv => hK _ ⟨u, v, hv, rfl⟩) hI hIx hE hO hOx hA h0
    (fun m l pre x suf W0 W vals a' hR => by obtain ⟨u, v, hv, rfl⟩ := hR; exact hbody m l pre x suf W0 W vals u v hv) hdone hstop
end Go.Proofs.YtlpchcdalfkfcaaGreat
