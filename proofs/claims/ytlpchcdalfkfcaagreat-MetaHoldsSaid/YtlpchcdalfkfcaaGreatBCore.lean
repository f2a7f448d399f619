/-
  Groundwork of our own: what a step keeps (Keeps, KeepsRec), an iterator's contract over a known list (IterK), and the law of a range over a function from it. No condition.
-/
import Derived.RangeFuncNested
import Derived.RangeFuncBound
import Derived.RangeFuncCalls
import Derived.RangeFuncLeaves
import Derived.WalkKit
import Derived.WalkSpells
import Derived.WalkLawsBesides
import Derived.OwnWalkIn
import Derived.TacticsInMore
import Derived.LoopNIn
import Derived.LoopIn
import Derived.Lib.Hide
import Derived.Laws.AppendOwnNone
import Derived.Deep.QuietTactic
import Derived.BigQuiet
import Derived.StillTailTactics
import Derived.RegionTactic
import Derived.Shelf.RegionOpen
import Derived.Outline
import Derived.Deep.DeepFit
import Derived.Deep.LoopGhost
namespace Go.Proofs.YtlpchcdalfkfcaaGreat
open Go.RowKit
theorem pu1 {α : Type _} {xs : List α} {i : Nat} (h : i < xs.toArray.size) : xs.toArray[i] = xs[i]'(by simpa using h) := rfl
theorem pu2 {α : Type _} (a : α) (tl : List α) (h : 0 < (a :: tl).length) : (a :: tl)[0] = a := rfl
theorem pu3 {α : Type _} (a : α) (tl : List α) (i : Nat) (h : i + 1 < (a :: tl).length) : (a :: tl)[i + 1] = tl[i]'(Nat.lt_of_succ_lt_succ h) := rfl
theorem pu4 {α : Type _} {l : List α} {i : Nat} {a : α} : l.toArray.setIfInBounds i a = (l.set i a).toArray := by simp
theorem pu5 {α : Type _} {a b : α} {tl : List α} : (a :: tl).set 0 b = b :: tl := rfl
theorem pu6 {α : Type _} {a b : α} {tl : List α} {n : Nat} : (a :: tl).set (n + 1) b = a :: tl.set n b := rfl
variable {P : Program}

theorem split_at {α : Type} (xs : List α) (k : Nat) (h : k < xs.length) : xs = xs.take k ++ xs[k] :: xs.drop (k + 1) := by
  rw [← List.drop_eq_getElem_cons h, List.take_append_drop]
theorem take_next {α : Type} (xs : List α) (k : Nat) (h : k < xs.length) : xs.take (k + 1) = xs.take k ++ [xs[k]] := List.take_succ_eq_append_getElem h

/-- Objects that only loops and iterators lay. -/
def isAux : Obj → Bool
  | .loop .. => true
  | .deferred .. => true
  | .mapIter .. => true
  | .stringIter .. => true
  | _ => false
def isRec : Obj → Bool
  | .loop .. => true
  | .deferred .. => true
  | _ => false
/-- Below B nothing has turned; of what lies beyond, what is no aux object has not. -/
structure Keeps (B : Nat) (W W' : World) : Prop where
  os : W'.os = W.os
  tape : W'.tape = W.tape
  output : W'.output = W.output
  size : W.heap.size ≤ W'.heap.size
  low : ∀ k, k < B → W'.heap[k]? = W.heap[k]?
  same : ∀ (k : Nat) (o : Obj), W.heap[k]? = some o → isAux o = false → W'.heap[k]? = some o

theorem Keeps.refl (B : Nat) (W : World) : Keeps B W W := ⟨rfl, rfl, rfl, Nat.le_refl _, fun _ _ => rfl, fun _ _ h _ => h⟩
theorem Keeps.trans {B : Nat} {X Y Z : World} (h : Keeps B X Y) (k : Keeps B Y Z) : Keeps B X Z :=
  ⟨k.os.trans h.os, k.tape.trans h.tape, k.output.trans h.output, Nat.le_trans h.size k.size, fun i hi => (k.low i hi).trans (h.low i hi), fun i o hi ho => k.same i o (h.same i o hi ho) ho⟩
theorem Keeps.mono {B B' : Nat} {X Y : World} (h : Keeps B X Y) (hB : B' ≤ B) : Keeps B' X Y :=
  ⟨h.os, h.tape, h.output, h.size, fun k hk => h.low k (Nat.lt_of_lt_of_le hk hB), h.same⟩
theorem Keeps.of_below {B n : Nat} {X Y : World} (h : Below n X Y) (hB : B ≤ n) (hn : X.heap.size ≤ n) : Keeps B X Y :=
  ⟨h.os, h.tape, h.output, h.size, fun k hk => h.block k (Nat.lt_of_lt_of_le hk hB), fun k _ hk _ => (h.block k (Nat.lt_of_lt_of_le (Array.getElem?_eq_some_iff.1 hk).1 hn)).trans hk⟩
theorem Keeps.below {B : Nat} {X Y : World} (h : Keeps B X Y) : Below B X Y := ⟨h.os, h.tape, h.output, h.size, h.low⟩
theorem Keeps.alloc {B : Nat} {X Y : World} (h : Keeps B X Y) (hB : B ≤ X.heap.size) (o : Obj) : Keeps B X (Y.alloc o) :=
  h.trans (.of_below (n := Y.heap.size) ((Below.refl _ Y).alloc (Nat.le_refl _) o) (Nat.le_trans hB h.size) (Nat.le_refl _))
theorem Keeps.drew {B : Nat} {X Y : World} (h : Keeps B X Y) : Keeps B X Y.drew := ⟨h.os, h.tape, h.output, h.size, h.low, h.same⟩
theorem Keeps.putObj {B r : Nat} {X : World} {o : Obj} (o' : Obj) (hB : B ≤ r) (hr : X.heap[r]? = some o) (ho : isAux o = true) : Keeps B X (X.putObj r o') :=
  ⟨rfl, rfl, rfl, by simp, fun k hk => World.putObj_heap_other (by omega), fun k o'' hk h2 => by
    by_cases e : k = r
    · subst e; rw [hr] at hk; cases hk; rw [ho] at h2; cases h2
    · exact (World.putObj_heap_other e).trans hk⟩
theorem Keeps.cell {B : Nat} {X Y : World} (h : Keeps B X Y) {a : Addr} {v : Value} (hc : X.cell? a = some v) : Y.cell? a = some v := by
  obtain ⟨o, ho, hcells⟩ := cells_of_cell hc
  have : isAux o = false := by cases o <;> simp_all [Obj.isCells, isAux]
  exact (World.cell?_of_block ((h.same _ _ ho this).trans ho.symm)).trans hc
/-- A round's word: the records of loops, and the blocks for deferred calls, lie as they lay. -/
structure KeepsRec (W W' : World) : Prop where
  size : W.heap.size ≤ W'.heap.size
  same : ∀ (k : Nat) (o : Obj), W.heap[k]? = some o → isRec o = true → W'.heap[k]? = some o

theorem KeepsRec.refl (W : World) : KeepsRec W W := ⟨Nat.le_refl _, fun _ _ h _ => h⟩
theorem KeepsRec.trans {X Y Z : World} (h : KeepsRec X Y) (k : KeepsRec Y Z) : KeepsRec X Z := ⟨Nat.le_trans h.size k.size, fun i o hi ho => k.same i o (h.same i o hi ho) ho⟩
theorem KeepsRec.of_others {X Y : World} (h : KeepsOthers X Y) : KeepsRec X Y := ⟨h.size, fun k o hk ho => h.same k o hk (by cases o <;> simp_all [Obj.isCells, isRec])⟩
theorem KeepsRec.of_below {n : Nat} {X Y : World} (h : Below n X Y) (hn : X.heap.size ≤ n) : KeepsRec X Y :=
  ⟨h.size, fun k _ hk _ => (h.block k (Nat.lt_of_lt_of_le (Array.getElem?_eq_some_iff.1 hk).1 hn)).trans hk⟩
theorem KeepsRec.alloc {X Y : World} (h : KeepsRec X Y) (o : Obj) : KeepsRec X (Y.alloc o) := h.trans (.of_others (KeepsOthers.alloc Y o))
theorem KeepsRec.setCell {X Y : World} (h : KeepsRec X Y) (a : Addr) (v : Value) : KeepsRec X (Y.setCell a v) := h.trans (.of_others (KeepsOthers.setCell Y a v))
/-- What is said of the world abides an iterator's steps. -/
def Stab {β : Type} (B : Nat) (J : β → World → Prop) : Prop := ∀ s W1 W2, J s W1 → Keeps B W1 W2 → J s W2

/-- A call of yield: its run, and the round's contract. -/
def Yields (P : Program) (l : Nat) (args : Array Value) (W : World) (R : Ending → World → Prop) : Prop :=
  ∃ fn tmps assign body, (Instr.yield l args).run P W = .ok (.round l fn tmps assign body) W ∧ ∀ m, RoundIn Fence.wide m P l fn tmps assign body W R

/-- THE CONTRACT OF AN ITERATOR THAT GIVES JUST xs (or is left in their midst); A: what it leans on in memory. -/
def IterK {α : Type} (P : Program) (gf : Nat) (lb : Array Value) (encs : α → Array Value) (xs : List α) (A : World → Prop) : Prop :=
  ∀ (l : Nat) (J : List α → World → Prop) (Jx : Unit → World → Prop) (W : World),
    Stab W.heap.size J → Stab W.heap.size Jx → (∀ pre W', J pre W' → A W') →
    (∀ pre x suf W1, xs = pre ++ x :: suf → J pre W1 → W.heap.size ≤ W1.heap.size →
      Yields P l (encs x) W1 fun e W' => (e = .returned (.bool true) ∧ J (pre ++ [x]) W' ∧ W1.heap.size ≤ W'.heap.size) ∨ (e = .returned (.bool false) ∧ Jx () W' ∧ W1.heap.size ≤ W'.heap.size)) →
    J [] W →
    Calls P gf (#[.func (.yield l) #[] #[]] ++ lb) W fun e W' => (∃ v, e = .returned v) ∧ (J xs W' ∨ Jx () W')

/-- How a round's body may be left. -/
def roundEnd {α : Type} (I : List α → World → Prop) (Ix : Code → World → Prop) (xs : List α) (W : World) : Exit → Act → World → Prop
  | .normal, _, W' => KeepsRec W W' ∧ I xs W'
  | .ret, _, W' => KeepsRec W W' ∧ Ix .ret W'
  | .exit id, _, W' => KeepsRec W W' ∧ Ix (.exit id) W'
  | .goto t, _, W' => KeepsRec W W' ∧ Ix (.goto t) W'
  | .panic _, _, _ => False
  | .outgrown, _, _ => False

/-- A ROUND, from the loop's record on: the assignments, then the body. -/
theorem round_of {α : Type} {l : Nat} {fn : FuncId} {recd : LoopState → Option Code → Loop} {assign body : Code} {tm : Array Value} {W : World} {B : Nat}
    {I : List α → World → Prop} {Ix : Code → World → Prop} {Mid : Act → World → Prop} {nx : List α}
    (hst : ∀ s p, (recd s p).state = s) (hpe : ∀ s p, (recd s p).pending = p) (hre : ∀ s p s' p', { (recd s p) with state := s', pending := p' } = recd s' p')
    (hl : W.heap[l]? = some (.loop (recd .ready none))) (hB : B ≤ l) (hMid : Stab B (fun (a : Act) W => Mid a W)) (hI : Stab B I) (hIx : Stab B Ix)
    (hassign : ∀ m, assign.wpIn (Fence.wide.inRound l) m P (Exit.then (fun a' W' => KeepsRec W W' ∧ Mid a' W') (fun _ _ _ => False)) { tmps := tm, defers := [] } W)
    (hbody : ∀ m a' W', (∃ r, W'.heap[l]? = some (.loop r)) → KeepsRec (W.putObj l (.loop (recd .busy none))) W' → Mid a' W' → body.wpIn (Fence.wide.inRound l) m P (roundEnd I Ix nx W') a' W') (m : Nat) :
    RoundIn Fence.wide m P l fn tm assign body W fun e W' => (∀ k o, k ≠ l → W.heap[k]? = some o → isRec o = true → W'.heap[k]? = some o) ∧ W.heap.size ≤ W'.heap.size ∧
      ((e = .returned (.bool true) ∧ I nx W' ∧ W'.heap[l]? = some (.loop (recd .ready none))) ∨
       (e = .returned (.bool false) ∧ ∃ c, Ix c W' ∧ W'.heap[l]? = some (.loop (recd .done (some c))))) := by
  refine roundIn_of_wpIn trivial (wpIn_mono (hassign m) ?_)
  rintro e a1 W1 hp
  cases e with
  | normal =>
    obtain ⟨hk1, hm1⟩ := hp
    have hl1 := hk1.same _ _ hl rfl
    have hlt : l < W1.heap.size := (Array.getElem?_eq_some_iff.1 hl1).1
    have hrd : ∀ s' p', { (recd .ready none) with state := s', pending := p' } = recd s' p' := hre _ _
    refine ⟨_, run_beginRound hl1 (hst _ _), ?_⟩
    have eb : ({ (recd .ready none) with state := .busy } : Loop) = recd .busy none := by
      have := hrd .busy none; rw [← this]; simp [hpe]
    rw [eb]
    have hl2 : (W1.putObj l (.loop (recd .busy none))).heap[l]? = some (.loop (recd .busy none)) := World.putObj_heap_same hlt
    have hkb : KeepsRec (W.putObj l (.loop (recd .busy none))) (W1.putObj l (.loop (recd .busy none))) := ⟨by simpa using hk1.size, fun k o hk ho => by
      by_cases e : k = l
      · subst e; rw [World.putObj_heap_same (Array.getElem?_eq_some_iff.1 hl).1] at hk; cases hk; exact hl2
      · rw [World.putObj_heap_other e] at hk; rw [World.putObj_heap_other e]; exact hk1.same k o hk ho⟩
    refine wpIn_mono (hbody m a1 _ ⟨_, hl2⟩ hkb (hMid a1 _ _ hm1 (Keeps.putObj _ hB hl1 rfl))) ?_
    have fin : ∀ (jump : Option Code) (W3 : World), KeepsRec (W1.putObj l (.loop (recd .busy none))) W3 →
        (Instr.endRound l jump).run P W3 = .ok (.bool jump.isNone) (W3.putObj l (.loop (recd (if jump.isNone then .ready else .done) jump))) ∧ W3.heap[l]? = some (.loop (recd .busy none)) ∧
        (W3.putObj l (.loop (recd (if jump.isNone then .ready else .done) jump))).heap[l]? = some (.loop (recd (if jump.isNone then .ready else .done) jump)) ∧
        (∀ k o, k ≠ l → W.heap[k]? = some o → isRec o = true → (W3.putObj l (.loop (recd (if jump.isNone then .ready else .done) jump))).heap[k]? = some o) ∧ W.heap.size ≤ (W3.putObj l (.loop (recd (if jump.isNone then .ready else .done) jump))).heap.size := fun jump W3 hk3 => by
      have hl3 := hk3.same _ _ hl2 rfl
      have h1 := run_endRound (P := P) jump hl3
      rw [hre] at h1
      refine ⟨h1, hl3, World.putObj_heap_same (Array.getElem?_eq_some_iff.1 hl3).1, fun k o hne hk ho => ?_, by have := hk1.size; have := hk3.size; simp at *; omega⟩
      rw [World.putObj_heap_other hne]
      exact hk3.same k o (by rw [World.putObj_heap_other hne]; exact hk1.same k o hk ho) ho
    rintro e a3 W3 hp
    cases e with
    | normal =>
      obtain ⟨hk3, hi3⟩ := hp
      obtain ⟨hr, hl3, hl4, hk4, hs4⟩ := fin none W3 hk3
      exact ⟨_, _, hr, hk4, hs4, .inl ⟨rfl, hI _ _ _ hi3 (Keeps.putObj _ hB hl3 rfl), hl4⟩⟩
    | ret =>
      obtain ⟨hk3, hi3⟩ := hp
      obtain ⟨hr, hl3, hl4, hk4, hs4⟩ := fin (some .ret) W3 hk3
      exact ⟨_, _, hr, hk4, hs4, .inr ⟨rfl, .ret, hIx _ _ _ hi3 (Keeps.putObj _ hB hl3 rfl), hl4⟩⟩
    | exit id =>
      obtain ⟨hk3, hi3⟩ := hp
      obtain ⟨hr, hl3, hl4, hk4, hs4⟩ := fin (some (.exit id)) W3 hk3
      exact ⟨_, _, hr, hk4, hs4, .inr ⟨rfl, .exit id, hIx _ _ _ hi3 (Keeps.putObj _ hB hl3 rfl), hl4⟩⟩
    | goto t =>
      obtain ⟨hk3, hi3⟩ := hp
      obtain ⟨hr, hl3, hl4, hk4, hs4⟩ := fin (some (.goto t)) W3 hk3
      exact ⟨_, _, hr, hk4, hs4, .inr ⟨rfl, .goto t, hIx _ _ _ hi3 (Keeps.putObj _ hB hl3 rfl), hl4⟩⟩
    | panic ch => exact hp.elim
    | outgrown => exact hp.elim
  | exit id => exact hp.elim
  | goto t => exact hp.elim
  | ret => exact hp.elim
  | panic ch => exact hp.elim
  | outgrown => exact hp.elim

/-- **THE LAW OF A RANGE OVER A FUNCTION, outside every round.** -/
theorem wpIn_range {α : Type} {n : Nat} {g : Operand} {ps : Array Tmp} {assign body : Code} {Q : Exit → Act → World → Prop} {a : Act} {w : World}
    {gf : Nat} {lb : Array Value} (hg : a.eval g = .func (.func gf) #[] lb) (eg : ∀ args w, (callFunc gf args).run P w = .ok (.enter gf args) w)
    {encs : α → Array Value} {xs : List α} {A : World → Prop} (hseq : IterK P gf lb encs xs A) (hps : ∀ x, (encs x).size = ps.size)
    (I : List α → World → Prop) (Ix : Code → World → Prop) (Mid : List α → α → Act → World → Prop)
    (hI : Stab w.heap.size I) (hIx : Stab w.heap.size Ix) (hMid : ∀ pre x, Stab w.heap.size (fun (a : Act) W => Mid pre x a W)) (hA : ∀ pre W', I pre W' → A W') (h0 : I [] w)
    (hassign : ∀ m l pre x suf W, xs = pre ++ x :: suf → I pre W → w.heap.size < W.heap.size →
      assign.wpIn (Fence.wide.inRound l) m P (Exit.then (fun a' W' => KeepsRec W W' ∧ Mid pre x a' W') (fun _ _ _ => False)) { tmps := (ps.zip (encs x)).foldl (fun t (p, v) => t.setIfInBounds p v) a.tmps, defers := [] } W)
    (hbody : ∀ m l pre x suf a' W, xs = pre ++ x :: suf → w.heap.size < l → (∃ r, W.heap[l]? = some (.loop r)) → Mid pre x a' W → body.wpIn (Fence.wide.inRound l) m P (roundEnd I Ix (pre ++ [x]) W) a' W)
    (hdone : ∀ D W, w.heap.size ≤ D → I xs W → W.heap[D]? = some (.deferred (some [])) → Q .normal { a with defers := { target := .collected D, args := #[] } :: a.defers } W)
    (hstop : ∀ D c W, w.heap.size ≤ D → Ix c W → W.heap[D]? = some (.deferred (some [])) → c.wpIn Fence.wide n P Q { a with defers := { target := .collected D, args := #[] } :: a.defers } W) :
    (Code.rangeFunc g ps assign body).wpIn Fence.wide n P Q a w := by
  refine wpIn_rangeFunc ?_
  intro fn hfn
  rw [show Fence.wide.round = none from rfl]
  obtain ⟨recd, hrec⟩ : ∃ recd : LoopState → Option Code → Loop, recd = fun st pe => { state := st, pending := pe, fn, tmps := a.tmps, params := ps, assign, body, defers := w.heap.size } := ⟨_, rfl⟩
  obtain ⟨W1, hW1⟩ : ∃ W1, (w.alloc (.deferred (some []))).alloc (.loop (recd .ready none)) = W1 := ⟨_, rfl⟩
  have hz1 : W1.heap.size = w.heap.size + 2 := by rw [← hW1]; simp
  have hL1 : W1.heap[w.heap.size + 1]? = some (.loop (recd .ready none)) := by
    rw [← hW1]; have := World.alloc_heap_new (w.alloc (.deferred (some []))) (.loop (recd .ready none)); rwa [World.size_alloc] at this
  have hK1 : W1.heap[w.heap.size]? = some (.deferred (some [])) := by
    rw [← hW1]; exact (Below.heap_alloc _ _ _ (by simp)).trans (World.alloc_heap_new w _)
  have hI1 : I [] W1 := by rw [← hW1]; exact hI _ _ _ h0 (((Keeps.refl _ w).alloc (Nat.le_refl _) _).alloc (Nat.le_refl _) _)
  refine ⟨w.heap.size + 1, [{ target := .collected w.heap.size, args := #[] }], W1, { target := .fn (.func gf) lb, args := #[.func (.yield (w.heap.size + 1)) #[] #[]] }, W1, gf,
    #[.func (.yield (w.heap.size + 1)) #[] #[]] ++ lb, W1, ?_, ?_, ?_, ?_, fun h => by simp [Fence.wide] at h, ?_⟩
  · rw [← hW1, hrec]; exact run_enterLoop_outer _ _ _ _ _
  · simp only [resolve, hg]
    simp [go_sem]
  · intro f' hf'; trivial
  · simp [invoke, go_sem, eg]
  · refine callsIn_wide.2 ((hseq (w.heap.size + 1)
      (fun pre W => I pre W ∧ W.heap[w.heap.size + 1]? = some (.loop (recd .ready none)) ∧ W.heap[w.heap.size]? = some (.deferred (some [])))
      (fun _ W => ∃ c, Ix c W ∧ W.heap[w.heap.size + 1]? = some (.loop (recd .done (some c))) ∧ W.heap[w.heap.size]? = some (.deferred (some [])))
      W1
      (fun s X Y hs hk => ⟨hI s X Y hs.1 (hk.mono (by omega)), (hk.low _ (by omega)).trans hs.2.1, (hk.low _ (by omega)).trans hs.2.2⟩)
      (fun s X Y hs hk => by obtain ⟨c, hc, hl, hd⟩ := hs; exact ⟨c, hIx _ X Y hc (hk.mono (by omega)), (hk.low _ (by omega)).trans hl, (hk.low _ (by omega)).trans hd⟩)
      (fun pre W' h => hA pre W' h.1) ?_ ⟨hI1, hL1, hK1⟩).mono ?_)
    · rintro pre x suf W hxs ⟨hi, hl, hk⟩ hsz
      have hy := run_yield (P := P) (args := encs x) hl (by rw [hrec]; exact hps x)
      rw [hrec] at hy
      refine ⟨fn, _, assign, body, hy, fun m => ?_⟩
      refine (round_of (recd := recd) (B := w.heap.size) (I := I) (Ix := Ix) (Mid := Mid pre x) (nx := pre ++ [x]) (by rw [hrec]; intros; rfl) (by rw [hrec]; intros; rfl) (by rw [hrec]; intros; rfl) hl (by omega) (hMid pre x) hI hIx
        (fun m => hassign m _ pre x suf W hxs hi (by omega)) (fun m a' W' hr _ hm => hbody m _ pre x suf a' W' hxs (by omega) hr hm) m).mono ?_
      rintro e W' ⟨hk', hs', (⟨rfl, hi', hl'⟩ | ⟨rfl, c, hi', hl'⟩)⟩
      · exact .inl ⟨rfl, ⟨hi', hl', hk' _ _ (by omega) hk rfl⟩, hs'⟩
      · exact .inr ⟨rfl, ⟨c, hi', hl', hk' _ _ (by omega) hk rfl⟩, hs'⟩
    · rintro e W2 ⟨⟨v, rfl⟩, (⟨hi, hl, hk⟩ | ⟨c, hi, hl, hk⟩)⟩
      · exact ⟨none, _, by have := run_endLoop (P := P) hl (by rw [hrec]; simp); rw [hrec] at this; exact this,
          hdone _ _ (Nat.le_refl _) (hI _ _ _ hi (Keeps.putObj _ (by omega) hl rfl)) ((World.putObj_heap_other (by omega)).trans hk)⟩
      · exact ⟨some c, _, by have := run_endLoop (P := P) hl (by rw [hrec]; simp); rw [hrec] at this; exact this,
          hstop _ c _ (Nat.le_refl _) (hIx _ _ _ hi (Keeps.putObj _ (by omega) hl rfl)) ((World.putObj_heap_other (by omega)).trans hk)⟩

/-! ### A scope whose label is jumped to forward -/
/-- As Q; by a goto to the label l: J. -/
def fwd (l : Nat) (J : Act → World → Prop) (Q : Exit → Act → World → Prop) : Exit → Act → World → Prop
  | .goto l', a, w => l' = l ∧ J a w
  | e, a, w => Q e a w
section
variable {l : Nat} {J : Act → World → Prop} {Q : Exit → Act → World → Prop} {a : Act} {w : World}
@[go_sem] theorem fwd_normal : fwd l J Q .normal a w = Q .normal a w := rfl
@[go_sem] theorem fwd_exit (id : Nat) : fwd l J Q (.exit id) a w = Q (.exit id) a w := rfl
@[go_sem] theorem fwd_ret : fwd l J Q .ret a w = Q .ret a w := rfl
@[go_sem] theorem fwd_panic (ch : List PanicEntry) : fwd l J Q (.panic ch) a w = Q (.panic ch) a w := rfl
@[go_sem] theorem fwd_goto : fwd l J Q (.goto l) a w = J a w := by simp [fwd]

theorem wp_scope_fwd {c rest : Code} (l : Nat) (hf : findLabel c l = some rest) (h : c.wp P (fwd l (fun a w => rest.wp P (Exit.noGoto Q) a w) Q) a w) : (Code.scope c).wp P Q a w := by
  intro b k cs
  have hg : gotoIn l (.inScope c :: k) = some (.code rest :: .inScope c :: k) := by simp [gotoIn, hf]
  obtain ⟨e, a₁, w₁, hq, harr⟩ := h b (.inScope c :: k) cs
  cases e with
  | normal => exact ⟨.normal, a₁, w₁, hq, .head step_scope (Steps.trans harr (.one step_inScope))⟩
  | exit id => exact ⟨.exit id, a₁, w₁, hq, fun k' hk => .head step_scope (harr k' (by simp [exitTo, hk]))⟩
  | goto l' =>
    obtain ⟨rfl, hJ'⟩ := hq
    obtain ⟨e, a₂, w₂, hq, harr₂⟩ := hJ' b (.inScope c :: k) cs
    have hs := Steps.head step_scope (harr _ hg)
    cases e with
    | normal => exact ⟨.normal, a₂, w₂, hq, hs.trans (Steps.trans harr₂ (.one step_inScope))⟩
    | exit id => exact ⟨.exit id, a₂, w₂, hq, fun k' hk => hs.trans (harr₂ k' (by simp [exitTo, hk]))⟩
    | goto l => exact hq.elim
    | ret => exact ⟨_, a₂, w₂, hq, .of_steps hs harr₂⟩
    | panic ch => exact ⟨_, a₂, w₂, hq, .of_steps hs harr₂⟩
    | outgrown => exact ⟨_, a₂, w₂, hq, .of_steps hs harr₂⟩
  | ret => exact ⟨_, a₁, w₁, hq, .of_steps (.one step_scope) harr⟩
  | panic ch => exact ⟨_, a₁, w₁, hq, .of_steps (.one step_scope) harr⟩
  | outgrown => exact ⟨_, a₁, w₁, hq, .of_steps (.one step_scope) harr⟩

section
variable {b : Frame} {k : List Item} {cs : List Frame}
end
end

/-- The law of a range over a function, in a plain walk. -/
theorem wp_range {α : Type} {g : Operand} {ps : Array Tmp} {assign body : Code} {Q : Exit → Act → World → Prop} {a : Act} {w : World}
    {gf : Nat} {lb : Array Value} (hg : a.eval g = .func (.func gf) #[] lb) (eg : ∀ args w, (callFunc gf args).run P w = .ok (.enter gf args) w)
    {encs : α → Array Value} {xs : List α} {A : World → Prop} (hseq : IterK P gf lb encs xs A) (hps : ∀ x, (encs x).size = ps.size)
    (I : List α → World → Prop) (Ix : Code → World → Prop) (Mid : List α → α → Act → World → Prop)
    (hI : Stab w.heap.size I) (hIx : Stab w.heap.size Ix) (hMid : ∀ pre x, Stab w.heap.size (fun (a : Act) W => Mid pre x a W)) (hA : ∀ pre W', I pre W' → A W') (h0 : I [] w)
    (hassign : ∀ m l pre x suf W, xs = pre ++ x :: suf → I pre W → w.heap.size < W.heap.size →
      assign.wpIn (Fence.wide.inRound l) m P (Exit.then (fun a' W' => KeepsRec W W' ∧ Mid pre x a' W') (fun _ _ _ => False)) { tmps := (ps.zip (encs x)).foldl (fun t (p, v) => t.setIfInBounds p v) a.tmps, defers := [] } W)
    (hbody : ∀ m l pre x suf a' W, xs = pre ++ x :: suf → w.heap.size < l → (∃ r, W.heap[l]? = some (.loop r)) → Mid pre x a' W → body.wpIn (Fence.wide.inRound l) m P (roundEnd I Ix (pre ++ [x]) W) a' W)
    (hdone : ∀ D W, w.heap.size ≤ D → I xs W → W.heap[D]? = some (.deferred (some [])) → Q .normal { a with defers := { target := .collected D, args := #[] } :: a.defers } W)
    (hstop : ∀ D c W, w.heap.size ≤ D → Ix c W → W.heap[D]? = some (.deferred (some [])) → c.wp P Q { a with defers := { target := .collected D, args := #[] } :: a.defers } W) :
    (Code.rangeFunc g ps assign body).wp P Q a w :=
  wpIn_wide (n := 0) |>.1 (wpIn_range hg eg hseq hps I Ix Mid hI hIx hMid hA h0 hassign hbody hdone (fun D c W h1 h2 h3 => wpIn_wide.2 (hstop D c W h1 h2 h3)))

/-- The same where the loop variables lie in slots: the assignment turns no memory. -/
theorem wp_range1 {α : Type} {g : Operand} {ps : Array Tmp} {assign body : Code} {Q : Exit → Act → World → Prop} {a : Act} {w : World}
    {gf : Nat} {lb : Array Value} (hg : a.eval g = .func (.func gf) #[] lb) (eg : ∀ args w, (callFunc gf args).run P w = .ok (.enter gf args) w)
    {encs : α → Array Value} {xs : List α} {A : World → Prop} (hseq : IterK P gf lb encs xs A) (hps : ∀ x, (encs x).size = ps.size)
    (I : List α → World → Prop) (Ix : Code → World → Prop) (a₁ : α → Act)
    (hassign : ∀ m l x W (K : Act → World → Prop), K (a₁ x) W → assign.wpIn (Fence.wide.inRound l) m P (Exit.then K (fun _ _ _ => False)) { tmps := (ps.zip (encs x)).foldl (fun t (p, v) => t.setIfInBounds p v) a.tmps, defers := [] } W)
    (hI : Stab w.heap.size I) (hIx : Stab w.heap.size Ix) (hA : ∀ pre W', I pre W' → A W') (h0 : I [] w)
    (hbody : ∀ m l pre x suf W, xs = pre ++ x :: suf → w.heap.size < l → (∃ r, W.heap[l]? = some (.loop r)) → I pre W → body.wpIn (Fence.wide.inRound l) m P (roundEnd I Ix (pre ++ [x]) W) (a₁ x) W)
    (hdone : ∀ D W, w.heap.size ≤ D → I xs W → W.heap[D]? = some (.deferred (some [])) → Q .normal { a with defers := { target := .collected D, args := #[] } :: a.defers } W)
    (hstop : ∀ D c W, w.heap.size ≤ D → Ix c W → W.heap[D]? = some (.deferred (some [])) → c.wp P Q { a with defers := { target := .collected D, args := #[] } :: a.defers } W) :
    (Code.rangeFunc g ps assign body).wp P Q a w :=
  wp_range hg eg hseq hps I Ix (fun pre x a' W => a' = a₁ x ∧ I pre W) hI hIx (fun pre x a' X Y h hk => ⟨h.1, hI _ _ _ h.2 hk⟩) hA h0
    (fun m l pre x suf W _ hi _ => hassign m l x W _ ⟨KeepsRec.refl W, rfl, hi⟩)
    (fun m l pre x suf a' W hxs hl hr h => by obtain ⟨rfl, h⟩ := h; exact hbody m l pre x suf W hxs hl hr h) hdone hstop
theorem _root_.Go.RowKit.Below.keeps {B n : Nat} {w X Y : World} (h : Below n w X) (k : Keeps B X Y) (hB : n ≤ B) : Below n w Y := h.trans (k.below.mono hB)
theorem stab_false {β : Type} (B : Nat) : Stab B (fun (_ : β) (_ : World) => False) := fun _ _ _ h _ => h

/-- As a function ends that has ranged over functions: what its end must be, said in the plain walk. -/
theorem calls_of_wp_marks {f : FuncId} {fn : Func} {c : Code} {args : Array Value} {w : World} {R : Ending → World → Prop} (hf : P.funcs[f]? = some fn) (hb : fn.body = some c)
    (h : c.wp P (bodyPostM Fence.wide 0 P fn R) { tmps := args ++ Array.replicate (fn.ntmps - args.size) undef, defers := [] } w) : Calls P f args w R :=
  callsIn_wide.1 (callsIn_of_wp_marks hf hb trivial (wpIn_wide.2 h) rfl)

@[go_sem] theorem wide_fn (f : FuncId) : Fence.wide.fn f = True := rfl
@[go_sem] theorem wide_depth : (Fence.wide.depth = none) = True := by simp [Fence.wide]
@[go_sem] theorem wide_depthS : (Fence.wide.depth.isSome = true) = False := by simp [Fence.wide]
/-! ### A block of cells, known whole -/
/-- Block b is a row of just these cells, none of them frozen. -/
def Blk (W : World) (b : Nat) (cs : Array Value) (t : TypeId) : Prop := W.heap[b]? = some (.cells cs t)
theorem Blk.lt {W : World} {b : Nat} {cs : Array Value} {t : TypeId} (h : Blk W b cs t) : b < W.heap.size := (Array.getElem?_eq_some_iff.1 h).1
theorem Blk.cell {W : World} {b : Nat} {cs : Array Value} {t : TypeId} (h : Blk W b cs t) (i : Nat) {v : Value} (hv : cs[i]? = some v) : W.cell? ⟨b, i, none⟩ = some v := by
  unfold Blk at h
  simp [World.cell?, h, hv]
theorem Blk.frozen {W : World} {b : Nat} {cs : Array Value} {t : TypeId} (h : Blk W b cs t) (i : Nat) : W.frozen? ⟨b, i, none⟩ = false := by
  unfold Blk at h
  simp [World.frozen?, h]
theorem Blk.new (W : World) (cs : Array Value) (t : TypeId) : Blk (W.alloc (.cells cs t)) W.heap.size cs t := World.alloc_heap_new W _
theorem Blk.newAt (W : World) {b : Nat} (cs : Array Value) (t : TypeId) (h : b = W.heap.size) : Blk (W.alloc (.cells cs t)) b cs t := h ▸ Blk.new W cs t
theorem Blk.alloc {W : World} {b : Nat} {cs : Array Value} {t : TypeId} (h : Blk W b cs t) (o : Obj) : Blk (W.alloc o) b cs t := (Below.heap_alloc W o b h.lt).trans h
theorem Blk.drew {W : World} {b : Nat} {cs : Array Value} {t : TypeId} (h : Blk W b cs t) : Blk W.drew b cs t := h
theorem Blk.drewN {W : World} {b : Nat} {cs : Array Value} {t : TypeId} (h : Blk W b cs t) (n : Nat) : Blk (W.drewN n) b cs t := h
theorem Blk.below {W W' : World} {n b : Nat} {cs : Array Value} {t : TypeId} (h : Blk W b cs t) (hb : Below n W W') (hn : b < n) : Blk W' b cs t := (hb.block b hn).trans h
theorem Blk.keeps {W W' : World} {n b : Nat} {cs : Array Value} {t : TypeId} (h : Blk W b cs t) (hk : Keeps n W W') : Blk W' b cs t := hk.same _ _ h rfl
theorem Blk.set {W : World} {b : Nat} {cs : Array Value} {t : TypeId} (h : Blk W b cs t) (i : Nat) (v : Value) : Blk (W.setCell ⟨b, i, none⟩ v) b (cs.setIfInBounds i v) t := by
  have hlt := h.lt
  unfold Blk at h ⊢
  have h' : W.heap[b] = .cells cs t := by rw [Array.getElem?_eq_getElem hlt] at h; exact Option.some.inj h
  simp [World.setCell, Array.getElem?_modify, h]
theorem Blk.setOther {W : World} {b : Nat} {cs : Array Value} {t : TypeId} (h : Blk W b cs t) (a : Addr) (v : Value) (hne : b ≠ a.block) : Blk (W.setCell a v) b cs t := (Below.heap_setCell W a v b hne).trans h
theorem Blk.putObj {W : World} {b r : Nat} {cs : Array Value} {t : TypeId} (h : Blk W b cs t) (o : Obj) (hne : b ≠ r) : Blk (W.putObj r o) b cs t := (World.putObj_heap_other hne).trans h

def intVals (k : IntKind) (l : List Int) : List Value := l.map (Value.int k)
theorem intVals_get (k : IntKind) (l : List Int) (i : Nat) (h : i < l.length) : (intVals k l)[i]? = some (.int k l[i]) := by simp [intVals, h]
theorem intVals_len (k : IntKind) (l : List Int) : (intVals k l).length = l.length := by simp [intVals]
theorem intVals_one (k : IntKind) (l : List Int) : ∀ u ∈ intVals k l, u.oneCell' = true := by
  intro u hu; simp only [intVals, List.mem_map] at hu; obtain ⟨x, _, rfl⟩ := hu; rfl
theorem _root_.Go.RowKit.Below.drewN {B : Nat} {a w : World} (h : Below B a w) (n : Nat) : Below B a (w.drewN n) := ⟨h.os, h.tape, h.output, h.size, h.block⟩

/-! ### A region that draws its order and holds calls that make memory: the worlds behind which nothing below B has turned -/
def After (B : Nat) (w : World) : Type := { w' : World // Below B w w' }
instance (B : Nat) (w : World) : Nonempty (After B w) := ⟨⟨w, Below.refl B w⟩⟩
/-! ### A slice that is read -/
/-- The slice v has n elements, whose cells read xs; they lie in a block below B. -/
def RowAt (B : Nat) (W : World) (v : Value) (n : Nat) (xs : List Value) : Prop :=
  ∃ a cap, v = .slice a n cap ∧ (n ≤ cap ∧ (a = none → n = 0 ∧ cap = 0)) ∧ (xs = [] ∨ ∃ b off, a = some ⟨b, off, none⟩ ∧ b < B ∧ ∀ i, i < xs.length → W.cell? ⟨b, off + i, none⟩ = xs[i]?)
theorem RowAt.below {B n m : Nat} {W W' : World} {v : Value} {xs : List Value} (h : RowAt B W v n xs) (hb : Below m W W') (hm : B ≤ m) : RowAt B W' v n xs := by
  obtain ⟨a, cap, h1, h2, h3⟩ := h
  refine ⟨a, cap, h1, h2, h3.imp id ?_⟩
  rintro ⟨b, off, e, hlt, hc⟩
  exact ⟨b, off, e, hlt, fun i hi => (hb.cell (p := ⟨b, off + i, none⟩) (Nat.lt_of_lt_of_le hlt hm)).trans (hc i hi)⟩
theorem RowAt.mono {B B' n : Nat} {W : World} {v : Value} {xs : List Value} (h : RowAt B W v n xs) (hB : B ≤ B') : RowAt B' W v n xs := by
  obtain ⟨a, cap, h1, h2, h3⟩ := h
  exact ⟨a, cap, h1, h2, h3.imp id fun ⟨b, off, e, hlt, hc⟩ => ⟨b, off, e, Nat.lt_of_lt_of_le hlt hB, hc⟩⟩
theorem RowAt.keeps {B n m : Nat} {W W' : World} {v : Value} {xs : List Value} (h : RowAt B W v n xs) (hk : Keeps m W W') : RowAt B W' v n xs := by
  obtain ⟨a, cap, h1, h2, h3⟩ := h
  refine ⟨a, cap, h1, h2, h3.imp id ?_⟩
  rintro ⟨b, off, e, hlt, hc⟩
  refine ⟨b, off, e, hlt, fun i hi => ?_⟩
  have := hc i hi
  rw [List.getElem?_eq_getElem hi] at this ⊢
  exact hk.cell this
/-- What the call itself has made reads as a row. -/
theorem RowAt.of_owns {B base n : Nat} {e : TypeId} {size : Nat} {W : World} {v : Value} {xs : List Value} (h : W.ownsRow base e size v n xs) (hB : W.heap.size ≤ B) : RowAt B W v n xs := by
  obtain ⟨hl, h⟩ := h
  rcases h with ⟨rfl, rfl⟩ | ⟨g, cap, cur, rfl, _, hg, hle, _, hcs, hx⟩
  · exact ⟨none, 0, rfl, ⟨Nat.le_refl _, fun _ => ⟨rfl, rfl⟩⟩, .inl (List.eq_nil_of_length_eq_zero (by simpa using hl))⟩
  · refine ⟨_, cap, rfl, ⟨hle, fun h => by cases h⟩, .inr ⟨g, 0, rfl, Nat.lt_of_lt_of_le (Array.getElem?_eq_some_iff.1 hg).1 hB, fun i hi => ?_⟩⟩
    have h1 : W.cell? ⟨g, 0 + i, none⟩ = cur[i]? := by simp [World.cell?, hg]
    rw [h1, ← hx, List.getElem?_take_of_lt (by rw [← hl]; exact hi)]
    simp

theorem owns_block {W : World} {base : Nat} {e : TypeId} {size : Nat} {v : Value} {n : Nat} {xs : List Value} (h : W.ownsRow base e size v n xs) (k : Nat) (hk : v.ownBlock = some k) : base ≤ k ∧ k < W.heap.size := by
  rcases h.2 with ⟨rfl, _⟩ | ⟨g, cap, cur, rfl, hb, hg, _⟩
  · simp [Value.ownBlock] at hk
  · simp [Value.ownBlock] at hk; subst hk; exact ⟨hb, (Array.getElem?_eq_some_iff.1 hg).1⟩
theorem _root_.Go.RowKit.Below.appended {B : Nat} {a w w' : World} {base : Nat} {e : TypeId} {size : Nat} {v : Value} {n : Nat} {xs : List Value} (h : Below B a w) (ho : w.ownsRow base e size v n xs) (hg : w.grownBy w' v.ownBlock) (hB : B ≤ base) (hz : B ≤ w.heap.size) : Below B a w' :=
  h.grown hg hz (fun k e => Nat.le_trans hB (owns_block ho k e).1)
/-- A slice literal, just laid. -/
theorem RowAt.lit (w : World) (cs : Array Value) (t : TypeId) (n : Nat) (B : Nat) (hB : w.heap.size < B) : RowAt B (w.alloc (.cells cs t)) (.slice (some ⟨w.heap.size, 0, none⟩) n n) n cs.toList :=
  ⟨_, n, rfl, ⟨Nat.le_refl _, fun h => by cases h⟩, .inr ⟨w.heap.size, 0, rfl, hB, fun i hi => by
    have h' : i < cs.size := by simpa using hi
    rw [Nat.zero_add, (Blk.new w cs t).cell i (Array.getElem?_eq_getElem h')]
    simp [h']⟩⟩
/-- What the table says of an element's type. -/
def ElemInfo (P : Program) (e : TypeId) (z : Value) (size bytes : Nat) : Prop := ∃ i, P.info? e = some i ∧ i.zero = some z ∧ i.size = size ∧ i.bytes = bytes ∧ z.cells.size = size ∧ 0 < size
theorem elemInfo_of {e : TypeId} {z : Value} {size bytes : Nat} (h : (P.info? e).map (fun i => (i.zero, i.size, i.bytes)) = some (some z, size, bytes)) (hz : z.cells.size = size) (hs : 0 < size) : ElemInfo P e z size bytes := by
  obtain ⟨i, h1, h2⟩ := Option.map_eq_some_iff.1 h
  simp only [Prod.mk.injEq] at h2
  exact ⟨i, h1, h2.1, h2.2.1, h2.2.2, hz, hs⟩
/-- append(s, x...): s is the call's own, x any row. -/
theorem wpList_append_row {ops : Array Oper} {rest : List Oper} {o : Oper} {a : Act} {Q : Exit → Act → World → Prop} {w : World} (hgd : o.guard = none) (s x : Operand) (t : TypeId)
    (ho : o.op = .call { callee := .builtin .append, args := #[s, x], argTypes := #[t, t] }) (base : Nat) {e : TypeId} {z : Value} {size bytes : Nat} (ht : P.underlying t = some (.slice e)) (hE : ElemInfo P e z size bytes)
    {v : Value} (n : Nat) (xs : List Value) (hs : a.eval s = v) (hown : w.ownsRow base e size v n xs)
    (B : Nat) {v2 : Value} (m : Nat) (news : List Value) (hx : a.eval x = v2) (hrow : RowAt B w v2 m news) (hl : news.length = m * size) (h1 : ∀ u ∈ news, u.oneCell' = true)
    (h63 : n + m ≤ maxLen) (hbytes : (n + m) * bytes ≤ 140737488355328) (hbase : base ≤ w.heap.size)
    (h : ∀ v' w', w'.ownsRow base e size v' (n + m) (xs ++ news) → w.grownBy w' v.ownBlock → wpList P ops Q rest (a.put o.dst v') w') : wpList P ops Q (o :: rest) a w := by
  obtain ⟨i, hi, hz, hsize, hby, hzs, hsz⟩ := hE
  obtain ⟨ad, cap, rfl, ⟨hle, hnone⟩, hc⟩ := hrow
  cases ad with
  | none =>
    obtain ⟨rfl, rfl⟩ := hnone rfl
    obtain rfl : news = [] := List.eq_nil_of_length_eq_zero (by simpa using hl)
    exact wpList_append_own_none hgd s x t ho base e i size ht hi v n xs hs hown hx (h v w (by simpa using hown) ⟨rfl, rfl, rfl, Nat.le_refl _, fun _ _ _ => rfl⟩)
  | some ad =>
    refine wpList_append_own w hgd s x t ho base e i z size bytes ht hi hz hsize hby hzs hsz v n xs hs hown ad m cap news hx hl ?_ h1 h63 hbytes hbase (fun v' w' h2 h3 _ => h v' w' h2 h3)
    intro j u hu
    rcases hc with rfl | ⟨b, off, hab, hlt, hc⟩
    · simp at hu
    · cases hab
      have hj : j < news.length := (List.getElem?_eq_some_iff.1 hu).1
      have := hc j hj
      rw [hu] at this
      show w.cell? (Addr.add ⟨b, off, none⟩ j) = some u
      by_cases e0 : j = 0
      · subst e0; simpa [Addr.add] using this
      · simpa [Addr.add, e0] using this

theorem owns_weaken {W : World} {base base' : Nat} {e : TypeId} {size : Nat} {v : Value} {n : Nat} {xs : List Value} (h : W.ownsRow base e size v n xs) (hb : base' ≤ base) : W.ownsRow base' e size v n xs := by
  refine ⟨h.1, h.2.imp id ?_⟩
  rintro ⟨g, cap, cur, rfl, hg, rest⟩
  exact ⟨g, cap, cur, rfl, Nat.le_trans hb hg, rest⟩
theorem owns_keeps {B : Nat} {W W' : World} {base : Nat} {e : TypeId} {size : Nat} {v : Value} {n : Nat} {xs : List Value} (h : W.ownsRow base e size v n xs) (hk : Keeps B W W') : W'.ownsRow base e size v n xs := by
  refine ⟨h.1, ?_⟩
  rcases h.2 with hn | ⟨g, cap, cur, rfl, hb, hg, rest⟩
  · exact .inl hn
  · exact .inr ⟨g, cap, cur, rfl, hb, hk.same _ _ hg rfl, rest⟩
theorem owns_below {B : Nat} {W W' : World} {base : Nat} {e : TypeId} {size : Nat} {v : Value} {n : Nat} {xs : List Value} (h : W.ownsRow base e size v n xs) (hk : Below B W W') (hB : W.heap.size ≤ B) : W'.ownsRow base e size v n xs := by
  refine ⟨h.1, ?_⟩
  rcases h.2 with hn | ⟨g, cap, cur, rfl, hb, hg, rest⟩
  · exact .inl hn
  · exact .inr ⟨g, cap, cur, rfl, hb, (hk.block g (Nat.lt_of_lt_of_le (Array.getElem?_eq_some_iff.1 hg).1 hB)).trans hg, rest⟩
theorem made_one (z : Value) (k : Nat) : (madeCells #[z] k).toList = List.replicate k z := by
  apply List.ext_getElem
  · simp [madeCells]
  · intro i h1 h2
    simp [madeCells, Nat.mod_one]
/-! ### A region that draws its order, in a round: the plain walk's theorems carried over -/
def noDefer (ops : Array Oper) : Bool := ops.all fun o => match o.op with | .defer _ => false | _ => true
theorem noDefer_at {ops : Array Oper} (h : noDefer ops = true) {i : Nat} {o : Oper} (ho : ops[i]? = some o) (c : Call) : o.op ≠ .defer c := by
  intro hc
  obtain ⟨hi, rfl⟩ := Array.getElem?_eq_some_iff.1 ho
  have := (Array.all_eq_true.1 h) i hi
  rw [hc] at this; cases this
theorem wpIn_of_wp_oper {n l : Nat} {o : Oper} (hd : ∀ c, o.op ≠ .defer c) {a : Act} {w : World} {K : Act → World → Prop} {Q : Exit → Act → World → Prop} (h : o.wp P a w K Q) : o.wpIn (Fence.wide.inRound l) n P a w K Q := by
  refine ⟨fun _ _ => trivial, ?_⟩
  rw [show (Fence.wide.inRound l).round = some l from rfl, Oper.semAt_some _ _ _ hd]
  unfold Oper.wp at h
  generalize (execOp a.eval o).run P w = r at *
  have hnd : ((Fence.wide.inRound l).depth.isSome = true → 1 ≤ n) := fun h => by simp [Fence.wide] at h
  cases r with
  | ok x w' =>
    cases x <;> simp only [Oper.upon, Oper.uponIn] at h ⊢ <;>
      first
        | exact h
        | exact ⟨hnd, CallsIn.inRound l (callsIn_wide.2 h)⟩
        | exact ⟨hnd, fun c cs _ => let ⟨v, w', r, s⟩ := h c cs; ⟨v, w', r, stepsIn_wide.2 s⟩⟩
        | exact h.elim
  | halt x w' => cases x <;> simp only [Oper.upon, Oper.uponIn] at h ⊢ <;> exact h
theorem wpAnyIn_of_wpAny {n l : Nat} {ops : Array Oper} {md : Region.Mode} {Q : Exit → Act → World → Prop} (hd : noDefer ops = true) (hQ : ∀ a w, Q .outgrown a w → False) : ∀ (fuel : Nat) (listed : Array Bool) (a : Act) (w : World),
    wpAny P md ops Q fuel listed a w → wpAnyIn (Fence.wide.inRound l) n P md ops Q fuel listed a w := by
  intro fuel
  induction fuel with
  | zero => exact fun _ _ _ h => h
  | succ fuel ih =>
    intro listed a w h
    refine ⟨h.1, fun i hi => ?_⟩
    have h2 := h.2 i hi
    unfold wpOp at h2
    unfold wpOpIn
    split
    · rename_i ho; simp only [ho] at h2; exact ih _ _ _ h2
    · rename_i o ho
      simp only [ho] at h2
      split
      · rename_i hw
        simp only [hw, if_true] at h2
        rcases h2 with h2 | ⟨_, _, _, h2⟩
        · exact wpIn_of_wp_oper (noDefer_at hd ho) (Oper.wp_mono (fun a w => ih _ a w) h2)
        · exact (hQ _ _ h2).elim
      · rename_i hw; simp only [hw] at h2; exact ⟨fun _ _ => trivial, ih _ _ _ h2⟩
theorem wpIn_region_of_any {n l id : Nat} {ops : Array Oper} {Q : Exit → Act → World → Prop} {a : Act} {w : World} (hm : P.follows .mixedOrders = true) (hd : noDefer ops = true) (hQ : ∀ a w, Q .outgrown a w → False)
    (h : wpAny P .any ops Q ops.size (Array.replicate ops.size false) a { w with drawn := w.drawn + 1 }) : (Code.region id ops true).wpIn (Fence.wide.inRound l) n P Q a w :=
  wpIn_region_any hm (wpAnyIn_of_wpAny hd hQ _ _ _ _ h)

/-- The end of a function that has ranged over one function: the result is read when the block for deferred calls is shut. -/
theorem postM_ret {F : Fence} {n : Nat} {fn : Func} {R : Ending → World → Prop} {tmps : Array Value} {D : Nat} {W : World} {v : Value} (hK : W.heap[D]? = some (.deferred (some [])))
    (hr : (results fn tmps).run P (W.putObj D (.deferred none)) = .ok v (W.putObj D (.deferred none))) (hR : R (.returned v) (W.putObj D (.deferred none))) :
    bodyPostM F n P fn R .ret { tmps := tmps, defers := [{ target := .collected D, args := #[] }] } W :=
  ⟨by simp, .inl ⟨_, _, rfl, run_takeDeferred hK, _, hr, hR⟩⟩
/-- Where no range was come to. -/
theorem postM_ret0 {F : Fence} {n : Nat} {fn : Func} {R : Ending → World → Prop} {tmps : Array Value} {W : World} {v : Value}
    (hr : (results fn tmps).run P W = .ok v W) (hR : R (.returned v) W) : bodyPostM F n P fn R .ret { tmps := tmps, defers := [] } W := ⟨_, hr, hR⟩
theorem below_putObj {B D : Nat} {w W : World} (h : Below B w W) (hB : B ≤ D) (o : Obj) (_ : D < W.heap.size) : Below B w (W.putObj D o) :=
  h.trans ⟨rfl, rfl, rfl, by simp, fun k hk => World.putObj_heap_other (by omega)⟩

/-- A contract of a plain call, walked inside the wide fence. -/
theorem calls_in {f : FuncId} {fn : Func} {c : Code} {args : Array Value} {w : World} {R : Ending → World → Prop} (hf : P.funcs[f]? = some fn) (hb : fn.body = some c)
    (h : c.wpIn Fence.wide 0 P (bodyPost P fn R) { tmps := args ++ Array.replicate (fn.ntmps - args.size) undef, defers := [] } w) : Calls P f args w R :=
  callsIn_wide.1 (callsIn_of_wp hf hb trivial h rfl)

end Go.Proofs.YtlpchcdalfkfcaaGreat

