/-
  An iterator that turns the one cell of a block that lay there before it was called. No condition.
-/
import Derived.Test.YtlpchcdalfkfcaaGreatBCoreB
import Derived.Test.YtlpchcdalfkfcaaGreatBCore
namespace Go.Proofs.YtlpchcdalfkfcaaGreat
open Go.RowKit
variable {P : Program}


/-- THE CONTRACT OF AN ITERATOR that turns the cell of block 'ob' between its rounds; S: what it leans on at its call, of that cell too. Who ranges leaves that cell alone. -/
def IterO {α : Type} (P : Program) (gf : Nat) (lb : Array Value) (ob : Nat) (encs : List α → α → Array Value) (xs : List α) (A S : World → Prop) : Prop :=
  ∀ (l : Nat) (J : List α → World → Prop) (Jx : Unit → World → Prop) (W : World),
    Stab W.heap.size J → Stab W.heap.size Jx → (∀ pre X v, J pre X → J pre (X.setCell ⟨ob, 0, none⟩ v)) → (∀ pre W', J pre W' → A W') →
    (∀ pre x suf W1, xs = pre ++ x :: suf → J pre W1 → W.heap.size ≤ W1.heap.size →
      Yields P l (encs pre x) W1 fun e W' => (Sm ob (ob + 1) W1 W' ∧ Sm W.heap.size W1.heap.size W1 W') ∧ ((e = .returned (.bool true) ∧ J (pre ++ [x]) W') ∨ (e = .returned (.bool false) ∧ Jx () W'))) →
    J [] W → S W →
    Calls P gf (#[.func (.yield l) #[] #[]] ++ lb) W fun e W' => (∃ v, e = .returned v) ∧ (J xs W' ∨ Jx () W')
/-- The law of a range over such a function, outside every round. -/
theorem wpIn_rangeO {α : Type} {n : Nat} {g : Operand} {ps : Array Tmp} {assign body : Code} {Q : Exit → Act → World → Prop} {a : Act} {w : World}
    {gf : Nat} {lb : Array Value} (hg : a.eval g = .func (.func gf) #[] lb) (eg : ∀ args w, (callFunc gf args).run P w = .ok (.enter gf args) w)
    {ob : Nat} (hob : ob < w.heap.size) {encs : List α → α → Array Value} {xs : List α} {A S : World → Prop} (hseq : IterO P gf lb ob encs xs A S) (hps : ∀ pre x, (encs pre x).size = ps.size)
    (I : List α → World → Prop) (Ix : Code → World → Prop) (Mid : List α → α → Act → World → Prop)
    (hI : Stab w.heap.size I) (hIx : Stab w.heap.size Ix) (hMid : ∀ pre x, Stab w.heap.size (fun (a : Act) W => Mid pre x a W))
    (hO : ∀ pre X v, I pre X → I pre (X.setCell ⟨ob, 0, none⟩ v)) (hS : ∀ X Y, S X → Keeps w.heap.size X Y → S Y) (hA : ∀ pre W', I pre W' → A W') (h0 : I [] w) (hS0 : S w)
    (hassign : ∀ m l pre x suf W, xs = pre ++ x :: suf → I pre W → w.heap.size + 2 ≤ W.heap.size →
      assign.wpIn (Fence.wide.inRound l) m P (Exit.then (fun a' W' => Sm ob W.heap.size W W' ∧ Mid pre x a' W') (fun _ _ _ => False)) { tmps := (ps.zip (encs pre x)).foldl (fun t (p, v) => t.setIfInBounds p v) a.tmps, defers := [] } W)
    (hbody : ∀ m l pre x suf a' W hi, xs = pre ++ x :: suf → w.heap.size < l → (∃ r, W.heap[l]? = some (.loop r)) → hi ≤ W.heap.size → Mid pre x a' W → body.wpIn (Fence.wide.inRound l) m P (roundEndS ob hi I Ix (pre ++ [x]) W) a' W)
    (hdone : ∀ D W, w.heap.size ≤ D → I xs W → W.heap[D]? = some (.deferred (some [])) → Q .normal { a with defers := { target := .collected D, args := #[] } :: a.defers } W)
    (hstop : ∀ D c W, w.heap.size ≤ D → Ix c W → W.heap[D]? = some (.deferred (some [])) → c.wpIn Fence.wide n P Q { a with defers := { target := .collected D, args := #[] } :: a.defers } W) :
    (Code.rangeFunc g ps assign body).wpIn Fence.wide n P Q a w := by
  refine wpIn_rangeFunc ?_
  intro fn hfn
  rw [show Fence.wide.round = none from rfl]
  obtain ⟨recd, hrec⟩ : ∃ recd : LoopState → Option Code → Loop, recd = fun st pe => { state := st, pending := pe, fn, tmps := a.tmps, params := ps, assign, body, defers := w.heap.size } := ⟨_, rfl⟩
  obtain ⟨W1, hW1⟩ : ∃ W1, (w.alloc (.deferred (some []))).alloc (.loop (recd .ready none)) = W1 := ⟨_, rfl⟩
  have hz1 : W1.heap.size = w.heap.size + 2 := by rw [← hW1]; simp
  have hL1 : W1.heap[w.heap.size + 1]? = some (.loop (recd .ready none)) := by
    rw [← hW1]; have := World.alloc_heap_new (w.alloc (.deferred (some []))) (.loop (recd .ready none)); rwa [World.size_alloc] at this
  have hK1 : W1.heap[w.heap.size]? = some (.deferred (some [])) := by
    rw [← hW1]; exact (Below.heap_alloc _ _ _ (by simp)).trans (World.alloc_heap_new w _)
  have hS1 : S W1 := by rw [← hW1]; exact hS _ _ hS0 (((Keeps.refl _ w).alloc (Nat.le_refl _) _).alloc (Nat.le_refl _) _)
  have hI1 : I [] W1 := by rw [← hW1]; exact hI _ _ _ h0 (((Keeps.refl _ w).alloc (Nat.le_refl _) _).alloc (Nat.le_refl _) _)
  refine ⟨w.heap.size + 1, [{ target := .collected w.heap.size, args := #[] }], W1, { target := .fn (.func gf) lb, args := #[.func (.yield (w.heap.size + 1)) #[] #[]] }, W1, gf,
    #[.func (.yield (w.heap.size + 1)) #[] #[]] ++ lb, W1, ?_, ?_, ?_, ?_, fun h => by simp [Fence.wide] at h, ?_⟩
  · rw [← hW1, hrec]; exact run_enterLoop_outer _ _ _ _ _
  · simp only [resolve, hg]
    simp [go_sem]
  · intro f' hf'; trivial
  · simp [invoke, go_sem, eg]
  · refine callsIn_wide.2 ((hseq (w.heap.size + 1)
      (fun pre W => I pre W ∧ W.heap[w.heap.size + 1]? = some (.loop (recd .ready none)) ∧ W.heap[w.heap.size]? = some (.deferred (some [])))
      (fun _ W => ∃ c, Ix c W ∧ W.heap[w.heap.size + 1]? = some (.loop (recd .done (some c))) ∧ W.heap[w.heap.size]? = some (.deferred (some [])))
      W1
      (fun s X Y hs hk => ⟨hI s X Y hs.1 (hk.mono (by omega)), (hk.low _ (by omega)).trans hs.2.1, (hk.low _ (by omega)).trans hs.2.2⟩)
      (fun s X Y hs hk => by obtain ⟨c, hc, hl, hd⟩ := hs; exact ⟨c, hIx _ X Y hc (hk.mono (by omega)), (hk.low _ (by omega)).trans hl, (hk.low _ (by omega)).trans hd⟩)
      (fun pre X v hs => ⟨hO pre X v hs.1, (Below.heap_setCell _ _ _ _ (by dsimp only; omega)).trans hs.2.1, (Below.heap_setCell _ _ _ _ (by dsimp only; omega)).trans hs.2.2⟩)
      (fun pre W' h => hA pre W' h.1) ?_ ⟨hI1, hL1, hK1⟩ hS1).mono ?_)
    · rintro pre x suf W hxs ⟨hi, hl, hk⟩ hsz
      have hy := run_yield (P := P) (args := encs pre x) hl (by rw [hrec]; exact hps _ _)
      rw [hrec] at hy
      refine ⟨fn, _, assign, body, hy, fun m => ?_⟩
      refine (round_ofS (recd := recd) (B := w.heap.size) (lo := ob) (hi := W.heap.size) (I := I) (Ix := Ix) (Mid := fun a' W' => Mid pre x a' W' ∧ W.heap.size ≤ W'.heap.size) (nx := pre ++ [x]) (by rw [hrec]; intros; rfl) (by rw [hrec]; intros; rfl) (by rw [hrec]; intros; rfl) hl (by omega) (by omega) (by omega) (fun a' X Y h hk => ⟨hMid pre x a' X Y h.1 hk, Nat.le_trans h.2 hk.size⟩) hI hIx
        (fun m => wpIn_mono (hassign m _ pre x suf W hxs hi (by omega)) (fun e a' W' h => by cases e <;> first | exact ⟨h.1, h.2, h.1.1⟩ | exact h)) (fun m a' W' hr hm => hbody m _ pre x suf a' W' _ hxs (by omega) hr hm.2 hm.1) m).mono ?_
      rintro e W' ⟨hk', hs', h⟩
      refine ⟨⟨⟨hs', fun k h1 h2 => hk' k (by omega) (by omega) (by omega)⟩, ⟨hs', fun k h1 h2 => hk' k (by omega) (by omega) (by omega)⟩⟩, ?_⟩
      rcases h with ⟨rfl, hi', hl'⟩ | ⟨rfl, c, hi', hl'⟩
      · exact .inl ⟨rfl, hi', hl', (hk' _ (by omega) (by omega) (by omega)).trans hk⟩
      · exact .inr ⟨rfl, c, hi', hl', (hk' _ (by omega) (by omega) (by omega)).trans hk⟩
    · rintro e W2 ⟨⟨v, rfl⟩, (⟨hi, hl, hk⟩ | ⟨c, hi, hl, hk⟩)⟩
      · exact ⟨none, _, by have := run_endLoop (P := P) hl (by rw [hrec]; simp); rw [hrec] at this; exact this,
          hdone _ _ (Nat.le_refl _) (hI _ _ _ hi (Keeps.putObj _ (by omega) hl rfl)) ((World.putObj_heap_other (by omega)).trans hk)⟩
      · exact ⟨some c, _, by have := run_endLoop (P := P) hl (by rw [hrec]; simp); rw [hrec] at this; exact this,
          hstop _ c _ (Nat.le_refl _) (hIx _ _ _ hi (Keeps.putObj _ (by omega) hl rfl)) ((World.putObj_heap_other (by omega)).trans hk)⟩
theorem wp_rangeO {α : Type} {g : Operand} {ps : Array Tmp} {assign body : Code} {Q : Exit → Act → World → Prop} {a : Act} {w : World}
    {gf : Nat} {lb : Array Value} (hg : a.eval g = .func (.func gf) #[] lb) (eg : ∀ args w, (callFunc gf args).run P w = .ok (.enter gf args) w)
    {ob : Nat} (hob : ob < w.heap.size) {encs : List α → α → Array Value} {xs : List α} {A S : World → Prop} (hseq : IterO P gf lb ob encs xs A S) (hps : ∀ pre x, (encs pre x).size = ps.size)
    (I : List α → World → Prop) (Ix : Code → World → Prop) (Mid : List α → α → Act → World → Prop)
    (hI : Stab w.heap.size I) (hIx : Stab w.heap.size Ix) (hMid : ∀ pre x, Stab w.heap.size (fun (a : Act) W => Mid pre x a W))
    (hO : ∀ pre X v, I pre X → I pre (X.setCell ⟨ob, 0, none⟩ v)) (hS : ∀ X Y, S X → Keeps w.heap.size X Y → S Y) (hA : ∀ pre W', I pre W' → A W') (h0 : I [] w) (hS0 : S w)
    (hassign : ∀ m l pre x suf W, xs = pre ++ x :: suf → I pre W → w.heap.size + 2 ≤ W.heap.size →
      assign.wpIn (Fence.wide.inRound l) m P (Exit.then (fun a' W' => Sm ob W.heap.size W W' ∧ Mid pre x a' W') (fun _ _ _ => False)) { tmps := (ps.zip (encs pre x)).foldl (fun t (p, v) => t.setIfInBounds p v) a.tmps, defers := [] } W)
    (hbody : ∀ m l pre x suf a' W hi, xs = pre ++ x :: suf → w.heap.size < l → (∃ r, W.heap[l]? = some (.loop r)) → hi ≤ W.heap.size → Mid pre x a' W → body.wpIn (Fence.wide.inRound l) m P (roundEndS ob hi I Ix (pre ++ [x]) W) a' W)
    (hdone : ∀ D W, w.heap.size ≤ D → I xs W → W.heap[D]? = some (.deferred (some [])) → Q .normal { a with defers := { target := .collected D, args := #[] } :: a.defers } W)
    (hstop : ∀ D c W, w.heap.size ≤ D → Ix c W → W.heap[D]? = some (.deferred (some [])) → c.wp P Q { a with defers := { target := .collected D, args := #[] } :: a.defers } W) :
    (Code.rangeFunc g ps assign body).wp P Q a w :=
  wpIn_wide (n := 0) |>.1 (wpIn_rangeO hg eg hob hseq hps I Ix Mid hI hIx hMid hO hS hA h0 hS0 hassign hbody hdone (fun D c W h1 h2 h3 => wpIn_wide.2 (hstop D c W h1 h2 h3)))
theorem Yields.bool {P : Program} {l : Nat} {args : Array Value} {W1 : World} {S A B : World → Prop} (h : Yields P l args W1 fun e W' => S W' ∧ ((e = .returned (.bool true) ∧ A W') ∨ (e = .returned (.bool false) ∧ B W'))) :
    Yields P l args W1 fun e W' => S W' ∧ ∃ t : Bool, e = .returned (.bool t) ∧ (t = true → A W') ∧ (t = false → B W') := by
  refine h.mono ?_
  rintro e W' ⟨h1, ⟨h2, h3⟩ | ⟨h2, h3⟩⟩
  · exact ⟨h1, true, h2, fun _ => h3, (fun h => by cases h)⟩
  · exact ⟨h1, false, h2, (fun h => by cases h), fun _ => h3⟩
end Go.Proofs.YtlpchcdalfkfcaaGreat

/-
  Chapter 15, plain: where slots lie, and whose an address is. No condition.
-/
namespace Go.Proofs.YtlpchcdalfkfcaaGreat
set_option maxHeartbeats 1000000
set_option maxRecDepth 4000

def payI (c : Int) : Int := if c = 0 then 16 else if c = 1 then 32 else if c = 2 then 48 else if c = 3 then 64 else if c = 4 then 96 else if c = 5 then 128 else if c = 6 then 192 else 256
def sltI (c : Int) : Int := 16 + payI c + 16
def cntIM (c : Int) : Int := if c = 0 then 85 else if c = 1 then 64 else if c = 2 then 51 else if c = 3 then 42 else if c = 4 then 32 else if c = 5 then 25 else if c = 6 then 18 else 14
def regJ (s c : Int) : Int := 4096 * (s + 1) + 1 + 17 * c
def atIM (s c i : Int) : Int := 256 * regJ s c + i * sltI c + 16
def inS (s c : Int) : Bool := decide (0 ≤ s ∧ s < 4) && decide (0 ≤ c ∧ c < 8)
def spE (s c i : Int) : Int := if inS s c = false then 2 else if decide (0 ≤ i ∧ i < cntIM c) = false then 4 else 0
theorem inS_iff {s c : Int} : inS s c = true ↔ (0 ≤ s ∧ s < 4) ∧ 0 ≤ c ∧ c < 8 := by unfold inS; simp
theorem spE_zero {s c i : Int} : spE s c i = 0 ↔ ((0 ≤ s ∧ s < 4) ∧ 0 ≤ c ∧ c < 8) ∧ 0 ≤ i ∧ i < cntIM c := by
  unfold spE
  cases h : inS s c
  · have : ¬ ((0 ≤ s ∧ s < 4) ∧ 0 ≤ c ∧ c < 8) := fun e => by rw [inS_iff.2 e] at h; cases h
    simp [this]
  · have := inS_iff.1 h
    by_cases h2 : 0 ≤ i ∧ i < cntIM c
    · simp [this, h2]
    · rw [if_neg (by decide), if_pos (by simpa using h2)]
      simp only [this, and_true, true_and, h2, iff_false]
      decide
theorem cls8 {c : Int} (h0 : 0 ≤ c) (h1 : c < 8) : c = 0 ∨ c = 1 ∨ c = 2 ∨ c = 3 ∨ c = 4 ∨ c = 5 ∨ c = 6 ∨ c = 7 := by omega
theorem slt_v : sltI 0 = 48 ∧ sltI 1 = 64 ∧ sltI 2 = 80 ∧ sltI 3 = 96 ∧ sltI 4 = 128 ∧ sltI 5 = 160 ∧ sltI 6 = 224 ∧ sltI 7 = 288 := by decide
theorem cnt_v : cntIM 0 = 85 ∧ cntIM 1 = 64 ∧ cntIM 2 = 51 ∧ cntIM 3 = 42 ∧ cntIM 4 = 32 ∧ cntIM 5 = 25 ∧ cntIM 6 = 18 ∧ cntIM 7 = 14 := by decide
theorem sp_bd {s c i : Int} (h : spE s c i = 0) : 0 ≤ i * sltI c ∧ i * sltI c + 32 ≤ 4096 := by
  obtain ⟨⟨_, h0, h1⟩, h2, h3⟩ := spE_zero.1 h
  rcases cls8 h0 h1 with rfl | rfl | rfl | rfl | rfl | rfl | rfl | rfl <;> simp only [slt_v, cnt_v] at * <;> omega
theorem at_inj {s c i s' c' i' : Int} (h : spE s c i = 0) (h' : spE s' c' i' = 0) (e : atIM s c i = atIM s' c' i') : s = s' ∧ c = c' ∧ i = i' := by
  obtain ⟨b0, b1⟩ := sp_bd h
  obtain ⟨b2, b3⟩ := sp_bd h'
  obtain ⟨⟨a0, a1⟩, _, _⟩ := spE_zero.1 h
  obtain ⟨⟨a2, a3⟩, _, _⟩ := spE_zero.1 h'
  unfold atIM regJ at e
  have es : s = s' := by omega
  have ec : c = c' := by omega
  subst es ec
  refine ⟨rfl, rfl, ?_⟩
  have ei : i * sltI c = i' * sltI c := by omega
  rcases cls8 a1.1 a1.2 with rfl | rfl | rfl | rfl | rfl | rfl | rfl | rfl <;> simp only [slt_v] at ei <;> omega
/-- Whose an address is. -/
def FindSp (at_ s c i no : Int) : Prop := (no = 0 ∧ spE s c i = 0 ∧ atIM s c i = at_) ∨ ((no = 250 ∧ s = 0 ∧ c = 0 ∧ i = 0) ∧ ∀ s c i, spE s c i = 0 → atIM s c i ≠ at_)
theorem FindSp.uniq {a s c i no s' c' i' no' : Int} (h : FindSp a s c i no) (k : FindSp a s' c' i' no') : s = s' ∧ c = c' ∧ i = i' ∧ no = no' := by
  rcases h with ⟨rfl, h1, h2⟩ | ⟨⟨rfl, rfl, rfl, rfl⟩, h1⟩ <;> rcases k with ⟨rfl, k1, k2⟩ | ⟨⟨rfl, rfl, rfl, rfl⟩, k1⟩
  · obtain ⟨e1, e2, e3⟩ := at_inj h1 k1 (h2.trans k2.symm)
    exact ⟨e1, e2, e3, rfl⟩
  · exact absurd h2 (k1 _ _ _ h1)
  · exact absurd k2 (h1 _ _ _ k1)
  · exact ⟨rfl, rfl, rfl, rfl⟩
theorem at_page {s c i : Int} (h : spE s c i = 0) : regJ s c ≤ atIM s c i / 256 ∧ atIM s c i / 256 < regJ s c + 16 ∧ 0 ≤ atIM s c i ∧ atIM s c i < 16777216 := by
  obtain ⟨b0, b1⟩ := sp_bd h
  obtain ⟨⟨a0, a1⟩, _, _⟩ := spE_zero.1 h
  unfold atIM
  have : 256 * regJ s c = 1048576 * (s + 1) + 256 + 4352 * c := by unfold regJ; omega
  unfold regJ at *
  omega
theorem at_index {s c i : Int} (h : spE s c i = 0) : Int.tdiv (atIM s c i - atIM s c 0) (sltI c) = i := by
  obtain ⟨⟨_, h0, h1⟩, h2, h3⟩ := spE_zero.1 h
  have e : atIM s c i - atIM s c 0 = i * sltI c := by unfold atIM; omega
  rw [e]
  refine Int.mul_tdiv_cancel i ?_
  rcases cls8 h0 h1 with rfl | rfl | rfl | rfl | rfl | rfl | rfl | rfl <;> decide
end Go.Proofs.YtlpchcdalfkfcaaGreat
