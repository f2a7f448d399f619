/-
  Groundwork: an iterator that first makes memory of its own (how much is not told), and then gives just the list xs.
-/
import Derived.Test.YtlpchcdalfkfcaaGreatBCoreB
import Derived.Test.YtlpchcdalfkfcaaGreatBPgA
import Derived.Test.YtlpchcdalfkfcaaGreatBFrM
import Derived.Shelf.SlMaps.Clone
import Derived.Ground.SlmcProg
import Derived.Deep.AppendLies
namespace Go.Proofs.YtlpchcdalfkfcaaGreat
open Go.RowKit
variable {P : Program}

/-- THE CONTRACT OF AN ITERATOR THAT MAKES MEMORY OF ITS OWN FIRST (the blocks from the call's on, below hi; hi is the iterator's), and then gives just xs (or is left in their midst); A: what it leans on in memory. -/
def IterS {α : Type} (P : Program) (gf : Nat) (lb : Array Value) (encs : α → Array Value) (xs : List α) (A : World → Prop) : Prop :=
  ∀ (l : Nat) (J : Nat → List α → World → Prop) (Jx : Unit → World → Prop) (W : World),
    (∀ hi, Stab W.heap.size (J hi)) → Stab W.heap.size Jx → (∀ hi pre W', J hi pre W' → A W') →
    (∀ hi pre x suf W1, xs = pre ++ x :: suf → J hi pre W1 → W.heap.size ≤ hi → hi ≤ W1.heap.size →
      Yields P l (encs x) W1 fun e W' => Sm W.heap.size hi W1 W' ∧ ((e = .returned (.bool true) ∧ J hi (pre ++ [x]) W') ∨ (e = .returned (.bool false) ∧ Jx () W'))) →
    (∀ hi, W.heap.size ≤ hi → J hi [] W) →
    Calls P gf (#[.func (.yield l) #[] #[]] ++ lb) W fun e W' => (∃ v, e = .returned v) ∧ ((∃ hi, W.heap.size ≤ hi ∧ J hi xs W') ∨ Jx () W')
theorem IterK.toS {α : Type} {gf : Nat} {lb : Array Value} {encs : α → Array Value} {xs : List α} {A : World → Prop} (h : IterK P gf lb encs xs A) : IterS P gf lb encs xs A := by
  intro l J Jx W hJ hJx hA hY h0
  refine (h l (J W.heap.size) Jx W (hJ _) hJx (hA _) (fun pre x suf W1 hxs hJ1 hsz => (hY W.heap.size pre x suf W1 hxs hJ1 (Nat.le_refl _) hsz).mono ?_) (h0 _ (Nat.le_refl _))).mono ?_
  · rintro e W' ⟨hs, ⟨h1, h2⟩ | ⟨h1, h2⟩⟩
    · exact .inl ⟨h1, h2, hs.1⟩
    · exact .inr ⟨h1, h2, hs.1⟩
  · rintro e W' ⟨h1, h2 | h2⟩
    · exact ⟨h1, .inl ⟨_, Nat.le_refl _, h2⟩⟩
    · exact ⟨h1, .inr h2⟩

/-- The law of a range over such a function, outside every round. -/
theorem wpIn_rangeS {α : Type} {n : Nat} {g : Operand} {ps : Array Tmp} {assign body : Code} {Q : Exit → Act → World → Prop} {a : Act} {w : World}
    {gf : Nat} {lb : Array Value} (hg : a.eval g = .func (.func gf) #[] lb) (eg : ∀ args w, (callFunc gf args).run P w = .ok (.enter gf args) w)
    {encs : α → Array Value} {xs : List α} {A : World → Prop} (hseq : IterS P gf lb encs xs A) (hps : ∀ x, (encs x).size = ps.size)
    (I : Nat → List α → World → Prop) (Ix : Code → World → Prop) (Mid : Nat → List α → α → Act → World → Prop)
    (hI : ∀ hi, Stab w.heap.size (I hi)) (hIx : Stab w.heap.size Ix) (hMid : ∀ hi pre x, Stab w.heap.size (fun (a : Act) W => Mid hi pre x a W)) (hA : ∀ hi pre W', I hi pre W' → A W') (h0 : ∀ hi, w.heap.size + 2 ≤ hi → I hi [] w)
    (hassign : ∀ m l hi pre x suf W, xs = pre ++ x :: suf → I hi pre W → w.heap.size + 2 ≤ hi → hi ≤ W.heap.size →
      assign.wpIn (Fence.wide.inRound l) m P (Exit.then (fun a' W' => Sm w.heap.size hi W W' ∧ Mid hi pre x a' W') (fun _ _ _ => False)) { tmps := (ps.zip (encs x)).foldl (fun t (p, v) => t.setIfInBounds p v) a.tmps, defers := [] } W)
    (hbody : ∀ m l hi pre x suf a' W, xs = pre ++ x :: suf → w.heap.size < l → (∃ r, W.heap[l]? = some (.loop r)) → w.heap.size + 2 ≤ hi → hi ≤ W.heap.size → Mid hi pre x a' W → body.wpIn (Fence.wide.inRound l) m P (roundEndS w.heap.size hi (I hi) Ix (pre ++ [x]) W) a' W)
    (hdone : ∀ D W hi, w.heap.size ≤ D → I hi xs W → W.heap[D]? = some (.deferred (some [])) → Q .normal { a with defers := { target := .collected D, args := #[] } :: a.defers } W)
    (hstop : ∀ D c W, w.heap.size ≤ D → Ix c W → W.heap[D]? = some (.deferred (some [])) → c.wpIn Fence.wide n P Q { a with defers := { target := .collected D, args := #[] } :: a.defers } W) :
    (Code.rangeFunc g ps assign body).wpIn Fence.wide n P Q a w := by
  refine wpIn_rangeFunc ?_
  intro fn hfn
  rw [show Fence.wide.round = none from rfl]
  obtain ⟨recd, hrec⟩ : ∃ recd : LoopState → Option Code → Loop, recd = fun st pe => { state := st, pending := pe, fn, tmps := a.tmps, params := ps, assign, body, defers := w.heap.size } := ⟨_, rfl⟩
  obtain ⟨W1, hW1⟩ : ∃ W1, (w.alloc (.deferred (some []))).alloc (.loop (recd .ready none)) = W1 := ⟨_, rfl⟩
  have hz1 : W1.heap.size = w.heap.size + 2 := by rw [← hW1]; simp
  have hL1 : W1.heap[w.heap.size + 1]? = some (.loop (recd .ready none)) := by
    rw [← hW1]; have := World.alloc_heap_new (w.alloc (.deferred (some []))) (.loop (recd .ready none)); rwa [World.size_alloc] at this
  have hK1 : W1.heap[w.heap.size]? = some (.deferred (some [])) := by
    rw [← hW1]; exact (Below.heap_alloc _ _ _ (by simp)).trans (World.alloc_heap_new w _)
  have hI1 : ∀ hi, w.heap.size + 2 ≤ hi → I hi [] W1 := fun hi hh => by rw [← hW1]; exact hI hi _ _ _ (h0 hi hh) (((Keeps.refl _ w).alloc (Nat.le_refl _) _).alloc (Nat.le_refl _) _)
  refine ⟨w.heap.size + 1, [{ target := .collected w.heap.size, args := #[] }], W1, { target := .fn (.func gf) lb, args := #[.func (.yield (w.heap.size + 1)) #[] #[]] }, W1, gf,
    #[.func (.yield (w.heap.size + 1)) #[] #[]] ++ lb, W1, ?_, ?_, ?_, ?_, fun h => by simp [Fence.wide] at h, ?_⟩
  · rw [← hW1, hrec]; exact run_enterLoop_outer _ _ _ _ _
  · simp only [resolve, hg]
    simp [go_sem]
  · intro f' hf'; trivial
  · simp [invoke, go_sem, eg]
  · refine callsIn_wide.2 ((hseq (w.heap.size + 1)
      (fun hi pre W => I hi pre W ∧ W.heap[w.heap.size + 1]? = some (.loop (recd .ready none)) ∧ W.heap[w.heap.size]? = some (.deferred (some [])))
      (fun _ W => ∃ c, Ix c W ∧ W.heap[w.heap.size + 1]? = some (.loop (recd .done (some c))) ∧ W.heap[w.heap.size]? = some (.deferred (some [])))
      W1
      (fun hi s X Y hs hk => ⟨hI hi s X Y hs.1 (hk.mono (by omega)), (hk.low _ (by omega)).trans hs.2.1, (hk.low _ (by omega)).trans hs.2.2⟩)
      (fun s X Y hs hk => by obtain ⟨c, hc, hl, hd⟩ := hs; exact ⟨c, hIx _ X Y hc (hk.mono (by omega)), (hk.low _ (by omega)).trans hl, (hk.low _ (by omega)).trans hd⟩)
      (fun hi pre W' h => hA hi pre W' h.1) ?_ (fun hi hh => ⟨hI1 hi (by omega), hL1, hK1⟩)).mono ?_)
    · rintro hi pre x suf W hxs ⟨hi0, hl, hk⟩ hhi hsz
      have hy := run_yield (P := P) (args := encs x) hl (by rw [hrec]; exact hps x)
      rw [hrec] at hy
      refine ⟨fn, _, assign, body, hy, fun m => ?_⟩
      refine (round_ofS (recd := recd) (B := w.heap.size) (lo := w.heap.size) (hi := hi) (I := I hi) (Ix := Ix) (Mid := fun a' W' => Mid hi pre x a' W' ∧ hi ≤ W'.heap.size) (nx := pre ++ [x]) (by rw [hrec]; intros; rfl) (by rw [hrec]; intros; rfl) (by rw [hrec]; intros; rfl) hl (by omega) (by omega) (by omega)
        (fun a' X Y h hk => ⟨hMid hi pre x a' X Y h.1 hk, Nat.le_trans h.2 hk.size⟩) (hI hi) hIx
        (fun m => wpIn_mono (hassign m _ hi pre x suf W hxs hi0 (by omega) hsz) ?_) (fun m a' W' hr hm => hbody m _ hi pre x suf a' W' hxs (by omega) hr (by omega) hm.2 hm.1) m).mono ?_
      · rintro e a1 W9 hp
        cases e with
        | normal => exact ⟨hp.1, hp.2, Nat.le_trans hsz hp.1.1⟩
        | exit id => exact hp
        | goto t => exact hp
        | ret => exact hp
        | panic ch => exact hp
        | outgrown => exact hp
      rintro e W' ⟨hk', hs', h⟩
      refine ⟨⟨hs', fun k h1 h2 => hk' k (by omega) (by omega) (by omega)⟩, ?_⟩
      rcases h with ⟨rfl, hi', hl'⟩ | ⟨rfl, c, hi', hl'⟩
      · exact .inl ⟨rfl, hi', hl', (hk' _ (by omega) (by omega) (by omega)).trans hk⟩
      · exact .inr ⟨rfl, c, hi', hl', (hk' _ (by omega) (by omega) (by omega)).trans hk⟩
    · rintro e W2 ⟨⟨v, rfl⟩, (⟨hi, _, hi2, hl, hk⟩ | ⟨c, hi, hl, hk⟩)⟩
      · exact ⟨none, _, by have := run_endLoop (P := P) hl (by rw [hrec]; simp); rw [hrec] at this; exact this,
          hdone _ _ hi (Nat.le_refl _) (hI hi _ _ _ hi2 (Keeps.putObj _ (by omega) hl rfl)) ((World.putObj_heap_other (by omega)).trans hk)⟩
      · exact ⟨some c, _, by have := run_endLoop (P := P) hl (by rw [hrec]; simp); rw [hrec] at this; exact this,
          hstop _ c _ (Nat.le_refl _) (hIx _ _ _ hi (Keeps.putObj _ (by omega) hl rfl)) ((World.putObj_heap_other (by omega)).trans hk)⟩
/-- The same in a plain walk, the loop variables in slots. -/
theorem wp_rangeS1 {α : Type} {g : Operand} {ps : Array Tmp} {assign body : Code} {Q : Exit → Act → World → Prop} {a : Act} {w : World}
    {gf : Nat} {lb : Array Value} (hg : a.eval g = .func (.func gf) #[] lb) (eg : ∀ args w, (callFunc gf args).run P w = .ok (.enter gf args) w)
    {encs : α → Array Value} {xs : List α} {A : World → Prop} (hseq : IterS P gf lb encs xs A) (hps : ∀ x, (encs x).size = ps.size)
    (I : Nat → List α → World → Prop) (Ix : Code → World → Prop) (a₁ : α → Act)
    (hassign : ∀ m l x W (K : Act → World → Prop), K (a₁ x) W → assign.wpIn (Fence.wide.inRound l) m P (Exit.then K (fun _ _ _ => False)) { tmps := (ps.zip (encs x)).foldl (fun t (p, v) => t.setIfInBounds p v) a.tmps, defers := [] } W)
    (hI : ∀ hi, Stab w.heap.size (I hi)) (hIx : Stab w.heap.size Ix) (hA : ∀ hi pre W', I hi pre W' → A W') (h0 : ∀ hi, w.heap.size + 2 ≤ hi → I hi [] w)
    (hbody : ∀ m l hi pre x suf W, xs = pre ++ x :: suf → w.heap.size < l → (∃ r, W.heap[l]? = some (.loop r)) → w.heap.size + 2 ≤ hi → hi ≤ W.heap.size → I hi pre W → body.wpIn (Fence.wide.inRound l) m P (roundEndS w.heap.size hi (I hi) Ix (pre ++ [x]) W) (a₁ x) W)
    (hdone : ∀ D W hi, w.heap.size ≤ D → I hi xs W → W.heap[D]? = some (.deferred (some [])) → Q .normal { a with defers := { target := .collected D, args := #[] } :: a.defers } W)
    (hstop : ∀ D c W, w.heap.size ≤ D → Ix c W → W.heap[D]? = some (.deferred (some [])) → c.wp P Q { a with defers := { target := .collected D, args := #[] } :: a.defers } W) :
    (Code.rangeFunc g ps assign body).wp P Q a w :=
  wpIn_wide (n := 0) |>.1 (wpIn_rangeS hg eg hseq hps I Ix (fun hi pre x a' W => a' = a₁ x ∧ I hi pre W) hI hIx (fun hi pre x a' X Y h hk => ⟨h.1, hI hi _ _ _ h.2 hk⟩) hA h0
    (fun m l hi pre x suf W _ hi0 _ _ => hassign m l x W _ ⟨Sm.refl _ _ W, rfl, hi0⟩)
    (fun m l hi pre x suf a' W hxs hl hr h1 h2 h => by obtain ⟨rfl, h⟩ := h; exact hbody m l hi pre x suf W hxs hl hr h1 h2 h) hdone (fun D c W h1 h2 h3 => wpIn_wide.2 (hstop D c W h1 h2 h3)))
end Go.Proofs.YtlpchcdalfkfcaaGreat

/-
  Package frame: All. Conditions: a pool, its keys ints.
-/
namespace Go.Proofs
open Go.RowKit Go.Maps Go.Sort Go.Shelf
end Go.Proofs
namespace Go.Proofs.YtlpchcdalfkfcaaGreat
open Go.RowKit
attribute [local go_sem] Oper.semAt_some
set_option maxHeartbeats 4000000
set_option maxRecDepth 4000

theorem clone_map {k f : Nat} {w : World} {b : Nat} {m : List (Int × Value)} (h : MapI w b m) (hc : ∀ es clock, w.heap[b]? = some (.map es clock) → Calls Tryz.prog f #[.map (some b)] w fun e w' => e = .returned (.map (some w.heap.size)) ∧ w' = w.alloc (.map es clock)) :
    Calls Tryz.prog f #[.map (some b)] w fun e w' => e = .returned (.map (some w.heap.size)) ∧ MapI w' w.heap.size m ∧ ∃ o, w' = w.alloc o := by
  obtain ⟨es, clock, hb, hs, he⟩ := h
  refine (hc es clock hb).mono ?_
  rintro e w' ⟨rfl, rfl⟩
  exact ⟨rfl, ⟨es, clock, World.alloc_heap_new w _, hs, he⟩, _, rfl⟩
def ownF (F : List Fr) (k : Int) : Int := ((F.find? fun x => x.1 == k).map (·.2.1)).getD 0
def allL (F : List Fr) : List (Int × Int) := (srt (encF F)).map fun k => (k, ownF F k)
theorem look_owner (F : List Fr) (h256 : ∀ x ∈ F, x.2.2.length = 256) (fr : Int) : ∃ bs, (getA (encF F) fr).getD (.agg (takenA 0 zeros256)) = .agg (takenA (ownF F fr) bs) ∧ bs.length = 256 := by
  unfold getA ownF encF
  rw [List.find?_map]
  simp only [Function.comp_def]
  cases h : F.find? fun x => x.1 == fr with
  | none => exact ⟨zeros256, rfl, rfl⟩
  | some q => exact ⟨q.2.2, rfl, h256 q (List.mem_of_find?_eq_some h)⟩
theorem field_owner (o : Int) (bs : List Int) (W : World) : (Instr.field 214 (.agg (takenA o bs)) 0).run Tryz.prog W = .ok (.int .i64 o) W := by
  unfold Instr.field
  rw [Sem.run_bind, run_underlying Tryz.underlying214]
  simp [Result.andThen, asAgg, part, takenA, go_sem]
end Go.Proofs.YtlpchcdalfkfcaaGreat

/-
  Package pinfoldlaw07: all. Conditions: a pool, its keys ints; at least one is wanted.
-/
namespace Go.Proofs.YtlpchcdalfkfcaaGreat
open Go.RowKit
attribute [local go_sem] Oper.semAt_some
set_option maxHeartbeats 4000000
set_option maxRecDepth 4000

def rowsV (l : List (Int × Int)) : List Value := l.flatMap fun x => [.int .i64 x.1, .int .i64 x.2]
theorem rowsV_len (l : List (Int × Int)) : (rowsV l).length = l.length * 2 := by induction l with | nil => rfl | cons a r ih => simp [rowsV] at ih ⊢; omega
theorem rowsV_snoc (l : List (Int × Int)) (x : Int × Int) : rowsV (l ++ [x]) = rowsV l ++ [.int .i64 x.1, .int .i64 x.2] := by simp [rowsV]
theorem allL_len (F : List Fr) : (allL F).length = F.length := by simp [allL, srt, encF]
end Go.Proofs.YtlpchcdalfkfcaaGreat

/-
  Package frame: Reserved. Conditions: a pool whose books are in order.
-/
namespace Go.Proofs.YtlpchcdalfkfcaaGreat
open Go.RowKit
attribute [local go_sem] Oper.semAt_some
set_option maxHeartbeats 4000000
set_option maxRecDepth 4000

structure RsvS (b br : Nat) (who : Int) (R : List (Int × Int)) (Y : World) : Prop where
  c1 : Y.cell? ⟨b, 1, none⟩ = some (.map (some br))
  lk : (Instr.lookup 185 (.map (some br)) (.int .i64 who) false).run Tryz.prog Y = .ok (.int .i64 (resvI R who)) Y
theorem RsvS.of {w0 Y : World} {b bf br : Nat} {who many : Int} {F : List Fr} {R : List (Int × Int)} (hpo : PoolAt w0 b bf br many F R) (h : Below w0.heap.size w0 Y) : RsvS b br who R Y := by
  have hc := (hpo.step h).cells
  have hlk := ((hpo.step h).re.lookup (P := Tryz.prog) Tryz.underlying185 Tryz.underlying3 (zero_int Y) who).1
  rw [getA_encR] at hlk
  exact ⟨hc.2.1, hlk⟩
def rsvdI (R : List (Int × Int)) (who : Int) : Int := if who < 0 then 0 else resvI R who
def rsvdH (F : List Fr) (who : Int) : Int := if who < 0 then 0 else (hasF F who : Int)
theorem Reserved_ok {w : World} {b bf br : Nat} {many : Int} {F : List Fr} {R : List (Int × Int)} (hpo : PoolAt w b bf br many F R) (hs : Sound many F R) (who : Int) :
    Calls Tryz.prog 88 #[.pointer (some ⟨b, 0, none⟩), .int .i64 who] w fun e w' => e = .returned (.tuple #[.int .i64 (rsvdI R who), .int .i64 (rsvdH F who)]) ∧ Below w.heap.size w w' := by
  by_cases h0 : who < 0
  · have e1 : rsvdI R who = 0 := if_pos h0
    have e2 : rsvdH F who = 0 := if_pos h0
    rw [e1, e2]
    clear e1 e2
    go_enter Tryz.func88, Tryz.ntmps88
    go_wp2_with fail
    refine (none_live hpo).mono ?_; rintro e w1 ⟨rfl, h1⟩
    go_wp2_with fail
    go_ret2
    exact ⟨rfl, h1⟩
  · have e1 : rsvdI R who = resvI R who := if_neg h0
    have e2 : rsvdH F who = hasF F who := if_neg h0
    rw [e1, e2]
    clear e1 e2
    go_enter Tryz.func88, Tryz.ntmps88
    go_wp2_with fail
    refine (none_live hpo).mono ?_; rintro e w1 ⟨rfl, h1⟩
    have hp1 := hpo.step h1
    go_wp2_with fail
    have k0 := (Below.refl w1.heap.size w1).drew
    refine wp_region_held_drew (S := RsvS b br who R) (by kernel_rfl) (RsvS.of hp1 k0) (fun hHeld => ?_)
    refine wpAnyH_take (i := 0) (v := ?_) rfl (by kernel_rfl) (by kernel_rfl) (by kernel_rfl) (fun _ _ _ h => h) (Or.inl ⟨by rfl, ?_⟩) (by assumption) ?_
    rotate_left
    · (intro Y hSw; (try dsimp only at hSw); obtain ⟨hS0, hS1⟩ := hSw; go_simp; try with_reducible rfl)
    try simp only [Act.put, List.getElem_toArray, List.getElem_cons_zero, List.getElem_cons_succ, List.setIfInBounds_toArray, List.set_cons_zero, List.set_cons_succ]
    refine wpAnyH_take (i := 1) (v := ?_) rfl (by kernel_rfl) (by kernel_rfl) (by kernel_rfl) (fun _ _ _ h => h) (Or.inl ⟨by rfl, ?_⟩) (by assumption) ?_
    rotate_left
    · (intro Y hSw; (try dsimp only at hSw); obtain ⟨hS0, hS1⟩ := hSw; go_simp; try with_reducible rfl)
    try simp only [Act.put, List.getElem_toArray, List.getElem_cons_zero, List.getElem_cons_succ, List.setIfInBounds_toArray, List.set_cons_zero, List.set_cons_succ]
    refine wpAnyH_take (i := 2) (v := ?_) rfl (by kernel_rfl) (by kernel_rfl) (by kernel_rfl) (fun _ _ _ h => h) (Or.inl ⟨by rfl, ?_⟩) (by assumption) ?_
    rotate_left
    · (intro Y hSw; (try dsimp only at hSw); obtain ⟨hS0, hS1⟩ := hSw; go_simp; try with_reducible rfl)
    try simp only [Act.put, List.getElem_toArray, List.getElem_cons_zero, List.getElem_cons_succ, List.setIfInBounds_toArray, List.set_cons_zero, List.set_cons_succ]
    refine wpAnyH_take (i := 3) (v := ?_) rfl (by kernel_rfl) (by kernel_rfl) (by kernel_rfl) (fun _ _ _ h => h) (Or.inl ⟨by rfl, ?_⟩) (by assumption) ?_
    rotate_left
    · (intro Y hSw; (try dsimp only at hSw); obtain ⟨hS0, hS1⟩ := hSw; go_simp; try with_reducible rfl)
    try simp only [Act.put, List.getElem_toArray, List.getElem_cons_zero, List.getElem_cons_succ, List.setIfInBounds_toArray, List.set_cons_zero, List.set_cons_succ]
    refine wpAnyH_take (i := 4) (v := ?_) rfl (by kernel_rfl) (by kernel_rfl) (by kernel_rfl) (fun _ _ _ h => h) (Or.inl ⟨by rfl, ?_⟩) (by assumption) ?_
    rotate_left
    · (intro Y hSw; (try dsimp only at hSw); obtain ⟨hS0, hS1⟩ := hSw; go_simp; try with_reducible rfl)
    try simp only [Act.put, List.getElem_toArray, List.getElem_cons_zero, List.getElem_cons_succ, List.setIfInBounds_toArray, List.set_cons_zero, List.set_cons_succ]
    refine wpAnyH_take (i := 5) (v := ?_) rfl (by kernel_rfl) (by kernel_rfl) (by kernel_rfl) (fun _ _ _ h => h) (Or.inl ⟨by rfl, ?_⟩) (by assumption) ?_
    rotate_left
    · (intro Y hSw; (try dsimp only at hSw); obtain ⟨hS0, hS1⟩ := hSw; go_simp; try with_reducible rfl)
    try simp only [Act.put, List.getElem_toArray, List.getElem_cons_zero, List.getElem_cons_succ, List.setIfInBounds_toArray, List.set_cons_zero, List.set_cons_succ]
    refine wpAnyH_take (i := 6) (v := ?_) rfl (by kernel_rfl) (by kernel_rfl) (by kernel_rfl) (fun _ _ _ h => h) (Or.inl ⟨by rfl, ?_⟩) (by assumption) ?_
    rotate_left
    · (intro Y hSw; (try dsimp only at hSw); obtain ⟨hS0, hS1⟩ := hSw; go_simp; try with_reducible rfl)
    try simp only [Act.put, List.getElem_toArray, List.getElem_cons_zero, List.getElem_cons_succ, List.setIfInBounds_toArray, List.set_cons_zero, List.set_cons_succ]
    refine wpAnyH_take (i := 7) (v := ?_) rfl (by kernel_rfl) (by kernel_rfl) (by kernel_rfl) (fun _ _ _ h => h) (Or.inl ⟨by rfl, ?_⟩) (by assumption) ?_
    rotate_left
    · (intro Y hSw; (try dsimp only at hSw); obtain ⟨hS0, hS1⟩ := hSw; go_simp; try with_reducible rfl)
    try simp only [Act.put, List.getElem_toArray, List.getElem_cons_zero, List.getElem_cons_succ, List.setIfInBounds_toArray, List.set_cons_zero, List.set_cons_succ]
    refine wpAnyH_take (i := 8) (v := ?_) rfl (by kernel_rfl) (by kernel_rfl) (by kernel_rfl) (fun _ _ _ h => h) (Or.inl ⟨by rfl, ?_⟩) (by assumption) ?_
    rotate_left
    · (intro Y hSw; (try dsimp only at hSw); obtain ⟨hS0, hS1⟩ := hSw; go_simp; try with_reducible rfl)
    try simp only [Act.put, List.getElem_toArray, List.getElem_cons_zero, List.getElem_cons_succ, List.setIfInBounds_toArray, List.set_cons_zero, List.set_cons_succ]
    refine wpAnyH_ready (rs := [9]) (by kernel_rfl) (by simp) ?_
    refine AllReadyH.cons rfl (fun K hK => ?_) AllReadyH.nil
    go_simp
    refine (has_calls (hp1.step k0) hs who).mono ?_; rintro e w2 ⟨rfl, h2⟩
    have k2 := k0.trans (h2.mono (Nat.le_refl _))
    go_wp2_with fail
    refine hK.out _ _ (RsvS.of hp1 k2) (fun hHeld => ?_)
    clear hK K
    try simp only [Act.put, List.getElem_toArray, List.getElem_cons_zero, List.getElem_cons_succ, List.setIfInBounds_toArray, List.set_cons_zero, List.set_cons_succ]
    refine wpAnyH_take (i := 10) (v := ?_) rfl (by kernel_rfl) (by kernel_rfl) (by kernel_rfl) (fun _ _ _ h => h) (Or.inl ⟨by rfl, ?_⟩) (by assumption) ?_
    rotate_left
    · (intro Y hSw; (try dsimp only at hSw); obtain ⟨hS0, hS1⟩ := hSw; go_simp; try with_reducible rfl)
    try simp only [Act.put, List.getElem_toArray, List.getElem_cons_zero, List.getElem_cons_succ, List.setIfInBounds_toArray, List.set_cons_zero, List.set_cons_succ]
    refine wpAnyH_take (i := 11) (v := ?_) rfl (by kernel_rfl) (by kernel_rfl) (by kernel_rfl) (fun _ _ _ h => h) (Or.inl ⟨by rfl, ?_⟩) (by assumption) ?_
    rotate_left
    · (intro Y hSw; (try dsimp only at hSw); obtain ⟨hS0, hS1⟩ := hSw; go_simp; try with_reducible rfl)
    try simp only [Act.put, List.getElem_toArray, List.getElem_cons_zero, List.getElem_cons_succ, List.setIfInBounds_toArray, List.set_cons_zero, List.set_cons_succ]
    refine wpAnyH_done (by kernel_rfl) ?_ _
    go_wp2_with fail
    go_ret2
    exact ⟨rfl, h1.trans (k2.mono h1.size)⟩
end Go.Proofs.YtlpchcdalfkfcaaGreat
