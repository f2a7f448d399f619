/-
  Package pinfoldlaw18: act. Conditions: shelves in order.
-/
import Derived.Test.YtkilmppmghkigaaCaRJ
import Derived.Test.YtkilmppmghkigaaCaRC
import Derived.Test.YtkilmppmghkigaaCaRF
import Derived.Test.YtkilmppmghkigaaCaRH
import Derived.Test.YtkilmppmghkigaaCaRI
import Derived.Test.YtkilmppmghkigaaCaK2
import Derived.Test.YtkilmppmghkigaaCaN
namespace Go.Proofs.Ytkilmppmghkigaa
open Go.RowKit
attribute [local go_sem] Oper.semAt_some
set_option maxHeartbeats 8000000
set_option maxRecDepth 8000

/-- A block that holds no number. -/
def NoInt (W : World) (g : Nat) : Prop := ∀ off (x : Int), W.cell? ⟨g, off, none⟩ ≠ some (.int .i64 x)
theorem NoInt.of {W : World} {g : Nat} {cs : Array Value} {t : TypeId} (h : Blk W g cs t) (hc : ∀ (i : Nat) (v : Value), cs[i]? = some v → ∃ a n c, v = Value.slice a n c) : NoInt W g := by
  intro off x e
  rw [World.cell?] at e
  have : cs[off]? = some (.int .i64 x) := by
    by_cases ho : off < cs.size
    · have h1 := h.cell off (Array.getElem?_eq_getElem ho)
      rw [← World.cell?] at e
      rw [h1] at e
      rw [Array.getElem?_eq_getElem ho, ← e]
    · have h2 := cell_of_row W g off _ _ _ h
      rw [← World.cell?, h2] at e
      exact e
  obtain ⟨a, n, c, e'⟩ := hc off _ this
  cases e'
theorem RowAt.turnedN {B n g : Nat} {W W' : World} {v : Value} {xs : List Int} (h : RowAt B W v n (intVals .i64 xs)) (hN : NoInt W g) (k : Chg g W W') : RowAt B W' v n (intVals .i64 xs) := by
  obtain ⟨a, c, rfl, h1, h2⟩ := h
  refine ⟨a, c, rfl, h1, ?_⟩
  rcases h2 with h2 | ⟨b, off, rfl, hb, hc⟩
  · exact .inl h2
  · by_cases h0 : xs.length = 0
    · left; rw [List.length_eq_zero_iff.1 h0]; rfl
    · refine .inr ⟨b, off, rfl, hb, fun i hi => ?_⟩
      rw [intVals_len] at hi
      have hi' := hc i (by rw [intVals_len]; exact hi)
      rw [intVals_get _ _ _ hi] at hi'
      have hlt := World.block_lt_of_cell? W _ hi'
      have hne : b ≠ g := by
        intro e
        subst e
        exact hN _ _ hi'
      rw [intVals_get _ _ _ hi]
      exact (World.cell?_of_block (a := ⟨b, off + i, none⟩) (k.block b hlt hne)).trans hi'
theorem RefV.turnedN {B g : Nat} {W W' : World} {cs : Array Value} {R : Nat → List Int} (h : RefV B W cs R) (hN : NoInt W g) (k : Chg g W W') : RefV B W' cs R :=
  ⟨h.size, fun i hi => by obtain ⟨a, c, h1, h2, h3⟩ := h.row i hi; exact ⟨a, c, h1, h2.turnedN hN k, h3⟩⟩
theorem RefV.slices {B : Nat} {W : World} {cs : Array Value} {R : Nat → List Int} (h : RefV B W cs R) : ∀ (i : Nat) (v : Value), cs[i]? = some v → ∃ a n c, v = Value.slice a n c := by
  intro i v e
  have hi : i < 32 := by rw [← h.size]; exact (Array.getElem?_eq_some_iff.1 e).1
  obtain ⟨a, c, h1, _⟩ := h.row i hi
  rw [h1] at e
  exact ⟨a, _, c, (Option.some.inj e).symm⟩
theorem RefV.zero (B : Nat) (W : World) : RefV B W #[.slice none 0 0, .slice none 0 0, .slice none 0 0, .slice none 0 0, .slice none 0 0, .slice none 0 0, .slice none 0 0, .slice none 0 0, .slice none 0 0, .slice none 0 0, .slice none 0 0, .slice none 0 0, .slice none 0 0, .slice none 0 0, .slice none 0 0, .slice none 0 0, .slice none 0 0, .slice none 0 0, .slice none 0 0, .slice none 0 0, .slice none 0 0, .slice none 0 0, .slice none 0 0, .slice none 0 0, .slice none 0 0, .slice none 0 0, .slice none 0 0, .slice none 0 0, .slice none 0 0, .slice none 0 0, .slice none 0 0, .slice none 0 0] (fun _ => []) := by
  have e : #[.slice none 0 0, .slice none 0 0, .slice none 0 0, .slice none 0 0, .slice none 0 0, .slice none 0 0, .slice none 0 0, .slice none 0 0, .slice none 0 0, .slice none 0 0, .slice none 0 0, .slice none 0 0, .slice none 0 0, .slice none 0 0, .slice none 0 0, .slice none 0 0, .slice none 0 0, .slice none 0 0, .slice none 0 0, .slice none 0 0, .slice none 0 0, .slice none 0 0, .slice none 0 0, .slice none 0 0, .slice none 0 0, .slice none 0 0, .slice none 0 0, .slice none 0 0, .slice none 0 0, .slice none 0 0, .slice none 0 0, .slice none 0 0] = Array.replicate 32 (Value.slice none 0 0) := by rfl
  rw [e]
  exact ⟨by simp, fun i hi => ⟨none, 0, by simp [hi], RowAt.nil _ _, plain_none⟩⟩
theorem ShAt.offN {W : World} {s g : Nat} {L : Nat → List Int} (h : ShAt W s L) (hN : NoInt W g) : Off g W s := by
  intro i a n c hc hn e
  obtain ⟨vs, hl, hB, hR⟩ := h
  have h2 : W.cell? ⟨s, i, none⟩ = (vs ++ [Value.bool true])[i]? := by
    have := cell_of_row W s i _ _ _ hB
    simpa using this
  rw [h2] at hc
  by_cases h3 : i < vs.length
  · rw [List.getElem?_append_left h3, List.getElem?_eq_getElem h3, Option.some.injEq] at hc
    obtain ⟨_, _, e1, _, hr⟩ := hR i h3
    rw [hc] at e1
    simp only [Value.slice.injEq] at e1
    obtain ⟨rfl, rfl, rfl⟩ := e1
    rcases hr with hr | ⟨b, off, e2, _, hr⟩
    · have := congrArg List.length hr
      rw [intVals_len] at this
      exact hn this
    · cases e2
      subst e
      have := hr 0 (by rw [intVals_len]; omega)
      rw [intVals_get _ _ _ (by omega)] at this
      exact hN _ _ this
  · rw [List.getElem?_append_right (by omega)] at hc
    cases hq : i - vs.length with
    | zero => rw [hq] at hc; simp at hc
    | succ q => rw [hq] at hc; simp at hc
theorem ShAt.turnedN {W W' : World} {s g : Nat} {L : Nat → List Int} (h : ShAt W s L) (hN : NoInt W g) (hs : s ≠ g) (k : Chg g W W') : ShAt W' s L :=
  h.turned (h.offN hN) hs k.size k.block
theorem ShAt.no {W : World} {s : Nat} {L : Nat → List Int} (h : ShAt W s L) : NoInt W s := fun off x => h.noInt off x
theorem Chg.trans' {c g : Nat} {X Y Z : World} (h : Chg c X Y) (k : Chg g Y Z) (hg : X.heap.size ≤ g) : Chg c X Z := ⟨k.os.trans h.os, k.tape.trans h.tape, k.output.trans h.output, Nat.le_trans h.size k.size, fun i hi hc => (k.block i (Nat.lt_of_lt_of_le hi h.size) (by omega)).trans (h.block i hi hc)⟩
theorem Chg.setRowO {c g : Nat} {W X : World} (h : Chg c W X) (cs : Array Value) (hg : W.heap.size ≤ g) : Chg c W (X.setRow g cs) := ⟨h.os, h.tape, h.output, by rw [setRow_size]; exact h.size, fun i hi hc => (setRow_other X g i cs (by omega)).trans (h.block i hi hc)⟩
theorem Good.clrA {L : Nat → List Int} (h : Good L) (t : Int) : Good (clrAfter L t) := by
  unfold clrAfter
  split
  · exact h
  · have hm : ∀ i, ∀ x ∈ clrTo L t.toNat 8 i, x ∈ L i := fun i x hx => by unfold clrTo at hx; split at hx <;> first | exact hx | cases hx
    refine ⟨fun i => ?_, fun i x hx => h.rng i x (hm i x hx), fun i => ?_, fun i j hij hne x hx hy => h.dj i j hij hne x (hm i x hx) (hm j x hy), fun i hi => ?_⟩
    · unfold clrTo; split
      · simp
      · exact h.len i
    · unfold clrTo; split
      · simp
      · exact h.nd i
    · unfold clrTo; split
      · rfl
      · exact h.big i hi
/-- Shelves behind a call. -/
def actA (L : Nat → List Int) (x : ActV) : Nat → List Int :=
  if x.f0 = 0 then putAfter L x.f1 x.f2 x.f3 else if x.f0 = 1 then takAfter L x.f1 x.f2 else if x.f0 = 2 then splAfter L x.f1 x.f2 else if x.f0 = 3 then drpAfter L x.f2 x.f3 else if x.f0 = 4 then clrAfter L x.f1 else L
theorem Good.actA {L : Nat → List Int} (h : Good L) (x : ActV) : Good (actA L x) := by
  unfold Proofs.Ytkilmppmghkigaa.actA
  split
  · exact h.putA _ _ _
  split
  · exact h.takA _ _
  split
  · exact h.splA _ _
  split
  · exact h.drpA _ _
  split
  · exact h.clrA _
  · exact h
def ActV.val (x : ActV) : Value := .agg #[.int .i64 x.f0, .int .i64 x.f1, .int .i64 x.f2, .int .i64 x.f3]
theorem ret_mc {fn : Func} {R : Ending → World → Prop} {a : Act} {w : World} {p q u : Tmp} (h : fn.results = #[.tmp p, .cell q 44, .tmp u]) (g : Nat) {cs : Array Value} {t : TypeId} (hp : a.tmps.getD q undef = .pointer (some ⟨g, 0, none⟩))
    (hB : Blk w g cs t) (hs : cs.size = 32) (hd : a.defers = []) (hR : R (.returned (.tuple #[a.tmps.getD p undef, .agg cs, a.tmps.getD u undef])) w) : bodyPost Try.prog fn R .ret a w := by
  refine bodyPost_ret (v := .tuple #[a.tmps.getD p undef, .agg cs, a.tmps.getD u undef]) ?_ hd hR
  have hp' : a.tmps[q]?.getD undef = .pointer (some ⟨g, 0, none⟩) := by simpa using hp
  simp [results, h, hp', asAddr, run_load32 hB hs]
structure ActS (b5 b9 : Nat) (what th cl ix : Int) (cs : Array Value) (Y : World) : Prop where
  c0 : Y.cell? ⟨b5, 0, none⟩ = some (.int .i64 what)
  c1 : Y.cell? ⟨b5, 1, none⟩ = some (.int .i64 th)
  c2 : Y.cell? ⟨b5, 2, none⟩ = some (.int .i64 cl)
  c3 : Y.cell? ⟨b5, 3, none⟩ = some (.int .i64 ix)
  row : Blk Y b9 cs 44
theorem ActS.of {b5 b9 : Nat} {what th cl ix : Int} {cs : Array Value} {Y : World} {t : TypeId} (hX : Blk Y b5 #[.int .i64 what, .int .i64 th, .int .i64 cl, .int .i64 ix] t) (hN : Blk Y b9 cs 44) : ActS b5 b9 what th cl ix cs Y :=
  ⟨hX.cell 0 rfl, hX.cell 1 rfl, hX.cell 2 rfl, hX.cell 3 rfl, hN⟩
/-- What act's ends say. -/
def ActE (w : World) (s : Nat) (L' : Nat → List Int) (e : Ending) (w' : World) : Prop := ∃ s' cs', e = .returned (.tuple #[.pointer (some ⟨s', 0, none⟩), .agg cs', .bool true]) ∧ ShAt w' s' L' ∧ RefV w'.heap.size w' cs' L' ∧ Chg s w w' ∧ (s' = s ∨ w.heap.size ≤ s')
theorem act0 {B : Nat} {w : World} {s : Nat} {cs : Array Value} {L L' : Nat → List Int} (hS : ShAt w s L) (hV : RefV B w cs L) (hB : B ≤ w.heap.size) (hL : ∀ i, (L i).length < 1000000) (th cl ix : Int) (hA9 : putAfter L th cl ix = L') :
    Calls Try.prog 16 #[.pointer (some ⟨s, 0, none⟩), .agg cs, .agg #[.int .i64 0, .int .i64 th, .int .i64 cl, .int .i64 ix]] w (ActE w s L') := by
  obtain ⟨w0, hw0⟩ : ∃ w0, ((w.alloc (.cells cs 44)).alloc (.cells #[.int .i64 0, .int .i64 th, .int .i64 cl, .int .i64 ix] 30)).alloc (.cells #[.slice none 0 0, .slice none 0 0, .slice none 0 0, .slice none 0 0, .slice none 0 0, .slice none 0 0, .slice none 0 0, .slice none 0 0, .slice none 0 0, .slice none 0 0, .slice none 0 0, .slice none 0 0, .slice none 0 0, .slice none 0 0, .slice none 0 0, .slice none 0 0, .slice none 0 0, .slice none 0 0, .slice none 0 0, .slice none 0 0, .slice none 0 0, .slice none 0 0, .slice none 0 0, .slice none 0 0, .slice none 0 0, .slice none 0 0, .slice none 0 0, .slice none 0 0, .slice none 0 0, .slice none 0 0, .slice none 0 0, .slice none 0 0] 44) = w0 := ⟨_, rfl⟩
  have hb0 : Below w.heap.size w w0 := by rw [← hw0]; exact (((Below.refl _ w).alloc (Nat.le_refl _) _).alloc (by simp) _).alloc (by simp; omega) _
  have hA : Blk w0 w.heap.size cs 44 := by rw [← hw0]; exact ((Blk.new w _ _).alloc _).alloc _
  have hX : Blk w0 (w.heap.size + 1) #[.int .i64 0, .int .i64 th, .int .i64 cl, .int .i64 ix] 30 := by rw [← hw0]; exact (Blk.newAt _ _ _ (by simp)).alloc _
  have hO : Blk w0 (w.heap.size + 2) #[.slice none 0 0, .slice none 0 0, .slice none 0 0, .slice none 0 0, .slice none 0 0, .slice none 0 0, .slice none 0 0, .slice none 0 0, .slice none 0 0, .slice none 0 0, .slice none 0 0, .slice none 0 0, .slice none 0 0, .slice none 0 0, .slice none 0 0, .slice none 0 0, .slice none 0 0, .slice none 0 0, .slice none 0 0, .slice none 0 0, .slice none 0 0, .slice none 0 0, .slice none 0 0, .slice none 0 0, .slice none 0 0, .slice none 0 0, .slice none 0 0, .slice none 0 0, .slice none 0 0, .slice none 0 0, .slice none 0 0, .slice none 0 0] 44 := by rw [← hw0]; exact Blk.newAt _ _ _ (by simp)
  have hV0 := hV.below hb0 hB
  have hsl := hS.lt
  have x0 := hX.cell 0 rfl
  have x1 := hX.cell 1 rfl
  have x2 := hX.cell 2 rfl
  have x3 := hX.cell 3 rfl
  have z0 := hb0.size
  have zO := hO.lt
  go_enter Try.func16, Try.ntmps16
  go_wp2_with (first | refine wpList_load32 rfl _ rfl w.heap.size rfl hA hV.size ?_)
  refine (rPut_ok hV0 (by omega) hL th cl ix).mono ?_; rintro e w1 ⟨cs', rfl, hV1, k1⟩
  rw [hA9] at hV1
  obtain ⟨W2, hW2⟩ : ∃ W2, (w1.alloc (.cells #[.slice none 0 0, .slice none 0 0, .slice none 0 0, .slice none 0 0, .slice none 0 0, .slice none 0 0, .slice none 0 0, .slice none 0 0, .slice none 0 0, .slice none 0 0, .slice none 0 0, .slice none 0 0, .slice none 0 0, .slice none 0 0, .slice none 0 0, .slice none 0 0, .slice none 0 0, .slice none 0 0, .slice none 0 0, .slice none 0 0, .slice none 0 0, .slice none 0 0, .slice none 0 0, .slice none 0 0, .slice none 0 0, .slice none 0 0, .slice none 0 0, .slice none 0 0, .slice none 0 0, .slice none 0 0, .slice none 0 0, .slice none 0 0] 44)).setRow w1.heap.size cs' = W2 := ⟨_, rfl⟩
  have hN : Blk (w1.alloc (.cells #[.slice none 0 0, .slice none 0 0, .slice none 0 0, .slice none 0 0, .slice none 0 0, .slice none 0 0, .slice none 0 0, .slice none 0 0, .slice none 0 0, .slice none 0 0, .slice none 0 0, .slice none 0 0, .slice none 0 0, .slice none 0 0, .slice none 0 0, .slice none 0 0, .slice none 0 0, .slice none 0 0, .slice none 0 0, .slice none 0 0, .slice none 0 0, .slice none 0 0, .slice none 0 0, .slice none 0 0, .slice none 0 0, .slice none 0 0, .slice none 0 0, .slice none 0 0, .slice none 0 0, .slice none 0 0, .slice none 0 0, .slice none 0 0] 44)) w1.heap.size #[.slice none 0 0, .slice none 0 0, .slice none 0 0, .slice none 0 0, .slice none 0 0, .slice none 0 0, .slice none 0 0, .slice none 0 0, .slice none 0 0, .slice none 0 0, .slice none 0 0, .slice none 0 0, .slice none 0 0, .slice none 0 0, .slice none 0 0, .slice none 0 0, .slice none 0 0, .slice none 0 0, .slice none 0 0, .slice none 0 0, .slice none 0 0, .slice none 0 0, .slice none 0 0, .slice none 0 0, .slice none 0 0, .slice none 0 0, .slice none 0 0, .slice none 0 0, .slice none 0 0, .slice none 0 0, .slice none 0 0, .slice none 0 0] 44 := Blk.new _ _ _
  have k2 : Below w1.heap.size w1 W2 := by rw [← hW2]; exact bel_setRow ((Below.refl _ w1).alloc (Nat.le_refl _) _) (Nat.le_refl _) cs'
  have hN2 : Blk W2 w1.heap.size cs' 44 := by rw [← hW2]; exact hN.setRow cs'
  have hz1 := k1.size
  have hz2 := k2.size
  have kb2 := hb0.trans ((k1.mono z0).trans (k2.mono (by omega)))
  have hX2 := (hX.below k1 hX.lt).below k2 (by omega)
  have hO2 := (hO.below k1 hO.lt).below k2 (by omega)
  have hV2 := hV1.below k2 (Nat.le_refl _)
  have hS2 := ((hS.step hb0).step k1).step k2
  have y1 := hX2.cell 1 rfl
  have y2 := hX2.cell 2 rfl
  have y3 := hX2.cell 3 rfl
  go_wp2_with (first | refine wpList_store32 rfl _ _ rfl w1.heap.size cs' rfl rfl hN rfl hV1.size hV1.one ?_)
  clear hW2 hN hw0 x0 x1 x2 x3
  refine wp_region_held_drew (S := ActS (w.heap.size + 1) w1.heap.size 0 th cl ix cs') (by kernel_rfl) (.of hX2 hN2) (fun hHeld => ?_)
  refine wpAnyH_take (i := 0) (v := ?_) rfl (by kernel_rfl) (by kernel_rfl) (by kernel_rfl) (fun _ _ _ h => h) (Or.inl ⟨by rfl, ?_⟩) (by assumption) ?_
  rotate_left
  · (intro Y hSw; (try dsimp only at hSw); obtain ⟨hS0, hS1, hS2, hS3, hS4⟩ := hSw; go_simp; try with_reducible rfl)
  try simp only [Act.put, List.getElem_toArray, List.getElem_cons_zero, List.getElem_cons_succ, List.setIfInBounds_toArray, List.set_cons_zero, List.set_cons_succ]
  refine wpAnyH_take (i := 1) (v := .agg cs') rfl (by kernel_rfl) (by kernel_rfl) (by kernel_rfl) (fun _ _ _ h => h) (Or.inl ⟨by rfl, fun Y hSw => exec_load32 _ rfl w1.heap.size rfl hSw.row hV1.size⟩) (by assumption) ?_
  try simp only [Act.put, List.getElem_toArray, List.getElem_cons_zero, List.getElem_cons_succ, List.setIfInBounds_toArray, List.set_cons_zero, List.set_cons_succ]
  refine wpAnyH_take (i := 2) (v := ?_) rfl (by kernel_rfl) (by kernel_rfl) (by kernel_rfl) (fun _ _ _ h => h) (Or.inl ⟨by rfl, ?_⟩) (by assumption) ?_
  rotate_left
  · (intro Y hSw; (try dsimp only at hSw); obtain ⟨hS0, hS1, hS2, hS3, hS4⟩ := hSw; go_simp; try with_reducible rfl)
  try simp only [Act.put, List.getElem_toArray, List.getElem_cons_zero, List.getElem_cons_succ, List.setIfInBounds_toArray, List.set_cons_zero, List.set_cons_succ]
  refine wpAnyH_take (i := 3) (v := ?_) rfl (by kernel_rfl) (by kernel_rfl) (by kernel_rfl) (fun _ _ _ h => h) (Or.inl ⟨by rfl, ?_⟩) (by assumption) ?_
  rotate_left
  · (intro Y hSw; (try dsimp only at hSw); obtain ⟨hS0, hS1, hS2, hS3, hS4⟩ := hSw; go_simp; try with_reducible rfl)
  try simp only [Act.put, List.getElem_toArray, List.getElem_cons_zero, List.getElem_cons_succ, List.setIfInBounds_toArray, List.set_cons_zero, List.set_cons_succ]
  refine wpAnyH_take (i := 4) (v := ?_) rfl (by kernel_rfl) (by kernel_rfl) (by kernel_rfl) (fun _ _ _ h => h) (Or.inl ⟨by rfl, ?_⟩) (by assumption) ?_
  rotate_left
  · (intro Y hSw; (try dsimp only at hSw); obtain ⟨hS0, hS1, hS2, hS3, hS4⟩ := hSw; go_simp; try with_reducible rfl)
  try simp only [Act.put, List.getElem_toArray, List.getElem_cons_zero, List.getElem_cons_succ, List.setIfInBounds_toArray, List.set_cons_zero, List.set_cons_succ]
  refine wpAnyH_take (i := 5) (v := ?_) rfl (by kernel_rfl) (by kernel_rfl) (by kernel_rfl) (fun _ _ _ h => h) (Or.inl ⟨by rfl, ?_⟩) (by assumption) ?_
  rotate_left
  · (intro Y hSw; (try dsimp only at hSw); obtain ⟨hS0, hS1, hS2, hS3, hS4⟩ := hSw; go_simp; try with_reducible rfl)
  try simp only [Act.put, List.getElem_toArray, List.getElem_cons_zero, List.getElem_cons_succ, List.setIfInBounds_toArray, List.set_cons_zero, List.set_cons_succ]
  refine wpAnyH_take (i := 6) (v := ?_) rfl (by kernel_rfl) (by kernel_rfl) (by kernel_rfl) (fun _ _ _ h => h) (Or.inl ⟨by rfl, ?_⟩) (by assumption) ?_
  rotate_left
  · (intro Y hSw; (try dsimp only at hSw); obtain ⟨hS0, hS1, hS2, hS3, hS4⟩ := hSw; go_simp; try with_reducible rfl)
  try simp only [Act.put, List.getElem_toArray, List.getElem_cons_zero, List.getElem_cons_succ, List.setIfInBounds_toArray, List.set_cons_zero, List.set_cons_succ]
  refine wpAnyH_take (i := 7) (v := ?_) rfl (by kernel_rfl) (by kernel_rfl) (by kernel_rfl) (fun _ _ _ h => h) (Or.inl ⟨by rfl, ?_⟩) (by assumption) ?_
  rotate_left
  · (intro Y hSw; (try dsimp only at hSw); obtain ⟨hS0, hS1, hS2, hS3, hS4⟩ := hSw; go_simp; try with_reducible rfl)
  try simp only [Act.put, List.getElem_toArray, List.getElem_cons_zero, List.getElem_cons_succ, List.setIfInBounds_toArray, List.set_cons_zero, List.set_cons_succ]
  refine wpAnyH_take (i := 8) (v := ?_) rfl (by kernel_rfl) (by kernel_rfl) (by kernel_rfl) (fun _ _ _ h => h) (Or.inl ⟨by rfl, ?_⟩) (by assumption) ?_
  rotate_left
  · (intro Y hSw; (try dsimp only at hSw); obtain ⟨hS0, hS1, hS2, hS3, hS4⟩ := hSw; go_simp; try with_reducible rfl)
  try simp only [Act.put, List.getElem_toArray, List.getElem_cons_zero, List.getElem_cons_succ, List.setIfInBounds_toArray, List.set_cons_zero, List.set_cons_succ]
  refine wpAnyH_take (i := 11) (v := ?_) rfl (by kernel_rfl) (by kernel_rfl) (by kernel_rfl) (fun _ _ _ h => h) (Or.inl ⟨by rfl, ?_⟩) (by assumption) ?_
  rotate_left
  · (intro Y hSw; (try dsimp only at hSw); obtain ⟨hS0, hS1, hS2, hS3, hS4⟩ := hSw; go_simp; try with_reducible rfl)
  try simp only [Act.put, List.getElem_toArray, List.getElem_cons_zero, List.getElem_cons_succ, List.setIfInBounds_toArray, List.set_cons_zero, List.set_cons_succ]
  refine wpAnyH_ready (rs := [9]) (by kernel_rfl) (by simp) ?_
  refine AllReadyH.cons rfl (fun K hK => ?_) AllReadyH.nil
  go_simp
  refine (Put_ok (hS2.step (Below.refl _ W2).drew) hL th cl ix).mono ?_; rintro e W3 ⟨rfl, p1, p2, _⟩
  rw [hA9] at p1
  have hX3 := p2.blk (hX2.below (Below.refl _ W2).drew hX2.lt) (by omega)
  have hN3 := p2.blk (hN2.below (Below.refl _ W2).drew hN2.lt) (by omega)
  have hO3 := p2.blk (hO2.below (Below.refl _ W2).drew hO2.lt) (by omega)
  have hV3 := (RefV.turned (hV2.below (Below.refl _ W2).drew hz2) (hS2.step (Below.refl _ W2).drew) p2).mono (Nat.le_trans hz2 p2.size)
  have hC3 : Chg s w W3 := (Chg.of_below kb2.drew).trans p2
  go_simp
  refine hK.out _ _ ((.of hX3 hN3)) (fun hHeld => ?_)
  clear hK K
  try simp only [Act.put, List.getElem_toArray, List.getElem_cons_zero, List.getElem_cons_succ, List.setIfInBounds_toArray, List.set_cons_zero, List.set_cons_succ]
  refine wpAnyH_ready (rs := [10]) (by kernel_rfl) (by simp) ?_
  refine AllReadyH.cons rfl (fun K hK => ?_) AllReadyH.nil
  go_simp
  refine (num_calls _ _).mono ?_; rintro e _ ⟨rfl, rfl⟩
  go_simp
  refine hK.out _ _ ((.of hX3 hN3)) (fun hHeld => ?_)
  clear hK K
  try simp only [Act.put, List.getElem_toArray, List.getElem_cons_zero, List.getElem_cons_succ, List.setIfInBounds_toArray, List.set_cons_zero, List.set_cons_succ]
  refine wpAnyH_take (i := 12) (v := ?_) rfl (by kernel_rfl) (by kernel_rfl) (by kernel_rfl) (fun _ _ _ h => h) (Or.inl ⟨by rfl, ?_⟩) (by assumption) ?_
  rotate_left
  · (intro Y hSw; (try dsimp only at hSw); obtain ⟨hS0, hS1, hS2, hS3, hS4⟩ := hSw; go_simp; try with_reducible rfl)
  try simp only [Act.put, List.getElem_toArray, List.getElem_cons_zero, List.getElem_cons_succ, List.setIfInBounds_toArray, List.set_cons_zero, List.set_cons_succ]
  refine wpAnyH_take (i := 13) (v := ?_) rfl (by kernel_rfl) (by kernel_rfl) (by kernel_rfl) (fun _ _ _ h => h) (Or.inl ⟨by rfl, ?_⟩) (by assumption) ?_
  rotate_left
  · (intro Y hSw; (try dsimp only at hSw); obtain ⟨hS0, hS1, hS2, hS3, hS4⟩ := hSw; go_simp; try with_reducible rfl)
  try simp only [Act.put, List.getElem_toArray, List.getElem_cons_zero, List.getElem_cons_succ, List.setIfInBounds_toArray, List.set_cons_zero, List.set_cons_succ]
  refine wpAnyH_ready (rs := [14]) (by kernel_rfl) (by simp) ?_
  refine AllReadyH.cons rfl (fun K hK => ?_) AllReadyH.nil
  rw [if_pos (by rfl)]
  refine wp_store32 _ _ rfl (w.heap.size + 2) cs' rfl rfl hO3 rfl hV1.size hV1.one ?_
  refine hK.out _ _ ((.of (hX3.setRowO cs' (by omega)) (hN3.setRowO cs' (by omega)))) (fun hHeld => ?_)
  clear hK K
  try simp only [Act.put, List.getElem_toArray, List.getElem_cons_zero, List.getElem_cons_succ, List.setIfInBounds_toArray, List.set_cons_zero, List.set_cons_succ]
  refine wpAnyH_take (i := 15) (v := ?_) rfl (by kernel_rfl) (by kernel_rfl) (by kernel_rfl) (fun _ _ _ h => h) (Or.inl ⟨by rfl, ?_⟩) (by assumption) ?_
  rotate_left
  · (intro Y hSw; (try dsimp only at hSw); obtain ⟨hS0, hS1, hS2, hS3, hS4⟩ := hSw; go_simp; try with_reducible rfl)
  try simp only [Act.put, List.getElem_toArray, List.getElem_cons_zero, List.getElem_cons_succ, List.setIfInBounds_toArray, List.set_cons_zero, List.set_cons_succ]
  refine wpAnyH_done (by kernel_rfl) ?_ _
  go_wp2_with fail
  refine ret_mc rfl (w.heap.size + 2) rfl (hO3.setRow cs') hV1.size rfl ?_
  have hNz : NoInt _ (w.heap.size + 2) := NoInt.of hO3 (RefV.zero 0 w).slices
  have kc := (Chg.refl (w.heap.size + 2) _).setRow (X := W3) cs'
  exact ⟨s, cs', rfl, p1.turnedN hNz (by omega) kc, by rw [setRow_size]; exact (hV3.turnedN hNz kc), hC3.setRowO cs' (by omega), .inl rfl⟩
theorem act1 {B : Nat} {w : World} {s : Nat} {cs : Array Value} {L L' : Nat → List Int} (hS : ShAt w s L) (hV : RefV B w cs L) (hB : B ≤ w.heap.size) (hL : ∀ i, (L i).length < 1000000) (th cl ix : Int) (hA9 : takAfter L th cl = L') :
    Calls Try.prog 16 #[.pointer (some ⟨s, 0, none⟩), .agg cs, .agg #[.int .i64 1, .int .i64 th, .int .i64 cl, .int .i64 ix]] w (ActE w s L') := by
  obtain ⟨w0, hw0⟩ : ∃ w0, ((w.alloc (.cells cs 44)).alloc (.cells #[.int .i64 1, .int .i64 th, .int .i64 cl, .int .i64 ix] 30)).alloc (.cells #[.slice none 0 0, .slice none 0 0, .slice none 0 0, .slice none 0 0, .slice none 0 0, .slice none 0 0, .slice none 0 0, .slice none 0 0, .slice none 0 0, .slice none 0 0, .slice none 0 0, .slice none 0 0, .slice none 0 0, .slice none 0 0, .slice none 0 0, .slice none 0 0, .slice none 0 0, .slice none 0 0, .slice none 0 0, .slice none 0 0, .slice none 0 0, .slice none 0 0, .slice none 0 0, .slice none 0 0, .slice none 0 0, .slice none 0 0, .slice none 0 0, .slice none 0 0, .slice none 0 0, .slice none 0 0, .slice none 0 0, .slice none 0 0] 44) = w0 := ⟨_, rfl⟩
  have hb0 : Below w.heap.size w w0 := by rw [← hw0]; exact (((Below.refl _ w).alloc (Nat.le_refl _) _).alloc (by simp) _).alloc (by simp; omega) _
  have hA : Blk w0 w.heap.size cs 44 := by rw [← hw0]; exact ((Blk.new w _ _).alloc _).alloc _
  have hX : Blk w0 (w.heap.size + 1) #[.int .i64 1, .int .i64 th, .int .i64 cl, .int .i64 ix] 30 := by rw [← hw0]; exact (Blk.newAt _ _ _ (by simp)).alloc _
  have hO : Blk w0 (w.heap.size + 2) #[.slice none 0 0, .slice none 0 0, .slice none 0 0, .slice none 0 0, .slice none 0 0, .slice none 0 0, .slice none 0 0, .slice none 0 0, .slice none 0 0, .slice none 0 0, .slice none 0 0, .slice none 0 0, .slice none 0 0, .slice none 0 0, .slice none 0 0, .slice none 0 0, .slice none 0 0, .slice none 0 0, .slice none 0 0, .slice none 0 0, .slice none 0 0, .slice none 0 0, .slice none 0 0, .slice none 0 0, .slice none 0 0, .slice none 0 0, .slice none 0 0, .slice none 0 0, .slice none 0 0, .slice none 0 0, .slice none 0 0, .slice none 0 0] 44 := by rw [← hw0]; exact Blk.newAt _ _ _ (by simp)
  have hV0 := hV.below hb0 hB
  have hsl := hS.lt
  have x0 := hX.cell 0 rfl
  have x1 := hX.cell 1 rfl
  have x2 := hX.cell 2 rfl
  have x3 := hX.cell 3 rfl
  have z0 := hb0.size
  have zO := hO.lt
  go_enter Try.func16, Try.ntmps16
  go_wp2_with (first | refine wpList_load32 rfl _ rfl w.heap.size rfl hA hV.size ?_)
  refine (rTake_ok hV0 (by omega) hL th cl).mono ?_; rintro e w1 ⟨cs', rfl, hV1, k1⟩
  rw [hA9] at hV1
  obtain ⟨W2, hW2⟩ : ∃ W2, (w1.alloc (.cells #[.slice none 0 0, .slice none 0 0, .slice none 0 0, .slice none 0 0, .slice none 0 0, .slice none 0 0, .slice none 0 0, .slice none 0 0, .slice none 0 0, .slice none 0 0, .slice none 0 0, .slice none 0 0, .slice none 0 0, .slice none 0 0, .slice none 0 0, .slice none 0 0, .slice none 0 0, .slice none 0 0, .slice none 0 0, .slice none 0 0, .slice none 0 0, .slice none 0 0, .slice none 0 0, .slice none 0 0, .slice none 0 0, .slice none 0 0, .slice none 0 0, .slice none 0 0, .slice none 0 0, .slice none 0 0, .slice none 0 0, .slice none 0 0] 44)).setRow w1.heap.size cs' = W2 := ⟨_, rfl⟩
  have hN : Blk (w1.alloc (.cells #[.slice none 0 0, .slice none 0 0, .slice none 0 0, .slice none 0 0, .slice none 0 0, .slice none 0 0, .slice none 0 0, .slice none 0 0, .slice none 0 0, .slice none 0 0, .slice none 0 0, .slice none 0 0, .slice none 0 0, .slice none 0 0, .slice none 0 0, .slice none 0 0, .slice none 0 0, .slice none 0 0, .slice none 0 0, .slice none 0 0, .slice none 0 0, .slice none 0 0, .slice none 0 0, .slice none 0 0, .slice none 0 0, .slice none 0 0, .slice none 0 0, .slice none 0 0, .slice none 0 0, .slice none 0 0, .slice none 0 0, .slice none 0 0] 44)) w1.heap.size #[.slice none 0 0, .slice none 0 0, .slice none 0 0, .slice none 0 0, .slice none 0 0, .slice none 0 0, .slice none 0 0, .slice none 0 0, .slice none 0 0, .slice none 0 0, .slice none 0 0, .slice none 0 0, .slice none 0 0, .slice none 0 0, .slice none 0 0, .slice none 0 0, .slice none 0 0, .slice none 0 0, .slice none 0 0, .slice none 0 0, .slice none 0 0, .slice none 0 0, .slice none 0 0, .slice none 0 0, .slice none 0 0, .slice none 0 0, .slice none 0 0, .slice none 0 0, .slice none 0 0, .slice none 0 0, .slice none 0 0, .slice none 0 0] 44 := Blk.new _ _ _
  have k2 : Below w1.heap.size w1 W2 := by rw [← hW2]; exact bel_setRow ((Below.refl _ w1).alloc (Nat.le_refl _) _) (Nat.le_refl _) cs'
  have hN2 : Blk W2 w1.heap.size cs' 44 := by rw [← hW2]; exact hN.setRow cs'
  have hz1 := k1.size
  have hz2 := k2.size
  have kb2 := hb0.trans ((k1.mono z0).trans (k2.mono (by omega)))
  have hX2 := (hX.below k1 hX.lt).below k2 (by omega)
  have hO2 := (hO.below k1 hO.lt).below k2 (by omega)
  have hV2 := hV1.below k2 (Nat.le_refl _)
  have hS2 := ((hS.step hb0).step k1).step k2
  have y1 := hX2.cell 1 rfl
  have y2 := hX2.cell 2 rfl
  have y3 := hX2.cell 3 rfl
  go_wp2_with (first | refine wpList_store32 rfl _ _ rfl w1.heap.size cs' rfl rfl hN rfl hV1.size hV1.one ?_)
  clear hW2 hN hw0 x0 x1 x2 x3
  refine (Take_ok hS2 hL th cl).mono ?_; rintro e W3 ⟨rfl, p1, p2⟩
  rw [hA9] at p1
  have hX3 := (p2.blk hX2 (by omega)).below (Below.refl _ W3).drew (p2.blk hX2 (by omega)).lt
  have hN3 := (p2.blk hN2 (by omega)).below (Below.refl _ W3).drew (p2.blk hN2 (by omega)).lt
  have hO3 := (p2.blk hO2 (by omega)).below (Below.refl _ W3).drew (p2.blk hO2 (by omega)).lt
  have hV3 := ((RefV.turned hV2 hS2 p2).below (Below.refl _ W3).drew (Nat.le_trans hz2 p2.size)).mono (Nat.le_trans hz2 p2.size)
  have hC3 : Chg s w W3.drew := ((Chg.of_below kb2).trans p2).trans (Chg.of_below (Below.refl _ W3).drew)
  have p1d := p1.step (Below.refl _ W3).drew
  go_wp2_with fail
  refine wp_region_held_drew (S := ActS (w.heap.size + 1) w1.heap.size 1 th cl ix cs') (by kernel_rfl) (.of hX3 hN3) (fun hHeld => ?_)
  refine wpAnyH_take (i := 0) (v := ?_) rfl (by kernel_rfl) (by kernel_rfl) (by kernel_rfl) (fun _ _ _ h => h) (Or.inl ⟨by rfl, ?_⟩) (by assumption) ?_
  rotate_left
  · (intro Y hSw; (try dsimp only at hSw); obtain ⟨hS0, hS1, hS2, hS3, hS4⟩ := hSw; go_simp; try with_reducible rfl)
  try simp only [Act.put, List.getElem_toArray, List.getElem_cons_zero, List.getElem_cons_succ, List.setIfInBounds_toArray, List.set_cons_zero, List.set_cons_succ]
  refine wpAnyH_take (i := 1) (v := .agg cs') rfl (by kernel_rfl) (by kernel_rfl) (by kernel_rfl) (fun _ _ _ h => h) (Or.inl ⟨by rfl, fun Y hSw => exec_load32 _ rfl w1.heap.size rfl hSw.row hV1.size⟩) (by assumption) ?_
  try simp only [Act.put, List.getElem_toArray, List.getElem_cons_zero, List.getElem_cons_succ, List.setIfInBounds_toArray, List.set_cons_zero, List.set_cons_succ]
  refine wpAnyH_take (i := 2) (v := ?_) rfl (by kernel_rfl) (by kernel_rfl) (by kernel_rfl) (fun _ _ _ h => h) (Or.inl ⟨by rfl, ?_⟩) (by assumption) ?_
  rotate_left
  · (intro Y hSw; (try dsimp only at hSw); obtain ⟨hS0, hS1, hS2, hS3, hS4⟩ := hSw; go_simp; try with_reducible rfl)
  try simp only [Act.put, List.getElem_toArray, List.getElem_cons_zero, List.getElem_cons_succ, List.setIfInBounds_toArray, List.set_cons_zero, List.set_cons_succ]
  refine wpAnyH_take (i := 3) (v := ?_) rfl (by kernel_rfl) (by kernel_rfl) (by kernel_rfl) (fun _ _ _ h => h) (Or.inl ⟨by rfl, ?_⟩) (by assumption) ?_
  rotate_left
  · (intro Y hSw; (try dsimp only at hSw); obtain ⟨hS0, hS1, hS2, hS3, hS4⟩ := hSw; go_simp; try with_reducible rfl)
  try simp only [Act.put, List.getElem_toArray, List.getElem_cons_zero, List.getElem_cons_succ, List.setIfInBounds_toArray, List.set_cons_zero, List.set_cons_succ]
  refine wpAnyH_take (i := 4) (v := ?_) rfl (by kernel_rfl) (by kernel_rfl) (by kernel_rfl) (fun _ _ _ h => h) (Or.inl ⟨by rfl, ?_⟩) (by assumption) ?_
  rotate_left
  · (intro Y hSw; (try dsimp only at hSw); obtain ⟨hS0, hS1, hS2, hS3, hS4⟩ := hSw; go_simp; try with_reducible rfl)
  try simp only [Act.put, List.getElem_toArray, List.getElem_cons_zero, List.getElem_cons_succ, List.setIfInBounds_toArray, List.set_cons_zero, List.set_cons_succ]
  refine wpAnyH_take (i := 5) (v := ?_) rfl (by kernel_rfl) (by kernel_rfl) (by kernel_rfl) (fun _ _ _ h => h) (Or.inl ⟨by rfl, ?_⟩) (by assumption) ?_
  rotate_left
  · (intro Y hSw; (try dsimp only at hSw); obtain ⟨hS0, hS1, hS2, hS3, hS4⟩ := hSw; go_simp; try with_reducible rfl)
  try simp only [Act.put, List.getElem_toArray, List.getElem_cons_zero, List.getElem_cons_succ, List.setIfInBounds_toArray, List.set_cons_zero, List.set_cons_succ]
  refine wpAnyH_take (i := 6) (v := ?_) rfl (by kernel_rfl) (by kernel_rfl) (by kernel_rfl) (fun _ _ _ h => h) (Or.inl ⟨by rfl, ?_⟩) (by assumption) ?_
  rotate_left
  · (intro Y hSw; (try dsimp only at hSw); obtain ⟨hS0, hS1, hS2, hS3, hS4⟩ := hSw; go_simp; try with_reducible rfl)
  try simp only [Act.put, List.getElem_toArray, List.getElem_cons_zero, List.getElem_cons_succ, List.setIfInBounds_toArray, List.set_cons_zero, List.set_cons_succ]
  refine wpAnyH_take (i := 8) (v := ?_) rfl (by kernel_rfl) (by kernel_rfl) (by kernel_rfl) (fun _ _ _ h => h) (Or.inl ⟨by rfl, ?_⟩) (by assumption) ?_
  rotate_left
  · (intro Y hSw; (try dsimp only at hSw); obtain ⟨hS0, hS1, hS2, hS3, hS4⟩ := hSw; go_simp; try with_reducible rfl)
  try simp only [Act.put, List.getElem_toArray, List.getElem_cons_zero, List.getElem_cons_succ, List.setIfInBounds_toArray, List.set_cons_zero, List.set_cons_succ]
  refine wpAnyH_ready (rs := [7]) (by kernel_rfl) (by simp) ?_
  refine AllReadyH.cons rfl (fun K hK => ?_) AllReadyH.nil
  go_simp
  refine (num_calls _ _).mono ?_; rintro e _ ⟨rfl, rfl⟩
  go_simp
  refine hK.out _ _ ((.of hX3 hN3)) (fun hHeld => ?_)
  clear hK K
  try simp only [Act.put, List.getElem_toArray, List.getElem_cons_zero, List.getElem_cons_succ, List.setIfInBounds_toArray, List.set_cons_zero, List.set_cons_succ]
  refine wpAnyH_take (i := 9) (v := ?_) rfl (by kernel_rfl) (by kernel_rfl) (by kernel_rfl) (fun _ _ _ h => h) (Or.inl ⟨by rfl, ?_⟩) (by assumption) ?_
  rotate_left
  · (intro Y hSw; (try dsimp only at hSw); obtain ⟨hS0, hS1, hS2, hS3, hS4⟩ := hSw; go_simp; try with_reducible rfl)
  try simp only [Act.put, List.getElem_toArray, List.getElem_cons_zero, List.getElem_cons_succ, List.setIfInBounds_toArray, List.set_cons_zero, List.set_cons_succ]
  refine wpAnyH_take (i := 10) (v := ?_) rfl (by kernel_rfl) (by kernel_rfl) (by kernel_rfl) (fun _ _ _ h => h) (Or.inl ⟨by rfl, ?_⟩) (by assumption) ?_
  rotate_left
  · (intro Y hSw; (try dsimp only at hSw); obtain ⟨hS0, hS1, hS2, hS3, hS4⟩ := hSw; go_simp; try with_reducible rfl)
  try simp only [Act.put, List.getElem_toArray, List.getElem_cons_zero, List.getElem_cons_succ, List.setIfInBounds_toArray, List.set_cons_zero, List.set_cons_succ]
  refine wpAnyH_take (i := 11) (v := ?_) rfl (by kernel_rfl) (by kernel_rfl) (by kernel_rfl) (fun _ _ _ h => h) (Or.inl ⟨by rfl, ?_⟩) (by assumption) ?_
  rotate_left
  · (intro Y hSw; (try dsimp only at hSw); obtain ⟨hS0, hS1, hS2, hS3, hS4⟩ := hSw; go_simp; try with_reducible rfl)
  try simp only [Act.put, List.getElem_toArray, List.getElem_cons_zero, List.getElem_cons_succ, List.setIfInBounds_toArray, List.set_cons_zero, List.set_cons_succ]
  refine wpAnyH_ready (rs := [12]) (by kernel_rfl) (by simp) ?_
  refine AllReadyH.cons rfl (fun K hK => ?_) AllReadyH.nil
  rw [if_pos (by rfl)]
  refine wp_store32 _ _ rfl (w.heap.size + 2) cs' rfl rfl hO3 rfl hV1.size hV1.one ?_
  refine hK.out _ _ ((.of (hX3.setRowO cs' (by omega)) (hN3.setRowO cs' (by omega)))) (fun hHeld => ?_)
  clear hK K
  try simp only [Act.put, List.getElem_toArray, List.getElem_cons_zero, List.getElem_cons_succ, List.setIfInBounds_toArray, List.set_cons_zero, List.set_cons_succ]
  refine wpAnyH_take (i := 13) (v := ?_) rfl (by kernel_rfl) (by kernel_rfl) (by kernel_rfl) (fun _ _ _ h => h) (Or.inl ⟨by rfl, ?_⟩) (by assumption) ?_
  rotate_left
  · (intro Y hSw; (try dsimp only at hSw); obtain ⟨hS0, hS1, hS2, hS3, hS4⟩ := hSw; go_simp; try with_reducible rfl)
  try simp only [Act.put, List.getElem_toArray, List.getElem_cons_zero, List.getElem_cons_succ, List.setIfInBounds_toArray, List.set_cons_zero, List.set_cons_succ]
  refine wpAnyH_done (by kernel_rfl) ?_ _
  go_wp2_with fail
  refine ret_mc rfl (w.heap.size + 2) rfl (hO3.setRow cs') hV1.size rfl ?_
  have hNz : NoInt _ (w.heap.size + 2) := NoInt.of hO3 (RefV.zero 0 w).slices
  have kc := (Chg.refl (w.heap.size + 2) _).setRow (X := W3.drew) cs'
  exact ⟨s, cs', rfl, p1d.turnedN hNz (by omega) kc, by rw [setRow_size]; exact (hV3.turnedN hNz kc), hC3.setRowO cs' (by omega), .inl rfl⟩
theorem act3 {B : Nat} {w : World} {s : Nat} {cs : Array Value} {L L' : Nat → List Int} (hS : ShAt w s L) (hV : RefV B w cs L) (hB : B ≤ w.heap.size) (hL : ∀ i, (L i).length < 1000000) (th cl ix : Int) (hA9 : drpAfter L cl ix = L') :
    Calls Try.prog 16 #[.pointer (some ⟨s, 0, none⟩), .agg cs, .agg #[.int .i64 3, .int .i64 th, .int .i64 cl, .int .i64 ix]] w (ActE w s L') := by
  obtain ⟨w0, hw0⟩ : ∃ w0, ((w.alloc (.cells cs 44)).alloc (.cells #[.int .i64 3, .int .i64 th, .int .i64 cl, .int .i64 ix] 30)).alloc (.cells #[.slice none 0 0, .slice none 0 0, .slice none 0 0, .slice none 0 0, .slice none 0 0, .slice none 0 0, .slice none 0 0, .slice none 0 0, .slice none 0 0, .slice none 0 0, .slice none 0 0, .slice none 0 0, .slice none 0 0, .slice none 0 0, .slice none 0 0, .slice none 0 0, .slice none 0 0, .slice none 0 0, .slice none 0 0, .slice none 0 0, .slice none 0 0, .slice none 0 0, .slice none 0 0, .slice none 0 0, .slice none 0 0, .slice none 0 0, .slice none 0 0, .slice none 0 0, .slice none 0 0, .slice none 0 0, .slice none 0 0, .slice none 0 0] 44) = w0 := ⟨_, rfl⟩
  have hb0 : Below w.heap.size w w0 := by rw [← hw0]; exact (((Below.refl _ w).alloc (Nat.le_refl _) _).alloc (by simp) _).alloc (by simp; omega) _
  have hA : Blk w0 w.heap.size cs 44 := by rw [← hw0]; exact ((Blk.new w _ _).alloc _).alloc _
  have hX : Blk w0 (w.heap.size + 1) #[.int .i64 3, .int .i64 th, .int .i64 cl, .int .i64 ix] 30 := by rw [← hw0]; exact (Blk.newAt _ _ _ (by simp)).alloc _
  have hO : Blk w0 (w.heap.size + 2) #[.slice none 0 0, .slice none 0 0, .slice none 0 0, .slice none 0 0, .slice none 0 0, .slice none 0 0, .slice none 0 0, .slice none 0 0, .slice none 0 0, .slice none 0 0, .slice none 0 0, .slice none 0 0, .slice none 0 0, .slice none 0 0, .slice none 0 0, .slice none 0 0, .slice none 0 0, .slice none 0 0, .slice none 0 0, .slice none 0 0, .slice none 0 0, .slice none 0 0, .slice none 0 0, .slice none 0 0, .slice none 0 0, .slice none 0 0, .slice none 0 0, .slice none 0 0, .slice none 0 0, .slice none 0 0, .slice none 0 0, .slice none 0 0] 44 := by rw [← hw0]; exact Blk.newAt _ _ _ (by simp)
  have hV0 := hV.below hb0 hB
  have hsl := hS.lt
  have x0 := hX.cell 0 rfl
  have x1 := hX.cell 1 rfl
  have x2 := hX.cell 2 rfl
  have x3 := hX.cell 3 rfl
  have z0 := hb0.size
  have zO := hO.lt
  go_enter Try.func16, Try.ntmps16
  go_wp2_with (first | refine wpList_load32 rfl _ rfl w.heap.size rfl hA hV.size ?_)
  refine (rDrop_ok hV0 (by omega) hL cl ix).mono ?_; rintro e w1 ⟨cs', rfl, hV1, k1⟩
  rw [hA9] at hV1
  obtain ⟨W2, hW2⟩ : ∃ W2, (w1.alloc (.cells #[.slice none 0 0, .slice none 0 0, .slice none 0 0, .slice none 0 0, .slice none 0 0, .slice none 0 0, .slice none 0 0, .slice none 0 0, .slice none 0 0, .slice none 0 0, .slice none 0 0, .slice none 0 0, .slice none 0 0, .slice none 0 0, .slice none 0 0, .slice none 0 0, .slice none 0 0, .slice none 0 0, .slice none 0 0, .slice none 0 0, .slice none 0 0, .slice none 0 0, .slice none 0 0, .slice none 0 0, .slice none 0 0, .slice none 0 0, .slice none 0 0, .slice none 0 0, .slice none 0 0, .slice none 0 0, .slice none 0 0, .slice none 0 0] 44)).setRow w1.heap.size cs' = W2 := ⟨_, rfl⟩
  have hN : Blk (w1.alloc (.cells #[.slice none 0 0, .slice none 0 0, .slice none 0 0, .slice none 0 0, .slice none 0 0, .slice none 0 0, .slice none 0 0, .slice none 0 0, .slice none 0 0, .slice none 0 0, .slice none 0 0, .slice none 0 0, .slice none 0 0, .slice none 0 0, .slice none 0 0, .slice none 0 0, .slice none 0 0, .slice none 0 0, .slice none 0 0, .slice none 0 0, .slice none 0 0, .slice none 0 0, .slice none 0 0, .slice none 0 0, .slice none 0 0, .slice none 0 0, .slice none 0 0, .slice none 0 0, .slice none 0 0, .slice none 0 0, .slice none 0 0, .slice none 0 0] 44)) w1.heap.size #[.slice none 0 0, .slice none 0 0, .slice none 0 0, .slice none 0 0, .slice none 0 0, .slice none 0 0, .slice none 0 0, .slice none 0 0, .slice none 0 0, .slice none 0 0, .slice none 0 0, .slice none 0 0, .slice none 0 0, .slice none 0 0, .slice none 0 0, .slice none 0 0, .slice none 0 0, .slice none 0 0, .slice none 0 0, .slice none 0 0, .slice none 0 0, .slice none 0 0, .slice none 0 0, .slice none 0 0, .slice none 0 0, .slice none 0 0, .slice none 0 0, .slice none 0 0, .slice none 0 0, .slice none 0 0, .slice none 0 0, .slice none 0 0] 44 := Blk.new _ _ _
  have k2 : Below w1.heap.size w1 W2 := by rw [← hW2]; exact bel_setRow ((Below.refl _ w1).alloc (Nat.le_refl _) _) (Nat.le_refl _) cs'
  have hN2 : Blk W2 w1.heap.size cs' 44 := by rw [← hW2]; exact hN.setRow cs'
  have hz1 := k1.size
  have hz2 := k2.size
  have kb2 := hb0.trans ((k1.mono z0).trans (k2.mono (by omega)))
  have hX2 := (hX.below k1 hX.lt).below k2 (by omega)
  have hO2 := (hO.below k1 hO.lt).below k2 (by omega)
  have hV2 := hV1.below k2 (Nat.le_refl _)
  have hS2 := ((hS.step hb0).step k1).step k2
  have y1 := hX2.cell 1 rfl
  have y2 := hX2.cell 2 rfl
  have y3 := hX2.cell 3 rfl
  go_wp2_with (first | refine wpList_store32 rfl _ _ rfl w1.heap.size cs' rfl rfl hN rfl hV1.size hV1.one ?_)
  clear hW2 hN hw0 x0 x1 x2 x3
  refine (Drop_ok hS2 hL cl ix).mono ?_; rintro e W3 ⟨rfl, p1, p2⟩
  rw [hA9] at p1
  have hX3 := (p2.blk hX2 (by omega)).below (Below.refl _ W3).drew (p2.blk hX2 (by omega)).lt
  have hN3 := (p2.blk hN2 (by omega)).below (Below.refl _ W3).drew (p2.blk hN2 (by omega)).lt
  have hO3 := (p2.blk hO2 (by omega)).below (Below.refl _ W3).drew (p2.blk hO2 (by omega)).lt
  have hV3 := ((RefV.turned hV2 hS2 p2).below (Below.refl _ W3).drew (Nat.le_trans hz2 p2.size)).mono (Nat.le_trans hz2 p2.size)
  have hC3 : Chg s w W3.drew := ((Chg.of_below kb2).trans p2).trans (Chg.of_below (Below.refl _ W3).drew)
  have p1d := p1.step (Below.refl _ W3).drew
  go_wp2_with fail
  refine wp_region_held_drew (S := ActS (w.heap.size + 1) w1.heap.size 3 th cl ix cs') (by kernel_rfl) (.of hX3 hN3) (fun hHeld => ?_)
  refine wpAnyH_take (i := 0) (v := ?_) rfl (by kernel_rfl) (by kernel_rfl) (by kernel_rfl) (fun _ _ _ h => h) (Or.inl ⟨by rfl, ?_⟩) (by assumption) ?_
  rotate_left
  · (intro Y hSw; (try dsimp only at hSw); obtain ⟨hS0, hS1, hS2, hS3, hS4⟩ := hSw; go_simp; try with_reducible rfl)
  try simp only [Act.put, List.getElem_toArray, List.getElem_cons_zero, List.getElem_cons_succ, List.setIfInBounds_toArray, List.set_cons_zero, List.set_cons_succ]
  refine wpAnyH_take (i := 1) (v := .agg cs') rfl (by kernel_rfl) (by kernel_rfl) (by kernel_rfl) (fun _ _ _ h => h) (Or.inl ⟨by rfl, fun Y hSw => exec_load32 _ rfl w1.heap.size rfl hSw.row hV1.size⟩) (by assumption) ?_
  try simp only [Act.put, List.getElem_toArray, List.getElem_cons_zero, List.getElem_cons_succ, List.setIfInBounds_toArray, List.set_cons_zero, List.set_cons_succ]
  refine wpAnyH_take (i := 2) (v := ?_) rfl (by kernel_rfl) (by kernel_rfl) (by kernel_rfl) (fun _ _ _ h => h) (Or.inl ⟨by rfl, ?_⟩) (by assumption) ?_
  rotate_left
  · (intro Y hSw; (try dsimp only at hSw); obtain ⟨hS0, hS1, hS2, hS3, hS4⟩ := hSw; go_simp; try with_reducible rfl)
  try simp only [Act.put, List.getElem_toArray, List.getElem_cons_zero, List.getElem_cons_succ, List.setIfInBounds_toArray, List.set_cons_zero, List.set_cons_succ]
  refine wpAnyH_take (i := 3) (v := ?_) rfl (by kernel_rfl) (by kernel_rfl) (by kernel_rfl) (fun _ _ _ h => h) (Or.inl ⟨by rfl, ?_⟩) (by assumption) ?_
  rotate_left
  · (intro Y hSw; (try dsimp only at hSw); obtain ⟨hS0, hS1, hS2, hS3, hS4⟩ := hSw; go_simp; try with_reducible rfl)
  try simp only [Act.put, List.getElem_toArray, List.getElem_cons_zero, List.getElem_cons_succ, List.setIfInBounds_toArray, List.set_cons_zero, List.set_cons_succ]
  refine wpAnyH_take (i := 4) (v := ?_) rfl (by kernel_rfl) (by kernel_rfl) (by kernel_rfl) (fun _ _ _ h => h) (Or.inl ⟨by rfl, ?_⟩) (by assumption) ?_
  rotate_left
  · (intro Y hSw; (try dsimp only at hSw); obtain ⟨hS0, hS1, hS2, hS3, hS4⟩ := hSw; go_simp; try with_reducible rfl)
  try simp only [Act.put, List.getElem_toArray, List.getElem_cons_zero, List.getElem_cons_succ, List.setIfInBounds_toArray, List.set_cons_zero, List.set_cons_succ]
  refine wpAnyH_take (i := 5) (v := ?_) rfl (by kernel_rfl) (by kernel_rfl) (by kernel_rfl) (fun _ _ _ h => h) (Or.inl ⟨by rfl, ?_⟩) (by assumption) ?_
  rotate_left
  · (intro Y hSw; (try dsimp only at hSw); obtain ⟨hS0, hS1, hS2, hS3, hS4⟩ := hSw; go_simp; try with_reducible rfl)
  try simp only [Act.put, List.getElem_toArray, List.getElem_cons_zero, List.getElem_cons_succ, List.setIfInBounds_toArray, List.set_cons_zero, List.set_cons_succ]
  refine wpAnyH_take (i := 6) (v := ?_) rfl (by kernel_rfl) (by kernel_rfl) (by kernel_rfl) (fun _ _ _ h => h) (Or.inl ⟨by rfl, ?_⟩) (by assumption) ?_
  rotate_left
  · (intro Y hSw; (try dsimp only at hSw); obtain ⟨hS0, hS1, hS2, hS3, hS4⟩ := hSw; go_simp; try with_reducible rfl)
  try simp only [Act.put, List.getElem_toArray, List.getElem_cons_zero, List.getElem_cons_succ, List.setIfInBounds_toArray, List.set_cons_zero, List.set_cons_succ]
  refine wpAnyH_take (i := 8) (v := ?_) rfl (by kernel_rfl) (by kernel_rfl) (by kernel_rfl) (fun _ _ _ h => h) (Or.inl ⟨by rfl, ?_⟩) (by assumption) ?_
  rotate_left
  · (intro Y hSw; (try dsimp only at hSw); obtain ⟨hS0, hS1, hS2, hS3, hS4⟩ := hSw; go_simp; try with_reducible rfl)
  try simp only [Act.put, List.getElem_toArray, List.getElem_cons_zero, List.getElem_cons_succ, List.setIfInBounds_toArray, List.set_cons_zero, List.set_cons_succ]
  refine wpAnyH_ready (rs := [7]) (by kernel_rfl) (by simp) ?_
  refine AllReadyH.cons rfl (fun K hK => ?_) AllReadyH.nil
  go_simp
  refine (num_calls _ _).mono ?_; rintro e _ ⟨rfl, rfl⟩
  go_simp
  refine hK.out _ _ ((.of hX3 hN3)) (fun hHeld => ?_)
  clear hK K
  try simp only [Act.put, List.getElem_toArray, List.getElem_cons_zero, List.getElem_cons_succ, List.setIfInBounds_toArray, List.set_cons_zero, List.set_cons_succ]
  refine wpAnyH_take (i := 9) (v := ?_) rfl (by kernel_rfl) (by kernel_rfl) (by kernel_rfl) (fun _ _ _ h => h) (Or.inl ⟨by rfl, ?_⟩) (by assumption) ?_
  rotate_left
  · (intro Y hSw; (try dsimp only at hSw); obtain ⟨hS0, hS1, hS2, hS3, hS4⟩ := hSw; go_simp; try with_reducible rfl)
  try simp only [Act.put, List.getElem_toArray, List.getElem_cons_zero, List.getElem_cons_succ, List.setIfInBounds_toArray, List.set_cons_zero, List.set_cons_succ]
  refine wpAnyH_take (i := 10) (v := ?_) rfl (by kernel_rfl) (by kernel_rfl) (by kernel_rfl) (fun _ _ _ h => h) (Or.inl ⟨by rfl, ?_⟩) (by assumption) ?_
  rotate_left
  · (intro Y hSw; (try dsimp only at hSw); obtain ⟨hS0, hS1, hS2, hS3, hS4⟩ := hSw; go_simp; try with_reducible rfl)
  try simp only [Act.put, List.getElem_toArray, List.getElem_cons_zero, List.getElem_cons_succ, List.setIfInBounds_toArray, List.set_cons_zero, List.set_cons_succ]
  refine wpAnyH_take (i := 11) (v := ?_) rfl (by kernel_rfl) (by kernel_rfl) (by kernel_rfl) (fun _ _ _ h => h) (Or.inl ⟨by rfl, ?_⟩) (by assumption) ?_
  rotate_left
  · (intro Y hSw; (try dsimp only at hSw); obtain ⟨hS0, hS1, hS2, hS3, hS4⟩ := hSw; go_simp; try with_reducible rfl)
  try simp only [Act.put, List.getElem_toArray, List.getElem_cons_zero, List.getElem_cons_succ, List.setIfInBounds_toArray, List.set_cons_zero, List.set_cons_succ]
  refine wpAnyH_ready (rs := [12]) (by kernel_rfl) (by simp) ?_
  refine AllReadyH.cons rfl (fun K hK => ?_) AllReadyH.nil
  rw [if_pos (by rfl)]
  refine wp_store32 _ _ rfl (w.heap.size + 2) cs' rfl rfl hO3 rfl hV1.size hV1.one ?_
  refine hK.out _ _ ((.of (hX3.setRowO cs' (by omega)) (hN3.setRowO cs' (by omega)))) (fun hHeld => ?_)
  clear hK K
  try simp only [Act.put, List.getElem_toArray, List.getElem_cons_zero, List.getElem_cons_succ, List.setIfInBounds_toArray, List.set_cons_zero, List.set_cons_succ]
  refine wpAnyH_take (i := 13) (v := ?_) rfl (by kernel_rfl) (by kernel_rfl) (by kernel_rfl) (fun _ _ _ h => h) (Or.inl ⟨by rfl, ?_⟩) (by assumption) ?_
  rotate_left
  · (intro Y hSw; (try dsimp only at hSw); obtain ⟨hS0, hS1, hS2, hS3, hS4⟩ := hSw; go_simp; try with_reducible rfl)
  try simp only [Act.put, List.getElem_toArray, List.getElem_cons_zero, List.getElem_cons_succ, List.setIfInBounds_toArray, List.set_cons_zero, List.set_cons_succ]
  refine wpAnyH_done (by kernel_rfl) ?_ _
  go_wp2_with fail
  refine ret_mc rfl (w.heap.size + 2) rfl (hO3.setRow cs') hV1.size rfl ?_
  have hNz : NoInt _ (w.heap.size + 2) := NoInt.of hO3 (RefV.zero 0 w).slices
  have kc := (Chg.refl (w.heap.size + 2) _).setRow (X := W3.drew) cs'
  exact ⟨s, cs', rfl, p1d.turnedN hNz (by omega) kc, by rw [setRow_size]; exact (hV3.turnedN hNz kc), hC3.setRowO cs' (by omega), .inl rfl⟩
theorem act4 {B : Nat} {w : World} {s : Nat} {cs : Array Value} {L L' : Nat → List Int} (hS : ShAt w s L) (hV : RefV B w cs L) (hB : B ≤ w.heap.size) (hL : ∀ i, (L i).length < 1000000) (th cl ix : Int) (hA9 : clrAfter L th = L') :
    Calls Try.prog 16 #[.pointer (some ⟨s, 0, none⟩), .agg cs, .agg #[.int .i64 4, .int .i64 th, .int .i64 cl, .int .i64 ix]] w (ActE w s L') := by
  obtain ⟨w0, hw0⟩ : ∃ w0, ((w.alloc (.cells cs 44)).alloc (.cells #[.int .i64 4, .int .i64 th, .int .i64 cl, .int .i64 ix] 30)).alloc (.cells #[.slice none 0 0, .slice none 0 0, .slice none 0 0, .slice none 0 0, .slice none 0 0, .slice none 0 0, .slice none 0 0, .slice none 0 0, .slice none 0 0, .slice none 0 0, .slice none 0 0, .slice none 0 0, .slice none 0 0, .slice none 0 0, .slice none 0 0, .slice none 0 0, .slice none 0 0, .slice none 0 0, .slice none 0 0, .slice none 0 0, .slice none 0 0, .slice none 0 0, .slice none 0 0, .slice none 0 0, .slice none 0 0, .slice none 0 0, .slice none 0 0, .slice none 0 0, .slice none 0 0, .slice none 0 0, .slice none 0 0, .slice none 0 0] 44) = w0 := ⟨_, rfl⟩
  have hb0 : Below w.heap.size w w0 := by rw [← hw0]; exact (((Below.refl _ w).alloc (Nat.le_refl _) _).alloc (by simp) _).alloc (by simp; omega) _
  have hA : Blk w0 w.heap.size cs 44 := by rw [← hw0]; exact ((Blk.new w _ _).alloc _).alloc _
  have hX : Blk w0 (w.heap.size + 1) #[.int .i64 4, .int .i64 th, .int .i64 cl, .int .i64 ix] 30 := by rw [← hw0]; exact (Blk.newAt _ _ _ (by simp)).alloc _
  have hO : Blk w0 (w.heap.size + 2) #[.slice none 0 0, .slice none 0 0, .slice none 0 0, .slice none 0 0, .slice none 0 0, .slice none 0 0, .slice none 0 0, .slice none 0 0, .slice none 0 0, .slice none 0 0, .slice none 0 0, .slice none 0 0, .slice none 0 0, .slice none 0 0, .slice none 0 0, .slice none 0 0, .slice none 0 0, .slice none 0 0, .slice none 0 0, .slice none 0 0, .slice none 0 0, .slice none 0 0, .slice none 0 0, .slice none 0 0, .slice none 0 0, .slice none 0 0, .slice none 0 0, .slice none 0 0, .slice none 0 0, .slice none 0 0, .slice none 0 0, .slice none 0 0] 44 := by rw [← hw0]; exact Blk.newAt _ _ _ (by simp)
  have hV0 := hV.below hb0 hB
  have hsl := hS.lt
  have x0 := hX.cell 0 rfl
  have x1 := hX.cell 1 rfl
  have x2 := hX.cell 2 rfl
  have x3 := hX.cell 3 rfl
  have z0 := hb0.size
  have zO := hO.lt
  go_enter Try.func16, Try.ntmps16
  go_wp2_with (first | refine wpList_load32 rfl _ rfl w.heap.size rfl hA hV.size ?_)
  refine (rClear_ok hV0 (by omega) hL th).mono ?_; rintro e w1 ⟨cs', rfl, hV1, k1⟩
  rw [hA9] at hV1
  obtain ⟨W2, hW2⟩ : ∃ W2, (w1.alloc (.cells #[.slice none 0 0, .slice none 0 0, .slice none 0 0, .slice none 0 0, .slice none 0 0, .slice none 0 0, .slice none 0 0, .slice none 0 0, .slice none 0 0, .slice none 0 0, .slice none 0 0, .slice none 0 0, .slice none 0 0, .slice none 0 0, .slice none 0 0, .slice none 0 0, .slice none 0 0, .slice none 0 0, .slice none 0 0, .slice none 0 0, .slice none 0 0, .slice none 0 0, .slice none 0 0, .slice none 0 0, .slice none 0 0, .slice none 0 0, .slice none 0 0, .slice none 0 0, .slice none 0 0, .slice none 0 0, .slice none 0 0, .slice none 0 0] 44)).setRow w1.heap.size cs' = W2 := ⟨_, rfl⟩
  have hN : Blk (w1.alloc (.cells #[.slice none 0 0, .slice none 0 0, .slice none 0 0, .slice none 0 0, .slice none 0 0, .slice none 0 0, .slice none 0 0, .slice none 0 0, .slice none 0 0, .slice none 0 0, .slice none 0 0, .slice none 0 0, .slice none 0 0, .slice none 0 0, .slice none 0 0, .slice none 0 0, .slice none 0 0, .slice none 0 0, .slice none 0 0, .slice none 0 0, .slice none 0 0, .slice none 0 0, .slice none 0 0, .slice none 0 0, .slice none 0 0, .slice none 0 0, .slice none 0 0, .slice none 0 0, .slice none 0 0, .slice none 0 0, .slice none 0 0, .slice none 0 0] 44)) w1.heap.size #[.slice none 0 0, .slice none 0 0, .slice none 0 0, .slice none 0 0, .slice none 0 0, .slice none 0 0, .slice none 0 0, .slice none 0 0, .slice none 0 0, .slice none 0 0, .slice none 0 0, .slice none 0 0, .slice none 0 0, .slice none 0 0, .slice none 0 0, .slice none 0 0, .slice none 0 0, .slice none 0 0, .slice none 0 0, .slice none 0 0, .slice none 0 0, .slice none 0 0, .slice none 0 0, .slice none 0 0, .slice none 0 0, .slice none 0 0, .slice none 0 0, .slice none 0 0, .slice none 0 0, .slice none 0 0, .slice none 0 0, .slice none 0 0] 44 := Blk.new _ _ _
  have k2 : Below w1.heap.size w1 W2 := by rw [← hW2]; exact bel_setRow ((Below.refl _ w1).alloc (Nat.le_refl _) _) (Nat.le_refl _) cs'
  have hN2 : Blk W2 w1.heap.size cs' 44 := by rw [← hW2]; exact hN.setRow cs'
  have hz1 := k1.size
  have hz2 := k2.size
  have kb2 := hb0.trans ((k1.mono z0).trans (k2.mono (by omega)))
  have hX2 := (hX.below k1 hX.lt).below k2 (by omega)
  have hO2 := (hO.below k1 hO.lt).below k2 (by omega)
  have hV2 := hV1.below k2 (Nat.le_refl _)
  have hS2 := ((hS.step hb0).step k1).step k2
  have y1 := hX2.cell 1 rfl
  have y2 := hX2.cell 2 rfl
  have y3 := hX2.cell 3 rfl
  go_wp2_with (first | refine wpList_store32 rfl _ _ rfl w1.heap.size cs' rfl rfl hN rfl hV1.size hV1.one ?_)
  clear hW2 hN hw0 x0 x1 x2 x3
  refine (Clear_ok hS2 hL th).mono ?_; rintro e W3 ⟨rfl, p1, p2⟩
  rw [hA9] at p1
  have hX3 := (p2.blk hX2 (by omega)).below (Below.refl _ W3).drew (p2.blk hX2 (by omega)).lt
  have hN3 := (p2.blk hN2 (by omega)).below (Below.refl _ W3).drew (p2.blk hN2 (by omega)).lt
  have hO3 := (p2.blk hO2 (by omega)).below (Below.refl _ W3).drew (p2.blk hO2 (by omega)).lt
  have hV3 := ((RefV.turned hV2 hS2 p2).below (Below.refl _ W3).drew (Nat.le_trans hz2 p2.size)).mono (Nat.le_trans hz2 p2.size)
  have hC3 : Chg s w W3.drew := ((Chg.of_below kb2).trans p2).trans (Chg.of_below (Below.refl _ W3).drew)
  have p1d := p1.step (Below.refl _ W3).drew
  go_wp2_with fail
  refine wp_region_held_drew (S := ActS (w.heap.size + 1) w1.heap.size 4 th cl ix cs') (by kernel_rfl) (.of hX3 hN3) (fun hHeld => ?_)
  refine wpAnyH_take (i := 0) (v := ?_) rfl (by kernel_rfl) (by kernel_rfl) (by kernel_rfl) (fun _ _ _ h => h) (Or.inl ⟨by rfl, ?_⟩) (by assumption) ?_
  rotate_left
  · (intro Y hSw; (try dsimp only at hSw); obtain ⟨hS0, hS1, hS2, hS3, hS4⟩ := hSw; go_simp; try with_reducible rfl)
  try simp only [Act.put, List.getElem_toArray, List.getElem_cons_zero, List.getElem_cons_succ, List.setIfInBounds_toArray, List.set_cons_zero, List.set_cons_succ]
  refine wpAnyH_take (i := 1) (v := .agg cs') rfl (by kernel_rfl) (by kernel_rfl) (by kernel_rfl) (fun _ _ _ h => h) (Or.inl ⟨by rfl, fun Y hSw => exec_load32 _ rfl w1.heap.size rfl hSw.row hV1.size⟩) (by assumption) ?_
  try simp only [Act.put, List.getElem_toArray, List.getElem_cons_zero, List.getElem_cons_succ, List.setIfInBounds_toArray, List.set_cons_zero, List.set_cons_succ]
  refine wpAnyH_take (i := 2) (v := ?_) rfl (by kernel_rfl) (by kernel_rfl) (by kernel_rfl) (fun _ _ _ h => h) (Or.inl ⟨by rfl, ?_⟩) (by assumption) ?_
  rotate_left
  · (intro Y hSw; (try dsimp only at hSw); obtain ⟨hS0, hS1, hS2, hS3, hS4⟩ := hSw; go_simp; try with_reducible rfl)
  try simp only [Act.put, List.getElem_toArray, List.getElem_cons_zero, List.getElem_cons_succ, List.setIfInBounds_toArray, List.set_cons_zero, List.set_cons_succ]
  refine wpAnyH_take (i := 3) (v := ?_) rfl (by kernel_rfl) (by kernel_rfl) (by kernel_rfl) (fun _ _ _ h => h) (Or.inl ⟨by rfl, ?_⟩) (by assumption) ?_
  rotate_left
  · (intro Y hSw; (try dsimp only at hSw); obtain ⟨hS0, hS1, hS2, hS3, hS4⟩ := hSw; go_simp; try with_reducible rfl)
  try simp only [Act.put, List.getElem_toArray, List.getElem_cons_zero, List.getElem_cons_succ, List.setIfInBounds_toArray, List.set_cons_zero, List.set_cons_succ]
  refine wpAnyH_take (i := 4) (v := ?_) rfl (by kernel_rfl) (by kernel_rfl) (by kernel_rfl) (fun _ _ _ h => h) (Or.inl ⟨by rfl, ?_⟩) (by assumption) ?_
  rotate_left
  · (intro Y hSw; (try dsimp only at hSw); obtain ⟨hS0, hS1, hS2, hS3, hS4⟩ := hSw; go_simp; try with_reducible rfl)
  try simp only [Act.put, List.getElem_toArray, List.getElem_cons_zero, List.getElem_cons_succ, List.setIfInBounds_toArray, List.set_cons_zero, List.set_cons_succ]
  refine wpAnyH_take (i := 5) (v := ?_) rfl (by kernel_rfl) (by kernel_rfl) (by kernel_rfl) (fun _ _ _ h => h) (Or.inl ⟨by rfl, ?_⟩) (by assumption) ?_
  rotate_left
  · (intro Y hSw; (try dsimp only at hSw); obtain ⟨hS0, hS1, hS2, hS3, hS4⟩ := hSw; go_simp; try with_reducible rfl)
  try simp only [Act.put, List.getElem_toArray, List.getElem_cons_zero, List.getElem_cons_succ, List.setIfInBounds_toArray, List.set_cons_zero, List.set_cons_succ]
  refine wpAnyH_take (i := 6) (v := ?_) rfl (by kernel_rfl) (by kernel_rfl) (by kernel_rfl) (fun _ _ _ h => h) (Or.inl ⟨by rfl, ?_⟩) (by assumption) ?_
  rotate_left
  · (intro Y hSw; (try dsimp only at hSw); obtain ⟨hS0, hS1, hS2, hS3, hS4⟩ := hSw; go_simp; try with_reducible rfl)
  try simp only [Act.put, List.getElem_toArray, List.getElem_cons_zero, List.getElem_cons_succ, List.setIfInBounds_toArray, List.set_cons_zero, List.set_cons_succ]
  refine wpAnyH_take (i := 8) (v := ?_) rfl (by kernel_rfl) (by kernel_rfl) (by kernel_rfl) (fun _ _ _ h => h) (Or.inl ⟨by rfl, ?_⟩) (by assumption) ?_
  rotate_left
  · (intro Y hSw; (try dsimp only at hSw); obtain ⟨hS0, hS1, hS2, hS3, hS4⟩ := hSw; go_simp; try with_reducible rfl)
  try simp only [Act.put, List.getElem_toArray, List.getElem_cons_zero, List.getElem_cons_succ, List.setIfInBounds_toArray, List.set_cons_zero, List.set_cons_succ]
  refine wpAnyH_ready (rs := [7]) (by kernel_rfl) (by simp) ?_
  refine AllReadyH.cons rfl (fun K hK => ?_) AllReadyH.nil
  go_simp
  refine (num_calls _ _).mono ?_; rintro e _ ⟨rfl, rfl⟩
  go_simp
  refine hK.out _ _ ((.of hX3 hN3)) (fun hHeld => ?_)
  clear hK K
  try simp only [Act.put, List.getElem_toArray, List.getElem_cons_zero, List.getElem_cons_succ, List.setIfInBounds_toArray, List.set_cons_zero, List.set_cons_succ]
  refine wpAnyH_take (i := 9) (v := ?_) rfl (by kernel_rfl) (by kernel_rfl) (by kernel_rfl) (fun _ _ _ h => h) (Or.inl ⟨by rfl, ?_⟩) (by assumption) ?_
  rotate_left
  · (intro Y hSw; (try dsimp only at hSw); obtain ⟨hS0, hS1, hS2, hS3, hS4⟩ := hSw; go_simp; try with_reducible rfl)
  try simp only [Act.put, List.getElem_toArray, List.getElem_cons_zero, List.getElem_cons_succ, List.setIfInBounds_toArray, List.set_cons_zero, List.set_cons_succ]
  refine wpAnyH_take (i := 10) (v := ?_) rfl (by kernel_rfl) (by kernel_rfl) (by kernel_rfl) (fun _ _ _ h => h) (Or.inl ⟨by rfl, ?_⟩) (by assumption) ?_
  rotate_left
  · (intro Y hSw; (try dsimp only at hSw); obtain ⟨hS0, hS1, hS2, hS3, hS4⟩ := hSw; go_simp; try with_reducible rfl)
  try simp only [Act.put, List.getElem_toArray, List.getElem_cons_zero, List.getElem_cons_succ, List.setIfInBounds_toArray, List.set_cons_zero, List.set_cons_succ]
  refine wpAnyH_take (i := 11) (v := ?_) rfl (by kernel_rfl) (by kernel_rfl) (by kernel_rfl) (fun _ _ _ h => h) (Or.inl ⟨by rfl, ?_⟩) (by assumption) ?_
  rotate_left
  · (intro Y hSw; (try dsimp only at hSw); obtain ⟨hS0, hS1, hS2, hS3, hS4⟩ := hSw; go_simp; try with_reducible rfl)
  try simp only [Act.put, List.getElem_toArray, List.getElem_cons_zero, List.getElem_cons_succ, List.setIfInBounds_toArray, List.set_cons_zero, List.set_cons_succ]
  refine wpAnyH_ready (rs := [12]) (by kernel_rfl) (by simp) ?_
  refine AllReadyH.cons rfl (fun K hK => ?_) AllReadyH.nil
  rw [if_pos (by rfl)]
  refine wp_store32 _ _ rfl (w.heap.size + 2) cs' rfl rfl hO3 rfl hV1.size hV1.one ?_
  refine hK.out _ _ ((.of (hX3.setRowO cs' (by omega)) (hN3.setRowO cs' (by omega)))) (fun hHeld => ?_)
  clear hK K
  try simp only [Act.put, List.getElem_toArray, List.getElem_cons_zero, List.getElem_cons_succ, List.setIfInBounds_toArray, List.set_cons_zero, List.set_cons_succ]
  refine wpAnyH_take (i := 13) (v := ?_) rfl (by kernel_rfl) (by kernel_rfl) (by kernel_rfl) (fun _ _ _ h => h) (Or.inl ⟨by rfl, ?_⟩) (by assumption) ?_
  rotate_left
  · (intro Y hSw; (try dsimp only at hSw); obtain ⟨hS0, hS1, hS2, hS3, hS4⟩ := hSw; go_simp; try with_reducible rfl)
  try simp only [Act.put, List.getElem_toArray, List.getElem_cons_zero, List.getElem_cons_succ, List.setIfInBounds_toArray, List.set_cons_zero, List.set_cons_succ]
  refine wpAnyH_done (by kernel_rfl) ?_ _
  go_wp2_with fail
  refine ret_mc rfl (w.heap.size + 2) rfl (hO3.setRow cs') hV1.size rfl ?_
  have hNz : NoInt _ (w.heap.size + 2) := NoInt.of hO3 (RefV.zero 0 w).slices
  have kc := (Chg.refl (w.heap.size + 2) _).setRow (X := W3.drew) cs'
  exact ⟨s, cs', rfl, p1d.turnedN hNz (by omega) kc, by rw [setRow_size]; exact (hV3.turnedN hNz kc), hC3.setRowO cs' (by omega), .inl rfl⟩
theorem act5 {B : Nat} {w : World} {s : Nat} {cs : Array Value} {L : Nat → List Int} (hS : ShAt w s L) (hV : RefV B w cs L) (hB : B ≤ w.heap.size) (hL : ∀ i, (L i).length < 1000000) (wh th cl ix : Int) (h0 : wh ≠ 0) (h1 : wh ≠ 1) (h2 : wh ≠ 2) (h3 : wh ≠ 3) (h4 : wh ≠ 4) :
    Calls Try.prog 16 #[.pointer (some ⟨s, 0, none⟩), .agg cs, .agg #[.int .i64 wh, .int .i64 th, .int .i64 cl, .int .i64 ix]] w (ActE w s L) := by
  obtain ⟨w0, hw0⟩ : ∃ w0, ((w.alloc (.cells cs 44)).alloc (.cells #[.int .i64 wh, .int .i64 th, .int .i64 cl, .int .i64 ix] 30)).alloc (.cells #[.slice none 0 0, .slice none 0 0, .slice none 0 0, .slice none 0 0, .slice none 0 0, .slice none 0 0, .slice none 0 0, .slice none 0 0, .slice none 0 0, .slice none 0 0, .slice none 0 0, .slice none 0 0, .slice none 0 0, .slice none 0 0, .slice none 0 0, .slice none 0 0, .slice none 0 0, .slice none 0 0, .slice none 0 0, .slice none 0 0, .slice none 0 0, .slice none 0 0, .slice none 0 0, .slice none 0 0, .slice none 0 0, .slice none 0 0, .slice none 0 0, .slice none 0 0, .slice none 0 0, .slice none 0 0, .slice none 0 0, .slice none 0 0] 44) = w0 := ⟨_, rfl⟩
  have hb0 : Below w.heap.size w w0 := by rw [← hw0]; exact (((Below.refl _ w).alloc (Nat.le_refl _) _).alloc (by simp) _).alloc (by simp; omega) _
  have hA : Blk w0 w.heap.size cs 44 := by rw [← hw0]; exact ((Blk.new w _ _).alloc _).alloc _
  have hX : Blk w0 (w.heap.size + 1) #[.int .i64 wh, .int .i64 th, .int .i64 cl, .int .i64 ix] 30 := by rw [← hw0]; exact (Blk.newAt _ _ _ (by simp)).alloc _
  have hO : Blk w0 (w.heap.size + 2) #[.slice none 0 0, .slice none 0 0, .slice none 0 0, .slice none 0 0, .slice none 0 0, .slice none 0 0, .slice none 0 0, .slice none 0 0, .slice none 0 0, .slice none 0 0, .slice none 0 0, .slice none 0 0, .slice none 0 0, .slice none 0 0, .slice none 0 0, .slice none 0 0, .slice none 0 0, .slice none 0 0, .slice none 0 0, .slice none 0 0, .slice none 0 0, .slice none 0 0, .slice none 0 0, .slice none 0 0, .slice none 0 0, .slice none 0 0, .slice none 0 0, .slice none 0 0, .slice none 0 0, .slice none 0 0, .slice none 0 0, .slice none 0 0] 44 := by rw [← hw0]; exact Blk.newAt _ _ _ (by simp)
  have hV0 := hV.below hb0 hB
  have hsl := hS.lt
  have x0 := hX.cell 0 rfl
  have x1 := hX.cell 1 rfl
  have x2 := hX.cell 2 rfl
  have x3 := hX.cell 3 rfl
  have z0 := hb0.size
  have zO := hO.lt
  go_enter Try.func16, Try.ntmps16
  have e0 : (wh == 0) = false := by simpa using h0
  have e1 : (wh == 1) = false := by simpa using h1
  have e2 : (wh == 2) = false := by simpa using h2
  have e3 : (wh == 3) = false := by simpa using h3
  have e4 : (wh == 4) = false := by simpa using h4
  clear h0 h1 h2 h3 h4
  go_wp2_with fail
  clear hw0
  refine wp_region_held_drew (S := fun Y => Blk Y w.heap.size cs 44) (by kernel_rfl) hA (fun hHeld => ?_)
  refine wpAnyH_take (i := 0) (v := ?_) rfl (by kernel_rfl) (by kernel_rfl) (by kernel_rfl) (fun _ _ _ h => h) (Or.inl ⟨by rfl, ?_⟩) (by assumption) ?_
  rotate_left
  · (intro Y hSw; (try dsimp only at hSw); obtain hS0 := hSw; go_simp; try with_reducible rfl)
  try simp only [Act.put, List.getElem_toArray, List.getElem_cons_zero, List.getElem_cons_succ, List.setIfInBounds_toArray, List.set_cons_zero, List.set_cons_succ]
  refine wpAnyH_take (i := 2) (v := .agg cs) rfl (by kernel_rfl) (by kernel_rfl) (by kernel_rfl) (fun _ _ _ h => h) (Or.inl ⟨by rfl, fun Y hSw => exec_load32 _ rfl w.heap.size rfl hSw hV.size⟩) (by assumption) ?_
  try simp only [Act.put, List.getElem_toArray, List.getElem_cons_zero, List.getElem_cons_succ, List.setIfInBounds_toArray, List.set_cons_zero, List.set_cons_succ]
  refine wpAnyH_ready (rs := [1]) (by kernel_rfl) (by simp) ?_
  refine AllReadyH.cons rfl (fun K hK => ?_) AllReadyH.nil
  go_simp
  have hSd := (hS.step hb0).step (Below.refl _ w0).drew
  refine (Copy_ok hSd hL).mono ?_; rintro e W3 ⟨c, rfl, hc, p1, k3⟩
  have hA3 := hA.below ((Below.refl _ w0).drew.trans k3) hA.lt
  have hO3 := hO.below ((Below.refl _ w0).drew.trans k3) hO.lt
  have hV3 := (hV0.below ((Below.refl _ w0).drew.trans k3) (Nat.le_trans hB z0)).mono (Nat.le_trans (Nat.le_trans hB z0) k3.size)
  have hC3 : Chg s w W3 := Chg.of_below (hb0.drew.trans (k3.mono z0))
  have hc0 : w0.heap.size ≤ c := hc
  go_simp
  refine hK.out _ _ (hA3) (fun hHeld => ?_)
  clear hK K
  try simp only [Act.put, List.getElem_toArray, List.getElem_cons_zero, List.getElem_cons_succ, List.setIfInBounds_toArray, List.set_cons_zero, List.set_cons_succ]
  refine wpAnyH_take (i := 3) (v := ?_) rfl (by kernel_rfl) (by kernel_rfl) (by kernel_rfl) (fun _ _ _ h => h) (Or.inl ⟨by rfl, ?_⟩) (by assumption) ?_
  rotate_left
  · (intro Y hSw; (try dsimp only at hSw); obtain hS0 := hSw; go_simp; try with_reducible rfl)
  try simp only [Act.put, List.getElem_toArray, List.getElem_cons_zero, List.getElem_cons_succ, List.setIfInBounds_toArray, List.set_cons_zero, List.set_cons_succ]
  refine wpAnyH_ready (rs := [4]) (by kernel_rfl) (by simp) ?_
  refine AllReadyH.cons rfl (fun K hK => ?_) AllReadyH.nil
  rw [if_pos (by rfl)]
  refine wp_store32 _ _ rfl (w.heap.size + 2) cs rfl rfl hO3 rfl hV.size hV.one ?_
  refine hK.out _ _ ((hA3.setRowO cs (by omega))) (fun hHeld => ?_)
  clear hK K
  try simp only [Act.put, List.getElem_toArray, List.getElem_cons_zero, List.getElem_cons_succ, List.setIfInBounds_toArray, List.set_cons_zero, List.set_cons_succ]
  refine wpAnyH_take (i := 5) (v := ?_) rfl (by kernel_rfl) (by kernel_rfl) (by kernel_rfl) (fun _ _ _ h => h) (Or.inl ⟨by rfl, ?_⟩) (by assumption) ?_
  rotate_left
  · (intro Y hSw; (try dsimp only at hSw); obtain hS0 := hSw; go_simp; try with_reducible rfl)
  try simp only [Act.put, List.getElem_toArray, List.getElem_cons_zero, List.getElem_cons_succ, List.setIfInBounds_toArray, List.set_cons_zero, List.set_cons_succ]
  refine wpAnyH_done (by kernel_rfl) ?_ _
  go_wp2_with fail
  refine ret_mc rfl (w.heap.size + 2) rfl (hO3.setRow cs) hV.size rfl ?_
  have hNz : NoInt _ (w.heap.size + 2) := NoInt.of hO3 (RefV.zero 0 w).slices
  have kc := (Chg.refl (w.heap.size + 2) _).setRow (X := W3) cs
  exact ⟨c, cs, rfl, p1.turnedN hNz (by omega) kc, by rw [setRow_size]; exact (hV3.turnedN hNz kc), hC3.setRowO cs (by omega), .inr (by omega)⟩
theorem owns_case {W : World} {base n : Nat} {e : TypeId} {v : Value} {xs : List Value} (h : W.ownsRow base e 1 v n xs) :
    (v = .slice none 0 0 ∧ n = 0) ∨ ∃ g cap cur, v = .slice (some ⟨g, 0, none⟩) n cap ∧ base ≤ g ∧ Blk W g cur e ∧ n ≤ cur.size ∧ n ≤ cap := by
  obtain ⟨hl, hx⟩ := h
  rcases hx with ⟨h1, h2⟩ | ⟨g, cap, cur, hv, hb, hg, h3, _, hsz, _⟩
  · exact .inl ⟨h1, by first | exact h2 | (rw [h2] at hl; simpa using hl.symm)⟩
  · exact .inr ⟨g, cap, cur, hv, hb, hg, by omega, h3⟩
theorem act2 {B : Nat} {w : World} {s : Nat} {cs : Array Value} {L L' : Nat → List Int} (hS : ShAt w s L) (hV : RefV B w cs L) (hB : B ≤ w.heap.size) (hL : ∀ i, (L i).length < 1000000) (th cl ix : Int) (hA9 : splAfter L th cl = L') (hL9 : (splL L th cl).length < 1000000) :
    Calls Try.prog 16 #[.pointer (some ⟨s, 0, none⟩), .agg cs, .agg #[.int .i64 2, .int .i64 th, .int .i64 cl, .int .i64 ix]] w (ActE w s L') := by
  obtain ⟨l, hl⟩ : ∃ l, splL L th cl = l := ⟨_, rfl⟩
  obtain ⟨w0, hw0⟩ : ∃ w0, ((w.alloc (.cells cs 44)).alloc (.cells #[.int .i64 2, .int .i64 th, .int .i64 cl, .int .i64 ix] 30)).alloc (.cells #[.slice none 0 0, .slice none 0 0, .slice none 0 0, .slice none 0 0, .slice none 0 0, .slice none 0 0, .slice none 0 0, .slice none 0 0, .slice none 0 0, .slice none 0 0, .slice none 0 0, .slice none 0 0, .slice none 0 0, .slice none 0 0, .slice none 0 0, .slice none 0 0, .slice none 0 0, .slice none 0 0, .slice none 0 0, .slice none 0 0, .slice none 0 0, .slice none 0 0, .slice none 0 0, .slice none 0 0, .slice none 0 0, .slice none 0 0, .slice none 0 0, .slice none 0 0, .slice none 0 0, .slice none 0 0, .slice none 0 0, .slice none 0 0] 44) = w0 := ⟨_, rfl⟩
  have hb0 : Below w.heap.size w w0 := by rw [← hw0]; exact (((Below.refl _ w).alloc (Nat.le_refl _) _).alloc (by simp) _).alloc (by simp; omega) _
  have hA : Blk w0 w.heap.size cs 44 := by rw [← hw0]; exact ((Blk.new w _ _).alloc _).alloc _
  have hX : Blk w0 (w.heap.size + 1) #[.int .i64 2, .int .i64 th, .int .i64 cl, .int .i64 ix] 30 := by rw [← hw0]; exact (Blk.newAt _ _ _ (by simp)).alloc _
  have hO : Blk w0 (w.heap.size + 2) #[.slice none 0 0, .slice none 0 0, .slice none 0 0, .slice none 0 0, .slice none 0 0, .slice none 0 0, .slice none 0 0, .slice none 0 0, .slice none 0 0, .slice none 0 0, .slice none 0 0, .slice none 0 0, .slice none 0 0, .slice none 0 0, .slice none 0 0, .slice none 0 0, .slice none 0 0, .slice none 0 0, .slice none 0 0, .slice none 0 0, .slice none 0 0, .slice none 0 0, .slice none 0 0, .slice none 0 0, .slice none 0 0, .slice none 0 0, .slice none 0 0, .slice none 0 0, .slice none 0 0, .slice none 0 0, .slice none 0 0, .slice none 0 0] 44 := by rw [← hw0]; exact Blk.newAt _ _ _ (by simp)
  have hV0 := hV.below hb0 hB
  have hsl := hS.lt
  have x0 := hX.cell 0 rfl
  have x1 := hX.cell 1 rfl
  have x2 := hX.cell 2 rfl
  have x3 := hX.cell 3 rfl
  have z0 := hb0.size
  have zO := hO.lt
  go_enter Try.func16, Try.ntmps16
  go_wp2_with (first | refine wpList_load32 rfl _ rfl w.heap.size rfl hA hV.size ?_)
  refine (rSpill_ok hV0 (by omega) hL th cl).mono ?_; rintro e w1 ⟨cs', v9, rfl, hV1, hr1, k1⟩
  rw [hA9] at hV1
  rw [hl] at hr1 hL9
  have HR1 := Lib.hid hr1
  clear hr1
  obtain ⟨W2, hW2⟩ : ∃ W2, (w1.alloc (.cells #[.slice none 0 0, .slice none 0 0, .slice none 0 0, .slice none 0 0, .slice none 0 0, .slice none 0 0, .slice none 0 0, .slice none 0 0, .slice none 0 0, .slice none 0 0, .slice none 0 0, .slice none 0 0, .slice none 0 0, .slice none 0 0, .slice none 0 0, .slice none 0 0, .slice none 0 0, .slice none 0 0, .slice none 0 0, .slice none 0 0, .slice none 0 0, .slice none 0 0, .slice none 0 0, .slice none 0 0, .slice none 0 0, .slice none 0 0, .slice none 0 0, .slice none 0 0, .slice none 0 0, .slice none 0 0, .slice none 0 0, .slice none 0 0] 44)).setRow w1.heap.size cs' = W2 := ⟨_, rfl⟩
  have hN : Blk (w1.alloc (.cells #[.slice none 0 0, .slice none 0 0, .slice none 0 0, .slice none 0 0, .slice none 0 0, .slice none 0 0, .slice none 0 0, .slice none 0 0, .slice none 0 0, .slice none 0 0, .slice none 0 0, .slice none 0 0, .slice none 0 0, .slice none 0 0, .slice none 0 0, .slice none 0 0, .slice none 0 0, .slice none 0 0, .slice none 0 0, .slice none 0 0, .slice none 0 0, .slice none 0 0, .slice none 0 0, .slice none 0 0, .slice none 0 0, .slice none 0 0, .slice none 0 0, .slice none 0 0, .slice none 0 0, .slice none 0 0, .slice none 0 0, .slice none 0 0] 44)) w1.heap.size #[.slice none 0 0, .slice none 0 0, .slice none 0 0, .slice none 0 0, .slice none 0 0, .slice none 0 0, .slice none 0 0, .slice none 0 0, .slice none 0 0, .slice none 0 0, .slice none 0 0, .slice none 0 0, .slice none 0 0, .slice none 0 0, .slice none 0 0, .slice none 0 0, .slice none 0 0, .slice none 0 0, .slice none 0 0, .slice none 0 0, .slice none 0 0, .slice none 0 0, .slice none 0 0, .slice none 0 0, .slice none 0 0, .slice none 0 0, .slice none 0 0, .slice none 0 0, .slice none 0 0, .slice none 0 0, .slice none 0 0, .slice none 0 0] 44 := Blk.new _ _ _
  have k2 : Below w1.heap.size w1 W2 := by rw [← hW2]; exact bel_setRow ((Below.refl _ w1).alloc (Nat.le_refl _) _) (Nat.le_refl _) cs'
  have hN2 : Blk W2 w1.heap.size cs' 44 := by rw [← hW2]; exact hN.setRow cs'
  have hz1 := k1.size
  have hz2 := k2.size
  have kb2 := hb0.trans ((k1.mono z0).trans (k2.mono (by omega)))
  have hX2 := (hX.below k1 hX.lt).below k2 (by omega)
  have hO2 := (hO.below k1 hO.lt).below k2 (by omega)
  have hV2 := hV1.below k2 (Nat.le_refl _)
  have hS2 := ((hS.step hb0).step k1).step k2
  have y1 := hX2.cell 1 rfl
  have y2 := hX2.cell 2 rfl
  have y3 := hX2.cell 3 rfl
  go_wp2_with (first | refine wpList_store32 rfl _ _ rfl w1.heap.size cs' rfl rfl hN rfl hV1.size hV1.one ?_)
  clear hW2 hN hw0 x0 x1 x2 x3
  refine (Spill_ok2 hS2 hL th cl).mono ?_; rintro e W3 ⟨v, rfl, ho, p1, p2, hof⟩
  rw [hA9] at p1
  rw [hl] at ho
  have hr3 := (HR1.out.below k2 (Nat.le_refl _)).turned hS2 p2
  have hX3 := p2.blk hX2 (by omega)
  have hN3 := p2.blk hN2 (by omega)
  have hO3 := p2.blk hO2 (by omega)
  have hV3 := RefV.turned hV2 hS2 p2
  have hC3 : Chg s w W3 := (Chg.of_below kb2).trans p2
  have hz3 := p2.size
  have HR3 := Lib.hid hr3
  have HO := Lib.hid ho
  have HOF := Lib.hid hof
  clear ho hr3 hof
  go_wp2_with fail
  refine (ints_ok v v9 l l W3.heap.size w1.heap.size W3 hL9 hL9 (RowAt.of_owns HO.out (Nat.le_refl _)) HR3.out (Nat.le_refl _) (by omega)).mono ?_; rintro e W4 ⟨rfl, k4⟩
  rw [decide_eq_true rfl]
  go_wp2_with fail
  refine (num_calls _ _).mono ?_; rintro e _ ⟨rfl, rfl⟩
  have hX4 := hX3.below k4 hX3.lt
  have hN4 := hN3.below k4 hN3.lt
  have hO4 := hO3.below k4 hO3.lt
  have hV4 := hV3.below k4 (by omega)
  have hC4 := hC3.more k4 hC3.size
  have p4 := p1.step k4
  have ho4 := owns_below HO.out k4 (Nat.le_refl _)
  have hz4 := k4.size
  rcases owns_case ho4 with ⟨rfl, hn0⟩ | ⟨g, cap, cur, rfl, hg, hcb, hcs, hcap⟩
  · obtain rfl : l = [] := List.eq_nil_of_length_eq_zero hn0
    go_wp2_with fail
    go_loopw [22] (fun i wr => i = .int .i64 0 ∧ W4 = wr) (fun _ _ => 0)
    case atStart => exact ⟨rfl, rfl⟩
    case round =>
      obtain ⟨rfl, rfl⟩ := hrel
      go_wp2_with fail
      refine wp_region_held_drew (S := fun Y => Blk Y w1.heap.size cs' 44) (by kernel_rfl) hN4 (fun hHeld => ?_)
      refine wpAnyH_take (i := 0) (v := ?_) rfl (by kernel_rfl) (by kernel_rfl) (by kernel_rfl) (fun _ _ _ h => h) (Or.inl ⟨by rfl, ?_⟩) (by assumption) ?_
      rotate_left
      · (intro Y hSw; (try dsimp only at hSw); obtain hS0 := hSw; go_simp; try with_reducible rfl)
      try simp only [Act.put, List.getElem_toArray, List.getElem_cons_zero, List.getElem_cons_succ, List.setIfInBounds_toArray, List.set_cons_zero, List.set_cons_succ]
      refine wpAnyH_take (i := 1) (v := .agg cs') rfl (by kernel_rfl) (by kernel_rfl) (by kernel_rfl) (fun _ _ _ h => h) (Or.inl ⟨by rfl, fun Y hSw => exec_load32 _ rfl w1.heap.size rfl hSw hV1.size⟩) (by assumption) ?_
      try simp only [Act.put, List.getElem_toArray, List.getElem_cons_zero, List.getElem_cons_succ, List.setIfInBounds_toArray, List.set_cons_zero, List.set_cons_succ]
      refine wpAnyH_take (i := 2) (v := ?_) rfl (by kernel_rfl) (by kernel_rfl) (by kernel_rfl) (fun _ _ _ h => h) (Or.inl ⟨by rfl, ?_⟩) (by assumption) ?_
      rotate_left
      · (intro Y hSw; (try dsimp only at hSw); obtain hS0 := hSw; go_simp; try with_reducible rfl)
      try simp only [Act.put, List.getElem_toArray, List.getElem_cons_zero, List.getElem_cons_succ, List.setIfInBounds_toArray, List.set_cons_zero, List.set_cons_succ]
      refine wpAnyH_take (i := 3) (v := ?_) rfl (by kernel_rfl) (by kernel_rfl) (by kernel_rfl) (fun _ _ _ h => h) (Or.inl ⟨by rfl, ?_⟩) (by assumption) ?_
      rotate_left
      · (intro Y hSw; (try dsimp only at hSw); obtain hS0 := hSw; go_simp; try with_reducible rfl)
      try simp only [Act.put, List.getElem_toArray, List.getElem_cons_zero, List.getElem_cons_succ, List.setIfInBounds_toArray, List.set_cons_zero, List.set_cons_succ]
      refine wpAnyH_ready (rs := [4]) (by kernel_rfl) (by simp) ?_
      refine AllReadyH.cons rfl (fun K hK => ?_) AllReadyH.nil
      rw [if_pos (by rfl)]
      refine wp_store32 _ _ rfl (w.heap.size + 2) cs' rfl rfl hO4 rfl hV1.size hV1.one ?_
      refine hK.out _ _ ((hN4.setRowO cs' (by omega))) (fun hHeld => ?_)
      clear hK K
      try simp only [Act.put, List.getElem_toArray, List.getElem_cons_zero, List.getElem_cons_succ, List.setIfInBounds_toArray, List.set_cons_zero, List.set_cons_succ]
      refine wpAnyH_take (i := 5) (v := ?_) rfl (by kernel_rfl) (by kernel_rfl) (by kernel_rfl) (fun _ _ _ h => h) (Or.inl ⟨by rfl, ?_⟩) (by assumption) ?_
      rotate_left
      · (intro Y hSw; (try dsimp only at hSw); obtain hS0 := hSw; go_simp; try with_reducible rfl)
      try simp only [Act.put, List.getElem_toArray, List.getElem_cons_zero, List.getElem_cons_succ, List.setIfInBounds_toArray, List.set_cons_zero, List.set_cons_succ]
      refine wpAnyH_done (by kernel_rfl) ?_ _
      go_wp2_with fail
      have hO6 : Blk W4.drew _ _ _ := hO4
      have p6 := p4.step (Below.refl _ W4).drew
      have hV6 := (hV4.below (Below.refl _ W4).drew (by omega)).mono (B' := W4.drew.heap.size) (show w1.heap.size ≤ W4.heap.size by omega)
      have hC6 := hC4.trans (Chg.of_below (Below.refl _ W4).drew)
      refine ret_mc rfl (w.heap.size + 2) rfl (hO6.setRow cs') hV1.size rfl ?_
      have hNz : NoInt _ (w.heap.size + 2) := NoInt.of hO6 (RefV.zero 0 w).slices
      have kc := (Chg.refl (w.heap.size + 2) _).setRow (X := W4.drew) cs'
      exact ⟨s, cs', rfl, p6.turnedN hNz (by omega) kc, by rw [setRow_size]; exact (hV6.turnedN hNz kc), hC6.setRowO cs' (by omega), .inl rfl⟩
  · have hgs : s ≠ g := by omega
    have hof4 : Off g W4 s := (HOF.out g rfl).of (k4.block s p1.lt)
    have HCS := Lib.hid hcs
    have HCP := Lib.hid hcap
    clear hcs hcap
    go_wp2_with fail
    go_loopw [22] (fun i wr => ∃ (k : Nat) (cur' : Array Value), k ≤ l.length ∧ i = .int .i64 k ∧ Blk wr g cur' 3 ∧ cur'.size = cur.size ∧ Chg g W4 wr) (fun i _ => l.length - (intOf i).toNat)
    case atStart => exact ⟨0, cur, by omega, rfl, hcb, rfl, Chg.refl _ _⟩
    case round =>
      obtain ⟨k, cur', hk, rfl, hb', hsz', hch⟩ := hrel
      clear hcb
      by_cases hlt : k < l.length
      · have i0 : (0 : Int) ≤ k := by omega
        have i1 : (k : Int) < l.length := by omega
        have hks : k < cur'.size := by have := HCS.out; omega
        have hcc := hb'.cell k (Array.getElem?_eq_getElem hks)
        have hfz := hb'.frozen k
        have hb2 := hb'.set k (.int .i64 300)
        have hch2 := hch.setc ⟨g, k, none⟩ (.int .i64 300) rfl
        clear hb' hch
        go_wp2_with fail
        exact ⟨⟨k + 1, _, by omega, by go_num, hb2, by simpa using hsz', hch2⟩, by simp [intOf]; omega⟩
      · obtain rfl : k = l.length := by omega
        have hne5 : w.heap.size + 2 ≠ g := by omega
        have hN5 := hch.blk hN4 (Nat.ne_of_lt (Nat.lt_of_lt_of_le hN2.lt hg))
        have hO5 := hch.blk hO4 (by omega)
        have hV5 : RefV w1.heap.size wr cs' L' := hV4.below (hch.below (B := w1.heap.size) (by omega) (by omega)) (Nat.le_refl _)
        have p5 := p4.turned hof4 hgs hch.size hch.block
        have hC5 : Chg s w wr := hC4.trans' hch (by omega)
        have hz5 := hch.size
        go_wp2_with fail
        refine wp_region_held_drew (S := fun Y => Blk Y w1.heap.size cs' 44) (by kernel_rfl) hN5 (fun hHeld => ?_)
        refine wpAnyH_take (i := 0) (v := ?_) rfl (by kernel_rfl) (by kernel_rfl) (by kernel_rfl) (fun _ _ _ h => h) (Or.inl ⟨by rfl, ?_⟩) (by assumption) ?_
        rotate_left
        · (intro Y hSw; (try dsimp only at hSw); obtain hS0 := hSw; go_simp; try with_reducible rfl)
        try simp only [Act.put, List.getElem_toArray, List.getElem_cons_zero, List.getElem_cons_succ, List.setIfInBounds_toArray, List.set_cons_zero, List.set_cons_succ]
        refine wpAnyH_take (i := 1) (v := .agg cs') rfl (by kernel_rfl) (by kernel_rfl) (by kernel_rfl) (fun _ _ _ h => h) (Or.inl ⟨by rfl, fun Y hSw => exec_load32 _ rfl w1.heap.size rfl hSw hV1.size⟩) (by assumption) ?_
        try simp only [Act.put, List.getElem_toArray, List.getElem_cons_zero, List.getElem_cons_succ, List.setIfInBounds_toArray, List.set_cons_zero, List.set_cons_succ]
        refine wpAnyH_take (i := 2) (v := ?_) rfl (by kernel_rfl) (by kernel_rfl) (by kernel_rfl) (fun _ _ _ h => h) (Or.inl ⟨by rfl, ?_⟩) (by assumption) ?_
        rotate_left
        · (intro Y hSw; (try dsimp only at hSw); obtain hS0 := hSw; go_simp; try with_reducible rfl)
        try simp only [Act.put, List.getElem_toArray, List.getElem_cons_zero, List.getElem_cons_succ, List.setIfInBounds_toArray, List.set_cons_zero, List.set_cons_succ]
        refine wpAnyH_take (i := 3) (v := ?_) rfl (by kernel_rfl) (by kernel_rfl) (by kernel_rfl) (fun _ _ _ h => h) (Or.inl ⟨by rfl, ?_⟩) (by assumption) ?_
        rotate_left
        · (intro Y hSw; (try dsimp only at hSw); obtain hS0 := hSw; go_simp; try with_reducible rfl)
        try simp only [Act.put, List.getElem_toArray, List.getElem_cons_zero, List.getElem_cons_succ, List.setIfInBounds_toArray, List.set_cons_zero, List.set_cons_succ]
        refine wpAnyH_ready (rs := [4]) (by kernel_rfl) (by simp) ?_
        refine AllReadyH.cons rfl (fun K hK => ?_) AllReadyH.nil
        rw [if_pos (by rfl)]
        refine wp_store32 _ _ rfl (w.heap.size + 2) cs' rfl rfl hO5 rfl hV1.size hV1.one ?_
        refine hK.out _ _ ((hN5.setRowO cs' (by omega))) (fun hHeld => ?_)
        clear hK K
        try simp only [Act.put, List.getElem_toArray, List.getElem_cons_zero, List.getElem_cons_succ, List.setIfInBounds_toArray, List.set_cons_zero, List.set_cons_succ]
        refine wpAnyH_take (i := 5) (v := ?_) rfl (by kernel_rfl) (by kernel_rfl) (by kernel_rfl) (fun _ _ _ h => h) (Or.inl ⟨by rfl, ?_⟩) (by assumption) ?_
        rotate_left
        · (intro Y hSw; (try dsimp only at hSw); obtain hS0 := hSw; go_simp; try with_reducible rfl)
        try simp only [Act.put, List.getElem_toArray, List.getElem_cons_zero, List.getElem_cons_succ, List.setIfInBounds_toArray, List.set_cons_zero, List.set_cons_succ]
        refine wpAnyH_done (by kernel_rfl) ?_ _
        go_wp2_with fail
        have hO6 : Blk wr.drew _ _ _ := hO5
        have p6 := p5.step (Below.refl _ wr).drew
        have hV6 := (hV5.below (Below.refl _ wr).drew (by omega)).mono (B' := wr.drew.heap.size) (show w1.heap.size ≤ wr.heap.size by omega)
        have hC6 := hC5.trans (Chg.of_below (Below.refl _ wr).drew)
        refine ret_mc rfl (w.heap.size + 2) rfl (hO6.setRow cs') hV1.size rfl ?_
        have hNz : NoInt _ (w.heap.size + 2) := NoInt.of hO6 (RefV.zero 0 w).slices
        have kc := (Chg.refl (w.heap.size + 2) _).setRow (X := wr.drew) cs'
        exact ⟨s, cs', rfl, p6.turnedN hNz (by omega) kc, by rw [setRow_size]; exact (hV6.turnedN hNz kc), hC6.setRowO cs' (by omega), .inl rfl⟩
end Go.Proofs.Ytkilmppmghkigaa
