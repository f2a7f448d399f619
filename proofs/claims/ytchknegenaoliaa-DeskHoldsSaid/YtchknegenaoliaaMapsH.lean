/-
  Groundwork: a map whose keys are structs, of the call's own, that tells a number (0 where nothing stands). No condition.
-/
import Derived.Test.YtchknegenaoliaaMaps
import Derived.DeepKeys4
import Derived.WideKeyMaps
namespace Go.Proofs.Ytchknegenaoliaa
open Go.RowKit Go.MapKept
variable {P : Program} {κ : Type} {enc : κ → Value} {wf : κ → Prop}

/-- How a key lies in memory. -/
structure KeyE (P : Program) (kt : TypeId) (enc : κ → Value) (wf : κ → Prop) : Prop where
  law : WideMaps.KeyLaw P kt
  key : ∀ k, wf k → ∃ l, keyOf P kt (enc k) = some l
  inj : ∀ k j, enc k = enc j → k = j
/-- Block b is a map that tells f. -/
def MapF (enc : κ → Value) (wf : κ → Prop) (W : World) (b : Nat) (f : κ → Int) : Prop :=
  ∃ es clock, W.heap[b]? = some (.map es clock) ∧ Stamped es clock ∧ (∀ e ∈ es.toList, ∃ k, wf k ∧ e.key = enc k ∧ e.val = .int .i64 (f k)) ∧ (∀ k, wf k → f k ≠ 0 → ∃ e ∈ es.toList, e.key = enc k)
theorem MapF.lt {W : World} {b : Nat} {f : κ → Int} (h : MapF enc wf W b f) : b < W.heap.size := by
  obtain ⟨es, clock, hb, _⟩ := h
  exact (Array.getElem?_eq_some_iff.1 hb).1
theorem MapF.of_block {W W' : World} {b : Nat} {f : κ → Int} (h : MapF enc wf W b f) (hb : W'.heap[b]? = W.heap[b]?) : MapF enc wf W' b f := by
  obtain ⟨es, clock, h1, h2⟩ := h
  exact ⟨es, clock, hb.trans h1, h2⟩
theorem MapF.below {W W' : World} {b n : Nat} {f : κ → Int} (h : MapF enc wf W b f) (hb : Below n W W') (hn : b < n) : MapF enc wf W' b f := h.of_block (hb.block b hn)
theorem MapF.new (W : World) : MapF enc wf (W.alloc (.map #[] 0)) W.heap.size (fun _ => 0) := ⟨#[], 0, World.alloc_heap_new W _, stamped_empty 0, fun e he => absurd he (by simp), fun _ _ h => absurd rfl h⟩
theorem MapF.lookup {kt : TypeId} (K : KeyE P kt enc wf) {W : World} {b : Nat} {f : κ → Int} (h : MapF enc wf W b f) {t et : TypeId} (ht : P.underlying t = some (.map kt et)) (hz : (zeroValue et).run P W = .ok (.int .i64 0) W) (k : κ) (hk : wf k) :
    (Instr.lookup t (.map (some b)) (enc k) false).run P W = .ok (.int .i64 (f k)) W := by
  obtain ⟨es, clock, hb, hs, hv, hf⟩ := h
  obtain ⟨l, hl⟩ := K.key k hk
  have hc := K.law.check W
  have hall : ∀ e ∈ es.toList, ∃ l, keyOf P kt e.key = some l := fun e he => by
    obtain ⟨j, hj, e1, _⟩ := hv e he
    rw [e1]; exact K.key j hj
  rcases K.law.find W hl es.toList hall with ⟨h1, h2⟩ | ⟨j, e, h1, h2, h3⟩
  · have h0 : f k = 0 := by
      by_cases h0 : f k = 0
      · exact h0
      · obtain ⟨e, he, e1⟩ := hf k hk h0
        exact absurd e1 (h2 e he)
    rw [h0]
    simp [Instr.lookup, run_underlying ht, MapKept.run_getObj_map hb, hc _ hl, h1, hz]
  · obtain ⟨i, hi, e1, e2⟩ := hv e (List.mem_of_getElem? h2)
    have : i = k := K.inj _ _ (e1.symm.trans h3)
    subst this
    simp [Instr.lookup, run_underlying ht, MapKept.run_getObj_map hb, hc _ hl, h1, e2]
theorem MapF.store {kt : TypeId} (K : KeyE P kt enc wf) {W : World} {b : Nat} {f : κ → Int} (h : MapF enc wf W b f) {t et : TypeId} (ht : P.underlying t = some (.map kt et)) (k : κ) (hk : wf k) (v : Int) (g : κ → Int) (hg : g k = v) (hgo : ∀ j, j ≠ k → g j = f j) :
    ∃ W', (Instr.mapUpdate t (.map (some b)) (enc k) (.int .i64 v)).run P W = .ok () W' ∧ MapF enc wf W' b g ∧ Turn b W W' := by
  obtain ⟨es, clock, hb, hs, hv, hf⟩ := h
  obtain ⟨l, hl⟩ := K.key k hk
  have hc := K.law.check W
  have hall : ∀ e ∈ es.toList, ∃ l, keyOf P kt e.key = some l := fun e he => by
    obtain ⟨j, hj, e1, _⟩ := hv e he
    rw [e1]; exact K.key j hj
  rcases K.law.find W hl es.toList hall with ⟨h1, h2⟩ | ⟨j, e, h1, h2, h3⟩
  · refine ⟨_, by simp [Instr.mapUpdate, run_underlying ht, MapKept.run_getObj_map hb, hc _ hl, h1, MapKept.run_setObj_map _ hb], ⟨es.push { key := enc k, val := .int .i64 v, born := clock }, clock + 1, (heap_set hb).1, stamped_push hs h2, ?_, ?_⟩, turn_set _ _ _⟩
    · intro x hx
      rw [Array.toList_push] at hx
      rcases List.mem_append.1 hx with hx | hx
      · obtain ⟨i, hi, e1, e2⟩ := hv x hx
        refine ⟨i, hi, e1, ?_⟩
        rw [hgo i (fun e9 => h2 x hx (by rw [e1, e9]))]
        exact e2
      · rw [List.mem_singleton.1 hx]
        exact ⟨k, hk, rfl, by rw [hg]⟩
    · intro i hi h0
      rw [Array.toList_push]
      by_cases e9 : i = k
      · subst e9
        exact ⟨_, List.mem_append_right _ (List.mem_singleton.2 rfl), rfl⟩
      · rw [hgo i e9] at h0
        obtain ⟨x, hx, e1⟩ := hf i hi h0
        exact ⟨x, List.mem_append_left _ hx, e1⟩
  · have hel : es[j]? = some e := by rw [← Array.getElem?_toList]; exact h2
    have hst : (Instr.keyThatStays (enc k) (enc k)).run P W = .ok (enc k) W := K.law.stays W hl
    have hok : ((es[j]?).map (·.key)).getD (enc k) = enc k := by simp [hel, h3]
    have hmod : ∀ x ∈ (es.modify j fun e => { e with key := enc k, val := .int .i64 v }).toList, (x ∈ es.toList ∧ x.key ≠ enc k) ∨ (x.key = enc k ∧ x.val = .int .i64 v) := by
      intro x hx
      rw [Array.toList_modify] at hx
      obtain ⟨i, hi⟩ := List.getElem?_of_mem hx
      rw [List.getElem?_modify] at hi
      cases hei : es.toList[i]? with
      | none => rw [hei] at hi; simp at hi
      | some ei =>
        rw [hei] at hi
        simp only [Option.map_eq_map, Option.map_some, Option.some.injEq] at hi
        by_cases hij : j = i
        · rw [if_pos hij] at hi
          right
          rw [← hi]
          exact ⟨rfl, rfl⟩
        · rw [if_neg hij] at hi
          left
          rw [← hi]
          refine ⟨List.mem_of_getElem? hei, ?_⟩
          have hp := List.pairwise_map.1 hs.2.2
          intro e9
          have hne : ei.key ≠ e.key := by
            rcases Nat.lt_or_ge i j with hlt | hge
            · have hi1 := (List.getElem?_eq_some_iff.1 hei)
              have hj1 := (List.getElem?_eq_some_iff.1 h2)
              obtain ⟨a1, a2⟩ := hi1
              obtain ⟨b1, b2⟩ := hj1
              have := List.pairwise_iff_getElem.1 hp i j a1 b1 hlt
              rw [a2, b2] at this
              exact this
            · have hi1 := (List.getElem?_eq_some_iff.1 hei)
              have hj1 := (List.getElem?_eq_some_iff.1 h2)
              obtain ⟨a1, a2⟩ := hi1
              obtain ⟨b1, b2⟩ := hj1
              have := List.pairwise_iff_getElem.1 hp j i b1 a1 (by omega)
              rw [a2, b2] at this
              exact fun e8 => this e8.symm
          exact hne (e9.trans h3.symm)
    refine ⟨_, by simp [Instr.mapUpdate, run_underlying ht, MapKept.run_getObj_map hb, hc _ hl, h1, hel, h3, hst, MapKept.run_setObj_map _ hb], ⟨es.modify j fun e => { e with key := enc k, val := .int .i64 v }, clock, (heap_set hb).1, stamped_modify hs j _ (fun _ _ => rfl) ?_, ?_, ?_⟩, turn_set _ _ _⟩
    · intro e' _ he'
      rw [hel] at he'; cases he'
      exact h3.symm
    · intro x hx
      rcases hmod x hx with ⟨hx1, hx2⟩ | ⟨hx1, hx2⟩
      · obtain ⟨i, hi, e1, e2⟩ := hv x hx1
        refine ⟨i, hi, e1, ?_⟩
        rw [hgo i (fun e9 => hx2 (by rw [e1, e9]))]
        exact e2
      · exact ⟨k, hk, hx1, by rw [hx2, hg]⟩
    · intro i hi h0
      have hkeys : ∀ y ∈ es.toList, ∃ x ∈ (es.modify j fun e => { e with key := enc k, val := .int .i64 v }).toList, x.key = y.key := by
        intro y hy
        obtain ⟨q, hq⟩ := List.getElem?_of_mem hy
        by_cases hij : j = q
        · subst hij
          refine ⟨{ y with key := enc k, val := .int .i64 v }, ?_, ?_⟩
          · rw [Array.toList_modify]
            refine List.mem_of_getElem? (i := j) ?_
            rw [List.getElem?_modify, hq]; simp
          · rw [h2] at hq
            cases hq
            exact h3.symm
        · refine ⟨y, ?_, rfl⟩
          rw [Array.toList_modify]
          refine List.mem_of_getElem? (i := q) ?_
          rw [List.getElem?_modify, hq]; simp [hij]
      by_cases e9 : i = k
      · subst e9
        obtain ⟨x, hx, e1⟩ := hkeys e (List.mem_of_getElem? h2)
        exact ⟨x, hx, e1.trans h3⟩
      · rw [hgo i e9] at h0
        obtain ⟨y, hy, e1⟩ := hf i hi h0
        obtain ⟨x, hx, e2⟩ := hkeys y hy
        exact ⟨x, hx, e2.trans e1⟩
end Go.Proofs.Ytchknegenaoliaa
