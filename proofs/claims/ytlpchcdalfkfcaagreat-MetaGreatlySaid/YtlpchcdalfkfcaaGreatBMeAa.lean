/-
  Chapter 15, plain: books that are open: which bytes are reached. No condition.
-/
import Derived.Test.YtlpchcdalfkfcaaGreatBMeV
import Derived.Test.YtlpchcdalfkfcaaGreatBMeO
import Derived.Test.YtlpchcdalfkfcaaGreatBMeBe
namespace Go.Proofs.YtlpchcdalfkfcaaGreat
set_option maxHeartbeats 1000000
set_option maxRecDepth 4000

theorem isSt_iff {x : Int} : isSt x = true ↔ 0 ≤ x ∧ x ≤ 4 := by unfold isSt; simp
theorem bkO_v {t : Int} (h : 0 ≤ t ∧ t < 4) : bkO t = 64 * t + 1 := by unfold bkO slotI; rw [if_pos (decide_eq_true h)]
theorem inB3 {t : Int} (h : 0 ≤ t ∧ t < 4) : inB 3 t = true := inB_iff.2 (by omega)
theorem mapdB_of {s : Ms} {t : Int} (h : 0 ≤ t ∧ t < 4) (hf : ∀ q, 64 * t + 1 ≤ q → q < 64 * t + 49 → hasR s.D q = false) : mapdB s t = false := by
  unfold mapdB
  rw [List.any_eq_false]
  intro x hx
  obtain ⟨i, hi, rfl⟩ := List.mem_map.1 hx
  have hi' := List.mem_range.1 hi
  rw [if_pos hi', hf _ (by rw [bkO_v h]; omega) (by rw [bkO_v h]; omega)]
  decide
theorem opn_ok {s : Ms} (h : MGd s) {t n : Int} (ht : 0 ≤ t ∧ t < 4) (hn : 0 ≤ n ∧ n ≤ 63) (hf : ∀ q, 64 * t + 1 ≤ q → q < 64 * t + 49 → hasR s.D q = false) (hl : 48 ≤ leftI s n) :
    opnE s t n = 0 ∧ OpSp s (opnF s t n) (64 * t + 1) (-1) 0 48 ∧ ∀ q, leftI (opnF s t n) q = leftI s q - (if n = q then 48 else 0) := by
  have e0 : opnE s t n = 0 := by
    unfold opnE
    rw [if_neg (by rw [inB3 ht]; decide), if_neg (by rw [inB_iff.2 (show 0 ≤ n ∧ n ≤ 63 from hn)]; decide), if_neg (by rw [mapdB_of ht hf]; decide), if_neg (by omega)]
  have hp : badOwner n = false := decide_eq_false (by omega)
  obtain ⟨h1, h2, _⟩ := maps_ok h (b := 64 * t + 1) (o := -1) (p := n) (m := 0) 48 hp (by omega) ⟨by omega, by omega⟩ (fun i hi => hf _ (by omega) (by omega)) (by omega) (by omega) 48 (Nat.le_refl _)
  have e1 : opnF s t n = mapsJ s (64 * t + 1) (-1) n 0 48 := by unfold opnF; rw [if_pos e0, bkO_v ht]
  rw [e1]
  exact ⟨e0, h1, fun q => by rw [h2 q]; split <;> simp⟩
/-- A book that is open. -/
structure BkP (s : Ms) (t : Int) : Prop where
  t4 : 0 ≤ t ∧ t < 4
  has : ∀ q, 64 * t + 1 ≤ q → q < 64 * t + 49 → hasR s.D q = true
  own : ∀ q, 64 * t + 1 ≤ q → q < 64 * t + 49 → (getE s.D q).o = -1
theorem BkP.of {s s' : Ms} {t : Int} (ht : 0 ≤ t ∧ t < 4) (h : OpSp s s' (64 * t + 1) (-1) 0 48) : BkP s' t :=
  ⟨ht, fun q h1 h2 => by rw [h.has, decide_eq_true (by omega)]; rfl, fun q h1 h2 => (h.own q h1 (by omega)).1⟩
theorem BkP.keep {s s' : Ms} {t t' : Int} (h' : BkP s t') (h : OpSp s s' (64 * t + 1) (-1) 0 48) (hne : t ≠ t') : BkP s' t' :=
  ⟨h'.t4, fun q h1 h2 => by rw [h.has, h'.has q h1 h2, Bool.or_true], fun q h1 h2 => by rw [h.get q (by omega)]; exact h'.own q h1 h2⟩
theorem BkP.d {s s' : Ms} {t : Int} (h : BkP s t) (e : s'.D = s.D) : BkP s' t := ⟨h.t4, by rw [e]; exact h.has, by rw [e]; exact h.own⟩
theorem BkP.op {s : Ms} {t : Int} (h : BkP s t) : opB s t = true := by
  unfold opB
  have := h.t4
  rw [bkO_v h.t4, h.has _ (by omega) (by omega), h.own _ (by omega) (by omega)]
  decide
theorem BkP.reach {s : Ms} {t : Int} (h : BkP s t) {a n m : Int} (h0 : 256 * (64 * t + 1) ≤ a) (h1 : a + n ≤ 256 * (64 * t + 49)) (hn : 1 ≤ n) : rchE s.D (-2) a n m = 0 := by
  have := h.t4
  refine (rchE_zero (by omega)).2 ⟨by omega, by decide, by omega, fun x h2 h3 => ?_⟩
  unfold rchB
  rw [h.has _ (by omega) (by omega)]
  rfl
theorem BkP.rd {s : Ms} {t : Int} (h : BkP s t) (hg : MGd s) {a n : Int} (h0 : 256 * (64 * t + 1) ≤ a) (h1 : a + n ≤ 256 * (64 * t + 49)) (hn : 1 ≤ n) : rdA s (-2) a n = (List.range n.toNat).map fun (i : Nat) => byF s.D s.F (a + i) := by
  have := h.t4
  rw [hg.rd (-2) a n (by omega), if_pos (h.reach h0 h1 hn)]
theorem BkP.wr {s : Ms} {t : Int} (h : BkP s t) (hg : MGd s) {a : Int} {bs : List Int} (h0 : 256 * (64 * t + 1) ≤ a) (h1 : a + bs.length ≤ 256 * (64 * t + 49)) (hn : 1 ≤ bs.length) : MGd (wrS s (-2) a bs) ∧ WrtSp s (wrS s (-2) a bs) a bs := by
  have := h.t4
  obtain ⟨g, _, q⟩ := hg.wr (-2) a bs (by omega)
  exact ⟨g, q (h.reach h0 h1 (by omega))⟩
/-- What was written is read. -/
theorem BkP.wrrd {s : Ms} {t : Int} (h : BkP s t) (hg : MGd s) {a : Int} {bs : List Int} (h0 : 256 * (64 * t + 1) ≤ a) (h1 : a + bs.length ≤ 256 * (64 * t + 49)) (hn : 1 ≤ bs.length) : rdA (wrS s (-2) a bs) (-2) a bs.length = bs := by
  obtain ⟨g, w⟩ := h.wr hg h0 h1 hn
  rw [(h.d w.d.1).rd g h0 h1 (by omega)]
  refine List.ext_getElem? fun i => ?_
  rw [List.getElem?_map]
  by_cases hi : i < bs.length
  · rw [List.getElem?_range (by omega), Option.map_some, w.at_ _ (h.has _ (by omega) (by omega)), if_pos (by omega), List.getElem?_eq_getElem hi, show ((a + (i : Int)) - a).toNat = i by omega, List.getD_eq_getElem?_getD, List.getElem?_eq_getElem hi]
    rfl
  · rw [List.getElem?_eq_none (by simp; omega), List.getElem?_eq_none (by omega)]
    rfl
/-- What stands elsewhere is read as before. -/
theorem BkP.wrother {s : Ms} {t : Int} (h : BkP s t) (hg : MGd s) {a : Int} {bs : List Int} {t' : Int} (h' : BkP s t') {a' n : Int} (h0 : 256 * (64 * t + 1) ≤ a) (h1 : a + bs.length ≤ 256 * (64 * t + 49)) (hn : 1 ≤ bs.length)
    (h0' : 256 * (64 * t' + 1) ≤ a') (h1' : a' + n ≤ 256 * (64 * t' + 49)) (hn' : 1 ≤ n) (hd : a + bs.length ≤ a' ∨ a' + n ≤ a) : rdA (wrS s (-2) a bs) (-2) a' n = rdA s (-2) a' n := by
  obtain ⟨g, w⟩ := h.wr hg h0 h1 hn
  have := h.t4
  have := h'.t4
  rw [(h'.d w.d.1).rd g h0' h1' hn', h'.rd hg h0' h1' hn']
  refine List.map_congr_left fun i hi => ?_
  have hi' := List.mem_range.1 hi
  rw [w.at_ _ (h'.has _ (by omega) (by omega)), if_neg (by omega)]
/-- The memory that the law makes. -/
def memS : Ms := ⟨100, [], [(63, 100)], []⟩
theorem memS_left : leftI memS 63 = 100 := by decide
theorem memS_has (q : Int) : hasR memS.D q = false := rfl
/-- Where a spot's record stands. -/
def spA (t c i : Int) : Int := 256 * (64 * t + 1) + (768 * c + 8 * i)
/-- Where a great record stands. -/
def grA (t i : Int) : Int := 256 * (64 * t + 1) + (6144 + 16 * i)
theorem cnt_96 {c : Int} (h : 0 ≤ c ∧ c < 8) : 14 ≤ cntIM c ∧ cntIM c ≤ 85 := by
  rcases cls8 h.1 h.2 with rfl | rfl | rfl | rfl | rfl | rfl | rfl | rfl <;> decide
theorem spA_bd {t c i : Int} (h : spE t c i = 0) : 256 * (64 * t + 1) ≤ spA t c i ∧ spA t c i + 8 ≤ 256 * (64 * t + 1) + 6144 := by
  obtain ⟨⟨h1, h2⟩, h3⟩ := spE_zero.1 h
  have := cnt_96 h2
  unfold spA
  omega
theorem grA_bd {t i : Int} (h : 0 ≤ i ∧ i ≤ 383) : 256 * (64 * t + 1) + 6144 ≤ grA t i ∧ grA t i + 16 ≤ 256 * (64 * t + 49) := by unfold grA; omega
theorem spA_disj {t c i t' c' i' : Int} (h : spE t c i = 0) (h' : spE t' c' i' = 0) (hne : ¬ (t = t' ∧ c = c' ∧ i = i')) : spA t c i + 8 ≤ spA t' c' i' ∨ spA t' c' i' + 8 ≤ spA t c i := by
  obtain ⟨⟨h1, h2⟩, h3⟩ := spE_zero.1 h
  obtain ⟨⟨h1', h2'⟩, h3'⟩ := spE_zero.1 h'
  have := cnt_96 h2
  have := cnt_96 h2'
  unfold spA
  rcases Int.lt_trichotomy t t' with ht | ht | ht
  · left; omega
  · subst ht
    rcases Int.lt_trichotomy c c' with hc | hc | hc
    · left; omega
    · subst hc
      rcases Int.lt_trichotomy i i' with hi | hi | hi
      · left; omega
      · exact absurd ⟨rfl, rfl, hi⟩ hne
      · right; omega
    · right; omega
  · right; omega
theorem grA_disj {t i t' i' : Int} (h : 0 ≤ i ∧ i ≤ 383) (h' : 0 ≤ i' ∧ i' ≤ 383) (hne : ¬ (t = t' ∧ i = i')) : grA t i + 16 ≤ grA t' i' ∨ grA t' i' + 16 ≤ grA t i := by
  unfold grA
  rcases Int.lt_trichotomy t t' with ht | ht | ht
  · left; omega
  · subst ht
    rcases Int.lt_trichotomy i i' with hi | hi | hi
    · left; omega
    · exact absurd ⟨rfl, hi⟩ hne
    · right; omega
  · right; omega
theorem spE_in {t c i : Int} (h : spE t c i = 0) : inB 3 t = true ∧ inB 7 c = true ∧ inB (cntO c - 1) i = true ∧ bkO t * 256 + placeI c i = spA t c i := by
  obtain ⟨⟨h1, h2⟩, h3⟩ := spE_zero.1 h
  have := cnt_96 h2
  have hc : inC c = true := inC_iff.2 h2
  have h7 : inB 7 c = true := inB_iff.2 (by omega)
  refine ⟨inB_iff.2 (by omega), h7, inB_iff.2 ?_, ?_⟩
  · unfold cntO; rw [if_pos hc]; omega
  · rw [bkO_v h1]
    unfold placeI spA
    rw [if_pos ⟨h7, inB_iff.2 (by omega)⟩]
    omega
theorem far_in {t i : Int} (ht : 0 ≤ t ∧ t < 4) (h : 0 ≤ i ∧ i ≤ 383) : bkO t * 256 + (6144 + 16 * min (max 0 i) 384) = grA t i := by
  rw [bkO_v ht]
  unfold grA
  omega
end Go.Proofs.YtlpchcdalfkfcaaGreat

/-
  Package meta: GetGreat. Conditions: a memory's books in order.
-/
namespace Go.Proofs.YtlpchcdalfkfcaaGreat
open Go.RowKit Go.ChangeShapes
attribute [local go_sem] Oper.semAt_some
set_option maxHeartbeats 8000000
set_option maxRecDepth 8000

variable {w0 w : World} {k : Mb} {s : Ms}
theorem grtV_shape (L : List Int) : ∃ x y z u, grtV L = .agg #[.int .i64 x, .int .i64 y, .int .i64 z, .int .i64 u] := by
  unfold grtV
  split
  · exact ⟨_, _, _, _, rfl⟩
  · exact ⟨_, _, _, _, rfl⟩
theorem mGetG_gen (h : LivM w0 w k s) (t i x y z u n : Int)
    (hget : ∀ Y g lb pi, LivM w0 Y k s → Blk Y g parG 178 → CellsAt Y lb (askListP (grtAsks pi i)) → AnswersP Y (grtAsks pi i) →
      Calls Tryz.prog 54 #[.agg #[.pointer (some ⟨k.b, 0, none⟩), .int .i64 t], .agg #[.slice (some ⟨g, 0, none⟩) 6 6, .func (.func 122) #[] #[]], .int .i64 (farI i), .int .i64 16, .slice (some ⟨lb, 0, none⟩) 1 1] Y
        fun e w' => e = .returned (.tuple #[.agg #[.int .i64 x, .int .i64 y, .int .i64 z, .int .i64 u], .int .i64 n]) ∧ Below Y.heap.size Y w') :
    Calls Tryz.prog 19 #[.pointer (some ⟨k.b, 0, none⟩), .int .i64 t, .int .i64 i] w
      fun e w' => e = .returned (.tuple #[.agg #[.int .i64 x, .int .i64 y, .int .i64 z, .int .i64 u], .int .i64 n]) ∧ Below w.heap.size w w' := by
  obtain ⟨Y, hY⟩ : ∃ Y, w.alloc (.cells #[.int .i64 0, .int .i64 0, .int .i64 0, .int .i64 0] 54) = Y := ⟨_, rfl⟩
  have hR : Blk Y w.heap.size #[.int .i64 0, .int .i64 0, .int .i64 0, .int .i64 0] 54 := by rw [← hY]; exact Blk.new w _ _
  have kY : Below w.heap.size w Y := by rw [← hY]; exact (Below.refl _ w).alloc (Nat.le_refl _) _
  replace h := h.step kY
  have HG := Lib.hid hget
  clear hget
  go_enter Tryz.func19, Tryz.ntmps19
  go_wp2_with fail
  clear hY
  obtain ⟨b5, hb5⟩ : ∃ b, w.heap.size = b := ⟨_, rfl⟩
  rw [hb5] at hR ⊢
  have hb5' : w.heap.size ≤ b5 := by omega
  clear hb5
  refine (greats_calls _).mono ?_; rintro e Z ⟨g, rfl, hG, j⟩
  replace h := h.step j; replace hR := hR.below j hR.lt
  (try replace hG := hG.below j hG.lt); (try replace hI := hI.below j hI.lt)
  replace kY := kY.trans (j.mono kY.size); clear j
  go_wp2_with fail
  refine (far_calls i _).mono ?_; rintro e _ ⟨rfl, rfl⟩
  go_wp2_with fail
  refine (greatly_calls i _).mono ?_; rintro e Z2 ⟨pi, rfl, hI, j⟩
  replace h := h.step j; replace hR := hR.below j hR.lt
  (try replace hG := hG.below j hG.lt); (try replace hI := hI.below j hI.lt)
  replace kY := kY.trans (j.mono kY.size); clear j
  go_wp2_with fail
  obtain ⟨gl, hgl⟩ : ∃ g, Z2.heap.size = g := ⟨_, rfl⟩
  obtain ⟨Z3, hZ⟩ : ∃ Z, Z2.alloc (.cells (askListP (grtAsks pi i)).toArray 70) = Z := ⟨_, rfl⟩
  have j : Below Z2.heap.size Z2 Z3 := by rw [← hZ]; exact (Below.refl _ Z2).alloc (Nat.le_refl _) _
  have hL : CellsAt Z3 gl (askListP (grtAsks pi i)) := by rw [← hZ, ← hgl]; exact CellsAt.of (Blk.new Z2 _ _)
  rw [show Z2.alloc (.cells #[.func (.func 123) #[] #[.pointer (some ⟨pi, 0, none⟩)], .int .i64 4] 70) = Z3 from hZ, hgl]
  clear hZ hgl
  replace h := h.step j; replace hR := hR.below j hR.lt
  (try replace hG := hG.below j hG.lt); (try replace hI := hI.below j hI.lt)
  replace kY := kY.trans (j.mono kY.size); clear j
  have hans := grt_answers hI
  refine (HG.out Z3 g gl pi h hG hL hans).mono ?_; rintro e Z4 ⟨rfl, j⟩
  clear hL hans
  replace h := h.step j; replace hR := hR.below j hR.lt
  (try replace hG := hG.below j hG.lt); (try replace hI := hI.below j hI.lt)
  replace kY := kY.trans (j.mono kY.size); clear j
  have r0 := hR.cell 0 (v := .int .i64 0) rfl
  have r1 := hR.cell 1 (v := .int .i64 0) rfl
  have r2 := hR.cell 2 (v := .int .i64 0) rfl
  have r3 := hR.cell 3 (v := .int .i64 0) rfl
  have f0 := hR.frozen 0
  have f1 := hR.frozen 1
  have f2 := hR.frozen 2
  have f3 := hR.frozen 3
  have zl := hR.lt
  go_wp2_with fail
  exact ret_g2 Tryz.results19 b5 (by rfl) (hR.set4G (.int .i64 x) (.int .i64 y) (.int .i64 z) (.int .i64 u)) rfl rfl ⟨rfl, (((kY.setCell hb5' _).setCell hb5' _).setCell hb5' _).setCell hb5' _⟩
theorem getG_eq (pi : Nat) (s : Ms) (t i : Int) : gtE s t (grtAsks pi i) = getG s t i := by
  unfold gtE getG grtAsks
  cases inB 3 t <;> cases inB 383 i <;> cases opB s t <;> simp [firstErrP]
theorem getG_zero {s : Ms} {t i : Int} (h : 0 ≤ i ∧ i ≤ 383) (hb : BkP s t) : getG s t i = 0 := by
  unfold getG
  rw [if_neg (by rw [inB3 hb.t4]; decide), if_neg (by rw [inB_iff.2 h]; decide), if_neg (by rw [hb.op]; decide)]
theorem mGetG_no (h : LivM w0 w k s) (t i : Int) (hE : getG s t i ≠ 0) : Calls Tryz.prog 19 #[.pointer (some ⟨k.b, 0, none⟩), .int .i64 t, .int .i64 i] w
      fun e w' => e = .returned (.tuple #[.agg #[.int .i64 0, .int .i64 0, .int .i64 0, .int .i64 0], .int .i64 (getG s t i)]) ∧ Below w.heap.size w w' := by
  refine mGetG_gen h t i 0 0 0 0 _ fun Y g lb pi hl hg hc ha => ?_
  have := mgetG_no hl t (farI i) 16 g lb (grtAsks pi i) (by simp [grtAsks]) (by simp [grtAsks]) hc ha (by rw [getG_eq]; exact hE)
  rw [getG_eq] at this
  exact this
theorem mGetG_yes (h : LivM w0 w k s) {t i : Int} (hi : 0 ≤ i ∧ i ≤ 383) (hb : BkP s t) (L : List Int) (hL : rdA s (-2) (grA t i) 16 = L) (h16 : L.length = 16) (h256 : ∀ x ∈ L, 0 ≤ x ∧ x < 256) : Calls Tryz.prog 19 #[.pointer (some ⟨k.b, 0, none⟩), .int .i64 t, .int .i64 i] w
      fun e w' => e = .returned (.tuple #[grtV L, .int .i64 (grtN L)]) ∧ Below w.heap.size w w' := by
  obtain ⟨x, y, z, u, hv⟩ := grtV_shape L
  obtain ⟨b1, b2⟩ := grA_bd (t := t) hi
  have ht := hb.t4
  have he : bkO t * 256 + farI i = grA t i := far_in ht hi
  have hp := far_bd i
  rw [hv]
  refine mGetG_gen h t i x y z u _ fun Y g lb pi hl hg hc ha => ?_
  have := mgetG_yes hl t (farI i) (by omega) (by omega) g lb hg (grtAsks pi i) (by simp [grtAsks]) (by simp [grtAsks]) hc ha (by rw [getG_eq]; exact getG_zero hi hb) L ⟨by rw [he]; exact hb.reach (by omega) (by omega) (by decide), by rw [he]; exact hL, h16, h256⟩
  rw [hv] at this
  exact this
end Go.Proofs.YtlpchcdalfkfcaaGreat
