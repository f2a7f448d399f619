/-
 Chapter 15, plain: two books, what is put into them. No condition.
-/
import Derived.Test.YtlpchcdalfkfcaaGreatBMeAd
import Derived.Test.YtlpchcdalfkfcaaGreatBMeBp
import Derived.Test.YtlpchcdalfkfcaaGreatBMeBe
import Derived.Test.YtlpchcdalfkfcaaGreatBMeAa
namespace Go.Proofs.YtlpchcdalfkfcaaGreat
set_option maxHeartbeats 1000000
set_option maxRecDepth 4000

theorem putX_zero {s : Ms} {t c i : Int} {rg : Bool} (h : putX s t c i rg = 0) : spE t c i = 0 ∧ rg = true := by
 unfold putX at h
 cases h1 : inB 3 t
 ·rw [h1] at h; simp at h
 cases h2 : rg
 ·rw [h2] at h; simp at h
 cases h3 : inB 7 c
 ·rw [h1, h2, h3] at h; simp at h
 cases h4 : inB (cntO c - 1) i
 ·rw [h1, h2, h3, h4] at h; simp at h
 have e1 := inB_iff.1 h1
 have e3 := inB_iff.1 h3
 have e4 := inB_iff.1 h4
 unfold cntO at e4
 rw [if_pos (inC_iff.2 (by omega))] at e4
 exact ⟨spE_zero.2 ⟨⟨by omega, by omega⟩, by omega⟩, rfl⟩
theorem two_open {ta tb : Int} (ha : 0 ≤ ta ∧ ta < 4) (hb : 0 ≤ tb ∧ tb < 4) (hne : ta ≠ tb) :
  opnE memS ta 63 = 0 ∧ opnE (opnF memS ta 63) tb 63 = 0 ∧ BkP (opnF (opnF memS ta 63) tb 63) ta ∧ BkP (opnF (opnF memS ta 63) tb 63) tb ∧ MGd (opnF (opnF memS ta 63) tb 63) ∧
  ∀ a, 256 * (64 * ta + 1) ≤ a → a < 256 * (64 * ta + 49) → byF (opnF (opnF memS ta 63) tb 63).D (opnF (opnF memS ta 63) tb 63).F a = 0 := by
 have g0 : MGd memS := (MGd.new 100 (by decide) (by decide)).res 63 100
 obtain ⟨e1, s1, l1⟩ := opn_ok g0 ha (n := 63) (by decide) (fun q _ _ => memS_has q) (by rw [memS_left]; decide)
 have hl : leftI (opnF memS ta 63) 63 = 52 := by rw [l1, memS_left]; decide
 obtain ⟨e2, s2, l2⟩ := opn_ok s1.gd hb (n := 63) (by decide) (fun q h1 h2 => by rw [s1.has, decide_eq_false (by omega), memS_has]; rfl) (by rw [hl]; decide)
 have b1 := BkP.of ha s1
 refine ⟨e1, e2, b1.keep s2 (fun e => hne e.symm), BkP.of hb s2, s2.gd, fun a h0 h1 => ?_⟩
 rw [s2.same a (b1.has _ (by omega) (by omega))]
 exact s1.zero a (by omega) (by omega)
/-- What the statement keeps. -/
structure Hd (s : Ms) (ta ca ia tb cb ib : Int) (ra rb : List Int) : Prop where
 gd : MGd s
 a : BkP s ta
 b : BkP s tb
 f1 : rdA s (-2) (spA ta ca ia) 8 = ra
 f2 : rdA s (-2) (spA tb cb ib) 8 = rb
 f3 : rdA s (-2) (grA ta 383) 16 = List.replicate 16 0
theorem Hd.wr {s : Ms} {ta ca ia tb cb ib : Int} {ra rb : List Int} (h : Hd s ta ca ia tb cb ib ra rb) (ha : spE ta ca ia = 0) (hb : spE tb cb ib = 0) {t : Int} (ht : BkP s t) {a : Int} {bs : List Int} (h0 : 256 * (64 * t + 1) ≤ a) (h1 : a + bs.length ≤ 256 * (64 * t + 49)) (hn : 1 ≤ bs.length)
  (d1 : a + bs.length ≤ spA ta ca ia ∨ spA ta ca ia + 8 ≤ a) (d2 : a + bs.length ≤ spA tb cb ib ∨ spA tb cb ib + 8 ≤ a) (d3 : a + bs.length ≤ grA ta 383 ∨ grA ta 383 + 16 ≤ a) : Hd (wrS s (-2) a bs) ta ca ia tb cb ib ra rb := by
 obtain ⟨g, w⟩ := ht.wr h.gd h0 h1 hn
 obtain ⟨p1, p2⟩ := spA_bd ha
 obtain ⟨q1, q2⟩ := spA_bd hb
 obtain ⟨r1, r2⟩ := grA_bd (t := ta) (i := 383) (by decide)
 refine ⟨g, h.a.d w.d.1, h.b.d w.d.1, ?_, ?_, ?_⟩
 ·rw [ht.wrother h.gd h.a h0 h1 hn p1 (by omega) (by decide) d1, h.f1]
 ·rw [ht.wrother h.gd h.b h0 h1 hn q1 (by omega) (by decide) d2, h.f2]
 ·rw [ht.wrother h.gd h.a h0 h1 hn (by omega) r2 (by decide) d3, h.f3]
theorem Hd.start {s : Ms} {ta ca ia tb cb ib : Int} {ra rb : List Int} (ha : spE ta ca ia = 0) (hb : spE tb cb ib = 0) (hne : ta ≠ tb) (g : MGd s) (ba : BkP s ta) (bb : BkP s tb) (hz : ∀ a, 256 * (64 * ta + 1) ≤ a → a < 256 * (64 * ta + 49) → byF s.D s.F a = 0) (la : ra.length = 8) (lb : rb.length = 8) :
  BkP (wrS s (-2) (spA ta ca ia) ra) tb ∧ Hd (wrS (wrS s (-2) (spA ta ca ia) ra) (-2) (spA tb cb ib) rb) ta ca ia tb cb ib ra rb := by
 obtain ⟨p1, p2⟩ := spA_bd ha
 obtain ⟨q1, q2⟩ := spA_bd hb
 obtain ⟨r1, r2⟩ := grA_bd (t := ta) (i := 383) (by decide)
 have t4 := ba.t4
 have u4 := bb.t4
 obtain ⟨g1, w1⟩ := ba.wr (a := spA ta ca ia) (bs := ra) g p1 (by omega) (by omega)
 have ba1 := ba.d w1.d.1
 have bb1 := bb.d w1.d.1
 obtain ⟨g2, w2⟩ := bb1.wr (a := spA tb cb ib) (bs := rb) g1 q1 (by omega) (by omega)
 refine ⟨bb1, g2, ba1.d w2.d.1, bb1.d w2.d.1, ?_, ?_, ?_⟩
 ·rw [bb1.wrother (bs := rb) g1 ba1 q1 (by omega) (by omega) p1 (by omega) (by decide) (by omega)]
  have := ba.wrrd (a := spA ta ca ia) (bs := ra) g p1 (by omega) (by omega)
  rw [la] at this
  exact this
 ·have := bb1.wrrd (a := spA tb cb ib) (bs := rb) g1 q1 (by omega) (by omega)
  rw [lb] at this
  exact this
 ·rw [bb1.wrother (bs := rb) g1 ba1 q1 (by omega) (by omega) (show 256 * (64 * ta + 1) ≤ grA ta 383 by omega) (by omega) (by decide) (by omega), ba.wrother (bs := ra) g ba p1 (by omega) (by omega) (show 256 * (64 * ta + 1) ≤ grA ta 383 by omega) (by omega) (by decide) (by omega), ba.rd g (by omega) (by omega) (by decide)]
  refine List.ext_getElem? fun i => ?_
  rw [List.getElem?_map]
  by_cases hi : i < 16
  ·rw [List.getElem?_range (by simpa using hi), Option.map_some, hz _ (by omega) (by omega), List.getElem?_replicate, if_pos hi]
  ·rw [List.getElem?_eq_none (by simp; omega), List.getElem?_eq_none (by simp; omega)]
   rfl
theorem Hd.put_c {s : Ms} {ta ca ia tb cb ib : Int} {ra rb : List Int} (h : Hd s ta ca ia tb cb ib ra rb) (ha : spE ta ca ia = 0) (hb : spE tb cb ib = 0) (hab : ta ≠ tb) (hne : ¬ (cb = ca ∧ ib = ia)) {bs : List Int} (hl : bs.length = 8) : spE ta cb ib = 0 ∧ Hd (wrS s (-2) (spA ta cb ib) bs) ta ca ia tb cb ib ra rb := by
 have hc : spE ta cb ib = 0 := spE_zero.2 ⟨⟨(spE_zero.1 ha).1.1, (spE_zero.1 hb).1.2⟩, (spE_zero.1 hb).2⟩
 obtain ⟨p1, p2⟩ := spA_bd hc
 obtain ⟨r1, r2⟩ := grA_bd (t := ta) (i := 383) (by decide)
 refine ⟨hc, h.wr ha hb h.a p1 (by omega) (by omega) ?_ ?_ (by omega)⟩
 ·have := spA_disj hc ha (fun e => hne e.2); omega
 ·have := spA_disj hc hb (fun e => hab e.1); omega
theorem Hd.put_g {s : Ms} {ta ca ia tb cb ib : Int} {ra rb : List Int} (h : Hd s ta ca ia tb cb ib ra rb) (ha : spE ta ca ia = 0) (hb : spE tb cb ib = 0) {t : Int} (ht : BkP s t) {bs : List Int} (hl : bs.length = 16) : Hd (wrS s (-2) (grA t 0) bs) ta ca ia tb cb ib ra rb ∧ rdA (wrS s (-2) (grA t 0) bs) (-2) (grA t 0) 16 = bs := by
 obtain ⟨p1, p2⟩ := spA_bd ha
 obtain ⟨q1, q2⟩ := spA_bd hb
 obtain ⟨g1, g2⟩ := grA_bd (t := t) (i := 0) (by decide)
 have a4 := h.a.t4
 have b4 := h.b.t4
 have t4 := ht.t4
 refine ⟨h.wr ha hb ht (by omega) (by omega) (by omega) ?_ ?_ ?_, ?_⟩
 ·rcases Int.lt_trichotomy t ta with e | e | e
  ·omega
  ·subst e; omega
  ·omega
 ·rcases Int.lt_trichotomy t tb with e | e | e
  ·omega
  ·subst e; omega
  ·omega
 ·have := grA_disj (t := t) (i := 0) (t' := ta) (i' := 383) (by decide) (by decide) (fun e => by omega)
  omega
 ·have := ht.wrrd (a := grA t 0) (bs := bs) h.gd (by omega) (by omega) (by omega)
  rw [hl] at this
  exact this
theorem BkP.keeps_no {s : Ms} (g : MGd s) {o a : Int} {bs : List Int} (h0 : 0 ≤ a) (h : rchE s.D o a bs.length 2 ≠ 0) : wrS s o a bs = s := (g.wr o a bs h0).2.1 h
theorem grtV_zero : grtV (List.replicate 16 0) = .agg #[.int .i64 0, .int .i64 0, .int .i64 0, .int .i64 0] ∧ grtN (List.replicate 16 0) = 0 := by
 have h : grtOk (List.replicate 16 0) = true := by decide
 unfold grtV grtN
 rw [if_pos h, if_pos h]
 exact ⟨rfl, rfl⟩
/-- A book's pages are no tenant's. -/
theorem BkP.barred {s : Ms} {t : Int} (h : BkP s t) {o n m : Int} (ho : 0 ≤ o ∧ o < 4) (hn : 0 ≤ n ∧ n < 48) : rchE s.D o (256 * (64 * t + 1 + n)) 1 m = 190 := by
 have h4 := h.t4
 have hno : rchE s.D o (256 * (64 * t + 1 + n)) 1 m ≠ 0 := fun e => by
  obtain ⟨_, _, _, h3⟩ := (rchE_zero (by omega)).1 e
  have := h3 (256 * (64 * t + 1 + n)) (Int.le_refl _) (by omega)
  unfold rchB at this
  rw [show 256 * (64 * t + 1 + n) / 256 = 64 * t + 1 + n by omega, h.own _ (by omega) (by omega), decide_eq_false (by omega), decide_eq_false (by omega)] at this
  simp at this
 unfold rchE at hno ⊢
 rw [if_neg (by decide), if_neg (by unfold badWho; simp; omega), if_neg (by omega)] at hno ⊢
 split at hno
 ·exact absurd rfl hno
 ·next h5 => rw [if_neg h5]
end Go.Proofs.YtlpchcdalfkfcaaGreat


/-
 Package meta: GetGreat. Conditions: a memory's books in order.
-/
namespace Go.Proofs.YtlpchcdalfkfcaaGreat
open Go.RowKit Go.ChangeShapes
attribute [local go_sem] Oper.semAt_some
set_option maxHeartbeats 8000000
set_option maxRecDepth 8000

variable {w0 w : World} {k : Mb} {s : Ms}
theorem grtV_shape (L : List Int) : ∃ x y z u, grtV L = .agg #[.int .i64 x, .int .i64 y, .int .i64 z, .int .i64 u] := by
 unfold grtV
 split
 ·exact ⟨_, _, _, _, rfl⟩
 ·exact ⟨_, _, _, _, rfl⟩
theorem mGetG_gen (h : LivM w0 w k s) (t i x y z u n : Int)
  (hget : ∀ Y g lb pi, LivM w0 Y k s → Blk Y g parG 178 → CellsAt Y lb (askListP (grtAsks pi i)) → AnswersP Y (grtAsks pi i) →
   Calls Tryz.prog 54 #[.agg #[.pointer (some ⟨k.b, 0, none⟩), .int .i64 t], .agg #[.slice (some ⟨g, 0, none⟩) 6 6, .func (.func 122) #[] #[]], .int .i64 (farI i), .int .i64 16, .slice (some ⟨lb, 0, none⟩) 1 1] Y
    fun e w' => e = .returned (.tuple #[.agg #[.int .i64 x, .int .i64 y, .int .i64 z, .int .i64 u], .int .i64 n]) ∧ Below Y.heap.size Y w') :
  Calls Tryz.prog 19 #[.pointer (some ⟨k.b, 0, none⟩), .int .i64 t, .int .i64 i] w
   fun e w' => e = .returned (.tuple #[.agg #[.int .i64 x, .int .i64 y, .int .i64 z, .int .i64 u], .int .i64 n]) ∧ Below w.heap.size w w' := by
 obtain ⟨Y, hY⟩ : ∃ Y, w.alloc (.cells #[.int .i64 0, .int .i64 0, .int .i64 0, .int .i64 0] 54) = Y := ⟨_, rfl⟩
 have hR : Blk Y w.heap.size #[.int .i64 0, .int .i64 0, .int .i64 0, .int .i64 0] 54 := by rw [← hY]; exact Blk.new w _ _
 have kY : Below w.heap.size w Y := by rw [← hY]; exact (Below.refl _ w).alloc (Nat.le_refl _) _
 replace h := h.step kY
 have HG := Lib.hid hget
 clear hget
 go_enter Tryz.func19, Tryz.ntmps19
 go_wp2_with fail
 clear hY
 obtain ⟨b5, hb5⟩ : ∃ b, w.heap.size = b := ⟨_, rfl⟩
 rw [hb5] at hR ⊢
 have hb5' : w.heap.size ≤ b5 := by omega
 clear hb5
 refine (greats_calls _).mono ?_; rintro e Z ⟨g, rfl, hG, j⟩
 replace h := h.step j; replace hR := hR.below j hR.lt
 (try replace hG := hG.below j hG.lt); (try replace hI := hI.below j hI.lt)
 replace kY := kY.trans (j.mono kY.size); clear j
 go_wp2_with fail
 refine (far_calls i _).mono ?_; rintro e _ ⟨rfl, rfl⟩
 go_wp2_with fail
 refine (greatly_calls i _).mono ?_; rintro e Z2 ⟨pi, rfl, hI, j⟩
 replace h := h.step j; replace hR := hR.below j hR.lt
 (try replace hG := hG.below j hG.lt); (try replace hI := hI.below j hI.lt)
 replace kY := kY.trans (j.mono kY.size); clear j
 go_wp2_with fail
 obtain ⟨gl, hgl⟩ : ∃ g, Z2.heap.size = g := ⟨_, rfl⟩
 obtain ⟨Z3, hZ⟩ : ∃ Z, Z2.alloc (.cells (askListP (grtAsks pi i)).toArray 70) = Z := ⟨_, rfl⟩
 have j : Below Z2.heap.size Z2 Z3 := by rw [← hZ]; exact (Below.refl _ Z2).alloc (Nat.le_refl _) _
 have hL : CellsAt Z3 gl (askListP (grtAsks pi i)) := by rw [← hZ, ← hgl]; exact CellsAt.of (Blk.new Z2 _ _)
 rw [show Z2.alloc (.cells #[.func (.func 123) #[] #[.pointer (some ⟨pi, 0, none⟩)], .int .i64 4] 70) = Z3 from hZ, hgl]
 clear hZ hgl
 replace h := h.step j; replace hR := hR.below j hR.lt
 (try replace hG := hG.below j hG.lt); (try replace hI := hI.below j hI.lt)
 replace kY := kY.trans (j.mono kY.size); clear j
 have hans := grt_answers hI
 refine (HG.out Z3 g gl pi h hG hL hans).mono ?_; rintro e Z4 ⟨rfl, j⟩
 clear hL hans
 replace h := h.step j; replace hR := hR.below j hR.lt
 (try replace hG := hG.below j hG.lt); (try replace hI := hI.below j hI.lt)
 replace kY := kY.trans (j.mono kY.size); clear j
 have r0 := hR.cell 0 (v := .int .i64 0) rfl
 have r1 := hR.cell 1 (v := .int .i64 0) rfl
 have r2 := hR.cell 2 (v := .int .i64 0) rfl
 have r3 := hR.cell 3 (v := .int .i64 0) rfl
 have f0 := hR.frozen 0
 have f1 := hR.frozen 1
 have f2 := hR.frozen 2
 have f3 := hR.frozen 3
 have zl := hR.lt
 go_wp2_with fail
 exact ret_g2 Tryz.results19 b5 (by rfl) (hR.set4G (.int .i64 x) (.int .i64 y) (.int .i64 z) (.int .i64 u)) rfl rfl ⟨rfl, (((kY.setCell hb5' _).setCell hb5' _).setCell hb5' _).setCell hb5' _⟩
theorem getG_eq (pi : Nat) (s : Ms) (t i : Int) : gtE s t (grtAsks pi i) = getG s t i := by
 unfold gtE getG grtAsks
 cases inB 3 t <;> cases inB 383 i <;> cases opB s t <;> simp [firstErrP]
theorem getG_zero {s : Ms} {t i : Int} (h : 0 ≤ i ∧ i ≤ 383) (hb : BkP s t) : getG s t i = 0 := by
 unfold getG
 rw [if_neg (by rw [inB3 hb.t4]; decide), if_neg (by rw [inB_iff.2 h]; decide), if_neg (by rw [hb.op]; decide)]
theorem mGetG_yes (h : LivM w0 w k s) {t i : Int} (hi : 0 ≤ i ∧ i ≤ 383) (hb : BkP s t) (L : List Int) (hL : rdA s (-2) (grA t i) 16 = L) (h16 : L.length = 16) (h256 : ∀ x ∈ L, 0 ≤ x ∧ x < 256) : Calls Tryz.prog 19 #[.pointer (some ⟨k.b, 0, none⟩), .int .i64 t, .int .i64 i] w
   fun e w' => e = .returned (.tuple #[grtV L, .int .i64 (grtN L)]) ∧ Below w.heap.size w w' := by
 obtain ⟨x, y, z, u, hv⟩ := grtV_shape L
 obtain ⟨b1, b2⟩ := grA_bd (t := t) hi
 have ht := hb.t4
 have he : bkO t * 256 + farI i = grA t i := far_in ht hi
 have hp := far_bd i
 rw [hv]
 refine mGetG_gen h t i x y z u _ fun Y g lb pi hl hg hc ha => ?_
 have := mgetG_yes hl t (farI i) (by omega) (by omega) g lb hg (grtAsks pi i) (by simp [grtAsks]) (by simp [grtAsks]) hc ha (by rw [getG_eq]; exact getG_zero hi hb) L ⟨by rw [he]; exact hb.reach (by omega) (by omega) (by decide), by rw [he]; exact hL, h16, h256⟩
 rw [hv] at this
 exact this
end Go.Proofs.YtlpchcdalfkfcaaGreat

