/-
  Package bits: Next, All. Conditions: marks, or none.
-/
import Derived.Test.YtbkegknfmcanaaaDoorBiJ
import Derived.Test.YtbkegknfmcanaaaDoorCoreS
namespace Go.Proofs.YtbkegknfmcanaaaDoor
open Go.RowKit
attribute [local go_sem] Oper.semAt_some
set_option maxHeartbeats 2000000
set_option maxRecDepth 8000

theorem Next_ok {w : World} {p : Option Addr} {L : List Bool} (hmv : MkV w p L) (f : Int) (b : Bool) (hf1 : f ≤ 9223372036854775807) : Calls Tryd.prog 13 #[.pointer p, .int .i64 f, .bool b] w fun e w' =>
    e = .returned (.tuple #[.int .i64 (nthV (sucL L f b) 0), .bool (nthB (sucL L f b) 0)]) ∧ Below w.heap.size w w' := by
  obtain ⟨W0, hW0⟩ : ∃ W0, (w.alloc (.cells #[.int .i64 0] 3)).alloc (.cells #[.bool false] 4) = W0 := ⟨_, rfl⟩
  have b1 : Blk W0 w.heap.size #[.int .i64 0] 3 := by rw [← hW0]; exact (Blk.new w _ _).alloc _
  have b2 : Blk W0 (w.heap.size + 1) #[.bool false] 4 := by rw [← hW0]; exact Blk.newAt _ _ _ (by simp)
  have k0 : Below w.heap.size w W0 := by rw [← hW0]; exact ((Below.refl _ w).alloc (Nat.le_refl _) _).alloc (by simp) _
  have z0 : W0.heap.size = w.heap.size + 2 := by rw [← hW0]; simp
  obtain ⟨W1, hW1⟩ : ∃ W1, ((W0.alloc (.cells #[.pointer p] 23)).alloc (.cells #[.int .i64 f] 3)).alloc (.cells #[.bool b] 4) = W1 := ⟨_, rfl⟩
  have d1 : Blk W1 w.heap.size #[.int .i64 0] 3 := by rw [← hW1]; exact ((b1.alloc _).alloc _).alloc _
  have d2 : Blk W1 (w.heap.size + 1) #[.bool false] 4 := by rw [← hW1]; exact ((b2.alloc _).alloc _).alloc _
  have d3 : Blk W1 W0.heap.size #[.pointer p] 23 := by rw [← hW1]; exact ((Blk.new W0 _ _).alloc _).alloc _
  have d4 : Blk W1 (W0.heap.size + 1) #[.int .i64 f] 3 := by rw [← hW1]; exact (Blk.newAt _ _ _ (by simp)).alloc _
  have d5 : Blk W1 (W0.heap.size + 2) #[.bool b] 4 := by rw [← hW1]; exact Blk.newAt _ _ _ (by simp)
  have k1 : Below w.heap.size w W1 := by rw [← hW1]; exact ((k0.alloc (by omega) _).alloc (by simp; omega) _).alloc (by simp; omega) _
  have z1 : W1.heap.size = W0.heap.size + 3 := by rw [← hW1]; simp
  have hs := such_calls p f b W0
  rw [hW1] at hs
  have HS := Lib.hid hs
  clear hW1 b1 b2 hs
  refine calls_of_wp_marks Tryd.func13 rfl ?_; simp only [Tryd.ntmps13, List.size_toArray, List.length_cons, List.length_nil, Nat.reduceAdd, Nat.reduceSub, Array.replicate_succ, Array.replicate_zero, List.push_toArray, List.append_toArray, List.nil_append, List.cons_append]
  go_wp2_with fail
  refine HS.out.mono ?_; rintro e w' ⟨rfl, rfl⟩
  go_wp2_with fail
  clear hW0 HS
  rw [z0] at d3 d4 d5 z1
  refine wp_range1 rfl (enters_of Tryd.func53 (by kernel_rfl) rfl) (such_iter p L f b _ _ _ hf1) (fun _ => rfl)
    (fun pre W => pre = [] ∧ Blk W w.heap.size #[.int .i64 0] 3 ∧ Blk W (w.heap.size + 1) #[.bool false] 4 ∧ Blk W (w.heap.size + 2) #[.pointer p] 23 ∧ Blk W (w.heap.size + 2 + 1) #[.int .i64 f] 3 ∧ Blk W (w.heap.size + 2 + 2) #[.bool b] 4 ∧ Below w.heap.size w W)
    (fun c W => c = .ret ∧ ∃ x suf, sucL L f b = x :: suf ∧ Blk W w.heap.size #[.int .i64 x] 3 ∧ Blk W (w.heap.size + 1) #[.bool true] 4 ∧ Below w.heap.size w W) ?a1 ?hassign ?hI ?hIx ?hA ?h0 ?hbody ?hdone ?hstop
  case hassign => intro m l x W K hK; gi_wp2; exact hK
  case hI => rintro pre X Y ⟨h2, h3, h4, h5, h6, h7, h8⟩ hk; exact ⟨h2, h3.keeps hk, h4.keeps hk, h5.keeps hk, h6.keeps hk, h7.keeps hk, h8.keeps hk (by omega)⟩
  case hIx => rintro c X Y ⟨hc, x, suf, h1, h3, h4, h5⟩ hk; exact ⟨hc, x, suf, h1, h3.keeps hk, h4.keeps hk, h5.keeps hk (by omega)⟩
  case hA => rintro pre W ⟨h2, h3, h4, h5, h6, h7, h8⟩; exact ⟨h6.cell 0 rfl, h5.cell 0 rfl, h7.cell 0 rfl, hmv.step h8⟩
  case h0 => exact ⟨rfl, d1, d2, d3, d4, d5, k1⟩
  case hbody =>
    rintro m l pre x suf W hxs hl hrec ⟨rfl, h3, h4, h5, h6, h7, h8⟩
    have q1 : W.cell? ⟨w.heap.size, 0, none⟩ = some (.int .i64 0) := h3.cell 0 rfl
    have f1 := h3.frozen 0
    have g2 := h4.setOther ⟨w.heap.size, 0, none⟩ (.int .i64 x) (by dsimp only; omega)
    have q2 := g2.cell 0 rfl
    have f2 := g2.frozen 0
    have G1 := (h3.set 0 (.int .i64 x)).setOther ⟨w.heap.size + 1, 0, none⟩ (.bool true) (by dsimp only; omega)
    have G2 := g2.set 0 (.bool true)
    have K2 := (h8.setCell (p := ⟨w.heap.size, 0, none⟩) (by dsimp only; omega) (.int .i64 x)).setCell (p := ⟨w.heap.size + 1, 0, none⟩) (by dsimp only; omega) (.bool true)
    have HX := Lib.hid hxs
    clear h3 h4 g2 hxs
    gi_wp2_with fail
    exact ⟨((KeepsRec.refl W).setCell _ _).setCell _ _, rfl, x, suf, HX.out, G1, G2, K2⟩
  case hdone =>
    rintro D W hD ⟨hnil, h3, h4, h5, h6, h7, h8⟩ hK
    obtain ⟨e1, e2⟩ := nth_no (l := sucL L f b) (k := 0) (.inr (by rw [hnil]; simp))
    have q1 : W.cell? ⟨w.heap.size, 0, none⟩ = some (.int .i64 0) := h3.cell 0 rfl
    have f1 := h3.frozen 0
    have g2 := h4.setOther ⟨w.heap.size, 0, none⟩ (.int .i64 0) (by dsimp only; omega)
    have q2 := g2.cell 0 rfl
    have f2 := g2.frozen 0
    have G1 := (h3.set 0 (.int .i64 0)).setOther ⟨w.heap.size + 1, 0, none⟩ (.bool false) (by dsimp only; omega)
    have G2 := g2.set 0 (.bool false)
    have K2 := (h8.setCell (p := ⟨w.heap.size, 0, none⟩) (by dsimp only; omega) (.int .i64 0)).setCell (p := ⟨w.heap.size + 1, 0, none⟩) (by dsimp only; omega) (.bool false)
    have hK2 : ((W.setCell ⟨w.heap.size, 0, none⟩ (.int .i64 0)).setCell ⟨w.heap.size + 1, 0, none⟩ (.bool false)).heap[D]? = some (.deferred (some [])) :=
      (Below.heap_setCell _ ⟨w.heap.size + 1, 0, none⟩ _ D (by dsimp only; omega)).trans ((Below.heap_setCell W ⟨w.heap.size, 0, none⟩ _ D (by dsimp only; omega)).trans hK)
    have hDl := (Array.getElem?_eq_some_iff.1 hK2).1
    have u1 := G1.putObj (r := D) (.deferred none) (by omega)
    have u2 := G2.putObj (r := D) (.deferred none) (by omega)
    have c3 := u1.cell 0 rfl
    have c4 := u2.cell 0 rfl
    clear hnil
    go_wp2_with fail
    exact postM_ret hK2 (v := .tuple #[.int .i64 0, .bool false]) (by
      simp [results, asAddr]
      simp [go_sem, c3, c4]) ⟨by rw [e1, e2], below_putObj K2 (by omega) _ hDl⟩
  case hstop =>
    rintro D c W hD ⟨rfl, x, suf, h1, h3, h4, h5⟩ hK
    obtain ⟨e1, e2⟩ := nth_at (pre := []) (k := 0) h1 rfl
    have hDl := (Array.getElem?_eq_some_iff.1 hK).1
    have u1 := h3.putObj (r := D) (.deferred none) (by omega)
    have u2 := h4.putObj (r := D) (.deferred none) (by omega)
    have c3 := u1.cell 0 rfl
    have c4 := u2.cell 0 rfl
    clear h1
    go_wp2_with fail
    exact postM_ret hK (v := .tuple #[.int .i64 x, .bool true]) (by
      simp [results, asAddr]
      simp [go_sem, c3, c4]) ⟨by rw [e1, e2], below_putObj h5 (by omega) _ hDl⟩
/-- Marks of one's own, or none: blocks from B on, below N. -/
def MkF (B N : Nat) (W : World) (p : Option Addr) (L : List Bool) : Prop := (p = none ∧ L = []) ∨ ∃ lo hi c, p = some ⟨c, 0, none⟩ ∧ B ≤ lo ∧ hi ≤ N ∧ MkAt lo hi W c L ∧ L.length ≤ 4096
theorem MkF.v {B N : Nat} {W : World} {p : Option Addr} {L : List Bool} (h : MkF B N W p L) : MkV W p L := by
  rcases h with ⟨h1, h2⟩ | ⟨lo, hi, c, h1, _, _, h2, h3⟩
  · exact .inl ⟨.inl h1, h2⟩
  · exact .inr ⟨lo, hi, c, h1, h2, h3⟩
theorem MkF.sm {B N : Nat} {W W' : World} {p : Option Addr} {L : List Bool} (h : MkF B N W p L) (k : Sm B N W W') : MkF B N W' p L := by
  rcases h with ⟨h1, h2⟩ | ⟨lo, hi, c, h1, g1, g2, h2, h3⟩
  · exact .inl ⟨h1, h2⟩
  · exact .inr ⟨lo, hi, c, h1, g1, g2, h2.of_same k.1 fun i a b => k.2 i (by omega) (by omega), h3⟩
/-- What All has laid. -/
structure AllV (B N : Nat) (W : World) (p : Option Addr) (bf bm bi : Nat) (L : List Bool) : Prop where
  f : Blk W bf #[.int .i64 0] 3
  m : Blk W bm #[.pointer p] 23
  i : Blk W bi #[.bool true] 4
  own : MkF B N W p L
  lo : B ≤ bf ∧ B ≤ bm ∧ B ≤ bi
  hi : bf < N ∧ bm < N ∧ bi < N ∧ N ≤ W.heap.size
theorem AllV.sm {B N : Nat} {W W' : World} {p : Option Addr} {bf bm bi : Nat} {L : List Bool} (h : AllV B N W p bf bm bi L) (k : Sm B N W W') : AllV B N W' p bf bm bi L :=
  ⟨(k.2 bf h.lo.1 h.hi.1).trans h.f, (k.2 bm h.lo.2.1 h.hi.2.1).trans h.m, (k.2 bi h.lo.2.2 h.hi.2.2.1).trans h.i, h.own.sm k, h.lo, h.hi.1, h.hi.2.1, h.hi.2.2.1, Nat.le_trans h.hi.2.2.2 k.1⟩
theorem All_ok {w : World} {p : Option Addr} {L : List Bool} (hmv : MkV w p L) : Calls Tryd.prog 27 #[.pointer p] w fun e w' => ∃ p' bf bm bi, e = .returned (.func (.func 53) #[] #[.pointer (some ⟨bf, 0, none⟩), .pointer (some ⟨bm, 0, none⟩), .pointer (some ⟨bi, 0, none⟩)]) ∧
    AllV w.heap.size w'.heap.size w' p' bf bm bi L ∧ Below w.heap.size w w' := by
  have HC : Calls Tryd.prog 25 #[.pointer p] w fun e w' => ∃ p', e = .returned (.pointer p') ∧ MkF w.heap.size w'.heap.size w' p' L ∧ Below w.heap.size w w' := by
    rcases hmv with ⟨h1, rfl⟩ | ⟨lo, hi, s, rfl, h2, h3⟩
    · refine (Copy_none h1).mono ?_; rintro e _ ⟨rfl, rfl⟩
      exact ⟨none, rfl, .inl ⟨rfl, rfl⟩, Below.refl _ _⟩
    · refine (Copy_ok h2 h3).mono ?_; rintro e w1 ⟨c, rfl, hC, k1⟩
      exact ⟨_, rfl, .inr ⟨_, _, c, rfl, Nat.le_refl _, Nat.le_refl _, hC, h3⟩, k1⟩
  go_enter Tryd.func27, Tryd.ntmps27
  go_wp2_with fail
  refine HC.mono ?_; rintro e w1 ⟨p', rfl, hF, k1⟩
  have z1 := k1.size
  go_wp2_with fail
  refine (such_calls p' 0 true w1).mono ?_; rintro e w2 ⟨rfl, hw2⟩
  have k2 : Below w1.heap.size w1 w2 := by rw [hw2]; exact (((Below.refl _ w1).alloc (Nat.le_refl _) _).alloc (by simp) _).alloc (by simp; omega) _
  have z2 : w2.heap.size = w1.heap.size + 3 := by rw [hw2]; simp
  have e3 : Blk w2 w1.heap.size #[.pointer p'] 23 := by rw [hw2]; exact ((Blk.new w1 _ _).alloc _).alloc _
  have e4 : Blk w2 (w1.heap.size + 1) #[.int .i64 0] 3 := by rw [hw2]; exact (Blk.newAt _ _ _ (by simp)).alloc _
  have e5 : Blk w2 (w1.heap.size + 2) #[.bool true] 4 := by rw [hw2]; exact Blk.newAt _ _ _ (by simp)
  clear hw2
  go_wp2_with fail
  go_ret
  refine ⟨_, _, _, _, rfl, ⟨e4, e3, e5, ?_, by omega, by omega⟩, k1.trans (k2.mono z1)⟩
  rcases hF with ⟨h1, h2⟩ | ⟨lo, hi, c, h1, g1, g2, h2, h3⟩
  · exact .inl ⟨h1, h2⟩
  · exact .inr ⟨lo, hi, c, h1, g1, by omega, h2.step k2, h3⟩
end Go.Proofs.YtbkegknfmcanaaaDoor
