/-
  Package bits: Nth, Next. Conditions: marks, or none.
-/
import Derived.Test.YtbkegknfmcanaaaDoorBiI
namespace Go.Proofs.YtbkegknfmcanaaaDoor
open Go.RowKit
attribute [local go_sem] Oper.semAt_some
set_option maxHeartbeats 2000000
set_option maxRecDepth 8000

def nthB (l : List Int) (k : Int) : Bool := decide (0 ≤ k ∧ k < l.length)
def nthV (l : List Int) (k : Int) : Int := if nthB l k = true then l.getD k.toNat 0 else 0
theorem nth_at {pre suf : List Int} {x : Int} {l : List Int} {k : Int} (h : l = pre ++ x :: suf) (hk : (pre.length : Int) = k) : nthB l k = true ∧ nthV l k = x := by
  have h1 : nthB l k = true := by unfold nthB; subst h; exact decide_eq_true (by simp; omega)
  refine ⟨h1, ?_⟩
  unfold nthV
  rw [if_pos h1, show k.toNat = pre.length by omega, h]
  simp [List.getD_eq_getElem?_getD]
theorem nth_no {l : List Int} {k : Int} (h : k < 0 ∨ (l.length : Int) ≤ k) : nthB l k = false ∧ nthV l k = 0 := by
  have h1 : nthB l k = false := by unfold nthB; exact decide_eq_false (by omega)
  exact ⟨h1, by unfold nthV; rw [h1]; rfl⟩
theorem Nth_ok {w : World} {p : Option Addr} {L : List Bool} (hmv : MkV w p L) (k : Int) (b : Bool) (hk1 : k ≤ 9223372036854775807) : Calls Tryd.prog 12 #[.pointer p, .int .i64 k, .bool b] w fun e w' =>
    e = .returned (.tuple #[.int .i64 (nthV (sucL L 0 b) k), .bool (nthB (sucL L 0 b) k)]) ∧ Below w.heap.size w w' := by
  obtain ⟨W0, hW0⟩ : ∃ W0, ((w.alloc (.cells #[.int .i64 k] 3)).alloc (.cells #[.int .i64 0] 3)).alloc (.cells #[.bool false] 4) = W0 := ⟨_, rfl⟩
  have b0 : Blk W0 w.heap.size #[.int .i64 k] 3 := by rw [← hW0]; exact ((Blk.new w _ _).alloc _).alloc _
  have b1 : Blk W0 (w.heap.size + 1) #[.int .i64 0] 3 := by rw [← hW0]; exact (Blk.newAt _ _ _ (by simp)).alloc _
  have b2 : Blk W0 (w.heap.size + 1 + 1) #[.bool false] 4 := by rw [← hW0]; exact Blk.newAt _ _ _ (by simp)
  have k0 : Below w.heap.size w W0 := by rw [← hW0]; exact (((Below.refl _ w).alloc (Nat.le_refl _) _).alloc (by simp) _).alloc (by simp; omega) _
  have z0 : W0.heap.size = w.heap.size + 3 := by rw [← hW0]; simp
  by_cases hneg : k < 0
  · obtain ⟨e1, e2⟩ := nth_no (l := sucL L 0 b) (k := k) (.inl hneg)
    rw [e1, e2]
    have c0 := b0.cell 0 rfl
    have c1 := b1.cell 0 rfl
    have c2 := b2.cell 0 rfl
    have f1 := b1.frozen 0
    have f2 : (W0.setCell ⟨w.heap.size + 1, 0, none⟩ (.int .i64 0)).frozen? ⟨w.heap.size + 1 + 1, 0, none⟩ = false := (b2.setOther ⟨w.heap.size + 1, 0, none⟩ (.int .i64 0) (by dsimp only; omega)).frozen 0
    have g1 := (b1.set 0 (.int .i64 0)).setOther ⟨w.heap.size + 1 + 1, 0, none⟩ (.bool false) (by dsimp only; omega)
    have g2 := (b2.setOther ⟨w.heap.size + 1, 0, none⟩ (.int .i64 0) (by dsimp only; omega)).set 0 (.bool false)
    have c3 := g1.cell 0 rfl
    have c4 := g2.cell 0 rfl
    have k9 := (k0.setCell (p := ⟨w.heap.size + 1, 0, none⟩) (by dsimp only; omega) (.int .i64 0)).setCell (p := ⟨w.heap.size + 1 + 1, 0, none⟩) (by dsimp only; omega) (.bool false)
    clear hmv e1 e2
    refine calls_of_wp_marks Tryd.func12 rfl ?_; simp only [Tryd.ntmps12, List.size_toArray, List.length_cons, List.length_nil, Nat.reduceAdd, Nat.reduceSub, Array.replicate_succ, Array.replicate_zero, List.push_toArray, List.append_toArray, List.nil_append, List.cons_append]
    go_wp2_with fail
    refine wp_scope_straight ?_
    go_wp2_with fail
    rw [Exit.noGoto_ret]
    exact postM_ret0 (v := .tuple #[.int .i64 0, .bool false]) (by
      simp [results, asAddr]
      simp [go_sem, c3, c4]) ⟨rfl, k9⟩
  · obtain ⟨W1, hW1⟩ : ∃ W1, ((W0.alloc (.cells #[.pointer p] 23)).alloc (.cells #[.int .i64 0] 3)).alloc (.cells #[.bool b] 4) = W1 := ⟨_, rfl⟩
    have d0 : Blk W1 w.heap.size #[.int .i64 k] 3 := by rw [← hW1]; exact ((b0.alloc _).alloc _).alloc _
    have d1 : Blk W1 (w.heap.size + 1) #[.int .i64 0] 3 := by rw [← hW1]; exact ((b1.alloc _).alloc _).alloc _
    have d2 : Blk W1 (w.heap.size + 1 + 1) #[.bool false] 4 := by rw [← hW1]; exact ((b2.alloc _).alloc _).alloc _
    have d3 : Blk W1 W0.heap.size #[.pointer p] 23 := by rw [← hW1]; exact ((Blk.new W0 _ _).alloc _).alloc _
    have d4 : Blk W1 (W0.heap.size + 1) #[.int .i64 0] 3 := by rw [← hW1]; exact (Blk.newAt _ _ _ (by simp)).alloc _
    have d5 : Blk W1 (W0.heap.size + 2) #[.bool b] 4 := by rw [← hW1]; exact Blk.newAt _ _ _ (by simp)
    have k1 : Below w.heap.size w W1 := by rw [← hW1]; exact ((k0.alloc (by omega) _).alloc (by simp; omega) _).alloc (by simp; omega) _
    have z1 : W1.heap.size = W0.heap.size + 3 := by rw [← hW1]; simp
    have hs := such_calls p 0 b W0
    rw [hW1] at hs
    have c0 : W0.cell? ⟨w.heap.size, 0, none⟩ = some (.int .i64 k) := b0.cell 0 rfl
    have HS := Lib.hid hs
    clear hW1 b0 b1 b2 hs
    refine calls_of_wp_marks Tryd.func12 rfl ?_; simp only [Tryd.ntmps12, List.size_toArray, List.length_cons, List.length_nil, Nat.reduceAdd, Nat.reduceSub, Array.replicate_succ, Array.replicate_zero, List.push_toArray, List.append_toArray, List.nil_append, List.cons_append]
    go_wp2_with fail
    refine wp_scope_straight ?_
    go_wp2_with fail
    refine wp_label ?_
    go_wp2_with fail
    refine HS.out.mono ?_; rintro e w' ⟨rfl, rfl⟩
    go_wp2_with fail
    clear hW0 c0 HS
    rw [z0] at d3 d4 d5 z1
    have hlow := hmv.step k1
    refine wp_range1 rfl (enters_of Tryd.func53 (by kernel_rfl) rfl) (such_iter p L 0 b _ _ _ (by decide)) (fun _ => rfl)
      (fun pre W => Blk W w.heap.size #[.int .i64 (k - pre.length)] 3 ∧ (pre.length : Int) ≤ k ∧ Blk W (w.heap.size + 1) #[.int .i64 0] 3 ∧ Blk W (w.heap.size + 1 + 1) #[.bool false] 4 ∧ Blk W (w.heap.size + 3) #[.pointer p] 23 ∧ Blk W (w.heap.size + 3 + 1) #[.int .i64 0] 3 ∧ Blk W (w.heap.size + 3 + 2) #[.bool b] 4 ∧ Below w.heap.size w W)
      (fun c W => c = .ret ∧ ∃ pre x suf, sucL L 0 b = pre ++ x :: suf ∧ (pre.length : Int) = k ∧ Blk W (w.heap.size + 1) #[.int .i64 x] 3 ∧ Blk W (w.heap.size + 1 + 1) #[.bool true] 4 ∧ Below w.heap.size w W) ?a1 ?hassign ?hI ?hIx ?hA ?h0 ?hbody ?hdone ?hstop
    case hassign => intro m l x W K hK; gi_wp2; exact hK
    case hI => rintro pre X Y ⟨h1, h2, h3, h4, h5, h6, h7, h8⟩ hk; exact ⟨h1.keeps hk, h2, h3.keeps hk, h4.keeps hk, h5.keeps hk, h6.keeps hk, h7.keeps hk, h8.keeps hk (by omega)⟩
    case hIx => rintro c X Y ⟨hc, pre, x, suf, h1, h2, h3, h4, h5⟩ hk; exact ⟨hc, pre, x, suf, h1, h2, h3.keeps hk, h4.keeps hk, h5.keeps hk (by omega)⟩
    case hA => rintro pre W ⟨h1, h2, h3, h4, h5, h6, h7, h8⟩; exact ⟨h6.cell 0 rfl, h5.cell 0 rfl, h7.cell 0 rfl, hmv.step h8⟩
    case h0 => exact ⟨by simpa using d0, by simp; omega, d1, d2, d3, d4, d5, k1⟩
    case hbody =>
      rintro m l pre x suf W hxs hl hrec ⟨h1, h2, h3, h4, h5, h6, h7, h8⟩
      have c0 : W.cell? ⟨w.heap.size, 0, none⟩ = some (.int .i64 (k - pre.length)) := h1.cell 0 rfl
      have f0 := h1.frozen 0
      by_cases hk9 : (pre.length : Int) = k
      · have e9 : k - (pre.length : Int) = 0 := by omega
        rw [e9] at c0
        have q1 : W.cell? ⟨w.heap.size + 1, 0, none⟩ = some (.int .i64 0) := h3.cell 0 rfl
        have f1 := h3.frozen 0
        have g2 := h4.setOther ⟨w.heap.size + 1, 0, none⟩ (.int .i64 x) (by dsimp only; omega)
        have q2 := g2.cell 0 rfl
        have f2 := g2.frozen 0
        have G1 := (h3.set 0 (.int .i64 x)).setOther ⟨w.heap.size + 1 + 1, 0, none⟩ (.bool true) (by dsimp only; omega)
        have G2 := g2.set 0 (.bool true)
        have K2 := (h8.setCell (p := ⟨w.heap.size + 1, 0, none⟩) (by dsimp only; omega) (.int .i64 x)).setCell (p := ⟨w.heap.size + 1 + 1, 0, none⟩) (by dsimp only; omega) (.bool true)
        clear h3 h4 g2
        gi_wp2_with fail
        exact ⟨((KeepsRec.refl W).setCell _ _).setCell _ _, rfl, pre, x, suf, hxs, hk9, G1, G2, K2⟩
      · have j0 : 0 < k - (pre.length : Int) := by omega
        have j1 : k - (pre.length : Int) ≤ 9223372036854775807 := by omega
        have e8 : k - ((pre ++ [x]).length : Int) = k - pre.length - 1 := by simp; omega
        have G0 := h1.set 0 (.int .i64 (k - pre.length - 1))
        have G1 := h3.setOther ⟨w.heap.size, 0, none⟩ (.int .i64 (k - pre.length - 1)) (by dsimp only; omega)
        have G2 := h4.setOther ⟨w.heap.size, 0, none⟩ (.int .i64 (k - pre.length - 1)) (by dsimp only; omega)
        have G3 := h5.setOther ⟨w.heap.size, 0, none⟩ (.int .i64 (k - pre.length - 1)) (by dsimp only; omega)
        have G4 := h6.setOther ⟨w.heap.size, 0, none⟩ (.int .i64 (k - pre.length - 1)) (by dsimp only; omega)
        have G5 := h7.setOther ⟨w.heap.size, 0, none⟩ (.int .i64 (k - pre.length - 1)) (by dsimp only; omega)
        have K2 := h8.setCell (p := ⟨w.heap.size, 0, none⟩) (by dsimp only; omega) (.int .i64 (k - pre.length - 1))
        have E8 := Lib.hid e8
        clear h1 h3 h4 h5 h6 h7 h8 e8
        gi_wp2_with fail
        exact ⟨(KeepsRec.refl W).setCell _ _, by rw [E8.out]; exact G0, by simp; omega, G1, G2, G3, G4, G5, K2⟩
    case hdone =>
      rintro D W hD ⟨h1, h2, h3, h4, h5, h6, h7, h8⟩ hK
      obtain ⟨e1, e2⟩ := nth_no (l := sucL L 0 b) (k := k) (.inr h2)
      have q1 : W.cell? ⟨w.heap.size + 1, 0, none⟩ = some (.int .i64 0) := h3.cell 0 rfl
      have f1 := h3.frozen 0
      have g2 := h4.setOther ⟨w.heap.size + 1, 0, none⟩ (.int .i64 0) (by dsimp only; omega)
      have q2 := g2.cell 0 rfl
      have f2 := g2.frozen 0
      have G1 := (h3.set 0 (.int .i64 0)).setOther ⟨w.heap.size + 1 + 1, 0, none⟩ (.bool false) (by dsimp only; omega)
      have G2 := g2.set 0 (.bool false)
      have K2 := (h8.setCell (p := ⟨w.heap.size + 1, 0, none⟩) (by dsimp only; omega) (.int .i64 0)).setCell (p := ⟨w.heap.size + 1 + 1, 0, none⟩) (by dsimp only; omega) (.bool false)
      have hK2 : ((W.setCell ⟨w.heap.size + 1, 0, none⟩ (.int .i64 0)).setCell ⟨w.heap.size + 1 + 1, 0, none⟩ (.bool false)).heap[D]? = some (.deferred (some [])) :=
        (Below.heap_setCell _ ⟨w.heap.size + 1 + 1, 0, none⟩ _ D (by dsimp only; omega)).trans ((Below.heap_setCell W ⟨w.heap.size + 1, 0, none⟩ _ D (by dsimp only; omega)).trans hK)
      have hDl := (Array.getElem?_eq_some_iff.1 hK2).1
      have u1 := G1.putObj (r := D) (.deferred none) (by omega)
      have u2 := G2.putObj (r := D) (.deferred none) (by omega)
      have c3 := u1.cell 0 rfl
      have c4 := u2.cell 0 rfl
      go_wp2_with fail
      rw [Exit.noGoto_ret]
      exact postM_ret hK2 (v := .tuple #[.int .i64 0, .bool false]) (by
        simp [results, asAddr]
        simp [go_sem, c3, c4]) ⟨by rw [e1, e2], below_putObj K2 (by omega) _ hDl⟩
    case hstop =>
      rintro D c W hD ⟨rfl, pre, x, suf, h1, h2, h3, h4, h5⟩ hK
      obtain ⟨e1, e2⟩ := nth_at h1 h2
      have hDl := (Array.getElem?_eq_some_iff.1 hK).1
      have u1 := h3.putObj (r := D) (.deferred none) (by omega)
      have u2 := h4.putObj (r := D) (.deferred none) (by omega)
      have c3 := u1.cell 0 rfl
      have c4 := u2.cell 0 rfl
      go_wp2_with fail
      rw [Exit.noGoto_ret]
      exact postM_ret hK (v := .tuple #[.int .i64 x, .bool true]) (by
        simp [results, asAddr]
        simp [go_sem, c3, c4]) ⟨by rw [e1, e2], below_putObj h5 (by omega) _ hDl⟩
end Go.Proofs.YtbkegknfmcanaaaDoor
