/-
  Package window: the regions, one by one; the law's own 'regions'.
-/
import Derived.Test.YtcgdipkmcgionaaWinW
namespace Go.Proofs.Ytcgdipkmcgionaa
open Go.RowKit
attribute [local go_sem] Oper.semAt_some
set_option maxHeartbeats 1000000

/-- The classes of a slot; none where there is no such slot. -/
def clsI (s : Int) : List Int := if slotI s = true then [0, 1, 2, 3, 4, 5, 6, 7] else []
def regI (s c : Int) : Int := 4096 * (s + 1) + 1 + 17 * c
theorem cls_get (k : Nat) (h : k < ([0, 1, 2, 3, 4, 5, 6, 7] : List Int).length) : ([0, 1, 2, 3, 4, 5, 6, 7] : List Int)[k] = (k : Int) := by
  have h' : k < 8 := h
  match k, h' with
  | 0, _ => rfl
  | 1, _ => rfl
  | 2, _ => rfl
  | 3, _ => rfl
  | 4, _ => rfl
  | 5, _ => rfl
  | 6, _ => rfl
  | 7, _ => rfl
theorem Regions_calls (s : Int) (w : World) : Calls Try.prog 33 #[.int .i64 s] w fun e w' =>
    e = .returned (.func (.func 41) #[] #[.pointer (some ⟨w.heap.size, 0, none⟩)]) ∧ w' = w.alloc (.cells #[.int .i64 s] 3) := by
  go_enter Try.func33, Try.ntmps33
  go_wp2
  go_ret
  exact ⟨rfl, rfl⟩
theorem Regions_iter (s : Int) (b : Nat) : IterK Try.prog 41 #[.pointer (some ⟨b, 0, none⟩)] (fun c : Int => #[.int .i64 c, .int .i64 (regI s c)]) (clsI s) (fun W => W.cell? ⟨b, 0, none⟩ = some (.int .i64 s)) := by
  intro L J Jx W hJ hJx hA hY h0
  have c0 := hA _ _ h0
  by_cases hs : slotI s = true
  · have hcl : clsI s = [0, 1, 2, 3, 4, 5, 6, 7] := by unfold clsI; rw [if_pos hs]
    rw [hcl] at hY ⊢
    refine calls_in Try.func41 rfl ?_; simp only [Try.ntmps41, List.size_toArray, List.length_cons, List.length_nil, Nat.reduceAdd, Nat.reduceSub, Array.replicate_succ, Array.replicate_zero, List.push_toArray, List.append_toArray, List.nil_append, List.cons_append]
    gi_wp2_with fail
    refine (callsIn_wide.2 (is_calls s _)).mono ?_; rintro e w1 ⟨rfl, rfl⟩
    rw [hs]
    gi_wp2_with fail
    gi_loopw [7] (fun i wr => ∃ k : Nat, k ≤ 8 ∧ i = .int .i64 k ∧ J (([0, 1, 2, 3, 4, 5, 6, 7] : List Int).take k) wr ∧ W.heap.size ≤ wr.heap.size) (fun i _ => 8 - (intOf i).toNat)
    case atStart => exact ⟨0, by omega, rfl, by simpa using h0, Nat.le_refl _⟩
    case round =>
      obtain ⟨k, hk, rfl, hJk, hsz⟩ := hrel
      by_cases hlt : k < 8
      · have hl : k < ([0, 1, 2, 3, 4, 5, 6, 7] : List Int).length := hlt
        have hsp := Lib.hid (split_at _ k hl)
        have htk := Lib.hid (take_next _ k hl)
        have ck := hA _ _ hJk
        have hc8 : inI 8 k = true := by simp [inI]; omega
        gi_wp2_with fail
        refine (callsIn_wide.2 (region_calls s k hs hc8 _)).mono ?_; rintro e w1 ⟨rfl, hb1⟩
        have hz1 := hb1.size
        have hJ1 := hJ _ _ _ hJk (Keeps.of_below hb1 hsz (Nat.le_refl _))
        obtain ⟨fn, tmps, assign, body, hy, hR⟩ := hY _ _ _ w1 hsp.out hJ1 (by omega)
        rw [cls_get] at hy
        have hreg : 4096 * (s + 1) + 1 + 17 * (k : Int) = regI s k := rfl
        rw [hreg]
        clear hY hJ1 hJk hreg
        generalize regI s k = G at *
        gi_wp2_with fail
        refine (hR _).mono ?_; rintro e W3 (⟨rfl, hJ3, hs3⟩ | ⟨rfl, hJx3, hs3⟩)
        · gi_wp2
          go_roundw
          case rel => exact ⟨k + 1, by omega, by go_num, by rw [htk.out]; exact hJ3, by omega⟩
          case measure => simp [intOf]; omega
        · gi_wp2
          refine bodyPost_ret (results_none rfl _ _ _) rfl ?_
          exact ⟨⟨_, rfl⟩, .inr hJx3⟩
      · obtain rfl : k = 8 := by omega
        gi_wp2
        go_end0
        exact ⟨⟨_, rfl⟩, .inl (by rw [List.take_of_length_le (by decide)] at hJk; exact hJk)⟩
  · have hs' : slotI s = false := by simpa using hs
    have hcl : clsI s = [] := by unfold clsI; rw [if_neg hs]
    rw [hcl] at hY ⊢
    refine calls_in Try.func41 rfl ?_; simp only [Try.ntmps41, List.size_toArray, List.length_cons, List.length_nil, Nat.reduceAdd, Nat.reduceSub, Array.replicate_succ, Array.replicate_zero, List.push_toArray, List.append_toArray, List.nil_append, List.cons_append]
    gi_wp2_with fail
    refine (callsIn_wide.2 (is_calls s _)).mono ?_; rintro e w1 ⟨rfl, rfl⟩
    rw [hs']
    gi_wp2_with fail
    refine bodyPost_ret (results_none rfl _ _ _) rfl ?_
    exact ⟨⟨_, rfl⟩, .inl h0⟩
theorem info2 : ElemInfo Try.prog 49 (.agg #[.int .i64 0, .int .i64 0]) 2 16 := elemInfo_of (by kernel_rfl) rfl (by decide)
/-- The cells of pairs: a class and its region. -/
def pairsV (s : Int) : List Int → List Value
  | [] => []
  | c :: l => .int .i64 c :: .int .i64 (regI s c) :: pairsV s l
theorem pairsV_snoc (s : Int) (l : List Int) (c : Int) : pairsV s (l ++ [c]) = pairsV s l ++ [.int .i64 c, .int .i64 (regI s c)] := by
  induction l with
  | nil => rfl
  | cons a l ih => simp [pairsV, ih]
theorem clsI_len (s : Int) : (clsI s).length ≤ 8 := by unfold clsI; split <;> decide
/-- The helper 'regions': the first ones, at most so many. -/
theorem regions_ok (s most : Int) (h1 : 1 ≤ most) (h3 : most ≤ 20) (w : World) : Calls Try.prog 23 #[.int .i64 s, .int .i64 most] w fun e w' =>
    ∃ v, e = .returned v ∧ w'.ownsRow w.heap.size 49 2 v ((clsI s).take most.toNat).length (pairsV s ((clsI s).take most.toNat)) ∧ Below w.heap.size w w' := by
  have hfn := fun (fn : Fn) (x y : Array Value) (w : World) => run_eql_func_nil (P := Try.prog) Try.underlying67 fn x y w
  have hlen := clsI_len s
  refine calls_of_wp_marks Try.func23 rfl ?_; simp only [Try.ntmps23, List.size_toArray, List.length_cons, List.length_nil, Nat.reduceAdd, Nat.reduceSub, Array.replicate_succ, Array.replicate_zero, List.push_toArray, List.append_toArray, List.nil_append, List.cons_append]
  go_wp2_with fail
  refine (Regions_calls _ _).mono ?_; rintro e w1 ⟨rfl, rfl⟩
  go_wp2_with fail
  refine (Regions_calls _ _).mono ?_; rintro e w2 ⟨rfl, rfl⟩
  go_wp2_with fail
  obtain ⟨W0, hW0⟩ : ∃ W0, W0 = (((w.alloc (.cells #[.int .i64 most] 3)).alloc (.cells #[.slice none 0 0] 47)).alloc (.cells #[.int .i64 s] 3)).alloc (.cells #[.int .i64 s] 3) := ⟨_, rfl⟩
  rw [← hW0]
  have hs0 : W0.heap.size = w.heap.size + 4 := by rw [hW0]; simp
  have b0 : Blk W0 w.heap.size #[.int .i64 most] 3 := by rw [hW0]; exact (((Blk.new w _ _).alloc _).alloc _).alloc _
  have b1 : Blk W0 (w.heap.size + 1) #[.slice none 0 0] 47 := by rw [hW0]; exact ((Blk.newAt _ _ _ (by simp)).alloc _).alloc _
  have b3 : Blk W0 (w.heap.size + 1 + 1 + 1) #[.int .i64 s] 3 := by rw [hW0]; exact Blk.newAt _ _ _ (by simp)
  have hw0 : Below w.heap.size w W0 := by rw [hW0]; exact ((((Below.refl _ w).alloc (Nat.le_refl _) _).alloc (by simp) _).alloc (by simp; omega) _).alloc (by simp; omega) _
  clear hW0 hfn
  refine wp_range1 rfl (enters_of Try.func41 (by kernel_rfl) rfl) (Regions_iter s (w.heap.size + 1 + 1 + 1)) (fun _ => rfl)
    (fun pre W => ∃ v, Blk W (w.heap.size + 1) #[v] 47 ∧ W.ownsRow (w.heap.size + 4) 49 2 v pre.length (pairsV s pre) ∧ (pre.length : Int) < most ∧ Blk W w.heap.size #[.int .i64 most] 3 ∧ Blk W (w.heap.size + 1 + 1 + 1) #[.int .i64 s] 3 ∧ Below w.heap.size w W ∧ w.heap.size + 4 ≤ W.heap.size)
    (fun c W => c = .exit 0 ∧ ∃ v pre suf, clsI s = pre ++ suf ∧ (pre.length : Int) = most ∧ Blk W (w.heap.size + 1) #[v] 47 ∧ W.ownsRow (w.heap.size + 4) 49 2 v pre.length (pairsV s pre) ∧ Below w.heap.size w W ∧ w.heap.size + 4 ≤ W.heap.size) ?a1 ?ha ?hI ?hIx ?hA ?h0 ?hbody ?hdone ?hstop
  case ha => intro m l x W K hK; gi_wp2; exact hK
  case hI => rintro pre X Y ⟨v, h1, h2, h3, h4, h5, h7, h8⟩ hk; exact ⟨v, h1.keeps hk, owns_keeps h2 hk, h3, h4.keeps hk, h5.keeps hk, h7.keeps hk (by omega), Nat.le_trans h8 hk.size⟩
  case hIx => rintro c X Y ⟨hc, v, pre, suf, h1, h2, h3, h4, h5, h6⟩ hk; exact ⟨hc, v, pre, suf, h1, h2, h3.keeps hk, owns_keeps h4 hk, h5.keeps hk (by omega), Nat.le_trans h6 hk.size⟩
  case hA => rintro pre W ⟨v, h1, h2, h3, h4, h5, h7, h8⟩; exact h5.cell 0 rfl
  case h0 => exact ⟨_, b1, World.ownsRow_nil _ _ _ _, by simp; omega, b0, b3, hw0, by omega⟩
  case hbody =>
    rintro m l pre x suf W hxs hl hrec ⟨v, h1, h2, h3, h4, h5, h7, h8⟩
    have hpl : pre.length ≤ 8 := by have := congrArg List.length hxs; simp at this; omega
    have hpv : pairsV s (pre ++ [x]) = pairsV s pre ++ [.int .i64 x, .int .i64 (regI s x)] := pairsV_snoc s pre x
    generalize regI s x = G at *
    have c1 : W.cell? ⟨w.heap.size + 1, 0, none⟩ = some v := h1.cell 0 rfl
    gi_wp2_with (gi_at_builtin; refine wpListIn_append_row rfl _ _ 47 rfl (w.heap.size + 4) Try.underlying47 info2 pre.length (pairsV s pre) rfl ?c1 (W.heap.size + 1) 1 [.int .i64 x, .int .i64 G] rfl ?c2 ?c3 ?c4 ?c5 ?c6 ?c7 ?_)
    case c1 => exact h2.alloc _
    case c2 => exact RowAt.lit W #[.int .i64 x, .int .i64 G] 49 1 _ (by omega)
    case c3 => rfl
    case c4 => intro u hu; simp at hu; rcases hu with rfl | rfl <;> rfl
    case c5 => unfold maxLen; omega
    case c6 => omega
    case c7 => simp; omega
    intro v' W' ho hg
    have hr' : KeepsRec W W' := ((KeepsRec.refl W).alloc _).appended (h2.alloc _) hg
    have hb' : Below w.heap.size w W' := (h7.alloc (by omega) _).appended (h2.alloc _) hg (by omega) (by simp; omega)
    have g1 := (h1.alloc _).appended (h2.alloc _) hg (by omega)
    have g4 := (h4.alloc _).appended (h2.alloc _) hg (by omega)
    have g5 := (h5.alloc _).appended (h2.alloc _) hg (by omega)
    have hz' : w.heap.size + 4 ≤ W'.heap.size := by have := hg.size; simp at this; omega
    clear hg c1
    rw [← hpv] at ho
    obtain ⟨g, cp, rfl⟩ := ownsRow_succ ho
    have f1 := g1.frozen 0
    have c1 : W'.cell? ⟨w.heap.size + 1, 0, none⟩ = some v := g1.cell 0 rfl
    have c4 : W'.cell? ⟨w.heap.size, 0, none⟩ = some (.int .i64 most) := g4.cell 0 rfl
    clear hpv
    gi_wp2
    · have ht : most ≤ (pre.length : Int) + 1 := by assumption
      refine ⟨hr'.setCell _ _, rfl, _, pre ++ [x], suf, by rw [hxs]; simp, by simp; omega, g1.set 0 _, ?_, hb'.setCell (p := ⟨w.heap.size + 1, 0, none⟩) (by simp) _, by simpa using hz'⟩
      have := ownsRow_setCell_below ho (a := ⟨w.heap.size + 1, 0, none⟩) (by simp) (.slice (some ⟨g, 0, none⟩) (pre.length + 1) cp)
      simpa using this
    · have ht : (pre.length : Int) + 1 < most := by assumption
      refine ⟨hr'.setCell _ _, _, g1.set 0 _, ?_, by simp; omega, g4.setOther _ _ (by simp), g5.setOther _ _ (by simp; omega), hb'.setCell (p := ⟨w.heap.size + 1, 0, none⟩) (by simp) _, by simpa using hz'⟩
      have := ownsRow_setCell_below ho (a := ⟨w.heap.size + 1, 0, none⟩) (by simp) (.slice (some ⟨g, 0, none⟩) (pre.length + 1) cp)
      simpa using this
  case hdone =>
    rintro D W hD ⟨v, h1, h2, h3, h4, h5, h7, h8⟩ hK
    have c1 : W.cell? ⟨w.heap.size + 1, 0, none⟩ = some v := h1.cell 0 rfl
    go_wp2_with fail
    have htk : (clsI s).take most.toNat = clsI s := List.take_of_length_le (by omega)
    refine postM_ret hK (results_tmp rfl _ _ _) ⟨v, rfl, ?_, below_putObj h7 (by omega) _ (Array.getElem?_eq_some_iff.1 hK).1⟩
    rw [htk]
    exact owns_weaken (ownsRow_putObj h2 _ hK rfl) (by omega)
  case hstop =>
    rintro D c W hD ⟨rfl, v, pre, suf, h1, h2, h3, h4, h5, h6⟩ hK
    have c1 : W.cell? ⟨w.heap.size + 1, 0, none⟩ = some v := h3.cell 0 rfl
    go_wp2_with fail
    have htk : (clsI s).take most.toNat = pre := by rw [h1, List.take_append_of_le_length (by omega), List.take_of_length_le (by omega)]
    refine postM_ret hK (results_tmp rfl _ _ _) ⟨v, rfl, ?_, below_putObj h5 (by omega) _ (Array.getElem?_eq_some_iff.1 hK).1⟩
    rw [htk]
    exact owns_weaken (ownsRow_putObj h4 _ hK rfl) (by omega)
end Go.Proofs.Ytcgdipkmcgionaa
