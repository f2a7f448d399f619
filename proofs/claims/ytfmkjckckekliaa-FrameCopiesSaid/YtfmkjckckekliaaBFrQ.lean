/-
  Package pinfoldlaw07: all. Conditions: a pool, its keys ints; at least one is wanted.
-/
import Derived.Test.YtfmkjckckekliaaFrP
namespace Go.Proofs.Ytfmkjckckekliaa
open Go.RowKit
attribute [local go_sem] Oper.semAt_some
set_option maxHeartbeats 4000000
set_option maxRecDepth 4000

theorem infoRow : ElemInfo Try.prog 49 (.agg #[.int .i64 0, .int .i64 0]) 2 16 := elemInfo_of (by kernel_rfl) rfl (by decide)
def rowsV (l : List (Int × Int)) : List Value := l.flatMap fun x => [.int .i64 x.1, .int .i64 x.2]
theorem rowsV_len (l : List (Int × Int)) : (rowsV l).length = l.length * 2 := by induction l with | nil => rfl | cons a r ih => simp [rowsV] at ih ⊢; omega
theorem rowsV_snoc (l : List (Int × Int)) (x : Int × Int) : rowsV (l ++ [x]) = rowsV l ++ [.int .i64 x.1, .int .i64 x.2] := by simp [rowsV]
theorem allL_len (F : List Fr) : (allL F).length = F.length := by simp [allL, srt, encF]
theorem all_ok {w : World} {b bf br : Nat} {many : Int} {F : List Fr} {R : List (Int × Int)} (hpo : PoolAt w b bf br many F R) (h256 : ∀ x ∈ F, x.2.2.length = 256) (hlen : F.length ≤ 1000000) (hw : ∀ x ∈ F, (Lit.int .i64 x.1).wf = true) (most : Int) (h1 : 1 ≤ most) (h2 : most ≤ 9223372036854775807) :
    Calls Try.prog 18 #[.pointer (some ⟨b, 0, none⟩), .int .i64 most] w fun e w' =>
      ∃ v, e = .returned v ∧ w'.ownsRow w.heap.size 49 2 v ((allL F).take most.toNat).length (rowsV ((allL F).take most.toNat)) ∧ Below w.heap.size w w' := by
  have hfn := fun (fn : Fn) (x y : Array Value) (w : World) => run_eql_func_nil (P := Try.prog) Try.underlying66 fn x y w
  refine calls_of_wp_marks Try.func18 rfl ?_; simp only [Try.ntmps18, List.size_toArray, List.length_cons, List.length_nil, Nat.reduceAdd, Nat.reduceSub, Array.replicate_succ, Array.replicate_zero, List.push_toArray, List.append_toArray, List.nil_append, List.cons_append]
  go_wp2_with fail
  obtain ⟨W0, hW0⟩ : ∃ W0, W0 = (w.alloc (.cells #[.int .i64 most] 3)).alloc (.cells #[.slice none 0 0] 46) := ⟨_, rfl⟩
  rw [← hW0]
  have hs0 : W0.heap.size = w.heap.size + 2 := by rw [hW0]; simp
  have b0 : Blk W0 w.heap.size #[.int .i64 most] 3 := by rw [hW0]; exact (Blk.new w _ _).alloc _
  have b1 : Blk W0 (w.heap.size + 1) #[.slice none 0 0] 46 := by rw [hW0]; exact Blk.newAt _ _ _ (by simp)
  have k0 : Below w.heap.size w W0 := by rw [hW0]; exact ((Below.refl _ w).alloc (Nat.le_refl _) _).alloc (by simp) _
  have hp0 : PoolAt W0 b bf br many F R := by rw [hW0]; exact (hpo.alloc _).alloc _
  clear hW0
  refine (All_calls hp0).mono ?_; rintro e W1 ⟨s1, bc1, rfl, _, _, _, _, j1⟩
  have k1 := k0.trans (j1.mono k0.size)
  have hz1 := j1.size
  replace b0 := b0.below j1 b0.lt
  replace b1 := b1.below j1 b1.lt
  have hp1 := hp0.step j1
  clear j1 hp0 k0
  go_wp2_with fail
  refine (All_calls hp1).mono ?_; rintro e W2 ⟨s, bc, rfl, ls, lb, hS, hM, j2⟩
  have k2 := k1.trans (j2.mono k1.size)
  have hz2 := j2.size
  replace b0 := b0.below j2 b0.lt
  replace b1 := b1.below j2 b1.lt
  clear j2 hp1 k1 hfn
  go_wp2_with fail
  have hsl := hS.lt
  have hbl := hM.lt
  refine wp_rangeS1 rfl (enters_of Try.func55 (by kernel_rfl) rfl) (all_iter s bc F h256 hlen hw) (fun _ => rfl)
    (fun hi pre W => ∃ v, Blk W (w.heap.size + 1) #[v] 46 ∧ W.ownsRow hi 49 2 v pre.length (rowsV pre) ∧ (pre.length : Int) < most ∧ Blk W w.heap.size #[.int .i64 most] 3 ∧ Blk W s #[.map (some bc)] 72 ∧ MapI W bc (encF F) ∧ Below w.heap.size w W ∧ W2.heap.size ≤ W.heap.size ∧ W2.heap.size ≤ hi)
    (fun c W => c = .exit 0 ∧ ∃ v pre suf, allL F = pre ++ suf ∧ (pre.length : Int) = most ∧ Blk W (w.heap.size + 1) #[v] 46 ∧ W.ownsRow W2.heap.size 49 2 v pre.length (rowsV pre) ∧ Below w.heap.size w W ∧ W2.heap.size ≤ W.heap.size) ?a1 ?ha ?hI ?hIx ?hA ?h0 ?hbody ?hdone ?hstop
  case ha => intro m l x W K hK; gi_wp2; exact hK
  case hI => rintro hi pre X Y ⟨v, h1, h2, h3, h4, h5, h6, h7, h8, h9⟩ hk; exact ⟨v, h1.keeps hk, owns_keeps h2 hk, h3, h4.keeps hk, h5.keeps hk, h6.keeps hk, h7.keeps hk (by omega), Nat.le_trans h8 hk.size, h9⟩
  case hIx => rintro c X Y ⟨hc, v, pre, suf, h1, h2, h3, h4, h5, h6⟩ hk; exact ⟨hc, v, pre, suf, h1, h2, h3.keeps hk, owns_keeps h4 hk, h5.keeps hk (by omega), Nat.le_trans h6 hk.size⟩
  case hA => rintro hi pre W ⟨v, h1, h2, h3, h4, h5, h6, h7, h8, h9⟩; exact ⟨h5.cell 0 rfl, h6⟩
  case h0 => intro hi hh; exact ⟨_, b1, World.ownsRow_nil _ _ _ _, by simp; omega, b0, hS, hM, k2, Nat.le_refl _, by omega⟩
  case hbody =>
    rintro m l hi pre x suf W hxs hl hrec hhi hhW ⟨v, h1, h2, h3, h4, h5, h6, h7, h8, h9⟩
    have hpl : pre.length ≤ 1000000 := by have := congrArg List.length hxs; rw [allL_len] at this; simp at this; omega
    have c1 : W.cell? ⟨w.heap.size + 1, 0, none⟩ = some v := h1.cell 0 rfl
    have hrl := Lib.hid (rowsV_len pre)
    gi_wp2_with (gi_at_builtin; refine wpListIn_append_row rfl _ _ 46 rfl hi Try.underlying46 infoRow pre.length (rowsV pre) rfl ?c1 (W.heap.size + 1) 1 [.int .i64 x.1, .int .i64 x.2] rfl ?c2 ?c3 ?c4 ?c5 ?c6 ?c7 ?_)
    case c1 => exact h2.alloc _
    case c2 => exact RowAt.lit W #[.int .i64 x.1, .int .i64 x.2] 49 1 _ (by omega)
    case c3 => rfl
    case c4 => intro u hu; simp at hu; rcases hu with rfl | rfl <;> rfl
    case c5 => unfold maxLen; omega
    case c6 => omega
    case c7 => simp; omega
    intro v' W' ho hg
    have ha := h2.alloc (.cells #[.int .i64 x.1, .int .i64 x.2] 49)
    have hsm : Sm W2.heap.size hi W W' := by
      refine ⟨by have := hg.size; simp at this; omega, fun k hk1 hk2 => ?_⟩
      rw [hg.block k (by simp; omega) (fun e => by have := owns_block ha k e.symm; omega)]
      exact Below.heap_alloc W _ k (by omega)
    have hb' : Below w.heap.size w W' := (h7.alloc (by omega) _).appended (h2.alloc _) hg (by omega) (by simp; omega)
    have g1 := (h1.alloc _).appended (h2.alloc _) hg (by omega)
    have g4 := (h4.alloc _).appended (h2.alloc _) hg (by omega)
    have g5 := (h5.alloc _).appended (h2.alloc _) hg (by omega)
    have g6 : MapI W' bc (encF F) := (h6.alloc (.cells #[.int .i64 x.1, .int .i64 x.2] 49)).of_block (hg.block bc (by simp; omega) (fun e => by have := owns_block ha bc e.symm; omega))
    have hz' : W2.heap.size ≤ W'.heap.size := by have := hg.size; simp at this; omega
    clear hg c1 ha
    rw [← rowsV_snoc] at ho
    obtain ⟨g, cp, rfl⟩ := ownsRow_succ ho
    have f1 := g1.frozen 0
    have c1 : W'.cell? ⟨w.heap.size + 1, 0, none⟩ = some v := g1.cell 0 rfl
    have c4 : W'.cell? ⟨w.heap.size, 0, none⟩ = some (.int .i64 most) := g4.cell 0 rfl
    have hso := ownsRow_setCell_below ho (a := ⟨w.heap.size + 1, 0, none⟩) (by dsimp only; omega) (.slice (some ⟨g, 0, none⟩) (pre.length + 1) cp)
    have HSO := Lib.hid hso
    clear hso
    gi_wp2_with fail
    · have ht : most ≤ (pre.length : Int) + 1 := by assumption
      refine ⟨hsm.setCell _ (Or.inr (by dsimp only; omega)) _, rfl, _, pre ++ [x], suf, by rw [hxs]; simp, by simp; omega, g1.set 0 _, ?_, hb'.setCell (p := ⟨w.heap.size + 1, 0, none⟩) (by simp) _, by simpa using hz'⟩
      have := HSO.out
      rw [show (pre ++ [x]).length = pre.length + 1 by simp]
      exact owns_weaken this (by omega)
    · have ht : (pre.length : Int) + 1 < most := by assumption
      refine ⟨hsm.setCell _ (Or.inr (by dsimp only; omega)) _, _, g1.set 0 _, ?_, by simp; omega, g4.setOther _ _ (by simp), g5.setOther _ _ (by dsimp only; omega), g6.setCell _ _ (by dsimp only; omega), hb'.setCell (p := ⟨w.heap.size + 1, 0, none⟩) (by simp) _, by simpa using hz', h9⟩
      have := HSO.out
      rw [show (pre ++ [x]).length = pre.length + 1 by simp]
      exact this
  case hdone =>
    rintro D W hi hD ⟨v, h1, h2, h3, h4, h5, h6, h7, h8, h9⟩ hK
    have c1 : W.cell? ⟨w.heap.size + 1, 0, none⟩ = some v := h1.cell 0 rfl
    go_wp2_with fail
    have htk : (allL F).take most.toNat = allL F := List.take_of_length_le (by omega)
    refine postM_ret hK (results_tmp rfl _ _ _) ⟨v, rfl, ?_, below_putObj h7 (by omega) _ (Array.getElem?_eq_some_iff.1 hK).1⟩
    rw [htk]
    exact owns_weaken (ownsRow_putObj h2 _ hK rfl) (by omega)
  case hstop =>
    rintro D c W hD ⟨rfl, v, pre, suf, h1, h2, h3, h4, h5, h6⟩ hK
    have c1 : W.cell? ⟨w.heap.size + 1, 0, none⟩ = some v := h3.cell 0 rfl
    go_wp2_with fail
    have htk : (allL F).take most.toNat = pre := by rw [h1, List.take_append_of_le_length (by omega), List.take_of_length_le (by omega)]
    refine postM_ret hK (results_tmp rfl _ _ _) ⟨v, rfl, ?_, below_putObj h5 (by omega) _ (Array.getElem?_eq_some_iff.1 hK).1⟩
    rw [htk]
    exact owns_weaken (ownsRow_putObj h4 _ hK rfl) (by omega)
end Go.Proofs.Ytfmkjckckekliaa

/-
  Package frame: Reserved. Conditions: a pool whose books are in order.
-/
namespace Go.Proofs.Ytfmkjckckekliaa
open Go.RowKit
attribute [local go_sem] Oper.semAt_some
set_option maxHeartbeats 4000000
set_option maxRecDepth 4000

structure RsvS (b br : Nat) (who : Int) (R : List (Int × Int)) (Y : World) : Prop where
  c1 : Y.cell? ⟨b, 1, none⟩ = some (.map (some br))
  lk : (Instr.lookup 35 (.map (some br)) (.int .i64 who) false).run Try.prog Y = .ok (.int .i64 (resvI R who)) Y
theorem RsvS.of {w0 Y : World} {b bf br : Nat} {who many : Int} {F : List Fr} {R : List (Int × Int)} (hpo : PoolAt w0 b bf br many F R) (h : Below w0.heap.size w0 Y) : RsvS b br who R Y := by
  have hc := (hpo.step h).cells
  have hlk := ((hpo.step h).re.lookup (P := Try.prog) Try.underlying35 Try.underlying3 (zero_int Y) who).1
  rw [getA_encR] at hlk
  exact ⟨hc.2.1, hlk⟩
def rsvdI (R : List (Int × Int)) (who : Int) : Int := if who < 0 then 0 else resvI R who
def rsvdH (F : List Fr) (who : Int) : Int := if who < 0 then 0 else (hasF F who : Int)
theorem Reserved_ok {w : World} {b bf br : Nat} {many : Int} {F : List Fr} {R : List (Int × Int)} (hpo : PoolAt w b bf br many F R) (hs : Sound many F R) (who : Int) :
    Calls Try.prog 16 #[.pointer (some ⟨b, 0, none⟩), .int .i64 who] w fun e w' => e = .returned (.tuple #[.int .i64 (rsvdI R who), .int .i64 (rsvdH F who)]) ∧ Below w.heap.size w w' := by
  by_cases h0 : who < 0
  · have e1 : rsvdI R who = 0 := if_pos h0
    have e2 : rsvdH F who = 0 := if_pos h0
    rw [e1, e2]
    clear e1 e2
    go_enter Try.func16, Try.ntmps16
    go_wp2_with fail
    refine (none_live hpo).mono ?_; rintro e w1 ⟨rfl, h1⟩
    go_wp2_with fail
    go_ret2
    exact ⟨rfl, h1⟩
  · have e1 : rsvdI R who = resvI R who := if_neg h0
    have e2 : rsvdH F who = hasF F who := if_neg h0
    rw [e1, e2]
    clear e1 e2
    go_enter Try.func16, Try.ntmps16
    go_wp2_with fail
    refine (none_live hpo).mono ?_; rintro e w1 ⟨rfl, h1⟩
    have hp1 := hpo.step h1
    go_wp2_with fail
    have k0 := (Below.refl w1.heap.size w1).drew
    refine wp_region_held_drew (S := RsvS b br who R) (by kernel_rfl) (RsvS.of hp1 k0) (fun hHeld => ?_)
    refine wpAnyH_take (i := 0) (v := ?_) rfl (by kernel_rfl) (by kernel_rfl) (by kernel_rfl) (fun _ _ _ h => h) (Or.inl ⟨by rfl, ?_⟩) (by assumption) ?_
    rotate_left
    · (intro Y hSw; (try dsimp only at hSw); obtain ⟨hS0, hS1⟩ := hSw; go_simp; try with_reducible rfl)
    try simp only [Act.put, List.getElem_toArray, List.getElem_cons_zero, List.getElem_cons_succ, List.setIfInBounds_toArray, List.set_cons_zero, List.set_cons_succ]
    refine wpAnyH_take (i := 1) (v := ?_) rfl (by kernel_rfl) (by kernel_rfl) (by kernel_rfl) (fun _ _ _ h => h) (Or.inl ⟨by rfl, ?_⟩) (by assumption) ?_
    rotate_left
    · (intro Y hSw; (try dsimp only at hSw); obtain ⟨hS0, hS1⟩ := hSw; go_simp; try with_reducible rfl)
    try simp only [Act.put, List.getElem_toArray, List.getElem_cons_zero, List.getElem_cons_succ, List.setIfInBounds_toArray, List.set_cons_zero, List.set_cons_succ]
    refine wpAnyH_take (i := 2) (v := ?_) rfl (by kernel_rfl) (by kernel_rfl) (by kernel_rfl) (fun _ _ _ h => h) (Or.inl ⟨by rfl, ?_⟩) (by assumption) ?_
    rotate_left
    · (intro Y hSw; (try dsimp only at hSw); obtain ⟨hS0, hS1⟩ := hSw; go_simp; try with_reducible rfl)
    try simp only [Act.put, List.getElem_toArray, List.getElem_cons_zero, List.getElem_cons_succ, List.setIfInBounds_toArray, List.set_cons_zero, List.set_cons_succ]
    refine wpAnyH_take (i := 3) (v := ?_) rfl (by kernel_rfl) (by kernel_rfl) (by kernel_rfl) (fun _ _ _ h => h) (Or.inl ⟨by rfl, ?_⟩) (by assumption) ?_
    rotate_left
    · (intro Y hSw; (try dsimp only at hSw); obtain ⟨hS0, hS1⟩ := hSw; go_simp; try with_reducible rfl)
    try simp only [Act.put, List.getElem_toArray, List.getElem_cons_zero, List.getElem_cons_succ, List.setIfInBounds_toArray, List.set_cons_zero, List.set_cons_succ]
    refine wpAnyH_take (i := 4) (v := ?_) rfl (by kernel_rfl) (by kernel_rfl) (by kernel_rfl) (fun _ _ _ h => h) (Or.inl ⟨by rfl, ?_⟩) (by assumption) ?_
    rotate_left
    · (intro Y hSw; (try dsimp only at hSw); obtain ⟨hS0, hS1⟩ := hSw; go_simp; try with_reducible rfl)
    try simp only [Act.put, List.getElem_toArray, List.getElem_cons_zero, List.getElem_cons_succ, List.setIfInBounds_toArray, List.set_cons_zero, List.set_cons_succ]
    refine wpAnyH_take (i := 5) (v := ?_) rfl (by kernel_rfl) (by kernel_rfl) (by kernel_rfl) (fun _ _ _ h => h) (Or.inl ⟨by rfl, ?_⟩) (by assumption) ?_
    rotate_left
    · (intro Y hSw; (try dsimp only at hSw); obtain ⟨hS0, hS1⟩ := hSw; go_simp; try with_reducible rfl)
    try simp only [Act.put, List.getElem_toArray, List.getElem_cons_zero, List.getElem_cons_succ, List.setIfInBounds_toArray, List.set_cons_zero, List.set_cons_succ]
    refine wpAnyH_take (i := 6) (v := ?_) rfl (by kernel_rfl) (by kernel_rfl) (by kernel_rfl) (fun _ _ _ h => h) (Or.inl ⟨by rfl, ?_⟩) (by assumption) ?_
    rotate_left
    · (intro Y hSw; (try dsimp only at hSw); obtain ⟨hS0, hS1⟩ := hSw; go_simp; try with_reducible rfl)
    try simp only [Act.put, List.getElem_toArray, List.getElem_cons_zero, List.getElem_cons_succ, List.setIfInBounds_toArray, List.set_cons_zero, List.set_cons_succ]
    refine wpAnyH_take (i := 7) (v := ?_) rfl (by kernel_rfl) (by kernel_rfl) (by kernel_rfl) (fun _ _ _ h => h) (Or.inl ⟨by rfl, ?_⟩) (by assumption) ?_
    rotate_left
    · (intro Y hSw; (try dsimp only at hSw); obtain ⟨hS0, hS1⟩ := hSw; go_simp; try with_reducible rfl)
    try simp only [Act.put, List.getElem_toArray, List.getElem_cons_zero, List.getElem_cons_succ, List.setIfInBounds_toArray, List.set_cons_zero, List.set_cons_succ]
    refine wpAnyH_take (i := 8) (v := ?_) rfl (by kernel_rfl) (by kernel_rfl) (by kernel_rfl) (fun _ _ _ h => h) (Or.inl ⟨by rfl, ?_⟩) (by assumption) ?_
    rotate_left
    · (intro Y hSw; (try dsimp only at hSw); obtain ⟨hS0, hS1⟩ := hSw; go_simp; try with_reducible rfl)
    try simp only [Act.put, List.getElem_toArray, List.getElem_cons_zero, List.getElem_cons_succ, List.setIfInBounds_toArray, List.set_cons_zero, List.set_cons_succ]
    refine wpAnyH_ready (rs := [9]) (by kernel_rfl) (by simp) ?_
    refine AllReadyH.cons rfl (fun K hK => ?_) AllReadyH.nil
    go_simp
    refine (has_calls (hp1.step k0) hs who).mono ?_; rintro e w2 ⟨rfl, h2⟩
    have k2 := k0.trans (h2.mono (Nat.le_refl _))
    go_wp2_with fail
    refine hK.out _ _ (RsvS.of hp1 k2) (fun hHeld => ?_)
    clear hK K
    try simp only [Act.put, List.getElem_toArray, List.getElem_cons_zero, List.getElem_cons_succ, List.setIfInBounds_toArray, List.set_cons_zero, List.set_cons_succ]
    refine wpAnyH_take (i := 10) (v := ?_) rfl (by kernel_rfl) (by kernel_rfl) (by kernel_rfl) (fun _ _ _ h => h) (Or.inl ⟨by rfl, ?_⟩) (by assumption) ?_
    rotate_left
    · (intro Y hSw; (try dsimp only at hSw); obtain ⟨hS0, hS1⟩ := hSw; go_simp; try with_reducible rfl)
    try simp only [Act.put, List.getElem_toArray, List.getElem_cons_zero, List.getElem_cons_succ, List.setIfInBounds_toArray, List.set_cons_zero, List.set_cons_succ]
    refine wpAnyH_take (i := 11) (v := ?_) rfl (by kernel_rfl) (by kernel_rfl) (by kernel_rfl) (fun _ _ _ h => h) (Or.inl ⟨by rfl, ?_⟩) (by assumption) ?_
    rotate_left
    · (intro Y hSw; (try dsimp only at hSw); obtain ⟨hS0, hS1⟩ := hSw; go_simp; try with_reducible rfl)
    try simp only [Act.put, List.getElem_toArray, List.getElem_cons_zero, List.getElem_cons_succ, List.setIfInBounds_toArray, List.set_cons_zero, List.set_cons_succ]
    refine wpAnyH_done (by kernel_rfl) ?_ _
    go_wp2_with fail
    go_ret2
    exact ⟨rfl, h1.trans (k2.mono h1.size)⟩
end Go.Proofs.Ytfmkjckckekliaa
