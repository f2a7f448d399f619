/-
  Package pinfoldlaw08: all. Conditions: a table or none, its rows in order; less rows than are wanted.
-/
import Derived.Test.YtchepkihlnpfeaaPgQ
import Derived.Test.YtchepkihlnpfeaaPgJ
import Derived.Test.YtchepkihlnpfeaaCoreT
namespace Go.Proofs.Ytchepkihlnpfeaa
open Go.RowKit
attribute [local go_sem] Oper.semAt_some
set_option maxHeartbeats 4000000
set_option maxRecDepth 8000

theorem of_len (D : Tb) (o : Int) : (ofR D o).length ≤ D.length := List.length_filter_le _ _
theorem AllV.sm {B : Nat} {W2 W : World} {gc go : Nat} {p : Option Addr} {D : Tb} {o : Int} (h : AllV B W2 gc go p D o) (k : Sm B W2.heap.size W2 W) : AllV B W gc go p D o := by
  refine ⟨(k.2 gc h.lo.1 h.box.lt).trans h.box, (k.2 go h.lo.2 h.own.lt).trans h.own, ?_, h.lo⟩
  rcases h.tb with h1 | ⟨c, m, h1, h2, h3, h4⟩
  · exact .inl h1
  · exact .inr ⟨c, m, h1, ⟨(k.2 c h3 h2.blk.lt).trans h2.blk, h2.mp.of_block (k.2 m h4 h2.mp.lt)⟩, h3, h4⟩
theorem all_ok {w : World} {p : Option Addr} {D : Tb} (h : TbV w p D) (hg : Good D) (hl : D.length ≤ 1000) (o : Int) (most : Int) (hm : ((ofR D o).length : Int) < most) (hm2 : most ≤ 1000000) :
    Calls Try.prog 23 #[.pointer p, .int .i64 o, .int .i64 most] w fun e w' => ∃ v, e = .returned v ∧ w'.ownsRow w.heap.size 55 4 v (ofR D o).length (rowT (ofR D o)) ∧ Below w.heap.size w w' := by
  have hfn := fun (fn : Fn) (x y : Array Value) (w : World) => run_eql_func_nil (P := Try.prog) Try.underlying51 fn x y w
  refine calls_of_wp_marks Try.func23 rfl ?_; simp only [Try.ntmps23, List.size_toArray, List.length_cons, List.length_nil, Nat.reduceAdd, Nat.reduceSub, Array.replicate_succ, Array.replicate_zero, List.push_toArray, List.append_toArray, List.nil_append, List.cons_append]
  go_wp2_with fail
  obtain ⟨W0, hW0⟩ : ∃ W0, W0 = (w.alloc (.cells #[.int .i64 most] 3)).alloc (.cells #[.slice none 0 0] 26) := ⟨_, rfl⟩
  rw [← hW0]
  have hs0 : W0.heap.size = w.heap.size + 2 := by rw [hW0]; simp
  have b0 : Blk W0 w.heap.size #[.int .i64 most] 3 := by rw [hW0]; exact (Blk.new w _ _).alloc _
  have b1 : Blk W0 (w.heap.size + 1) #[.slice none 0 0] 26 := by rw [hW0]; exact Blk.newAt _ _ _ (by simp)
  have k0 : Below w.heap.size w W0 := by rw [hW0]; exact ((Below.refl _ w).alloc (Nat.le_refl _) _).alloc (by simp) _
  clear hW0
  refine (All_ok (h.step k0) o).mono ?_; rintro e W1 ⟨_, _, _, rfl, _, j1⟩
  have k1 := k0.trans (j1.mono k0.size)
  have hz1 := j1.size
  replace b0 := b0.below j1 b0.lt
  replace b1 := b1.below j1 b1.lt
  clear j1 k0
  go_wp2_with fail
  refine (All_ok (h.step k1) o).mono ?_; rintro e W2 ⟨gc, go, q, rfl, hV, j2⟩
  have k2 := k1.trans (j2.mono k1.size)
  have hz2 := j2.size
  replace b0 := b0.below j2 b0.lt
  replace b1 := b1.below j2 b1.lt
  clear j2 k1 hfn
  go_wp2_with fail
  refine wp_rangeSA rfl (enters_of Try.func46 (by kernel_rfl) rfl) (All_iter gc go q D o hg (by omega)) (fun _ => rfl)
    (fun hi pre W => ∃ v, Blk W (w.heap.size + 1) #[v] 26 ∧ W.ownsRow hi 55 4 v pre.length (rowT pre) ∧ Blk W w.heap.size #[.int .i64 most] 3 ∧ Sm W1.heap.size W2.heap.size W2 W ∧ Below w.heap.size w W ∧ W2.heap.size ≤ W.heap.size ∧ W2.heap.size ≤ hi)
    (fun c W => False) ?a1 (fun x => #[.int .i64 x.2.o, .int .i64 x.2.m, .int .i64 x.2.f]) 31 ?ha ?hI ?hIx ?hA ?h0 ?hbody ?hdone ?hstop
  case ha => intro m l x W b K hb hK; gi_wp2; exact hK
  case hI => rintro hi pre X Y ⟨v, h1, h2, h4, h5, h8, h9, h10⟩ hk; exact ⟨v, h1.keeps hk, owns_keeps h2 hk, h4.keeps hk, h5.trans ⟨hk.size, fun k _ hk2 => hk.low k hk2⟩, h8.keeps hk (by omega), Nat.le_trans h9 hk.size, h10⟩
  case hIx => rintro c X Y h hk; exact h
  case hA => rintro hi pre W ⟨v, h1, h2, h4, h5, h8, h9, h10⟩; have hV2 := hV.sm h5; exact ⟨hV2.box.cell 0 rfl, hV2.own.cell 0 rfl, hV2.tb.mono (Nat.zero_le _)⟩
  case h0 => intro hi hh; exact ⟨_, b1, World.ownsRow_nil _ _ _ _, b0, Sm.refl _ _ _, k2, Nat.le_refl _, by omega⟩
  case hbody =>
    rintro m lp hi pre ⟨xk, xo, xm, xf⟩ suf W g hxs hlp hrec hhi hhW hgb hX ⟨v, h1, h2, h4, h5, h8, h9, h10⟩
    have hpl : (pre.length : Int) + 1 < most := by have := congrArg List.length hxs; simp at this; omega
    have c1 : W.cell? ⟨w.heap.size + 1, 0, none⟩ = some v := h1.cell 0 rfl
    have x0 : W.cell? ⟨g, 0, none⟩ = some (.int .i64 xo) := hX.cell 0 rfl
    have x1 : W.cell? ⟨g, 1, none⟩ = some (.int .i64 xm) := hX.cell 1 rfl
    have x2 : W.cell? ⟨g, 2, none⟩ = some (.int .i64 xf) := hX.cell 2 rfl
    have hrl := Lib.hid (rowT_len pre)
    gi_wp2_with (gi_at_builtin; refine wpListIn_append_row rfl _ _ 26 rfl hi Try.underlying26 infoRow pre.length (rowT pre) rfl ?c1 (W.heap.size + 1) 1 [.int .i64 xk, .int .i64 xo, .int .i64 xm, .int .i64 xf] rfl ?c2 ?c3 ?c4 ?c5 ?c6 ?c7 ?_)
    case c1 => exact h2.alloc _
    case c2 => exact RowAt.lit W #[.int .i64 xk, .int .i64 xo, .int .i64 xm, .int .i64 xf] 55 1 _ (by omega)
    case c4 => first | exact ⟨rfl, rfl, rfl, rfl⟩ | (intro u hu; simp at hu; rcases hu with rfl | rfl | rfl | rfl <;> rfl)
    case c5 => unfold maxLen; omega
    case c6 => omega
    case c7 => first | omega | (simp; omega)
    intro v' W' ho hg'
    have hbh : Below hi W W' := ((Below.refl hi W).alloc hhW (.cells #[.int .i64 xk, .int .i64 xo, .int .i64 xm, .int .i64 xf] 55)).appended (h2.alloc _) hg' (Nat.le_refl _) (by simp; omega)
    have hb' : Below w.heap.size w W' := h8.trans (hbh.mono (by omega))
    have g1 := h1.below hbh (by omega)
    have g4 := h4.below hbh (by omega)
    have hz' : W2.heap.size ≤ W'.heap.size := by have := hbh.size; omega
    have hsm : Sm W2.heap.size hi W W' := Sm.of_below hbh (Nat.le_refl _)
    have g5 := h5.trans (Sm.of_below hbh h10)
    have ho' : W'.ownsRow hi 55 4 v' (pre ++ [(xk, (⟨xo, xm, xf⟩ : Ent))]).length (rowT (pre ++ [(xk, ⟨xo, xm, xf⟩)])) := by
      rw [List.length_append, rowT_snoc]; exact ho
    clear hg' c1 ho hbh
    obtain ⟨g9, cp, rfl, hgh, hgl⟩ := World.ownsRow.form ho' (by simp)
    rw [show (pre ++ [(xk, (⟨xo, xm, xf⟩ : Ent))]).length = pre.length + 1 by simp] at ho' ⊢
    have f1 := g1.frozen 0
    have c1 : W'.cell? ⟨w.heap.size + 1, 0, none⟩ = some v := g1.cell 0 rfl
    have c4 : W'.cell? ⟨w.heap.size, 0, none⟩ = some (.int .i64 most) := g4.cell 0 rfl
    have hso := ownsRow_setCell_below ho' (a := ⟨w.heap.size + 1, 0, none⟩) (by dsimp only; omega) (.slice (some ⟨g9, 0, none⟩) (pre.length + 1) cp)
    have HSO := Lib.hid hso
    clear hso
    gi_wp2_with fail
    refine ⟨hsm.setCell _ (Or.inr (by dsimp only; omega)) _, _, g1.set 0 _, ?_, g4.setOther _ _ (by simp), g5.setCell _ (Or.inr (by dsimp only; omega)) _, hb'.setCell (p := ⟨w.heap.size + 1, 0, none⟩) (by simp) _, by simpa using hz', h10⟩
    have := HSO.out
    rw [show (pre ++ [(xk, (⟨xo, xm, xf⟩ : Ent))]).length = pre.length + 1 by simp]
    exact this
  case hdone =>
    rintro D9 W hi hD ⟨v, h1, h2, h4, h5, h8, h9, h10⟩ hK
    have c1 : W.cell? ⟨w.heap.size + 1, 0, none⟩ = some v := h1.cell 0 rfl
    go_wp2_with fail
    refine postM_ret hK (results_tmp rfl _ _ _) ⟨v, rfl, ?_, below_putObj h8 (by omega) _ (Array.getElem?_eq_some_iff.1 hK).1⟩
    exact owns_weaken (ownsRow_putObj h2 _ hK rfl) (by omega)
  case hstop => rintro D9 c W hD h; exact h.elim
end Go.Proofs.Ytchepkihlnpfeaa
