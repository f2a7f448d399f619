/-
  Package pinfoldlaw21: all. Conditions: fewer tenants than are wanted.
-/
import Derived.Test.YtchknegenaoliaaDeAa
namespace Go.Proofs.Ytchknegenaoliaa
open Go.RowKit
attribute [local go_sem] Oper.semAt_some
set_option maxHeartbeats 4000000
set_option maxRecDepth 8000

/-- A desk, or none: its tenants. -/
def DkV (w : World) (p : Option Addr) (P : List Ten) : Prop := (∃ b m T, p = some ⟨b, 0, none⟩ ∧ DkAt w b m P T) ∨ (NoDk w p ∧ P = [zT, zT, zT, zT])
theorem DkV.step {w w' : World} {p : Option Addr} {P : List Ten} (h : DkV w p P) (k : Below w.heap.size w w') : DkV w' p P := by
  rcases h with ⟨b, m, T, h1, h2⟩ | ⟨h1, h2⟩
  · exact .inl ⟨b, m, T, h1, h2.step k⟩
  · exact .inr ⟨h1.step k, h2⟩
theorem DkV.len {w : World} {p : Option Addr} {P : List Ten} (h : DkV w p P) : P.length = 4 := by
  rcases h with ⟨b, m, T, h1, h2⟩ | ⟨h1, h2⟩
  · exact h2.len
  · rw [h2]; rfl
theorem All_ok {w : World} {p : Option Addr} {P : List Ten} (h : DkV w p P) : Calls Try.prog 22 #[.pointer p] w fun e w' => ∃ x, e = .returned (.func (.func 43) #[] #[.pointer (some ⟨x, 0, none⟩)]) ∧ Blk w' x (tensV P).toArray 71 ∧ w.heap.size ≤ x ∧ Below w.heap.size w w' := by
  rcases h with ⟨b, m, T, rfl, h2⟩ | ⟨h1, rfl⟩
  · exact All_live h2
  · exact All_no h1
theorem all_ok {w : World} {p : Option Addr} {P : List Ten} (h : DkV w p P) (most : Int) (hm : 9 ≤ most) (hm2 : most ≤ 1000000) :
    Calls Try.prog 14 #[.pointer p, .int .i64 most] w fun e w' => ∃ v, e = .returned v ∧ w'.ownsRow w.heap.size 28 2 v (tenL P).length (hndsV (tenL P)) ∧ Below w.heap.size w w' := by
  have hfn := fun (fn : Fn) (x y : Array Value) (w : World) => run_eql_func_nil (P := Try.prog) Try.underlying60 fn x y w
  have htl : (tenL P).length ≤ 4 := tenTo_len P 4
  have hlen := h.len
  refine calls_of_wp_marks Try.func14 rfl ?_; simp only [Try.ntmps14, List.size_toArray, List.length_cons, List.length_nil, Nat.reduceAdd, Nat.reduceSub, Array.replicate_succ, Array.replicate_zero, List.push_toArray, List.append_toArray, List.nil_append, List.cons_append]
  go_wp2_with fail
  obtain ⟨W0, hW0⟩ : ∃ W0, W0 = (w.alloc (.cells #[.int .i64 most] 3)).alloc (.cells #[.slice none 0 0] 41) := ⟨_, rfl⟩
  rw [← hW0]
  have hs0 : W0.heap.size = w.heap.size + 2 := by rw [hW0]; simp
  have b0 : Blk W0 w.heap.size #[.int .i64 most] 3 := by rw [hW0]; exact (Blk.new w _ _).alloc _
  have b1 : Blk W0 (w.heap.size + 1) #[.slice none 0 0] 41 := by rw [hW0]; exact Blk.newAt _ _ _ (by simp)
  have k0 : Below w.heap.size w W0 := by rw [hW0]; exact ((Below.refl _ w).alloc (Nat.le_refl _) _).alloc (by simp) _
  clear hW0
  refine (All_ok (h.step k0)).mono ?_; rintro e W1 ⟨_, rfl, _, _, j1⟩
  have k1 := k0.trans (j1.mono (by omega))
  have hz1 := j1.size
  replace b0 := b0.below j1 b0.lt
  replace b1 := b1.below j1 b1.lt
  clear j1 k0
  go_wp2_with fail
  refine (All_ok (h.step k1)).mono ?_; rintro e W2 ⟨x, rfl, hV, hx1, j2⟩
  have k2 := k1.trans (j2.mono (by omega))
  have hz2 := j2.size
  have hxl := hV.lt
  replace b0 := b0.below j2 b0.lt
  replace b1 := b1.below j2 b1.lt
  clear j2 k1 hfn
  go_wp2_with fail
  refine wp_rangeSA rfl (enters_of Try.func43 (by kernel_rfl) rfl) (All_iter hlen x) (fun _ => rfl)
    (fun hi pre W => ∃ v, Blk W (w.heap.size + 1) #[v] 41 ∧ W.ownsRow hi 28 2 v pre.length (hndsV pre) ∧ Blk W w.heap.size #[.int .i64 most] 3 ∧ Blk W x (tensV P).toArray 71 ∧ Below w.heap.size w W ∧ W2.heap.size ≤ W.heap.size ∧ W2.heap.size ≤ hi)
    (fun c W => False) ?a1 (fun h => #[.int .i64 h.s, .int .i64 h.g]) 28 ?ha ?hI ?hIx ?hA ?h0 ?hbody ?hdone ?hstop
  case ha => intro m l x W b K hb hK; gi_wp2; exact hK
  case hI => rintro hi pre X Y ⟨v, h1, h2, h4, h5, h8, h9, h10⟩ hk; exact ⟨v, h1.keeps hk, owns_keeps h2 hk, h4.keeps hk, h5.keeps hk, h8.keeps hk (by omega), Nat.le_trans h9 hk.size, h10⟩
  case hIx => rintro c X Y h hk; exact h
  case hA => rintro hi pre W ⟨v, h1, h2, h4, h5, h8, h9, h10⟩; exact h5
  case h0 => intro hi hh; exact ⟨_, b1, World.ownsRow_nil _ _ _ _, b0, hV, k2, Nat.le_refl _, by omega⟩
  case hbody =>
    rintro m lp hi pre ⟨xs, xg⟩ suf W g hxs hlp hrec hhi hhW hgb hX ⟨v, h1, h2, h4, h5, h8, h9, h10⟩
    have hpl : pre.length + 1 ≤ 4 := by have := congrArg List.length hxs; simp at this; omega
    have c1 : W.cell? ⟨w.heap.size + 1, 0, none⟩ = some v := h1.cell 0 rfl
    have x0 : W.cell? ⟨g, 0, none⟩ = some (.int .i64 xs) := hX.cell 0 rfl
    have x1 : W.cell? ⟨g, 1, none⟩ = some (.int .i64 xg) := hX.cell 1 rfl
    have hrl := Lib.hid (hndsV_len pre)
    clear hxs
    gi_wp2_with (gi_at_builtin; refine wpListIn_append_row rfl _ _ 41 rfl hi Try.underlying41 infoH pre.length (hndsV pre) rfl ?c1 (W.heap.size + 1) 1 [.int .i64 xs, .int .i64 xg] rfl ?c2 ?c3 ?c4 ?c5 ?c6 ?c7 ?_)
    case c1 => exact h2.alloc _
    case c2 => exact RowAt.lit W #[.int .i64 xs, .int .i64 xg] 28 1 _ (by omega)
    case c4 => first | exact ⟨rfl, rfl⟩ | (intro u hu; simp at hu; rcases hu with rfl | rfl <;> rfl)
    case c5 => unfold maxLen; omega
    case c6 => omega
    case c7 => first | omega | (simp; omega)
    intro v' W' ho hg'
    have hbh : Below hi W W' := ((Below.refl hi W).alloc hhW (.cells #[.int .i64 xs, .int .i64 xg] 28)).appended (h2.alloc _) hg' (Nat.le_refl _) (by simp; omega)
    have hb' : Below w.heap.size w W' := h8.trans (hbh.mono (by omega))
    have g1 := h1.below hbh (by omega)
    have g4 := h4.below hbh (by omega)
    have g5 := h5.below hbh (by omega)
    have hz' : W2.heap.size ≤ W'.heap.size := by have := hbh.size; omega
    have hsm : Sm W2.heap.size hi W W' := Sm.of_below hbh (Nat.le_refl _)
    have ho' : W'.ownsRow hi 28 2 v' (pre ++ [(⟨xs, xg⟩ : Hnd)]).length (hndsV (pre ++ [⟨xs, xg⟩])) := by
      rw [List.length_append, hndsV_snoc]; exact ho
    clear hg' c1 ho hbh
    obtain ⟨g9, cp, rfl, hgh, hgl⟩ := World.ownsRow.form ho' (by simp)
    rw [show (pre ++ [(⟨xs, xg⟩ : Hnd)]).length = pre.length + 1 by simp] at ho' ⊢
    have f1 := g1.frozen 0
    have c1 : W'.cell? ⟨w.heap.size + 1, 0, none⟩ = some (.slice (some ⟨g9, 0, none⟩) (pre.length + 1) cp) ∨ True := .inr trivial
    clear c1
    have c1 : W'.cell? ⟨w.heap.size + 1, 0, none⟩ = some v := g1.cell 0 rfl
    have c4 : W'.cell? ⟨w.heap.size, 0, none⟩ = some (.int .i64 most) := g4.cell 0 rfl
    have hso := ownsRow_setCell_below ho' (a := ⟨w.heap.size + 1, 0, none⟩) (by dsimp only; omega) (.slice (some ⟨g9, 0, none⟩) (pre.length + 1) cp)
    have HSO := Lib.hid hso
    have hlt9 : ((pre.length : Int) + 1) < most := by omega
    clear hso
    gi_wp2_with fail
    refine ⟨hsm.setCell _ (Or.inr (by dsimp only; omega)) _, _, g1.set 0 _, ?_, g4.setOther _ _ (by simp), g5.setOther _ _ (by dsimp only; omega), hb'.setCell (p := ⟨w.heap.size + 1, 0, none⟩) (by simp) _, by simpa using hz', h10⟩
    have := HSO.out
    rw [show (pre ++ [(⟨xs, xg⟩ : Hnd)]).length = pre.length + 1 by simp]
    exact this
  case hdone =>
    rintro D9 W hi hD ⟨v, h1, h2, h4, h5, h8, h9, h10⟩ hK
    have c1 : W.cell? ⟨w.heap.size + 1, 0, none⟩ = some v := h1.cell 0 rfl
    go_wp2_with fail
    refine postM_ret hK (results_tmp rfl _ _ _) ⟨v, rfl, ?_, below_putObj h8 (by omega) _ (Array.getElem?_eq_some_iff.1 hK).1⟩
    exact owns_weaken (ownsRow_putObj h2 _ hK rfl) (by omega)
  case hstop => rintro D9 c W hD h; exact h.elim
end Go.Proofs.Ytchknegenaoliaa
