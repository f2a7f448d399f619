/-
  Package pinfoldlaw14: all. Conditions: few states, fewer places than asked for.
-/
import Derived.Test.YtdhbhjkfcpglbaaDoorStN
namespace Go.Proofs.YtdhbhjkfcpglbaaDoor
open Go.RowKit
attribute [local go_sem] Oper.semAt_some
set_option maxHeartbeats 4000000
set_option maxRecDepth 8000

theorem AllV.below {B : Nat} {W W' : World} {bw bx : Nat} {v : Value} {x : Int} {l : List Int} (h : AllV B W bw bx v x l) (k : Below W.heap.size W W') : AllV B W' bw bx v x l :=
  ⟨h.was.below k h.was.lt, h.st.below k h.st.lt, (h.row.below k (Nat.le_refl _)).mono k.size, h.lo, h.far⟩
/-- What All of that sheet tells, from a world on. -/
def Alls (w : World) (p : Option Addr) (x : Int) (l : List Int) : Prop := ∀ W, Below w.heap.size w W → Calls Tryd.prog 28 #[.pointer p, .int .i64 x] W fun e W' => ∃ bw bx v, e = .returned (.func (.func 45) #[] #[.pointer (some ⟨bw, 0, none⟩), .pointer (some ⟨bx, 0, none⟩)]) ∧ AllV W.heap.size W' bw bx v x l ∧ Below W.heap.size W W'
theorem Alls.none {w : World} {p : Option Addr} (h : NoSh w p) (x : Int) : Alls w p x [] := fun _ k => All_none (h.step k) x
theorem Alls.ok {lo hi : Nat} {w : World} {s : Nat} {l : List Int} (h : ShAt lo hi w s l) (hl : l.length < 1000000) (x : Int) : Alls w (some ⟨s, 0, Option.none⟩) x l := fun _ k => All_ok (h.step k) hl x
theorem cntI_len (l : List Int) (x : Int) : (plcL l x).length ≤ l.length := by rw [plcL_len]; exact cntI_le _ _
theorem all_ok {w : World} {p : Option Addr} {x : Int} {l : List Int} (hA : Alls w p x l) (hl : l.length < 1000000) (most : Int) (hm : ((plcL l x).length : Int) < most) (hm2 : most ≤ 1000000) :
    Calls Tryd.prog 23 #[.pointer p, .int .i64 x, .int .i64 most] w fun e w' => ∃ v, e = .returned v ∧ w'.ownsRow w.heap.size 3 1 v (plcL l x).length (intVals .i64 (plcL l x)) ∧ Below w.heap.size w w' := by
  have hfn := fun (fn : Fn) (x y : Array Value) (w : World) => run_eql_func_nil (P := Tryd.prog) Tryd.underlying63 fn x y w
  refine calls_of_wp_marks Tryd.func23 rfl ?_; simp only [Tryd.ntmps23, List.size_toArray, List.length_cons, List.length_nil, Nat.reduceAdd, Nat.reduceSub, Array.replicate_succ, Array.replicate_zero, List.push_toArray, List.append_toArray, List.nil_append, List.cons_append]
  go_wp2_with fail
  obtain ⟨W0, hW0⟩ : ∃ W0, W0 = (w.alloc (.cells #[.int .i64 most] 3)).alloc (.cells #[.slice none 0 0] 46) := ⟨_, rfl⟩
  rw [← hW0]
  have hs0 : W0.heap.size = w.heap.size + 2 := by rw [hW0]; simp
  have b0 : Blk W0 w.heap.size #[.int .i64 most] 3 := by rw [hW0]; exact (Blk.new w _ _).alloc _
  have b1 : Blk W0 (w.heap.size + 1) #[.slice none 0 0] 46 := by rw [hW0]; exact Blk.newAt _ _ _ (by simp)
  have k0 : Below w.heap.size w W0 := by rw [hW0]; exact ((Below.refl _ w).alloc (Nat.le_refl _) _).alloc (by simp) _
  clear hW0
  refine (hA W0 k0).mono ?_; rintro e W1 ⟨_, _, _, rfl, _, j1⟩
  have k1 := k0.trans (j1.mono k0.size)
  have hz1 := j1.size
  replace b0 := b0.below j1 b0.lt
  replace b1 := b1.below j1 b1.lt
  clear j1 k0
  go_wp2_with fail
  refine (hA W1 k1).mono ?_; rintro e W2 ⟨bw, bx, vv, rfl, hV, j2⟩
  have k2 := k1.trans (j2.mono k1.size)
  have hz2 := j2.size
  replace b0 := b0.below j2 b0.lt
  replace b1 := b1.below j2 b1.lt
  clear j2 k1 hfn
  obtain ⟨v1, v2, v3, ⟨v4, v5⟩, v6⟩ := hV
  obtain ⟨va, vc, rfl, _⟩ := v3.len
  have l1 := v1.lt
  have l2 := v2.lt
  go_wp2_with fail
  refine wp_rangeS1 rfl (enters_of Tryd.func45 (by kernel_rfl) rfl) (All_iter va vc l hl x W2.heap.size bw bx) (fun _ => rfl)
    (fun hi pre W => ∃ v, Blk W (w.heap.size + 1) #[v] 46 ∧ W.ownsRow hi 3 1 v pre.length (intVals .i64 pre) ∧ Blk W w.heap.size #[.int .i64 most] 3 ∧ Blk W bw #[.slice va l.length vc] 50 ∧ Blk W bx #[.int .i64 x] 23 ∧ RowAt W2.heap.size W (.slice va l.length vc) l.length (intVals .i64 l) ∧ Below w.heap.size w W ∧ W2.heap.size ≤ W.heap.size ∧ W2.heap.size ≤ hi)
    (fun c W => False) ?a1 ?ha ?hI ?hIx ?hA ?h0 ?hbody ?hdone ?hstop
  case ha => intro m l x W K hK; gi_wp2; exact hK
  case hI => rintro hi pre X Y ⟨v, h1, h2, h4, h5, h6, h7, h8, h9, h10⟩ hk; exact ⟨v, h1.keeps hk, owns_keeps h2 hk, h4.keeps hk, h5.keeps hk, h6.keeps hk, h7.keeps hk, h8.keeps hk (by omega), Nat.le_trans h9 hk.size, h10⟩
  case hIx => rintro c X Y h hk; exact h
  case hA => rintro hi pre W ⟨v, h1, h2, h4, h5, h6, h7, h8, h9, h10⟩; exact ⟨h5.cell 0 rfl, h6.cell 0 rfl, h7⟩
  case h0 => intro hi hh; exact ⟨_, b1, World.ownsRow_nil _ _ _ _, b0, v1, v2, v3, k2, Nat.le_refl _, by omega⟩
  case hbody =>
    rintro m lp hi pre y suf W hxs hlp hrec hhi hhW ⟨v, h1, h2, h4, h5, h6, h7, h8, h9, h10⟩
    have hpl : (pre.length : Int) + 1 < most := by have := congrArg List.length hxs; simp at this; omega
    have c1 : W.cell? ⟨w.heap.size + 1, 0, none⟩ = some v := h1.cell 0 rfl
    have hrl := Lib.hid (intVals_len .i64 pre)
    gi_wp2_with (gi_at_builtin; refine wpListIn_append_row rfl _ _ 46 rfl hi Tryd.underlying46 info64 pre.length (intVals .i64 pre) rfl ?c1 (W.heap.size + 1) 1 [.int .i64 y] rfl ?c2 ?c3 ?c4 ?c5 ?c6 ?c7 ?_)
    case c1 => exact h2.alloc _
    case c2 => exact RowAt.lit W #[.int .i64 y] 3 1 _ (by omega)
    case c3 => rfl
    case c4 => intro u hu; simp at hu; rcases hu with rfl; rfl
    case c5 => unfold maxLen; omega
    case c6 => omega
    case c7 => simp; omega
    intro v' W' ho hg
    have ha := h2.alloc (.cells #[.int .i64 y] 3)
    have hbh : Below hi W W' := ((Below.refl hi W).alloc hhW (.cells #[.int .i64 y] 3)).appended (h2.alloc _) hg (Nat.le_refl _) (by simp; omega)
    have hb' : Below w.heap.size w W' := h8.trans (hbh.mono (by omega))
    have g1 := h1.below hbh (by omega)
    have g4 := h4.below hbh (by omega)
    have g5 := h5.below hbh (by omega)
    have g6 := h6.below hbh (by omega)
    have g7 := h7.below hbh (by omega)
    have hz' : W2.heap.size ≤ W'.heap.size := by have := hbh.size; omega
    have hsm : Sm W2.heap.size hi W W' := Sm.of_below hbh (Nat.le_refl _)
    have ho' : W'.ownsRow hi 3 1 v' (pre ++ [y]).length (intVals .i64 (pre ++ [y])) := by
      rw [List.length_append]; simpa [intVals] using ho
    clear hg c1 ha ho hbh
    obtain ⟨g, cp, rfl, hgh, hgl⟩ := World.ownsRow.form ho' (by simp)
    rw [show (pre ++ [y]).length = pre.length + 1 by simp] at ho' ⊢
    have f1 := g1.frozen 0
    have c1 : W'.cell? ⟨w.heap.size + 1, 0, none⟩ = some v := g1.cell 0 rfl
    have c4 : W'.cell? ⟨w.heap.size, 0, none⟩ = some (.int .i64 most) := g4.cell 0 rfl
    have hso := ownsRow_setCell_below ho' (a := ⟨w.heap.size + 1, 0, none⟩) (by dsimp only; omega) (.slice (some ⟨g, 0, none⟩) (pre.length + 1) cp)
    have hT : Tur (w.heap.size + 1) (w.heap.size + 2) W' (W'.setCell ⟨w.heap.size + 1, 0, none⟩ (.slice (some ⟨g, 0, none⟩) (pre.length + 1) cp)) := (Tur.of_below (Below.refl _ W')).setc _ _ (Nat.le_refl _) (by dsimp only; omega)
    have g7' := hT.row g7 (fun b off m c e h0 => by have := v6 b off m c e h0; omega) (intVals_len _ _)
    have HSO := Lib.hid hso
    have H7 := Lib.hid g7'
    clear hso g7 g7' hT
    gi_wp2_with fail
    refine ⟨hsm.setCell _ (Or.inr (by dsimp only; omega)) _, _, g1.set 0 _, ?_, g4.setOther _ _ (by simp), g5.setOther _ _ (by dsimp only; omega), g6.setOther _ _ (by dsimp only; omega), H7.out, hb'.setCell (p := ⟨w.heap.size + 1, 0, none⟩) (by simp) _, by simpa using hz', h10⟩
    have := HSO.out
    rw [show (pre ++ [y]).length = pre.length + 1 by simp]
    exact this
  case hdone =>
    rintro D W hi hD ⟨v, h1, h2, h4, h5, h6, h7, h8, h9, h10⟩ hK
    have c1 : W.cell? ⟨w.heap.size + 1, 0, none⟩ = some v := h1.cell 0 rfl
    go_wp2_with fail
    exact postM_ret hK (results_tmp rfl _ _ _) ⟨v, rfl, owns_weaken (ownsRow_putObj h2 _ hK rfl) (by omega), below_putObj h8 (by omega) _ (Array.getElem?_eq_some_iff.1 hK).1⟩
  case hstop => rintro D c W hD h; exact h.elim
end Go.Proofs.YtdhbhjkfcpglbaaDoor
