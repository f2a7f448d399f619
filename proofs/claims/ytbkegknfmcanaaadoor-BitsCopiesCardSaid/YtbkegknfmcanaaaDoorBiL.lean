/-
  Package pinfoldlaw04: ints, all; package pinfoldref04: Places. Conditions: marks, or none.
-/
import Derived.Test.YtbkegknfmcanaaaDoorBiK
import Derived.Deep.AppendLies
namespace Go.Proofs.YtbkegknfmcanaaaDoor
open Go.RowKit
attribute [local go_sem] Oper.semAt_some
set_option maxHeartbeats 2000000
set_option maxRecDepth 8000

/-- An element of a row of ints. -/
theorem RowAt.geti {B : Nat} {w : World} {ad : Option Addr} {cap : Nat} {l : List Int} (h : RowAt B w (.slice ad l.length cap) l.length (intVals .i64 l)) (k : Nat) (hk : k < l.length) : ∃ b off, ad = some ⟨b, off, none⟩ ∧ b < B ∧ w.cell? ⟨b, off + k, none⟩ = some (.int .i64 l[k]) := by
  obtain ⟨a, c, e, _, hx⟩ := h
  simp only [Value.slice.injEq] at e
  obtain ⟨rfl, _⟩ := e
  rcases hx with hx | ⟨b, off, rfl, hb, hx⟩
  · have : (intVals .i64 l).length = 0 := by rw [hx]; rfl
    rw [intVals_len] at this; omega
  · refine ⟨b, off, rfl, hb, ?_⟩
    have := hx k (by rw [intVals_len]; exact hk)
    rw [this]
    exact intVals_get _ _ _ hk
theorem ints_ok (v1 v2 : Value) (l : List Int) (B1 B2 : Nat) (w : World) (hl : l.length < 1000000) (hv1 : RowAt B1 w v1 l.length (intVals .i64 l)) (hv2 : RowAt B2 w v2 l.length (intVals .i64 l)) (hB1 : B1 ≤ w.heap.size) (hB2 : B2 ≤ w.heap.size) :
    Calls Tryd.prog 30 #[v1, v2] w fun e w' => e = .returned (.bool true) ∧ Below w.heap.size w w' := by
  have H1 := Lib.hid hv1
  have H2 := Lib.hid hv2
  obtain ⟨a1, c1, rfl, _⟩ := hv1.len
  obtain ⟨a2, c2, rfl, _⟩ := hv2.len
  clear hv1 hv2
  go_enter Tryd.func30, Tryd.ntmps30
  go_wp2_with fail
  go_loopw [5] (fun i wr => ∃ k : Nat, k ≤ l.length ∧ i = .int .i64 k ∧ Below w.heap.size w wr) (fun i _ => l.length - (intOf i).toNat)
  case atStart => exact ⟨0, by omega, rfl, Below.refl _ _⟩
  case round =>
    obtain ⟨k, hk, rfl, hb⟩ := hrel
    by_cases hlt : k < l.length
    · obtain ⟨b1, o1, rfl, _, q1⟩ := (H1.out.below hb hB1).geti k hlt
      obtain ⟨b2, o2, rfl, _, q2⟩ := (H2.out.below hb hB2).geti k hlt
      have i0 : (0 : Int) ≤ k := by omega
      have i1 : (k : Int) < l.length := by omega
      obtain ⟨y, hy⟩ : ∃ y, l[k] = y := ⟨_, rfl⟩
      rw [hy] at q1 q2
      have hx' : (y != y) = false := by simp
      clear hy
      go_wp2_with fail
      go_quiet (fail)
      go_wp2_with fail
      exact ⟨⟨k + 1, by omega, by go_num, hb.drewN _⟩, by simp [intOf]; omega⟩
    · obtain rfl : k = l.length := by omega
      go_wp2_with fail
      go_ret
      exact ⟨rfl, hb⟩

def bvals (L : List Bool) : List Value := L.map Value.bool
theorem bvals_len (L : List Bool) : (bvals L).length = L.length := by simp [bvals]
theorem bvals_one (L : List Bool) : ∀ u ∈ bvals L, u.oneCell' = true := by
  intro u hu; simp only [bvals, List.mem_map] at hu; obtain ⟨x, _, rfl⟩ := hu; rfl
theorem RowAt.getb {B : Nat} {w : World} {ad : Option Addr} {cap : Nat} {L : List Bool} (h : RowAt B w (.slice ad L.length cap) L.length (bvals L)) (k : Nat) (hk : k < L.length) : ∃ b off, ad = some ⟨b, off, none⟩ ∧ b < B ∧ w.cell? ⟨b, off + k, none⟩ = some (.bool (L.getD k false)) := by
  obtain ⟨a, c, e, _, hx⟩ := h
  simp only [Value.slice.injEq] at e
  obtain ⟨rfl, _⟩ := e
  rcases hx with hx | ⟨b, off, rfl, hb, hx⟩
  · have : (bvals L).length = 0 := by rw [hx]; rfl
    rw [bvals_len] at this; omega
  · refine ⟨b, off, rfl, hb, ?_⟩
    rw [hx k (by rw [bvals_len]; exact hk)]
    simp [bvals, List.getD, List.getElem?_eq_getElem hk]
theorem suc_cnt (L : List Bool) : ∀ k, (sucTo L 0 true k).length = cntB L k
  | 0 => rfl
  | k + 1 => by
    have ih := suc_cnt L k
    unfold cntB at ih ⊢
    rw [sucTo, cntN, ← ih]
    by_cases h : L.getD k false = true
    · rw [if_pos ⟨by omega, h⟩, if_pos h]; simp
    · rw [if_neg (fun e => h e.2), if_neg h]; simp
theorem sucL_cnt (L : List Bool) : (sucL L 0 true).length = cntB L L.length := suc_cnt L L.length
theorem sucL_le (L : List Bool) (f : Int) (b : Bool) : (sucL L f b).length ≤ L.length := sucTo_len L f b L.length
theorem Places_ok (v : Value) (L : List Bool) (B : Nat) (b : Bool) (w : World) (hB : B ≤ w.heap.size) (hl : L.length < 1000000) (hv : RowAt B w v L.length (bvals L)) :
    Calls Tryd.prog 29 #[v, .bool b] w fun e w' => ∃ v', e = .returned v' ∧ w'.ownsRow w.heap.size 3 1 v' (sucL L 0 b).length (intVals .i64 (sucL L 0 b)) ∧ Below w.heap.size w w' := by
  have H1 := Lib.hid hv
  obtain ⟨a1, c1, rfl, _⟩ := hv.len
  have hown0 : w.ownsRow w.heap.size 3 1 (.slice none 0 0) 0 [] := ⟨rfl, .inl ⟨rfl, rfl⟩⟩
  clear hv
  go_enter Tryd.func29, Tryd.ntmps29
  go_wp2_with fail
  go_loopw [5, 6] (fun v i wr => ∃ k : Nat, k ≤ L.length ∧ i = .int .i64 k ∧ wr.ownsRow w.heap.size 3 1 v (sucTo L 0 b k).length (intVals .i64 (sucTo L 0 b k)) ∧ Below w.heap.size w wr) (fun _ i _ => L.length - (intOf i).toNat)
  case atStart => exact ⟨0, by omega, rfl, hown0, Below.refl _ _⟩
  case round =>
    obtain ⟨k, hk, rfl, hown, hb⟩ := hrel
    clear hown0
    by_cases hlt : k < L.length
    · obtain ⟨b1, o1, rfl, _, q1⟩ := (H1.out.below hb hB).getb k hlt
      have i0 : (0 : Int) ≤ k := by omega
      have i1 : (k : Int) < L.length := by omega
      have hst : sucTo L 0 b (k + 1) = if (0 : Int) ≤ k ∧ L.getD k false = b then sucTo L 0 b k ++ [(k : Int)] else sucTo L 0 b k := rfl
      have hlen := sucTo_len L 0 b k
      obtain ⟨y, hy⟩ : ∃ y, L.getD k false = y := ⟨_, rfl⟩
      rw [hy] at q1 hst
      by_cases hx : y = b
      · rw [if_pos ⟨i0, hx⟩] at hst
        have HST := Lib.hid hst
        generalize sucTo L 0 b k = ys at hown hlen HST
        have ha1 := owns_below hown ((Below.refl _ wr).alloc (Nat.le_refl _) (.cells #[.int .i64 (k : Int)] 3)) (Nat.le_refl _)
        have hx' : (y == b) = true := by simpa using hx
        have hzY := hb.size
        clear hst hy hx
        go_wp2_with (at_builtin; refine wpList_append_row rfl _ _ 51 rfl w.heap.size Tryd.underlying51 info64 ys.length (intVals .i64 ys) rfl ha1 (wr.heap.size + 1) 1 [.int .i64 (k : Int)] rfl (RowAt.lit wr #[.int .i64 (k : Int)] 3 1 _ (by omega)) rfl ?c4 ?c5 ?c6 ?c7 ?_)
        case c4 => intro u hu; rw [List.mem_singleton.1 hu]; rfl
        case c5 => unfold maxLen; omega
        case c6 => omega
        case c7 => simp; omega
        intro v2 w2 ho2 hg2
        have k2 := (hb.alloc hzY (.cells #[.int .i64 (k : Int)] 3)).appended ha1 hg2 (Nat.le_refl _) (by simp; omega)
        clear ha1 hg2 hown
        go_wp2_with fail
        exact ⟨⟨k + 1, by omega, by go_num, by rw [HST.out, List.length_append]; simpa [intVals] using ho2, k2⟩, by simp [intOf]; omega⟩
      · rw [if_neg (fun h => hx h.2)] at hst
        have HST := Lib.hid hst
        have HO := Lib.hid hown
        have hx' : (y == b) = false := by simpa using hx
        clear hst hown hy
        go_wp2_with fail
        exact ⟨⟨k + 1, by omega, by go_num, by rw [HST.out]; exact HO.out, hb⟩, by simp [intOf]; omega⟩
    · obtain rfl : k = L.length := by omega
      have HO := Lib.hid hown
      obtain ⟨a2, c2, rfl, _⟩ := (RowAt.of_owns hown (Nat.le_refl _)).len
      clear hown
      go_wp2_with fail
      go_ret
      exact ⟨_, rfl, HO.out, hb⟩
theorem all_ok {w : World} {p : Option Addr} {L : List Bool} (hmv : MkV w p L) (most : Int) (hm : ((sucL L 0 true).length : Int) < most) (hm2 : most ≤ 1000000) :
    Calls Tryd.prog 24 #[.pointer p, .int .i64 most] w fun e w' => ∃ v, e = .returned v ∧ w'.ownsRow w.heap.size 3 1 v (sucL L 0 true).length (intVals .i64 (sucL L 0 true)) ∧ Below w.heap.size w w' := by
  have hfn := fun (fn : Fn) (x y : Array Value) (w : World) => run_eql_func_nil (P := Tryd.prog) Tryd.underlying61 fn x y w
  refine calls_of_wp_marks Tryd.func24 rfl ?_; simp only [Tryd.ntmps24, List.size_toArray, List.length_cons, List.length_nil, Nat.reduceAdd, Nat.reduceSub, Array.replicate_succ, Array.replicate_zero, List.push_toArray, List.append_toArray, List.nil_append, List.cons_append]
  go_wp2_with fail
  obtain ⟨W0, hW0⟩ : ∃ W0, W0 = (w.alloc (.cells #[.int .i64 most] 3)).alloc (.cells #[.slice none 0 0] 51) := ⟨_, rfl⟩
  rw [← hW0]
  have hs0 : W0.heap.size = w.heap.size + 2 := by rw [hW0]; simp
  have b0 : Blk W0 w.heap.size #[.int .i64 most] 3 := by rw [hW0]; exact (Blk.new w _ _).alloc _
  have b1 : Blk W0 (w.heap.size + 1) #[.slice none 0 0] 51 := by rw [hW0]; exact Blk.newAt _ _ _ (by simp)
  have k0 : Below w.heap.size w W0 := by rw [hW0]; exact ((Below.refl _ w).alloc (Nat.le_refl _) _).alloc (by simp) _
  clear hW0
  refine (All_ok (hmv.step k0)).mono ?_; rintro e W1 ⟨_, _, _, _, rfl, _, j1⟩
  have k1 := k0.trans (j1.mono k0.size)
  have hz1 := j1.size
  replace b0 := b0.below j1 b0.lt
  replace b1 := b1.below j1 b1.lt
  clear j1 k0
  go_wp2_with fail
  refine (All_ok (hmv.step k1)).mono ?_; rintro e W2 ⟨p', bf, bm, bi, rfl, hV, j2⟩
  have k2 := k1.trans (j2.mono k1.size)
  have hz2 := j2.size
  replace b0 := b0.below j2 b0.lt
  replace b1 := b1.below j2 b1.lt
  clear j2 k1 hfn
  go_wp2_with fail
  refine wp_rangeS1 rfl (enters_of Tryd.func53 (by kernel_rfl) rfl) (such_iter p' L 0 true bf bm bi (by decide)).toS (fun _ => rfl)
    (fun hi pre W => ∃ v, Blk W (w.heap.size + 1) #[v] 51 ∧ W.ownsRow hi 3 1 v pre.length (intVals .i64 pre) ∧ Blk W w.heap.size #[.int .i64 most] 3 ∧ Sm W1.heap.size W2.heap.size W2 W ∧ Below w.heap.size w W ∧ W2.heap.size ≤ W.heap.size ∧ W2.heap.size ≤ hi)
    (fun c W => False) ?a1 ?ha ?hI ?hIx ?hA ?h0 ?hbody ?hdone ?hstop
  case ha => intro m l x W K hK; gi_wp2; exact hK
  case hI => rintro hi pre X Y ⟨v, h1, h2, h4, h5, h8, h9, h10⟩ hk; exact ⟨v, h1.keeps hk, owns_keeps h2 hk, h4.keeps hk, h5.trans ⟨hk.size, fun k _ hk2 => hk.low k hk2⟩, h8.keeps hk (by omega), Nat.le_trans h9 hk.size, h10⟩
  case hIx => rintro c X Y h hk; exact h
  case hA =>
    rintro hi pre W ⟨v, h1, h2, h4, h5, h8, h9, h10⟩
    have hV2 := hV.sm h5
    exact ⟨hV2.f.cell 0 rfl, hV2.m.cell 0 rfl, hV2.i.cell 0 rfl, hV2.own.v⟩
  case h0 => intro hi hh; exact ⟨_, b1, World.ownsRow_nil _ _ _ _, b0, Sm.refl _ _ _, k2, Nat.le_refl _, by omega⟩
  case hbody =>
    rintro m lp hi pre y suf W hxs hlp hrec hhi hhW ⟨v, h1, h2, h4, h5, h8, h9, h10⟩
    have hpl : (pre.length : Int) + 1 < most := by have := congrArg List.length hxs; simp at this; omega
    have c1 : W.cell? ⟨w.heap.size + 1, 0, none⟩ = some v := h1.cell 0 rfl
    have hrl := Lib.hid (intVals_len .i64 pre)
    gi_wp2_with (gi_at_builtin; refine wpListIn_append_row rfl _ _ 51 rfl hi Tryd.underlying51 info64 pre.length (intVals .i64 pre) rfl ?c1 (W.heap.size + 1) 1 [.int .i64 y] rfl ?c2 ?c3 ?c4 ?c5 ?c6 ?c7 ?_)
    case c1 => exact h2.alloc _
    case c2 => exact RowAt.lit W #[.int .i64 y] 3 1 _ (by omega)
    case c3 => rfl
    case c4 => intro u hu; simp at hu; rcases hu with rfl; rfl
    case c5 => unfold maxLen; omega
    case c6 => omega
    case c7 => simp; omega
    intro v' W' ho hg
    have hbh : Below hi W W' := ((Below.refl hi W).alloc hhW (.cells #[.int .i64 y] 3)).appended (h2.alloc _) hg (Nat.le_refl _) (by simp; omega)
    have hb' : Below w.heap.size w W' := h8.trans (hbh.mono (by omega))
    have g1 := h1.below hbh (by omega)
    have g4 := h4.below hbh (by omega)
    have g5 := h5.trans (Sm.of_below hbh h10)
    have hz' : W2.heap.size ≤ W'.heap.size := by have := hbh.size; omega
    have hsm : Sm W2.heap.size hi W W' := Sm.of_below hbh (Nat.le_refl _)
    have ho' : W'.ownsRow hi 3 1 v' (pre ++ [y]).length (intVals .i64 (pre ++ [y])) := by
      rw [List.length_append]; simpa [intVals] using ho
    clear hg c1 ho hbh
    obtain ⟨g, cp, rfl, hgh, hgl⟩ := World.ownsRow.form ho' (by simp)
    rw [show (pre ++ [y]).length = pre.length + 1 by simp] at ho' ⊢
    have f1 := g1.frozen 0
    have c1 : W'.cell? ⟨w.heap.size + 1, 0, none⟩ = some v := g1.cell 0 rfl
    have c4 : W'.cell? ⟨w.heap.size, 0, none⟩ = some (.int .i64 most) := g4.cell 0 rfl
    have hso := ownsRow_setCell_below ho' (a := ⟨w.heap.size + 1, 0, none⟩) (by dsimp only; omega) (.slice (some ⟨g, 0, none⟩) (pre.length + 1) cp)
    have HSO := Lib.hid hso
    have H5 := Lib.hid (g5.setCell ⟨w.heap.size + 1, 0, none⟩ (Or.inr (by dsimp only; omega)) (.slice (some ⟨g, 0, none⟩) (pre.length + 1) cp))
    clear hso g5
    gi_wp2_with fail
    refine ⟨hsm.setCell _ (Or.inr (by dsimp only; omega)) _, _, g1.set 0 _, ?_, g4.setOther _ _ (by simp), H5.out, hb'.setCell (p := ⟨w.heap.size + 1, 0, none⟩) (by simp) _, by simpa using hz', h10⟩
    have := HSO.out
    rw [show (pre ++ [y]).length = pre.length + 1 by simp]
    exact this
  case hdone =>
    rintro D W hi hD ⟨v, h1, h2, h4, h5, h8, h9, h10⟩ hK
    have c1 : W.cell? ⟨w.heap.size + 1, 0, none⟩ = some v := h1.cell 0 rfl
    go_wp2_with fail
    exact postM_ret hK (results_tmp rfl _ _ _) ⟨v, rfl, owns_weaken (ownsRow_putObj h2 _ hK rfl) (by omega), below_putObj h8 (by omega) _ (Array.getElem?_eq_some_iff.1 hK).1⟩
  case hstop => rintro D c W hD h; exact h.elim
end Go.Proofs.YtbkegknfmcanaaaDoor
