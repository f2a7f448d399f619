/-
  Package pinfoldref08: Protect. Conditions: rows in order, few.
-/
import Derived.Test.YtchepkihlnpfeaaPgM
namespace Go.Proofs.Ytchepkihlnpfeaa
open Go.RowKit
attribute [local go_sem] Oper.semAt_some
set_option maxHeartbeats 4000000
set_option maxRecDepth 8000

theorem ret_tt {fn : Func} {R : Ending → World → Prop} {a : Act} {w : World} {p u v : Tmp} (h : fn.results = #[.cell p 28, .tmp u, .tmp v]) (g : Nat) {cs : Array Value} {t : TypeId} (hp : a.tmps.getD p undef = .pointer (some ⟨g, 0, none⟩))
    (hB : Blk w g cs t) (hs : cs.size = 1) (hd : a.defers = []) (hR : R (.returned (.tuple #[.agg cs, a.tmps.getD u undef, a.tmps.getD v undef])) w) : bodyPost Try.prog fn R .ret a w := by
  refine bodyPost_ret (v := .tuple #[.agg cs, a.tmps.getD u undef, a.tmps.getD v undef]) ?_ hd hR
  have hp' : a.tmps[p]?.getD undef = .pointer (some ⟨g, 0, none⟩) := by simpa using hp
  simp [results, h, hp', asAddr, run_loadT hB hs]
theorem owns_setN {W : World} {base g n cap k size : Nat} {e : TypeId} {xs : List Value} (h : W.ownsRow base e size (.slice (some ⟨g, 0, none⟩) n cap) n xs) (v : Value) :
    W.frozen? ⟨g, k, none⟩ = false ∧ (W.setCell ⟨g, k, none⟩ v).ownsRow base e size (.slice (some ⟨g, 0, none⟩) n cap) n (xs.set k v) := by
  obtain ⟨hn, hx⟩ := h
  rcases hx with ⟨h1, _⟩ | ⟨g', cap', cur, e1, hlo, hgb, hnc, hcm, hcs, htk⟩
  · cases h1
  · simp only [Value.slice.injEq, Option.some.injEq, Addr.mk.injEq, true_and, and_true] at e1
    obtain ⟨rfl, rfl⟩ := e1
    have hgb' : Blk W g cur e := hgb
    refine ⟨hgb'.frozen k, by simpa using hn, .inr ⟨g, cap, cur.setIfInBounds k v, by simp, hlo, hgb'.set k _, hnc, hcm, by simpa using hcs, ?_⟩⟩
    rw [Array.toList_setIfInBounds, List.take_set, htk]
theorem rowT_setM : ∀ (D : Tb) (i : Nat) (h : i < D.length) (n : Int), rowT (D.set i (D[i].1, ⟨D[i].2.o, n, D[i].2.f⟩)) = (rowT D).set (i * 4 + 2) (.int .i64 n)
  | x :: D, 0, _, n => rfl
  | x :: D, i + 1, h, n => by
    have ih := rowT_setM D i (by simpa using h) n
    rw [List.set_cons_succ, rowT_cons, rowT_cons, show (i + 1) * 4 + 2 = i * 4 + 2 + 4 by omega]
    simp only [List.getElem_cons_succ]
    rw [ih]
    rfl
/-- What Protect has laid. -/
structure RP (w0 wr : World) (s : Nat) (a1 : Option Addr) (c1 : Nat) (D : Tb) (r : Value) : Prop where
  t : Blk wr s #[.slice a1 D.length c1] 28
  r : Blk wr (s + 1) #[r] 28
  row : RowAt s wr (.slice a1 D.length c1) D.length (rowT D)
  bel : Below s w0 wr
  sz : s + 2 ≤ wr.heap.size
section
variable {w0 wr w' : World} {s : Nat} {a1 : Option Addr} {c1 : Nat} {D : Tb} {r : Value}
theorem RP.step (h : RP w0 wr s a1 c1 D r) (k : Below wr.heap.size wr w') : RP w0 w' s a1 c1 D r :=
  ⟨h.t.below k h.t.lt, h.r.below k h.r.lt, h.row.below k (by have := h.sz; omega), h.bel.trans (k.mono (by have := h.sz; omega)), Nat.le_trans h.sz k.size⟩
theorem RP.past (h : RP w0 wr s a1 c1 D r) (k : Below (s + 2) wr w') : RP w0 w' s a1 c1 D r :=
  ⟨h.t.below k (by omega), h.r.below k (by omega), h.row.below k (by omega), h.bel.trans (k.mono (by omega)), Nat.le_trans h.sz k.size⟩
theorem RP.setR (h : RP w0 wr s a1 c1 D r) (v : Value) : RP w0 (wr.setCell ⟨s + 1, 0, none⟩ v) s a1 c1 D v :=
  ⟨h.t.setOther _ _ (by dsimp only; omega), h.r.set 0 v, h.row.below ((Below.refl (s + 1) wr).setCell (p := ⟨s + 1, 0, none⟩) (Nat.le_refl _) v) (by omega), h.bel.setCell (p := ⟨s + 1, 0, none⟩) (by dsimp only; omega) v, by simpa using h.sz⟩
end
theorem rProtect_ok (v : Value) (D : Tb) (B : Nat) (p n : Int) (w : World) (hB : B ≤ w.heap.size) (hl : D.length < 100000) (hg : SrtR D) (hv : RowAt B w v D.length (rowT D)) :
    Calls Try.prog 42 #[.agg #[v], .int .i64 p, .int .i64 n] w fun e w' => ∃ v', e = .returned (.tuple #[.agg #[v'], .int .i64 (proW D p n), .int .i64 (proE D p n)]) ∧ RowAt w'.heap.size w' v' (proD D p n).length (rowT (proD D p n)) ∧ Below w.heap.size w w' := by
  obtain ⟨a1, c1, rfl, hc1⟩ := hv.len
  obtain ⟨w0, hw0⟩ : ∃ w0, (w.alloc (.cells #[.slice a1 D.length c1] 28)).alloc (.cells #[.slice none 0 0] 28) = w0 := ⟨_, rfl⟩
  have k0 : Below w.heap.size w w0 := by rw [← hw0]; exact ((Below.refl _ w).alloc (Nat.le_refl _) _).alloc (by simp) _
  have hM : RP w w0 w.heap.size a1 c1 D (.slice none 0 0) := by
    refine ⟨?_, ?_, (hv.below k0 hB).mono hB, k0, ?_⟩
    · rw [← hw0]; exact (Blk.new w _ _).alloc _
    · rw [← hw0]; exact Blk.newAt _ _ _ (by simp)
    · rw [← hw0]; simp
  obtain ⟨s, hs⟩ : ∃ s, w.heap.size = s := ⟨_, rfl⟩
  rw [hs] at hM
  clear k0 hv
  have fin : ∀ W, RP w W s a1 c1 D (.slice a1 D.length c1) → proE D p n ≠ 0 → RowAt W.heap.size W (.slice a1 D.length c1) (proD D p n).length (rowT (proD D p n)) ∧ Below s w W := by
    intro W h he
    refine ⟨?_, h.bel⟩
    rw [show proD D p n = D by unfold proD; rw [if_neg he]]
    exact h.row.mono (by have := h.sz; omega)
  have FIN := Lib.hid fin
  have hx0 : proE D p n ≠ 0 → proW D p n = 0 := fun h => by unfold proW; rw [if_neg h]
  have HX0 := Lib.hid hx0
  clear fin hx0
  cases hm : badM n
  · have hmm : 0 ≤ n ∧ n ≤ 2 := by
      unfold badM at hm
      have := of_decide_eq_false hm
      omega
    obtain ⟨m0, m1⟩ := hmm
    cases hb : badP p
    · have he0 : proE D p n = if hasR D p = false then 5 else 0 := by unfold proE; rw [hm, hb]; rfl
      have hpp : 0 ≤ p ∧ p < 65536 := by
        unfold badP at hb
        have := of_decide_eq_false hb
        omega
      obtain ⟨p0, p1⟩ := hpp
      have HE0 := Lib.hid he0
      clear hb he0 hm
      have ct := hM.t.cell 0 rfl
      go_enter Try.func42, Try.ntmps42
      go_wp2_with fail
      clear hw0 ct
      refine (At_ok (.slice a1 D.length c1) D s p w0 (by have := hM.sz; omega) (by omega) hM.row).mono ?_; rintro e w2 ⟨rfl, k2⟩
      replace hM := hM.step k2
      clear k2
      cases hh : hasR D p
      · have he : proE D p n = 5 := by rw [HE0.out, hh]; rfl
        have hx := HX0.out (by rw [he]; decide)
        have hat : atI D p = -1 := by unfold atI; rw [if_neg (by rw [hh]; decide)]
        have HE := Lib.hid he
        have HX := Lib.hid hx
        rw [hat]
        clear hat he hx hh
        have ct := hM.t.cell 0 rfl
        have cr := hM.r.cell 0 rfl
        have fr := hM.r.frozen 0
        go_wp2_with fail
        exact ret_tt rfl (s + 1) rfl (hM.setR _).r rfl rfl ⟨_, by rw [HE.out, HX.out]; rfl, (FIN.out _ (hM.setR _) (by rw [HE.out]; decide)).1, by first | exact (FIN.out _ (hM.setR _) (by rw [HE.out]; decide)).2 | (rw [hs]; exact (FIN.out _ (hM.setR _) (by rw [HE.out]; decide)).2)⟩
      · have he : proE D p n = 0 := by rw [HE0.out, hh]; rfl
        obtain ⟨i, hi, hik, hin⟩ := at_of_has hh
        have hat := atI_hit hi hik hin
        have hge : getE D p = D[i].2 := by
          unfold getE
          rw [← hik, getR_some hg.nodup (List.getElem_mem hi)]; rfl
        have hx : proW D p n = D[i].2.m := by unfold proW; rw [if_pos he, hge]
        have hd : proD D p n = D.set i (D[i].1, ⟨D[i].2.o, n, D[i].2.f⟩) := by
          unfold proD
          rw [if_pos he, hge, ← hik]
          exact chgR_at hg.nodup hi _
        have hrd : rowT (proD D p n) = (rowT D).set (i * 4 + 2) (.int .i64 n) := by rw [hd, rowT_setM]
        have hln : (proD D p n).length = D.length := by rw [hd, List.length_set]
        have HE := Lib.hid he
        have HX := Lib.hid hx
        have HRD := Lib.hid hrd
        have HLN := Lib.hid hln
        rw [hat]
        clear hat he hx hh hin hd hik hge hrd hln
        have hM0 := hM.row
        obtain ⟨b1, o1, rfl, _, q⟩ := hM.row.gett i hi
        obtain ⟨⟨xk, xo, xm, xf⟩, hy⟩ : ∃ y, D[i] = y := ⟨_, rfl⟩
        rw [hy] at q HX
        clear hy
        have ct := hM.t.cell 0 rfl
        have i0 : (0 : Int) ≤ i := by omega
        have i1 : (i : Int) < D.length := by omega
        have sM := hM.sz
        have ls := hM.t.lt
        have HR0 := Lib.hid hM0
        clear hM0
        go_wp2_with (at_builtin; refine wpList_append_row rfl _ _ 26 rfl w2.heap.size Try.underlying26 infoRow 0 [] rfl ?c1 s D.length (rowT D) rfl ?c2 ?c3 ?c4 ?c5 ?c6 ?c7 ?_)
        case c1 => exact World.ownsRow_made w2 #[] 0 (Nat.le_refl _) (by decide) rfl
        case c2 => exact HR0.out.below ((Below.refl _ w2).alloc (Nat.le_refl _) _) (by omega)
        case c3 => exact rowT_len D
        case c4 => exact rowT_one _
        case c5 => unfold maxLen; omega
        case c6 => omega
        case c7 => simp
        intro v1 w1 ho1 hg1
        have hb1 : Below w2.heap.size w2 w1 := ((Below.refl _ w2).alloc (Nat.le_refl _) _).grown hg1 (by simp) (fun k e => by cases e; exact Nat.le_refl _)
        clear hg1
        obtain ⟨g, cap', rfl, hgb, hgl⟩ := World.ownsRow.form ho1 (by omega)
        have hcl : ∃ old, w1.cell? ⟨g, i * 4 + 2, none⟩ = some old := ⟨_, (World.ownsRow.cellAt ho1 (i * 4 + 2) (by omega)).trans (List.getElem?_eq_getElem (by rw [rowT_len]; omega))⟩
        obtain ⟨old, hcl⟩ := hcl
        obtain ⟨hfz, ho2⟩ := owns_setN (k := i * 4 + 2) ho1 (.int .i64 n)
        rw [← HRD.out] at ho2
        have hb2 := hb1.setCell (p := ⟨g, i * 4 + 2, none⟩) hgb (.int .i64 n)
        have hM2 := hM.step hb2
        have hq2 := q.below hb2 (by omega)
        have hadd : i * 4 + 1 + 1 = i * 4 + 2 := rfl
        have HO := Lib.hid ho2
        clear ho1 ho2 hM q ct
        go_wp2_with fail
        clear hcl hfz hadd
        generalize w1.setCell ⟨g, i * 4 + 2, none⟩ (.int .i64 n) = w5 at hb2 hM2 hq2 HO ⊢
        have ct5 := hM2.t.cell 0 rfl
        have zw : w2.heap.size ≤ w5.heap.size := hb2.size
        refine wp_onlyN ?_
        refine wp_region_held_drew (S := RuS s b1 o1 i (.slice (some ⟨b1, o1, none⟩) D.length c1) (xk, ⟨xo, xm, xf⟩)) (by kernel_rfl) ⟨ct5, ⟨hq2.c0, hq2.c1, hq2.c2, hq2.c3⟩⟩ (fun hHeld => ?_)
        refine wpAnyH_take (i := 0) (v := ?_) rfl (by kernel_rfl) (by kernel_rfl) (by kernel_rfl) (fun _ _ _ h => h) (Or.inl ⟨by rfl, ?_⟩) (by assumption) ?_
        rotate_left
        · (intro Y hSw; (try dsimp only at hSw); obtain ⟨hS0, ⟨hT0, hT1, hT2, hT3⟩⟩ := hSw; go_simp; try with_reducible rfl)
        try simp only [Act.put, List.getElem_toArray, List.getElem_cons_zero, List.getElem_cons_succ, List.setIfInBounds_toArray, List.set_cons_zero, List.set_cons_succ]
        refine wpAnyH_take (i := 1) (v := ?_) rfl (by kernel_rfl) (by kernel_rfl) (by kernel_rfl) (fun _ _ _ h => h) (Or.inl ⟨by rfl, ?_⟩) (by assumption) ?_
        rotate_left
        · (intro Y hSw; (try dsimp only at hSw); obtain ⟨hS0, ⟨hT0, hT1, hT2, hT3⟩⟩ := hSw; go_simp; try with_reducible rfl)
        try simp only [Act.put, List.getElem_toArray, List.getElem_cons_zero, List.getElem_cons_succ, List.setIfInBounds_toArray, List.set_cons_zero, List.set_cons_succ]
        refine wpAnyH_take (i := 2) (v := ?_) rfl (by kernel_rfl) (by kernel_rfl) (by kernel_rfl) (fun _ _ _ h => h) (Or.inl ⟨by rfl, ?_⟩) (by assumption) ?_
        rotate_left
        · (intro Y hSw; (try dsimp only at hSw); obtain ⟨hS0, ⟨hT0, hT1, hT2, hT3⟩⟩ := hSw; go_simp; try with_reducible rfl)
        try simp only [Act.put, List.getElem_toArray, List.getElem_cons_zero, List.getElem_cons_succ, List.setIfInBounds_toArray, List.set_cons_zero, List.set_cons_succ]
        refine wpAnyH_take (i := 3) (v := ?_) rfl (by kernel_rfl) (by kernel_rfl) (by kernel_rfl) (fun _ _ _ h => h) (Or.inl ⟨by rfl, ?_⟩) (by assumption) ?_
        rotate_left
        · (intro Y hSw; (try dsimp only at hSw); obtain ⟨hS0, ⟨hT0, hT1, hT2, hT3⟩⟩ := hSw; go_simp; try with_reducible rfl)
        try simp only [Act.put, List.getElem_toArray, List.getElem_cons_zero, List.getElem_cons_succ, List.setIfInBounds_toArray, List.set_cons_zero, List.set_cons_succ]
        refine wpAnyH_take (i := 4) (v := ?_) rfl (by kernel_rfl) (by kernel_rfl) (by kernel_rfl) (fun _ _ _ h => h) (Or.inl ⟨by rfl, ?_⟩) (by assumption) ?_
        rotate_left
        · (intro Y hSw; (try dsimp only at hSw); obtain ⟨hS0, ⟨hT0, hT1, hT2, hT3⟩⟩ := hSw; go_simp; try with_reducible rfl)
        try simp only [Act.put, List.getElem_toArray, List.getElem_cons_zero, List.getElem_cons_succ, List.setIfInBounds_toArray, List.set_cons_zero, List.set_cons_succ]
        refine wpAnyH_take (i := 5) (v := ?_) rfl (by kernel_rfl) (by kernel_rfl) (by kernel_rfl) (fun _ _ _ h => h) (Or.inl ⟨by rfl, ?_⟩) (by assumption) ?_
        rotate_left
        · (intro Y hSw; (try dsimp only at hSw); obtain ⟨hS0, ⟨hT0, hT1, hT2, hT3⟩⟩ := hSw; go_simp; try with_reducible rfl)
        try simp only [Act.put, List.getElem_toArray, List.getElem_cons_zero, List.getElem_cons_succ, List.setIfInBounds_toArray, List.set_cons_zero, List.set_cons_succ]
        refine wpAnyH_take (i := 6) (v := ?_) rfl (by kernel_rfl) (by kernel_rfl) (by kernel_rfl) (fun _ _ _ h => h) (Or.inl ⟨by rfl, ?_⟩) (by assumption) ?_
        rotate_left
        · (intro Y hSw; (try dsimp only at hSw); obtain ⟨hS0, ⟨hT0, hT1, hT2, hT3⟩⟩ := hSw; go_simp; try with_reducible rfl)
        try simp only [Act.put, List.getElem_toArray, List.getElem_cons_zero, List.getElem_cons_succ, List.setIfInBounds_toArray, List.set_cons_zero, List.set_cons_succ]
        refine wpAnyH_take (i := 7) (v := ?_) rfl (by kernel_rfl) (by kernel_rfl) (by kernel_rfl) (fun _ _ _ h => h) (Or.inl ⟨by rfl, ?_⟩) (by assumption) ?_
        rotate_left
        · (intro Y hSw; (try dsimp only at hSw); obtain ⟨hS0, ⟨hT0, hT1, hT2, hT3⟩⟩ := hSw; go_simp; try with_reducible rfl)
        try simp only [Act.put, List.getElem_toArray, List.getElem_cons_zero, List.getElem_cons_succ, List.setIfInBounds_toArray, List.set_cons_zero, List.set_cons_succ]
        refine wpAnyH_take (i := 8) (v := ?_) rfl (by kernel_rfl) (by kernel_rfl) (by kernel_rfl) (fun _ _ _ h => h) (Or.inl ⟨by rfl, ?_⟩) (by assumption) ?_
        rotate_left
        · (intro Y hSw; (try dsimp only at hSw); obtain ⟨hS0, ⟨hT0, hT1, hT2, hT3⟩⟩ := hSw; go_simp; try with_reducible rfl)
        try simp only [Act.put, List.getElem_toArray, List.getElem_cons_zero, List.getElem_cons_succ, List.setIfInBounds_toArray, List.set_cons_zero, List.set_cons_succ]
        have hMd := hM2.step (Below.refl _ w5).drew
        have HOd := Lib.hid (owns_below HO.out (Below.refl _ w5).drew (Nat.le_refl _))
        have hqd := hq2.below (Below.refl w5.heap.size w5).drew (by omega)
        have zd : w2.heap.size ≤ w5.drew.heap.size := zw
        clear HO hM2 hq2 ct5 hHeld
        change wpAnyH _ _ _ _ _ _ _ _ w5.drew
        generalize w5.drew = w6 at hMd HOd hqd zd ⊢
        have ct := hMd.t.cell 0 rfl
        have cr := hMd.r.cell 0 rfl
        have fr := hMd.r.frozen 0
        refine wpAnyH_ready (rs := [9]) (by kernel_rfl) (by simp) ?_
        refine AllReadyH.cons rfl (fun K hK => ?_) AllReadyH.nil
        go_simp
        have hM7 := hMd.setR (.slice (some ⟨g, 0, none⟩) D.length cap')
        have HO7 := Lib.hid (ownsRow_setCell_below HOd.out (a := ⟨s + 1, 0, none⟩) (by dsimp only; omega) (.slice (some ⟨g, 0, none⟩) D.length cap'))
        have hq7 := hqd.below ((Below.refl s w6).setCell (p := ⟨s + 1, 0, none⟩) (by dsimp only; omega) (.slice (some ⟨g, 0, none⟩) D.length cap')) (by omega)
        have ct7 := hM7.t.cell 0 rfl
        refine hK.out _ _ (⟨ct7, ⟨hq7.c0, hq7.c1, hq7.c2, hq7.c3⟩⟩) (fun hHeld => ?_)
        clear hK K
        try simp only [Act.put, List.getElem_toArray, List.getElem_cons_zero, List.getElem_cons_succ, List.setIfInBounds_toArray, List.set_cons_zero, List.set_cons_succ]
        refine wpAnyH_take (i := 10) (v := ?_) rfl (by kernel_rfl) (by kernel_rfl) (by kernel_rfl) (fun _ _ _ h => h) (Or.inl ⟨by rfl, ?_⟩) (by assumption) ?_
        rotate_left
        · (intro Y hSw; (try dsimp only at hSw); obtain ⟨hS0, ⟨hT0, hT1, hT2, hT3⟩⟩ := hSw; go_simp; try with_reducible rfl)
        try simp only [Act.put, List.getElem_toArray, List.getElem_cons_zero, List.getElem_cons_succ, List.setIfInBounds_toArray, List.set_cons_zero, List.set_cons_succ]
        refine wpAnyH_take (i := 11) (v := ?_) rfl (by kernel_rfl) (by kernel_rfl) (by kernel_rfl) (fun _ _ _ h => h) (Or.inl ⟨by rfl, ?_⟩) (by assumption) ?_
        rotate_left
        · (intro Y hSw; (try dsimp only at hSw); obtain ⟨hS0, ⟨hT0, hT1, hT2, hT3⟩⟩ := hSw; go_simp; try with_reducible rfl)
        try simp only [Act.put, List.getElem_toArray, List.getElem_cons_zero, List.getElem_cons_succ, List.setIfInBounds_toArray, List.set_cons_zero, List.set_cons_succ]
        refine wpAnyH_done (by kernel_rfl) ?_ _
        rw [onlyN_normal]
        go_wp2_with fail
        exact ret_tt rfl (s + 1) rfl hM7.r rfl rfl ⟨_, by rw [HE.out, HX.out]; rfl, by rw [HLN.out]; exact RowAt.of_owns HO7.out (Nat.le_refl _), by first | exact hM7.bel | (rw [hs]; exact hM7.bel)⟩
    · have he : proE D p n = 4 := by unfold proE; rw [hm, hb]; rfl
      have hx := HX0.out (by rw [he]; decide)
      have HE := Lib.hid he
      have HX := Lib.hid hx
      clear he hx hm
      by_cases hneg : p < 0
      · clear hb
        go_enter Try.func42, Try.ntmps42
        have ct := hM.t.cell 0 rfl
        have cr := hM.r.cell 0 rfl
        have fr := hM.r.frozen 0
        go_wp2_with fail
        exact ret_tt rfl (s + 1) rfl (hM.setR _).r rfl rfl ⟨_, by rw [HE.out, HX.out]; rfl, (FIN.out _ (hM.setR _) (by rw [HE.out]; decide)).1, by first | exact (FIN.out _ (hM.setR _) (by rw [HE.out]; decide)).2 | (rw [hs]; exact (FIN.out _ (hM.setR _) (by rw [HE.out]; decide)).2)⟩
      · have hbig : 65536 ≤ p := by
          unfold badP at hb
          have := of_decide_eq_true hb
          omega
        clear hb
        go_enter Try.func42, Try.ntmps42
        have ct := hM.t.cell 0 rfl
        have cr := hM.r.cell 0 rfl
        have fr := hM.r.frozen 0
        go_wp2_with fail
        exact ret_tt rfl (s + 1) rfl (hM.setR _).r rfl rfl ⟨_, by rw [HE.out, HX.out]; rfl, (FIN.out _ (hM.setR _) (by rw [HE.out]; decide)).1, by first | exact (FIN.out _ (hM.setR _) (by rw [HE.out]; decide)).2 | (rw [hs]; exact (FIN.out _ (hM.setR _) (by rw [HE.out]; decide)).2)⟩
  · have he : proE D p n = 2 := by unfold proE; rw [hm]; rfl
    have hx := HX0.out (by rw [he]; decide)
    have HE := Lib.hid he
    have HX := Lib.hid hx
    clear he hx
    by_cases hneg : n < 0
    · clear hm
      go_enter Try.func42, Try.ntmps42
      have ct := hM.t.cell 0 rfl
      have cr := hM.r.cell 0 rfl
      have fr := hM.r.frozen 0
      go_wp2_with fail
      exact ret_tt rfl (s + 1) rfl (hM.setR _).r rfl rfl ⟨_, by rw [HE.out, HX.out]; rfl, (FIN.out _ (hM.setR _) (by rw [HE.out]; decide)).1, by first | exact (FIN.out _ (hM.setR _) (by rw [HE.out]; decide)).2 | (rw [hs]; exact (FIN.out _ (hM.setR _) (by rw [HE.out]; decide)).2)⟩
    · have hbig : 2 < n := by
        unfold badM at hm
        have := of_decide_eq_true hm
        omega
      clear hm
      go_enter Try.func42, Try.ntmps42
      have ct := hM.t.cell 0 rfl
      have cr := hM.r.cell 0 rfl
      have fr := hM.r.frozen 0
      go_wp2_with fail
      exact ret_tt rfl (s + 1) rfl (hM.setR _).r rfl rfl ⟨_, by rw [HE.out, HX.out]; rfl, (FIN.out _ (hM.setR _) (by rw [HE.out]; decide)).1, by first | exact (FIN.out _ (hM.setR _) (by rw [HE.out]; decide)).2 | (rw [hs]; exact (FIN.out _ (hM.setR _) (by rw [HE.out]; decide)).2)⟩
end Go.Proofs.Ytchepkihlnpfeaa
