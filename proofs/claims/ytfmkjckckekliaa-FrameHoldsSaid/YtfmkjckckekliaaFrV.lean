/-
  Package pinfoldlaw07: FrameHolds. No condition.
-/
import Derived.Test.YtfmkjckckekliaaFrU
namespace Go.Proofs.Ytfmkjckckekliaa
open Go.RowKit
attribute [local go_sem] Oper.semAt_some
set_option maxHeartbeats 8000000
set_option maxRecDepth 8000

theorem holds_body (v : Value) (l : List ActV) (w : World) (hv : ActsAt w.heap.size w v l) : Calls Try.prog 4 #[v] w fun e w' => e = .returned (.bool true) ∧ Below w.heap.size w w' := by
  have HV := Lib.hid hv
  obtain ⟨ad, cap, rfl, hcap, hmx, _⟩ := hv
  cases hf : fewI l 50
  · go_enter Try.func4, Try.ntmps4
    go_wp2_with fail
    refine (few_ok _ l 50 _ w HV.out).mono ?_; rintro e _ ⟨rfl, rfl⟩
    rw [hf]
    go_wp2_with fail
    refine (works_ok _).mono ?_; rintro e w1 ⟨rfl, k⟩
    go_wp2_with fail
    go_ret
    exact ⟨rfl, k⟩
  · have hl50 : l.length ≤ 50 := by
      unfold fewI at hf
      rw [Bool.and_eq_true] at hf
      have := of_decide_eq_true hf.2
      omega
    have hmm := @run_makeMap Try.prog
    go_enter Try.func4, Try.ntmps4
    go_wp2_with fail
    refine (few_ok _ l 50 _ w HV.out).mono ?_; rintro e _ ⟨rfl, rfl⟩
    rw [hf]
    clear hf
    go_wp2_with fail
    refine (New_calls 10 (by decide) (by decide) w).mono ?_; rintro e W ⟨b, bf, br, rfl, hp, lf, lr, lb, hb⟩
    go_wp2_with fail
    refine (num_calls _ _).mono ?_; rintro e _ ⟨rfl, rfl⟩
    go_wp2_with fail
    have bw1 := hp.blk.lt
    have bw2 := hp.fr.lt
    have bw3 := hp.re.lt
    have hst0 : Stands w (W.alloc (.map #[] 0)) b bf br W.heap.size [] [] :=
      ⟨⟨hp.alloc _, hb.alloc hb.size _, lf, lr⟩, good_new 10 (by decide) (by decide), MapI.new W, hb.size, by omega, by omega, by omega⟩
    clear hp lf lr lb hb bw1 bw2 bw3 hmm
    generalize W.heap.size = bw at *
    generalize W.alloc (.map #[] 0) = W0 at *
    go_loopw [6] (fun i wr => ∃ (k : Nat) (F : List Fr) (R : List (Int × Int)), k ≤ l.length ∧ i = .int .i64 k ∧ Stands w wr b bf br bw F R) (fun i _ => l.length - (intOf i).toNat)
    case atStart => exact ⟨0, [], [], by omega, rfl, hst0⟩
    case round =>
      obtain ⟨k, F, R, hk, rfl, hS⟩ := hrel
      clear hst0
      by_cases hlt : k < l.length
      · obtain ⟨ba, off, rfl, hA⟩ : ∃ b off, ad = some ⟨b, off, none⟩ ∧ ∀ i (h : i < l.length), ActAt w.heap.size w b (off + i * 5) l[i] := by
          obtain ⟨_, _, hv, _, _, h⟩ := HV.out
          simp only [Value.slice.injEq] at hv
          obtain ⟨rfl, _⟩ := hv
          rcases h with h | h
          · rw [h] at hlt; simp at hlt
          · exact h
        have hAk := (hA k hlt).below hS.live.bel (Nat.le_refl _)
        clear hA
        obtain ⟨⟨what, who, n, at_, av, bs⟩, hak⟩ : ∃ a, l[k] = a := ⟨_, rfl⟩
        rw [hak] at hAk
        clear hak
        obtain ⟨q0, q1, q2, q3, q4, hrow, hblt⟩ := hAk
        dsimp only at q0 q1 q2 q3 q4 hrow
        have i0 : (0 : Int) ≤ k := by omega
        have i1 : (k : Int) < l.length := by omega
        have HR := Lib.hid hrow
        obtain ⟨sa, sc, rfl, _⟩ := hrow
        obtain ⟨wx, hwx⟩ : ∃ wx, wr.alloc (.cells #[.int .i64 what, .int .i64 who, .int .i64 n, .int .i64 at_, .slice sa bs.length sc] 38) = wx := ⟨_, rfl⟩
        have hX : Blk wx wr.heap.size #[.int .i64 what, .int .i64 who, .int .i64 n, .int .i64 at_, .slice sa bs.length sc] 38 := by rw [← hwx]; exact Blk.new wr _ _
        have kx : Below wr.heap.size wr wx := by rw [← hwx]; exact (Below.refl _ wr).alloc (Nat.le_refl _) _
        have hSx := hS.step kx
        have x0 : wx.cell? ⟨wr.heap.size, 0, none⟩ = some (.int .i64 what) := hX.cell 0 rfl
        have x1 : wx.cell? ⟨wr.heap.size, 1, none⟩ = some (.int .i64 who) := hX.cell 1 rfl
        have x2 : wx.cell? ⟨wr.heap.size, 2, none⟩ = some (.int .i64 n) := hX.cell 2 rfl
        have x3 : wx.cell? ⟨wr.heap.size, 3, none⟩ = some (.int .i64 at_) := hX.cell 3 rfl
        have x4 : wx.cell? ⟨wr.heap.size, 4, none⟩ = some (.slice sa bs.length sc) := hX.cell 4 rfl
        go_wp2_with fail
        · -- Reserve
          refine (hSx.reserve who n).mono ?_; rintro e w1 ⟨er, R', rfl, hS1⟩
          go_wp2_with fail
          exact ⟨⟨k + 1, F, R', by omega, by go_num, hS1⟩, by simp [intOf]; omega⟩
        · -- Give
          refine (Give_ok hSx.live.pool hSx.good.snd.b256 n).mono ?_; rintro e w1 ⟨rfl, hp1, hc1⟩
          have x2' : w1.cell? ⟨wr.heap.size, 2, none⟩ = some (.int .i64 n) := (hc1.blk hX (by have := hS.live.pool.fr.lt; omega)).cell 2 rfl
          have hm1 : MapI w1 bw (encO F) := hc1.map hSx.map hSx.n1
          obtain ⟨q, hq⟩ : ∃ q, givErr 10 F n = q := ⟨_, rfl⟩
          rw [hq]
          by_cases h9 : q = 0
          · subst h9
            have hF' : givAfter 10 F n = delF F n := by unfold givAfter; rw [if_pos hq]
            rw [hF'] at hp1
            obtain ⟨wu, hrun, hMu, hTu⟩ := hm1.drop (P := Try.prog) Try.underlying35 Try.underlying3 n 3 0
            rw [delA_encO] at hMu
            have hL1 := hSx.live.frames hp1 hc1
            have hL2 := map_turn (F' := F) hL1 hTu hSx.lw hSx.n0 hSx.n1 hSx.n2
            have hS2 : Stands w wu b bf br bw (delF F n) R := ⟨hL2, hSx.good.sub _, hMu, hSx.lw, hSx.n0, hSx.n1, hSx.n2⟩
            clear hq hF' hp1 hc1 hm1 hL1 hL2 hTu hMu
            go_wp2_with fail
            refine (num_calls _ _).mono ?_; rintro e _ ⟨rfl, rfl⟩
            go_wp2_with fail
            exact ⟨⟨k + 1, _, R, by omega, by go_num, hS2⟩, by simp [intOf]; omega⟩
          · have hF' : givAfter 10 F n = F := by unfold givAfter; rw [hq, if_neg h9]
            rw [hF'] at hp1
            have hS1 := hSx.frames hSx.good hp1 hc1 rfl
            clear hq hF' hp1 hc1 hm1
            go_wp2_with fail
            refine (num_calls _ _).mono ?_; rintro e _ ⟨rfl, rfl⟩
            go_wp2_with fail
            exact ⟨⟨k + 1, F, R, by omega, by go_num, hS1⟩, by simp [intOf]; omega⟩
        · -- Write
          refine (hSx.write n at_ bs ((HR.out.mono hS.live.bel.size).below kx (Nat.le_refl _) |>.mono kx.size) rfl).mono ?_; rintro e w1 ⟨er, F', rfl, hS1⟩
          go_wp2_with fail
          exact ⟨⟨k + 1, F', R, by omega, by go_num, hS1⟩, by simp [intOf]; omega⟩
        · -- Take
          refine (Reserved_ok hSx.live.pool hSx.good.snd who).mono ?_; rintro e w1 ⟨rfl, k1⟩
          have hS1 := hSx.step k1
          have hX1 := hX.below k1 hX.lt
          have y1 : w1.cell? ⟨wr.heap.size, 1, none⟩ = some (.int .i64 who) := hX1.cell 1 rfl
          go_wp2_with fail
          refine (Take_ok hS1.live.pool hS1.good.snd who (hS1.good.free who)).mono ?_; rintro e w2 ⟨rfl, hp2, hc2⟩
          have hX2 := hc2.blk hX1 (by have := hS.live.pool.fr.lt; omega)
          have y2 : w2.cell? ⟨wr.heap.size, 1, none⟩ = some (.int .i64 who) := hX2.cell 1 rfl
          have hm2 : MapI w2 bw (encO F) := hc2.map hS1.map hS1.n1
          have hL2 := hS1.live.frames hp2 hc2
          have hG2 := hS1.good.take who
          have hif := hS1.good.take_iff who
          by_cases h9 : takErr F R who = 0
          · obtain ⟨t, suf, hfr⟩ := hS1.good.free who h9
            obtain ⟨t0, t1, t2⟩ := free_mem (k := t) (by rw [hfr]; exact List.mem_cons_self)
            have hat : takAt 10 F R who = t := by unfold takAt; rw [if_pos h9, hfr]; rfl
            have hF' : takAfter 10 F R who = F ++ [(t, who, zeros256)] := by unfold takAfter; rw [if_pos h9, hfr]; rfl
            have hlt2 : rsvdH F who < rsvdI R who := hif.1 h9
            rw [hF'] at hp2 hL2 hG2
            rw [hat, h9]
            have hlk := (hm2.lookup (P := Try.prog) Try.underlying35 Try.underlying3 (zero_int w2) t).2
            rw [hasA_encO, t2, show (getA (encO F) t).getD (.int .i64 0) = .int .i64 0 by
              rw [getA_encO, List.find?_eq_none.2 fun x hx e => by
                have : inF F t = true := List.any_eq_true.2 ⟨x, hx, e⟩
                rw [t2] at this; cases this]
              rfl] at hlk
            clear hif h9 hat hF' hfr hS1 hX1 hc2 hSx
            go_wp2_with fail
            refine (num_calls _ _).mono ?_; rintro e _ ⟨rfl, rfl⟩
            go_wp2_with fail
            refine (num_calls _ _).mono ?_; rintro e _ ⟨rfl, rfl⟩
            go_wp2_with fail
            obtain ⟨n1, n2⟩ := read_new (who := who) t0 t1 t2
            refine (Read_ok hp2 hG2.snd.b256 t 0 256).mono ?_; rintro e w3 ⟨rv, rfl, ho3, k3⟩
            rw [n2] at ho3
            rw [n1]
            clear n1 n2
            have hX3 := hX2.below k3 hX2.lt
            have y3 : w3.cell? ⟨wr.heap.size, 1, none⟩ = some (.int .i64 who) := hX3.cell 1 rfl
            have hL3 := hL2.step k3
            have hm3 : MapI w3 bw (encO F) := hm2.below k3 hm2.lt
            have hzl : zeros256.length = 256 := List.length_replicate
            rw [hzl] at ho3
            have hrv := RowAt.of_owns ho3 (Nat.le_refl _)
            obtain ⟨S, hSs⟩ : ∃ S, strOfNums zeros256 = S := ⟨_, rfl⟩
            have hcv : ∀ Y, Below w3.heap.size w3 Y → NewS rv S Y := fun Y h => ⟨by
              rw [← hSs]; exact run_convert_row (P := Try.prog) zeros256 (by rw [hzl]; exact hrv.below h (Nat.le_refl _)) Try.underlying36 Try.underlying5 Try.underlying9⟩
            have HCV := Lib.hid hcv
            obtain ⟨i0, hi, hz, hsize, hby, hzs, hsz⟩ := info8
            obtain ⟨wm, hmk, hom, hgm⟩ := run_make_full (P := Try.prog) w3.drew w3.heap.size 36 5 i0 (.int .u8 0) 1 Try.underlying36 hi hz hsize .i64 .i64 256 (by rw [hby]; decide) (by decide) (Nat.le_refl _)
            replace hmk : (Instr.makeSlice 36 (.int .i64 256) (.int .i64 256)).run Try.prog w3.drew = .ok (.slice (some ⟨w3.heap.size, 0, none⟩) 256 256) wm := hmk
            have km : Below w3.heap.size w3 wm := ((Below.refl _ w3).drew).grown hgm (Nat.le_refl _) (fun k e => by cases e)
            have hcm : (convert 36 9 (.slice (some ⟨w3.heap.size, 0, none⟩) 256 256)).run Try.prog wm = .ok (.string S) wm := by
              rw [← hSs]
              refine run_convert_row (P := Try.prog) (B := wm.heap.size) zeros256 ?_ Try.underlying36 Try.underlying5 Try.underlying9
              have := RowAt.of_owns hom (Nat.le_refl _)
              change RowAt _ _ _ _ (madeCells #[.int .u8 0] 256).toList at this
              rw [toList_madeCells_one] at this
              rw [hzl]
              exact this
            have hS4' := hL3.step km
            have hX4 := hX3.below km hX3.lt
            have y4 : wm.cell? ⟨wr.heap.size, 1, none⟩ = some (.int .i64 who) := hX4.cell 1 rfl
            have hm4 : MapI wm bw (encO F) := hm3.below km hm3.lt
            clear hcv hrv hom hgm hby hzs hsz hi hz hsize hSs hzl hX2 hp2 hm2 y2
            have hd0 : decide (t < 0) = false := decide_eq_false (by omega)
            have hd1 : decide (10 ≤ t) = false := decide_eq_false (by omega)
            obtain ⟨wu, hrun, hMu, hTu⟩ := hm4.store (P := Try.prog) Try.underlying35 Try.underlying3 t (.int .i64 who)
            rw [setA_encO F t who zeros256 t2] at hMu
            have hS5 : Stands w wu b bf br bw (F ++ [(t, who, zeros256)]) R := ⟨map_turn (F' := F) hS4' hTu hS.lw hS.n0 hS.n1 hS.n2, hG2, hMu, hS.lw, hS.n0, hS.n1, hS.n2⟩
            clear hMu hTu hm4 hS4' hL2 hL3 hm3 hX3 hX4 y3
            go_wp2_with fail
            refine wp_region_held_drew (S := NewS rv S) (by kernel_rfl) (HCV.out _ (Below.refl _ w3).drew) (fun hHeld => ?_)
            refine wpAnyH_take (i := 0) (v := ?_) rfl (by kernel_rfl) (by kernel_rfl) (by kernel_rfl) (fun _ _ _ h => h) (Or.inl ⟨by rfl, ?_⟩) (by assumption) ?_
            rotate_left
            · (intro Y hSw; (try dsimp only at hSw); obtain ⟨hS0⟩ := hSw; go_simp; try with_reducible rfl)
            try simp only [Act.put, List.getElem_toArray, List.getElem_cons_zero, List.getElem_cons_succ, List.setIfInBounds_toArray, List.set_cons_zero, List.set_cons_succ]
            refine wpAnyH_take (i := 1) (v := ?_) rfl (by kernel_rfl) (by kernel_rfl) (by kernel_rfl) (fun _ _ _ h => h) (Or.inl ⟨by rfl, ?_⟩) (by assumption) ?_
            rotate_left
            · (intro Y hSw; (try dsimp only at hSw); obtain ⟨hS0⟩ := hSw; go_simp; try with_reducible rfl)
            try simp only [Act.put, List.getElem_toArray, List.getElem_cons_zero, List.getElem_cons_succ, List.setIfInBounds_toArray, List.set_cons_zero, List.set_cons_succ]
            refine wpAnyH_take (i := 2) (v := ?_) rfl (by kernel_rfl) (by kernel_rfl) (by kernel_rfl) (fun _ _ _ h => h) (Or.inl ⟨by rfl, ?_⟩) (by assumption) ?_
            rotate_left
            · (intro Y hSw; (try dsimp only at hSw); obtain ⟨hS0⟩ := hSw; go_simp; try with_reducible rfl)
            try simp only [Act.put, List.getElem_toArray, List.getElem_cons_zero, List.getElem_cons_succ, List.setIfInBounds_toArray, List.set_cons_zero, List.set_cons_succ]
            refine wpAnyH_take (i := 3) (v := ?_) rfl (by kernel_rfl) (by kernel_rfl) (by kernel_rfl) (fun _ _ _ h => h) (Or.inl ⟨by rfl, ?_⟩) (by assumption) ?_
            rotate_left
            · (intro Y hSw; (try dsimp only at hSw); obtain ⟨hS0⟩ := hSw; go_simp; try with_reducible rfl)
            try simp only [Act.put, List.getElem_toArray, List.getElem_cons_zero, List.getElem_cons_succ, List.setIfInBounds_toArray, List.set_cons_zero, List.set_cons_succ]
            refine wpAnyH_take (i := 4) (v := ?_) rfl (by kernel_rfl) (by kernel_rfl) (by kernel_rfl) (fun _ _ _ h => h) (Or.inl ⟨by rfl, ?_⟩) (by assumption) ?_
            rotate_left
            · (intro Y hSw; (try dsimp only at hSw); obtain ⟨hS0⟩ := hSw; go_simp; try with_reducible rfl)
            try simp only [Act.put, List.getElem_toArray, List.getElem_cons_zero, List.getElem_cons_succ, List.setIfInBounds_toArray, List.set_cons_zero, List.set_cons_succ]
            refine wpAnyH_take (i := 5) (v := ?_) rfl (by kernel_rfl) (by kernel_rfl) (by kernel_rfl) (fun _ _ _ h => h) (Or.inl ⟨by rfl, ?_⟩) (by assumption) ?_
            rotate_left
            · (intro Y hSw; (try dsimp only at hSw); obtain ⟨hS0⟩ := hSw; go_simp; try with_reducible rfl)
            try simp only [Act.put, List.getElem_toArray, List.getElem_cons_zero, List.getElem_cons_succ, List.setIfInBounds_toArray, List.set_cons_zero, List.set_cons_succ]
            refine wpAnyH_take (i := 6) (v := ?_) rfl (by kernel_rfl) (by kernel_rfl) (by kernel_rfl) (fun _ _ _ h => h) (Or.inl ⟨by rfl, ?_⟩) (by assumption) ?_
            rotate_left
            · (intro Y hSw; (try dsimp only at hSw); obtain ⟨hS0⟩ := hSw; go_simp; try with_reducible rfl)
            try simp only [Act.put, List.getElem_toArray, List.getElem_cons_zero, List.getElem_cons_succ, List.setIfInBounds_toArray, List.set_cons_zero, List.set_cons_succ]
            refine wpAnyH_take (i := 7) (v := ?_) rfl (by kernel_rfl) (by kernel_rfl) (by kernel_rfl) (fun _ _ _ h => h) (Or.inl ⟨by rfl, ?_⟩) (by assumption) ?_
            rotate_left
            · (intro Y hSw; (try dsimp only at hSw); obtain ⟨hS0⟩ := hSw; go_simp; try with_reducible rfl)
            try simp only [Act.put, List.getElem_toArray, List.getElem_cons_zero, List.getElem_cons_succ, List.setIfInBounds_toArray, List.set_cons_zero, List.set_cons_succ]
            refine wpAnyH_take (i := 8) (v := ?_) rfl (by kernel_rfl) (by kernel_rfl) (by kernel_rfl) (fun _ _ _ h => h) (Or.inl ⟨by rfl, ?_⟩) (by assumption) ?_
            rotate_left
            · (intro Y hSw; (try dsimp only at hSw); obtain ⟨hS0⟩ := hSw; go_simp; try with_reducible rfl)
            try simp only [Act.put, List.getElem_toArray, List.getElem_cons_zero, List.getElem_cons_succ, List.setIfInBounds_toArray, List.set_cons_zero, List.set_cons_succ]
            refine wpAnyH_take (i := 9) (v := ?_) rfl (by kernel_rfl) (by kernel_rfl) (by kernel_rfl) (fun _ _ _ h => h) (Or.inl ⟨by rfl, ?_⟩) (by assumption) ?_
            rotate_left
            · (intro Y hSw; (try dsimp only at hSw); obtain ⟨hS0⟩ := hSw; go_simp; try with_reducible rfl)
            try simp only [Act.put, List.getElem_toArray, List.getElem_cons_zero, List.getElem_cons_succ, List.setIfInBounds_toArray, List.set_cons_zero, List.set_cons_succ]
            refine wpAnyH_take (i := 10) (v := ?_) rfl (by kernel_rfl) (by kernel_rfl) (by kernel_rfl) (fun _ _ _ h => h) (Or.inl ⟨by rfl, ?_⟩) (by assumption) ?_
            rotate_left
            · (intro Y hSw; (try dsimp only at hSw); obtain ⟨hS0⟩ := hSw; go_simp; try with_reducible rfl)
            try simp only [Act.put, List.getElem_toArray, List.getElem_cons_zero, List.getElem_cons_succ, List.setIfInBounds_toArray, List.set_cons_zero, List.set_cons_succ]
            refine wpAnyH_ready (rs := [11]) (by kernel_rfl) (by simp) ?_
            refine AllReadyH.cons rfl (fun K hK => ?_) AllReadyH.nil
            go_simp
            refine (num_calls _ _).mono ?_; rintro e _ ⟨rfl, rfl⟩
            go_wp2_with fail
            refine hK.out _ _ (HCV.out _ (Below.refl _ w3).drew) (fun hHeld => ?_)
            clear hK K
            try simp only [Act.put, List.getElem_toArray, List.getElem_cons_zero, List.getElem_cons_succ, List.setIfInBounds_toArray, List.set_cons_zero, List.set_cons_succ]
            refine wpAnyH_take (i := 12) (v := ?_) rfl (by kernel_rfl) (by kernel_rfl) (by kernel_rfl) (fun _ _ _ h => h) (Or.inl ⟨by rfl, ?_⟩) (by assumption) ?_
            rotate_left
            · (intro Y hSw; (try dsimp only at hSw); obtain ⟨hS0⟩ := hSw; go_simp; try with_reducible rfl)
            try simp only [Act.put, List.getElem_toArray, List.getElem_cons_zero, List.getElem_cons_succ, List.setIfInBounds_toArray, List.set_cons_zero, List.set_cons_succ]
            refine wpAnyH_take (i := 13) (v := ?_) rfl (by kernel_rfl) (by kernel_rfl) (by kernel_rfl) (fun _ _ _ h => h) (Or.inl ⟨by rfl, ?_⟩) (by assumption) ?_
            rotate_left
            · (intro Y hSw; (try dsimp only at hSw); obtain ⟨hS0⟩ := hSw; go_simp; try with_reducible rfl)
            try simp only [Act.put, List.getElem_toArray, List.getElem_cons_zero, List.getElem_cons_succ, List.setIfInBounds_toArray, List.set_cons_zero, List.set_cons_succ]
            refine wpAnyH_take (i := 14) (v := ?_) rfl (by kernel_rfl) (by kernel_rfl) (by kernel_rfl) (fun _ _ _ h => h) (Or.inl ⟨by rfl, ?_⟩) (by assumption) ?_
            rotate_left
            · (intro Y hSw; (try dsimp only at hSw); obtain ⟨hS0⟩ := hSw; go_simp; try with_reducible rfl)
            try simp only [Act.put, List.getElem_toArray, List.getElem_cons_zero, List.getElem_cons_succ, List.setIfInBounds_toArray, List.set_cons_zero, List.set_cons_succ]
            refine wpAnyH_take (i := 15) (v := ?_) rfl (by kernel_rfl) (by kernel_rfl) (by kernel_rfl) (fun _ _ _ h => h) (Or.inl ⟨by rfl, ?_⟩) (by assumption) ?_
            rotate_left
            · (intro Y hSw; (try dsimp only at hSw); obtain ⟨hS0⟩ := hSw; go_simp; try with_reducible rfl)
            try simp only [Act.put, List.getElem_toArray, List.getElem_cons_zero, List.getElem_cons_succ, List.setIfInBounds_toArray, List.set_cons_zero, List.set_cons_succ]
            refine wpAnyH_take (i := 16) (v := ?_) rfl (by kernel_rfl) (by kernel_rfl) (by kernel_rfl) (fun _ _ _ h => h) (Or.inl ⟨by rfl, ?_⟩) (by assumption) ?_
            rotate_left
            · (intro Y hSw; (try dsimp only at hSw); obtain ⟨hS0⟩ := hSw; go_simp; try with_reducible rfl)
            try simp only [Act.put, List.getElem_toArray, List.getElem_cons_zero, List.getElem_cons_succ, List.setIfInBounds_toArray, List.set_cons_zero, List.set_cons_succ]
            refine wpAnyH_ready (rs := [17]) (by kernel_rfl) (by simp) ?_
            refine AllReadyH.cons rfl (fun K hK => ?_) AllReadyH.nil
            go_simp
            refine hK.out _ _ (HCV.out _ km) (fun hHeld => ?_)
            clear hK K
            try simp only [Act.put, List.getElem_toArray, List.getElem_cons_zero, List.getElem_cons_succ, List.setIfInBounds_toArray, List.set_cons_zero, List.set_cons_succ]
            refine wpAnyH_ready (rs := [18]) (by kernel_rfl) (by simp) ?_
            refine AllReadyH.cons rfl (fun K hK => ?_) AllReadyH.nil
            go_simp
            refine hK.out _ _ (HCV.out _ km) (fun hHeld => ?_)
            clear hK K
            try simp only [Act.put, List.getElem_toArray, List.getElem_cons_zero, List.getElem_cons_succ, List.setIfInBounds_toArray, List.set_cons_zero, List.set_cons_succ]
            refine wpAnyH_take (i := 19) (v := ?_) rfl (by kernel_rfl) (by kernel_rfl) (by kernel_rfl) (fun _ _ _ h => h) (Or.inl ⟨by rfl, ?_⟩) (by assumption) ?_
            rotate_left
            · (intro Y hSw; (try dsimp only at hSw); obtain ⟨hS0⟩ := hSw; go_simp; try with_reducible rfl)
            try simp only [Act.put, List.getElem_toArray, List.getElem_cons_zero, List.getElem_cons_succ, List.setIfInBounds_toArray, List.set_cons_zero, List.set_cons_succ]
            refine wpAnyH_take (i := 20) (v := ?_) rfl (by kernel_rfl) (by kernel_rfl) (by kernel_rfl) (fun _ _ _ h => h) (Or.inl ⟨by rfl, ?_⟩) (by assumption) ?_
            rotate_left
            · (intro Y hSw; (try dsimp only at hSw); obtain ⟨hS0⟩ := hSw; go_simp; try with_reducible rfl)
            try simp only [Act.put, List.getElem_toArray, List.getElem_cons_zero, List.getElem_cons_succ, List.setIfInBounds_toArray, List.set_cons_zero, List.set_cons_succ]
            refine wpAnyH_done (by kernel_rfl) ?_ _
            go_wp2_with fail
            exact ⟨⟨k + 1, _, R, by omega, by go_num, hS5⟩, by simp [intOf]; omega⟩
          · have hF' : takAfter 10 F R who = F := by unfold takAfter; rw [if_neg h9]
            have hlt2 : decide (rsvdH F who < rsvdI R who) = false := decide_eq_false fun h => h9 (hif.2 h)
            have hq2 : (takErr F R who == 0) = false := by simpa using h9
            rw [hF'] at hp2
            have hS2 := hS1.frames hS1.good hp2 hc2 rfl
            clear hif hF' hS1 hX1 hc2 hSx hL2 hG2 hp2 hm2
            go_wp2_with fail
            refine (num_calls _ _).mono ?_; rintro e _ ⟨rfl, rfl⟩
            go_wp2_with fail
            refine (num_calls _ _).mono ?_; rintro e _ ⟨rfl, rfl⟩
            go_wp2_with fail
            exact ⟨⟨k + 1, F, R, by omega, by go_num, hS2⟩, by simp [intOf]; omega⟩
      · obtain rfl : k = l.length := by omega
        have hFl := hS.good.len
        go_wp2_with fail
        refine (all_ok hS.live.pool hS.good.snd.b256 (by omega) (fun x hx => by have := hS.good.inb x hx; exact wf_i64 this.1 (by omega)) 20 (by decide) (by decide)).mono ?_; rintro e w1 ⟨av, rfl, ho, k1⟩
        rw [List.take_of_length_le (by rw [allL_len]; omega)] at ho
        have hS1 := hS.step k1
        have hlen : (allL F).length = F.length := allL_len F
        obtain ⟨sa, sc, rfl, ⟨hac, _⟩, _⟩ := RowAt.of_owns ho (Nat.le_refl _)
        have HO := Lib.hid ho
        clear ho k1 hS
        go_wp2_with fail
        go_loopw [17] (fun i wr => ∃ k : Nat, k ≤ F.length ∧ i = .int .i64 k ∧ w1 = wr) (fun i _ => F.length - (intOf i).toNat)
        case atStart => exact ⟨0, by omega, rfl, rfl⟩
        case round =>
          obtain ⟨k, hk, rfl, rfl⟩ := hrel
          by_cases hlt : k < F.length
          · obtain ⟨g, cap', hv, hg1, hg2⟩ := World.ownsRow.form HO.out (by omega)
            simp only [Value.slice.injEq, true_and] at hv
            obtain ⟨rfl, rfl, rfl⟩ := hv
            have hkA : k < (allL F).length := by omega
            obtain ⟨r0, r1⟩ := rowsV_get (allL F) k hkA
            have q0 : w1.cell? ⟨g, k * 2, none⟩ = some (.int .i64 (allL F)[k].1) := by rw [World.ownsRow.cellAt HO.out (k * 2) (by omega), r0]
            have q1 : w1.cell? ⟨g, k * 2 + 1, none⟩ = some (.int .i64 (allL F)[k].2) := by rw [World.ownsRow.cellAt HO.out (k * 2 + 1) (by omega), r1]
            obtain ⟨f0, f1⟩ := allL_find (List.getElem_mem hkA)
            have hlk := (hS1.map.lookup (P := Try.prog) Try.underlying35 Try.underlying3 (zero_int w1) (allL F)[k].1).2
            rw [hasA_encO, f0, f1] at hlk
            have i0 : (0 : Int) ≤ k := by omega
            have i1 : (k : Int) < F.length := by omega
            clear r0 r1 f0 f1
            generalize (allL F)[k] = x at *
            go_wp2_with fail
            exact ⟨⟨k + 1, by omega, by go_num, trivial⟩, by simp [intOf]; omega⟩
          · obtain rfl : k = F.length := by omega
            have hml := hS1.map.len (P := Try.prog) Try.underlying35 3
            rw [show (encO F).length = F.length by simp [encO]] at hml
            go_wp2_with fail
            refine (works_ok _).mono ?_; rintro e w2 ⟨rfl, k2⟩
            go_wp2_with fail
            go_ret
            exact ⟨rfl, hS1.live.bel.trans (k2.mono hS1.live.bel.size)⟩
end Go.Proofs.Ytfmkjckckekliaa
