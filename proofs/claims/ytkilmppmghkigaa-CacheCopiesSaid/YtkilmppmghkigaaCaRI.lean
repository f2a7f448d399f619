/-
  Package pinfoldref18: Drop, Same. Conditions: shelves of fewer than a million.
-/
import Derived.Test.YtkilmppmghkigaaCaRG
namespace Go.Proofs.Ytkilmppmghkigaa
open Go.RowKit
attribute [local go_sem] Oper.semAt_some
set_option maxHeartbeats 4000000
set_option maxRecDepth 8000

theorem drp_no {R : Nat → List Int} {c x k : Int} (h : drpErr R c x = k) (hk : k ≠ 0) : drpVal R c x = 0 ∧ drpAfter R c x = R :=
  ⟨by unfold drpVal; rw [h, if_neg hk], by unfold drpAfter; rw [h, if_neg hk]⟩
theorem remI_succ (l : List Int) (x : Int) (k : Nat) (hk : k < l.length) : remI (l.take (k + 1)) x = if l[k] = x then remI (l.take k) x else remI (l.take k) x ++ [l[k]] := by
  unfold remI
  rw [List.take_succ_eq_append_getElem hk, List.filter_append]
  by_cases h : l[k] = x
  · rw [if_pos h]; simp [h]
  · rw [if_neg h]; simp [h]
theorem rDrop_ok {B : Nat} {w : World} {cs : Array Value} {R : Nat → List Int} (hV : RefV B w cs R) (hB : B ≤ w.heap.size) (hR : ∀ i, (R i).length < 1000000) (c x : Int) :
    Calls Try.prog 39 #[.agg cs, .int .i64 c, .int .i64 x] w fun e w' => ∃ cs', e = .returned (.tuple #[.agg cs', .int .i64 (drpVal R c x), .int .i64 (drpErr R c x)]) ∧ RefV w'.heap.size w' cs' (drpAfter R c x) ∧ Below w.heap.size w w' := by
  obtain ⟨w0, hw0⟩ : ∃ w0, (w.alloc (.cells cs 44)).alloc (.cells #[.slice none 0 0, .slice none 0 0, .slice none 0 0, .slice none 0 0, .slice none 0 0, .slice none 0 0, .slice none 0 0, .slice none 0 0, .slice none 0 0, .slice none 0 0, .slice none 0 0, .slice none 0 0, .slice none 0 0, .slice none 0 0, .slice none 0 0, .slice none 0 0, .slice none 0 0, .slice none 0 0, .slice none 0 0, .slice none 0 0, .slice none 0 0, .slice none 0 0, .slice none 0 0, .slice none 0 0, .slice none 0 0, .slice none 0 0, .slice none 0 0, .slice none 0 0, .slice none 0 0, .slice none 0 0, .slice none 0 0, .slice none 0 0] 44) = w0 := ⟨_, rfl⟩
  have hb0 : Below w.heap.size w w0 := by rw [← hw0]; exact ((Below.refl _ w).alloc (Nat.le_refl _) _).alloc (by simp) _
  have hA : Blk w0 w.heap.size cs 44 := by rw [← hw0]; exact (Blk.new w _ _).alloc _
  have hO : Blk w0 (w.heap.size + 1) #[.slice none 0 0, .slice none 0 0, .slice none 0 0, .slice none 0 0, .slice none 0 0, .slice none 0 0, .slice none 0 0, .slice none 0 0, .slice none 0 0, .slice none 0 0, .slice none 0 0, .slice none 0 0, .slice none 0 0, .slice none 0 0, .slice none 0 0, .slice none 0 0, .slice none 0 0, .slice none 0 0, .slice none 0 0, .slice none 0 0, .slice none 0 0, .slice none 0 0, .slice none 0 0, .slice none 0 0, .slice none 0 0, .slice none 0 0, .slice none 0 0, .slice none 0 0, .slice none 0 0, .slice none 0 0, .slice none 0 0, .slice none 0 0] 44 := by rw [← hw0]; exact Blk.newAt _ _ _ (by simp)
  have hV0 := hV.below hb0 hB
  go_enter Try.func39, Try.ntmps39
  go_wp2_with fail
  clear hw0
  refine (Class_calls c _).mono ?_; rintro e _ ⟨rfl, rfl⟩
  by_cases h2 : badIn c 8 = true
  · have hE : drpErr R c x = 2 := by unfold drpErr; rw [if_pos h2]
    obtain ⟨hVl, hF⟩ := drp_no hE (by decide)
    rw [h2]
    have HE := Lib.hid hE
    have HV := Lib.hid hVl
    have HF := Lib.hid hF
    clear hE hVl hF
    go_wp2_with (first | refine wpList_load32 rfl _ rfl w.heap.size rfl hA hV.size ?_ | refine wpList_store32 rfl _ _ rfl (w.heap.size + 1) cs rfl rfl hO rfl hV.size hV.one ?_)
    refine ret_c3 rfl (w.heap.size + 1) rfl (hO.setRow cs) hV.size rfl ?_
    exact ⟨cs, by rw [HV.out, HE.out]; rfl, by rw [HF.out]; exact (hV0.below (bel_setRow (Below.refl w.heap.size _) (by omega) cs) hB).mono (by have := hb0.size; rw [setRow_size]; omega), bel_setRow hb0 (by omega) cs⟩
  rw [Bool.not_eq_true] at h2
  rw [h2]
  go_wp2_with fail
  refine (Index_calls x _).mono ?_; rintro e _ ⟨rfl, rfl⟩
  by_cases h3 : badIn x 256 = true
  · have hE : drpErr R c x = 4 := by unfold drpErr; rw [h2, if_neg (by simp), if_pos h3]
    obtain ⟨hVl, hF⟩ := drp_no hE (by decide)
    rw [h3]
    have HE := Lib.hid hE
    have HV := Lib.hid hVl
    have HF := Lib.hid hF
    clear hE hVl hF
    go_wp2_with (first | refine wpList_load32 rfl _ rfl w.heap.size rfl hA hV.size ?_ | refine wpList_store32 rfl _ _ rfl (w.heap.size + 1) cs rfl rfl hO rfl hV.size hV.one ?_)
    refine ret_c3 rfl (w.heap.size + 1) rfl (hO.setRow cs) hV.size rfl ?_
    exact ⟨cs, by rw [HV.out, HE.out]; rfl, by rw [HF.out]; exact (hV0.below (bel_setRow (Below.refl w.heap.size _) (by omega) cs) hB).mono (by have := hb0.size; rw [setRow_size]; omega), bel_setRow hb0 (by omega) cs⟩
  rw [Bool.not_eq_true] at h3
  rw [h3]
  obtain ⟨c0, c1⟩ := badIn_false h2
  obtain ⟨b, rfl⟩ : ∃ n : Nat, c = n := ⟨c.toNat, by omega⟩
  have hER : drpErr R b x = if (hasT R b x).isSome = true then 0 else 5 := by unfold drpErr; rw [h2, if_neg (by simp), h3, if_neg (by simp), Int.toNat_natCast]
  go_wp2_with (refine wpList_load32 rfl _ rfl w.heap.size rfl hA hV.size ?_)
  refine (rHas_ok hV0 (Nat.le_trans hB hb0.size) hR b (by omega) x).mono ?_; rintro e w1 ⟨rfl, k1⟩
  have z0 := hb0.size
  have hb1 := hb0.trans (k1.mono (by omega))
  replace hA := hA.below k1 hA.lt
  replace hO := hO.below k1 hO.lt
  replace hV0 := hV0.below k1 (by omega)
  clear hb0
  have hb0 := hb1
  clear hb1 k1
  cases hT : hasT R b x with
  | none =>
    have hE : drpErr R b x = 5 := by rw [hER, hT]; rfl
    have hI : hasI R b x = -1 := by unfold hasI; rw [hT]
    obtain ⟨hVl, hF⟩ := drp_no hE (by decide)
    rw [hI]
    clear hI
    have HE := Lib.hid hE
    have HV := Lib.hid hVl
    have HF := Lib.hid hF
    clear hE hVl hF
    go_wp2_with (first | refine wpList_load32 rfl _ rfl w.heap.size rfl hA hV.size ?_ | refine wpList_store32 rfl _ _ rfl (w.heap.size + 1) cs rfl rfl hO rfl hV.size hV.one ?_)
    refine ret_c3 rfl (w.heap.size + 1) rfl (hO.setRow cs) hV.size rfl ?_
    exact ⟨cs, by rw [HV.out, HE.out]; rfl, by rw [HF.out]; exact (hV0.below (bel_setRow (Below.refl w.heap.size _) (by omega) cs) hB).mono (by have := hb0.size; rw [setRow_size]; omega), bel_setRow hb0 (by omega) cs⟩
  | some a =>
  have hI : hasI R b x = (a : Int) := by unfold hasI; rw [hT]
  obtain ⟨ha4, _⟩ := hasT_some hT
  have hE : drpErr R b x = 0 := by rw [hER, hT]; rfl
  obtain ⟨l, hl⟩ : ∃ l, R (a * 8 + b) = l := ⟨_, rfl⟩
  have hVl : drpVal R b x = (a : Int) := by unfold drpVal; rw [if_pos hE, Int.toNat_natCast, hT]; rfl
  have hF : drpAfter R b x = upd R (a * 8 + b) (remI l x) := by unfold drpAfter; rw [if_pos hE, Int.toNat_natCast, hT, ← hl]; rfl
  rw [hI]
  have HE := Lib.hid hE
  have HV := Lib.hid hVl
  have HF := Lib.hid hF
  obtain ⟨la, lc, hg, hr, _⟩ := hV0.row (a * 8 + b) (by omega)
  rw [hl] at hg hr
  have hlm := hR (a * 8 + b)
  rw [hl] at hlm
  have q := hA.cell (a * 8 + b) hg
  have HRW := Lib.hid hr
  have a0 : (0 : Int) ≤ a := by omega
  have a1 : (a : Int) < 4 := by omega
  have z1 := hb0.size
  have z2 : w.heap.size + 1 < w1.heap.size := hO.lt
  have hown0 : w1.ownsRow w1.heap.size 3 1 (.slice none 0 0) 0 [] := ⟨rfl, .inl ⟨rfl, rfl⟩⟩
  clear hE hVl hF hER hI hT hg hr hl
  go_wp2_with fail
  go_loopw [10, 11] (fun v i wr => ∃ k : Nat, k ≤ l.length ∧ i = .int .i64 k ∧ wr.ownsRow w1.heap.size 3 1 v (remI (l.take k) x).length (intVals .i64 (remI (l.take k) x)) ∧ Below w1.heap.size w1 wr) (fun _ i _ => l.length - (intOf i).toNat)
  case atStart => exact ⟨0, by omega, rfl, by simpa [remI, intVals] using hown0, Below.refl _ _⟩
  case round =>
    obtain ⟨k, hk, rfl, hown, kY⟩ := hrel
    have hAr := hA.below kY hA.lt
    have hOr := hO.below kY hO.lt
    have qr := (kY.cell (p := ⟨w.heap.size, a * 8 + b, none⟩) hA.lt).trans q
    clear hown0
    by_cases hlt : k < l.length
    · obtain ⟨bb, off, rfl, hbb, qc⟩ := (HRW.out.below kY (by omega)).geti k hlt
      have hst := remI_succ l x k hlt
      have hlen : (remI (l.take k) x).length ≤ k := by unfold remI; refine Nat.le_trans (List.length_filter_le _ _) ?_; rw [List.length_take]; omega
      obtain ⟨y, hy⟩ : ∃ y, l[k] = y := ⟨_, rfl⟩
      rw [hy] at qc hst
      have i0 : (0 : Int) ≤ k := by omega
      have i1 : (k : Int) < l.length := by omega
      by_cases hx : y = x
      · have hx' : (y != x) = false := by simpa using hx
        rw [if_pos hx] at hst
        have HST := Lib.hid hst
        have HO := Lib.hid hown
        clear hx hst hy hown
        go_wp2_with fail
        exact ⟨⟨k + 1, by omega, by go_num, by rw [HST.out]; exact HO.out, kY⟩, by simp [intOf]; omega⟩
      · have hx' : (y != x) = true := by simpa using hx
        rw [if_neg hx] at hst
        have HST := Lib.hid hst
        generalize remI (l.take k) x = ys at hown hlen HST
        have ha1 := owns_below hown ((Below.refl _ wr).alloc (Nat.le_refl _) (.cells #[.int .i64 y] 3)) (Nat.le_refl _)
        clear hx hst hy
        have hzY := kY.size
        have qa : ∀ i v, wr.cell? ⟨w.heap.size, i, none⟩ = some v → (wr.alloc (.cells #[.int .i64 y] 3)).cell? ⟨w.heap.size, i, none⟩ = some v := fun i v h => (((Below.refl wr.heap.size wr).alloc (Nat.le_refl _) _).cell (p := ⟨w.heap.size, i, none⟩) hAr.lt).trans h
        go_wp2_with (at_builtin; refine wpList_append_row rfl _ _ 35 rfl w1.heap.size Try.underlying35 info64 ys.length (intVals .i64 ys) rfl ha1 (wr.heap.size + 1) 1 [.int .i64 y] rfl (RowAt.lit wr #[.int .i64 y] 3 1 _ (by omega)) rfl ?c4 ?c5 ?c6 ?c7 ?_)
        case c4 => intro u hu; rw [List.mem_singleton.1 hu]; rfl
        case c5 => unfold maxLen; omega
        case c6 => omega
        case c7 => simp; omega
        intro v2 w2 ho2 hg2
        have k2 := (kY.alloc hzY (.cells #[.int .i64 y] 3)).appended ha1 hg2 (Nat.le_refl _) (by simp; omega)
        clear ha1 hg2 hown qa
        go_wp2_with fail
        exact ⟨⟨k + 1, by omega, by go_num, by rw [HST.out, List.length_append]; simpa [intVals] using ho2, k2⟩, by simp [intOf]; omega⟩
    · obtain rfl : k = l.length := by omega
      rw [List.take_length] at hown
      obtain ⟨a2, c2, rfl, _⟩ := (RowAt.of_owns hown (Nat.le_refl _)).len
      have hfr := hAr.frozen (a * 8 + b)
      generalize hys : remI l x = ys at hown
      have HYS := Lib.hid hys
      have hA3 := hAr.set (a * 8 + b) (.slice a2 ys.length c2)
      have hO3 := hOr.setOther ⟨w.heap.size, a * 8 + b, none⟩ (.slice a2 ys.length c2) (by show w.heap.size + 1 ≠ w.heap.size; omega)
      have k3 := (hb0.trans (kY.mono (by omega))).setCell (p := ⟨w.heap.size, a * 8 + b, none⟩) (Nat.le_refl _) (.slice a2 ys.length c2)
      have ho3 := ((Chg.refl w.heap.size wr).setc ⟨w.heap.size, a * 8 + b, none⟩ (.slice a2 ys.length c2) rfl).owns hown (by omega)
      have hV3 := ((hV.below k3 hB).mono (Nat.le_trans hB k3.size)).set (a * 8 + b) (by omega) ys rfl (RowAt.of_owns ho3 (Nat.le_refl _)) (owns_plain ho3)
      have k4 := bel_setRow (g := w.heap.size + 1) k3 (by omega) (cs.setIfInBounds (a * 8 + b) (.slice a2 ys.length c2))
      have ho4 := ((Chg.refl (w.heap.size + 1) _).setRow (cs.setIfInBounds (a * 8 + b) (.slice a2 ys.length c2))).owns ho3 (by omega)
      have hV4 := ((hV.below k4 hB).mono (Nat.le_trans hB k4.size)).set (a * 8 + b) (by omega) ys rfl (RowAt.of_owns ho4 (Nat.le_refl _)) (owns_plain ho4)
      have HV3 := Lib.hid hV3
      have HV4 := Lib.hid hV4
      have HK4 := Lib.hid k4
      have HA3 := Lib.hid hA3
      have HO3 := Lib.hid hO3
      clear hown ho3 ho4 hV3 hV4 k4 hA3 hO3 k3
      go_wp2_with (first | refine wpList_load32 rfl _ rfl w.heap.size rfl HA3.out HV3.out.size ?_ | refine wpList_store32 rfl _ _ rfl (w.heap.size + 1) _ rfl rfl HO3.out rfl HV3.out.size HV3.out.one ?_)
      refine ret_c3 rfl (w.heap.size + 1) rfl (HO3.out.setRow _) HV3.out.size rfl ?_
      exact ⟨_, by rw [HV.out, HE.out]; rfl, by rw [HF.out, HYS.out]; exact HV4.out, HK4.out⟩
end Go.Proofs.Ytkilmppmghkigaa
