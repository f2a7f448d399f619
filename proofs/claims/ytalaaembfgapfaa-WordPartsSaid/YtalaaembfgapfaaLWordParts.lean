/-
  'WordParts' returns true for every input, and leaves what it is given as it was. No condition.
-/
import Derived.Test.YtalaaembfgapfaaFrame
import Derived.Test.YtalaaembfgapfaaWordM
import Derived.Deep.RegionHeld3
namespace Go.Proofs.Ytalaaembfgapfaa.wordParts
open Go.ChangeShapes Go.WideShapes Go.ChangeAt Go.RowKit Go.Proofs.Ytalaaembfgapfaa
set_option linter.unusedVariables false
set_option maxHeartbeats 8000000
set_option maxRecDepth 100000

theorem flat2 {α : Type} (f : Nat → α × α) : ∀ n, ((List.range n).map fun j => [(f j).1, (f j).2]).flatten.length = n * 2 := by
  intro n
  induction n with
  | zero => rfl
  | succ n ih => rw [List.range_succ, List.map_append, List.flatten_append, List.length_append, ih]; simp; omega
theorem cellsOf_len (s : Nat) (us : List Value) : (cellsOf s us).length = us.length * 2 := flat2 (fun j => (Value.int .i64 (j * s : Nat), us.getD j undef)) us.length
theorem cellsOf_get (s : Nat) : ∀ (n : Nat) (us : List Value), us.length = n → ∀ (k : Nat) (h : k < us.length), (cellsOf s us)[k * 2]? = some (.int .i64 (k * s : Nat)) ∧ (cellsOf s us)[k * 2 + 1]? = some us[k] := by
  intro n
  induction n with
  | zero => intro us hn k h; omega
  | succ n ih =>
    intro us hn k h
    obtain ⟨vs, u, rfl⟩ : ∃ vs u, us = vs ++ [u] := by
      refine ⟨us.dropLast, us.getLast (by intro e; subst e; simp at hn), (List.dropLast_concat_getLast _).symm⟩
    have hv : vs.length = n := by simpa using hn
    have hl := cellsOf_len s vs
    rw [cellsOf_snoc]
    by_cases e : k < vs.length
    · obtain ⟨h1, h2⟩ := ih vs hv k e
      rw [List.getElem?_append_left (by omega), List.getElem?_append_left (by omega), List.getElem_append_left e]
      exact ⟨h1, h2⟩
    · have e' : k = vs.length := by simp at h; omega
      subst e'
      rw [List.getElem?_append_right (by omega), List.getElem?_append_right (by omega), List.getElem_append_right (by omega), hl]
      simp [show vs.length * 2 + 1 - vs.length * 2 = 1 by omega]
theorem infoS2 : ElemInfo Try.prog 23 (.slice none 0 0) 1 24 := elemInfo_of (by kernel_rfl) rfl (by decide)
theorem big (v : Value) (l : List Int) (s many : Int) (B : Nat) (w : World) (hv : RowAt B w v l.length (intVals .u8 l)) (h : 3000 < l.length ∨ many < 1) :
    Calls Try.prog 8 #[v, .int .i64 s, .int .i64 many] w fun e w' => e = .returned (.bool true) ∧ Below w.heap.size w w' := by
  obtain ⟨ad, cap, rfl, _, _⟩ := hv
  have k := Below.refl w.heap.size w
  by_cases t1 : 3000 < l.length
  · have t2 : (3000 : Int) < l.length := by omega
    clear h
    go_enter Try.func8, Try.ntmps8
    go_wp2_with fail
    refine (works_ok _).mono ?_; rintro e w1 ⟨rfl, h⟩
    replace k := k.trans (h.mono k.size); clear h
    go_wp2_with fail
    go_ret
    exact ⟨rfl, k⟩
  · have t2 : ¬ (3000 : Int) < l.length := by omega
    have t3 : many < 1 := by omega
    clear h
    go_enter Try.func8, Try.ntmps8
    go_wp2_with fail
    refine (works_ok _).mono ?_; rintro e w1 ⟨rfl, h⟩
    replace k := k.trans (h.mono k.size); clear h
    go_wp2_with fail
    go_ret
    exact ⟨rfl, k⟩
theorem no (v : Value) (l : List Int) (s many : Int) (w : World) (hv : RowAt w.heap.size w v l.length (intVals .u8 l)) (h1 : l.length ≤ 3000) (h2 : 1 ≤ many) (hs : s < 1) :
    Calls Try.prog 8 #[v, .int .i64 s, .int .i64 many] w fun e w' => e = .returned (.bool true) ∧ Below w.heap.size w w' := by
  have hL := Lib.hid (lentAt v l w.heap.size w (Nat.le_refl _) (by omega) hv)
  obtain ⟨ad, cap, rfl, _, _⟩ := hv
  have t2 : ¬ (3000 : Int) < l.length := by omega
  have t3 : ¬ many < 1 := by omega
  go_enter Try.func8, Try.ntmps8
  go_wp2_with fail
  refine (hL.out).mono ?_; rintro e w1 ⟨g, cp, rfl, hLg, hg, k⟩
  clear hL hLg
  go_wp2_with fail
  refine (parts0_ok _ _ _ s hs 0 _).mono ?_; rintro e w1 ⟨rfl, h⟩
  replace k := k.trans (h.mono k.size); clear h
  go_wp2_with fail
  refine (parts0_ok _ _ _ s hs many _).mono ?_; rintro e w1 ⟨rfl, h⟩
  replace k := k.trans (h.mono k.size); clear h
  go_wp2_with fail
  refine (works_ok _).mono ?_; rintro e w1 ⟨rfl, h⟩
  replace k := k.trans (h.mono k.size); clear h
  go_wp2_with fail
  go_ret
  exact ⟨rfl, k⟩
theorem yes (v : Value) (l : List Int) (s : Nat) (many : Int) (w : World) (hv : RowAt w.heap.size w v l.length (intVals .u8 l)) (h1 : l.length ≤ 3000) (h2 : 1 ≤ many) (hm63 : many ≤ 9223372036854775807) (hs : 1 ≤ s) (hs63 : s ≤ maxLen) :
    Calls Try.prog 8 #[v, .int .i64 s, .int .i64 many] w fun e w' => e = .returned (.bool true) ∧ Below w.heap.size w w' := by
  have hL := Lib.hid (lentAt v l w.heap.size w (Nat.le_refl _) (by omega) hv)
  have HV := Lib.hid hv
  obtain ⟨ad, cap, rfl, _, _⟩ := hv
  have t2 : ¬ (3000 : Int) < l.length := by omega
  have t3 : ¬ many < 1 := by omega
  have t4 : ¬ (s : Int) < 1 := by omega
  go_enter Try.func8, Try.ntmps8
  go_wp2_with fail
  refine (hL.out).mono ?_; rintro e w1 ⟨g, cp, rfl, hLg, hg, hb1⟩
  clear hL
  have hz1 := hb1.size
  have hroom := hLg.room
  have hcm := hLg.cm
  go_wp2_with fail
  refine (parts_ok g 0 l.length cp s l rfl hs (by omega) (by omega) hcm hs63 0 (by omega) _ hLg.row).mono ?_
  rintro e w2 ⟨v2, us, rfl, ho2, hC2, hn2, hb2⟩
  have hz2 := hb2.size
  have hL2 := hLg.below hb2 (Nat.le_refl _)
  go_wp2_with fail
  refine (parts_ok g 0 l.length cp s l rfl hs (by omega) (by omega) hcm hs63 many (by omega) w2 (hL2.row.mono (by omega))).mono ?_
  rintro e w3 ⟨v3, us3, rfl, ho3, hC3, hn3, hb3⟩
  have hz3 := hb3.size
  have hK : us.length = nch l.length s := by unfold cntI at hn2; simp at hn2; omega
  have hK3 : us3.length = min us.length many.toNat := by unfold cntI at hn3; rw [if_neg (by omega)] at hn3; omega
  have hKn : us.length ≤ l.length := by
    rw [hK]; unfold nch
    rw [Nat.div_le_iff_le_mul_add_pred (by omega)]
    have : l.length ≤ s * l.length := Nat.le_mul_of_pos_left _ (by omega)
    omega
  have hr2 : RowAt w3.heap.size w3 v2 us.length (cellsOf s us) := RowAt.of_owns (owns_below ho2 hb3 (Nat.le_refl _)) (Nat.le_refl _)
  have hr3 : RowAt w3.heap.size w3 v3 us3.length (cellsOf s us3) := RowAt.of_owns ho3 (Nat.le_refl _)
  have HC2 := Lib.hid (fun (j : Nat) (h : j < us.length) => show ∃ g' cp' : Nat, us[j] = .slice (some ⟨g', 0, none⟩) (partI l s j).length cp' ∧ RowAt w3.heap.size w3 us[j] (partI l s j).length (intVals .u8 (partI l s j)) from by
    obtain ⟨g', cp', e1, e2⟩ := hC2 j h
    exact ⟨g', cp', e1, RowAt.of_owns (owns_below e2 hb3 (Nat.le_refl _)) (Nat.le_refl _)⟩)
  have HC3 := Lib.hid (fun (j : Nat) (h : j < us3.length) => show ∃ g' cp' : Nat, us3[j] = .slice (some ⟨g', 0, none⟩) (partI l s j).length cp' ∧ RowAt w3.heap.size w3 us3[j] (partI l s j).length (intVals .u8 (partI l s j)) from by
    obtain ⟨g', cp', e1, e2⟩ := hC3 j h
    exact ⟨g', cp', e1, RowAt.of_owns e2 (Nat.le_refl _)⟩)
  have HL3 := Lib.hid (hL2.below hb3 (by omega))
  have hbw3 : Below w.heap.size w w3 := (hb1.trans (hb2.mono hz1)).trans (hb3.mono (by omega))
  have HV3 := Lib.hid (HV.out.below hbw3 (Nat.le_refl _))
  obtain ⟨ad2, cap2, rfl, hq2, hrow2⟩ := hr2
  obtain ⟨ad3, cap3, rfl, hq3, hrow3⟩ := hr3
  have HR2 := Lib.hid hrow2
  have HR3 := Lib.hid hrow3
  clear ho2 ho3 hC2 hC3 hn2 hn3 hL2 hLg hrow2 hrow3 HV hb1 hb2 hb3 hroom hcm
  have HKK := Lib.hid hK
  have HK3 := Lib.hid hK3
  clear hK hK3
  go_wp2_with fail
  go_loopw [10, 11, 12] (fun a v i wr => ∃ k : Nat, k ≤ us.length ∧ i = .int .i64 k ∧ a = .int .i64 (min (k * s) l.length : Nat) ∧ wr.ownsRow w3.heap.size 23 1 v k (us.take k) ∧ Below w3.heap.size w3 wr) (fun _ _ i _ => us.length - (intOf i).toNat)
  case atStart => exact ⟨0, by omega, rfl, by simp, World.ownsRow_nil _ _ _ _, Below.refl _ _⟩
  case round =>
    obtain ⟨k, hk, rfl, rfl, hoa, hb⟩ := hrel
    have hz := hb.size
    by_cases hlt : k < us.length
    · have hkn : k < nch l.length s := by have := HKK.out; omega
      have hlo := nch_lt hs hkn
      rw [show min (k * s) l.length = k * s by omega]
      have hM := partI_len l s k
      obtain ⟨g', cp', hu, hru⟩ := HC2.out k hlt
      have hlc := cellsOf_len s us
      rcases HR2.out with h0 | ⟨b2, off2, rfl, hbb2, hc2⟩
      · rw [h0] at hlc; simp at hlc; omega
      obtain ⟨q0, q1⟩ := cellsOf_get s _ us rfl k hlt
      have ck0 : wr.cell? ⟨b2, off2 + k * 2, none⟩ = some (.int .i64 (k * s : Nat)) := (hb.cell (p := ⟨b2, off2 + k * 2, none⟩) (by dsimp only; omega)).trans ((hc2 (k * 2) (by omega)).trans q0)
      have ck1 : wr.cell? ⟨b2, off2 + k * 2 + 1, none⟩ = some us[k] := (hb.cell (p := ⟨b2, off2 + k * 2 + 1, none⟩) (by dsimp only; omega)).trans ((hc2 (k * 2 + 1) (by omega)).trans q1)
      rw [hu] at ck1
      have hruW := hru.below hb (Nat.le_refl _)
      have hcv := fun (a : Nat) => run_convert_row (P := Try.prog) (partI l s k) (hruW.below ((Below.refl _ wr).drewN a) hz) Try.underlying23 Try.underlying5 Try.underlying9
      rw [hu] at hcv
      have HN := Lib.hid (show min ((k + 1) * s) l.length = k * s + (partI l s k).length by rw [Nat.succ_mul]; omega)
      have HMs := Lib.hid (show (partI l s k).length < s → k + 1 = us.length by
        intro hlt'
        have hKK := HKK.out
        by_cases e : k + 1 < nch l.length s
        · have := nch_lt hs e
          rw [Nat.succ_mul] at this
          omega
        · omega)
      have HT := Lib.hid (show us.take (k + 1) = us.take k ++ [us[k]] from List.take_succ_eq_append_getElem hlt)
      have hM0 : 0 < (partI l s k).length := by omega
      have hM1 : (partI l s k).length ≤ s := by omega
      have hM2 : k * s + (partI l s k).length ≤ 3000 := by omega
      have HP3 := Lib.hid (show (k : Int) < many → k < us3.length by intro hh; have := HK3.out; omega)
      have HQ3 := Lib.hid (fun (h : k < us3.length) => cellsOf_get s _ us3 rfl k h)
      clear hc2 q0 q1 hru hruW hlc hM hkn hlo
      generalize k * s = at0 at *
      have i0 : (0 : Int) ≤ k := by omega
      have i1 : (k : Int) < us.length := by omega
      have d1 : decide (((partI l s k).length : Int) < 1) = false := by simp; omega
      have d2 : decide ((s : Int) < ((partI l s k).length : Nat)) = false := by simp; omega
      have a1 : (at0 : Int) + (partI l s k).length ≤ 3000 := by omega
      have a0 : (0 : Int) ≤ (at0 : Int) + (partI l s k).length := by omega
      by_cases hM : (partI l s k).length < s
      · by_cases hmn : (k : Int) < many
        · have d3 : decide (((partI l s k).length : Int) < s) = true := by simp; omega
          have hl1 := HMs.out hM
          have d4 : decide ((k : Int) < (us.length : Int) - 1) = false := by simp; omega
          clear hl1
          have d5 : decide ((k : Int) < many) = true := by simpa using hmn
          have hk3 := HP3.out hmn
          obtain ⟨r0, r1⟩ := HQ3.out hk3
          obtain ⟨g3, cp3, hu3, hru3⟩ := HC3.out k hk3
          have hlc3 := cellsOf_len s us3
          rcases HR3.out with h0 | ⟨b3, off3, rfl, hbb3, hc3⟩
          · rw [h0] at hlc3; simp at hlc3; omega
          have ck3 : wr.cell? ⟨b3, off3 + k * 2, none⟩ = some (.int .i64 at0) := (hb.cell (p := ⟨b3, off3 + k * 2, none⟩) (by dsimp only; omega)).trans ((hc3 (k * 2) (by omega)).trans r0)
          have ck4 : wr.cell? ⟨b3, off3 + k * 2 + 1, none⟩ = some us3[k] := (hb.cell (p := ⟨b3, off3 + k * 2 + 1, none⟩) (by dsimp only; omega)).trans ((hc3 (k * 2 + 1) (by omega)).trans r1)
          rw [hu3] at ck4
          have hcv3 := fun (a : Nat) => run_convert_row (P := Try.prog) (partI l s k) ((hru3.below hb (Nat.le_refl _)).below ((Below.refl _ wr).drewN a) hz) Try.underlying23 Try.underlying5 Try.underlying9
          rw [hu3] at hcv3
          have d6 : decide (us3.length ≤ k) = false := by simp; omega
          have j1 : (k : Int) < us3.length := by omega
          clear hc3 r0 r1 hru3 hlc3
          go_wp2_with fail
          go_quiet (fail)
          have hob := owns_below hoa ((Below.refl wr.heap.size wr).drewN nq) (Nat.le_refl _)
          go_wp2_with (at_builtin; refine wpList_append_row rfl _ _ 41 rfl w3.heap.size Try.underlying41 infoS2 k (us.take k) rfl ?c1 (wr.heap.size + 1) 1 [.slice (some ⟨g', 0, none⟩) (partI l s k).length cp'] rfl ?c2 ?c3 ?c4 ?c5 ?c6 ?c7 ?_)
          case c1 => exact hob.alloc _
          case c2 => exact RowAt.lit (wr.drewN nq) #[.slice (some ⟨g', 0, none⟩) (partI l s k).length cp'] 23 1 _ (Nat.lt_succ_self wr.heap.size)
          case c3 => rfl
          case c4 => intro u hu; simp at hu; subst hu; rfl
          case c5 => unfold maxLen; omega
          case c6 => omega
          case c7 => simp; omega
          intro v5 w5 ho5 hg5
          have hb5 : Below w3.heap.size w3 w5 := ((hb.drewN nq).alloc (by simpa using hz) _).appended (hob.alloc _) hg5 (Nat.le_refl _) (by simp; omega)
          rw [← hu, ← HT.out] at ho5
          clear hg5 hob hoa ck0 ck1 hcv
          go_wp2_with fail
          go_roundw
          case rel => exact ⟨k + 1, by omega, by go_num, by rw [HN.out]; exact congrArg (Value.int .i64) (by omega), ho5, hb5⟩
          case measure => simp [intOf]; omega
        · have d3 : decide (((partI l s k).length : Int) < s) = true := by simp; omega
          have hl1 := HMs.out hM
          have d4 : decide ((k : Int) < (us.length : Int) - 1) = false := by simp; omega
          clear hl1
          have d5 : decide ((k : Int) < many) = false := by simp; omega
          go_wp2_with fail
          go_quiet (fail)
          have hob := owns_below hoa ((Below.refl wr.heap.size wr).drewN nq) (Nat.le_refl _)
          go_wp2_with (at_builtin; refine wpList_append_row rfl _ _ 41 rfl w3.heap.size Try.underlying41 infoS2 k (us.take k) rfl ?c1 (wr.heap.size + 1) 1 [.slice (some ⟨g', 0, none⟩) (partI l s k).length cp'] rfl ?c2 ?c3 ?c4 ?c5 ?c6 ?c7 ?_)
          case c1 => exact hob.alloc _
          case c2 => exact RowAt.lit (wr.drewN nq) #[.slice (some ⟨g', 0, none⟩) (partI l s k).length cp'] 23 1 _ (Nat.lt_succ_self wr.heap.size)
          case c3 => rfl
          case c4 => intro u hu; simp at hu; subst hu; rfl
          case c5 => unfold maxLen; omega
          case c6 => omega
          case c7 => simp; omega
          intro v5 w5 ho5 hg5
          have hb5 : Below w3.heap.size w3 w5 := ((hb.drewN nq).alloc (by simpa using hz) _).appended (hob.alloc _) hg5 (Nat.le_refl _) (by simp; omega)
          rw [← hu, ← HT.out] at ho5
          clear hg5 hob hoa ck0 ck1 hcv
          go_wp2_with fail
          go_roundw
          case rel => exact ⟨k + 1, by omega, by go_num, by rw [HN.out]; exact congrArg (Value.int .i64) (by omega), ho5, hb5⟩
          case measure => simp [intOf]; omega
      · by_cases hmn : (k : Int) < many
        · have d3 : decide (((partI l s k).length : Int) < s) = false := by simp; omega
          have d5 : decide ((k : Int) < many) = true := by simpa using hmn
          have hk3 := HP3.out hmn
          obtain ⟨r0, r1⟩ := HQ3.out hk3
          obtain ⟨g3, cp3, hu3, hru3⟩ := HC3.out k hk3
          have hlc3 := cellsOf_len s us3
          rcases HR3.out with h0 | ⟨b3, off3, rfl, hbb3, hc3⟩
          · rw [h0] at hlc3; simp at hlc3; omega
          have ck3 : wr.cell? ⟨b3, off3 + k * 2, none⟩ = some (.int .i64 at0) := (hb.cell (p := ⟨b3, off3 + k * 2, none⟩) (by dsimp only; omega)).trans ((hc3 (k * 2) (by omega)).trans r0)
          have ck4 : wr.cell? ⟨b3, off3 + k * 2 + 1, none⟩ = some us3[k] := (hb.cell (p := ⟨b3, off3 + k * 2 + 1, none⟩) (by dsimp only; omega)).trans ((hc3 (k * 2 + 1) (by omega)).trans r1)
          rw [hu3] at ck4
          have hcv3 := fun (a : Nat) => run_convert_row (P := Try.prog) (partI l s k) ((hru3.below hb (Nat.le_refl _)).below ((Below.refl _ wr).drewN a) hz) Try.underlying23 Try.underlying5 Try.underlying9
          rw [hu3] at hcv3
          have d6 : decide (us3.length ≤ k) = false := by simp; omega
          have j1 : (k : Int) < us3.length := by omega
          clear hc3 r0 r1 hru3 hlc3
          go_wp2_with fail
          go_quiet (fail)
          have hob := owns_below hoa ((Below.refl wr.heap.size wr).drewN nq) (Nat.le_refl _)
          go_wp2_with (at_builtin; refine wpList_append_row rfl _ _ 41 rfl w3.heap.size Try.underlying41 infoS2 k (us.take k) rfl ?c1 (wr.heap.size + 1) 1 [.slice (some ⟨g', 0, none⟩) (partI l s k).length cp'] rfl ?c2 ?c3 ?c4 ?c5 ?c6 ?c7 ?_)
          case c1 => exact hob.alloc _
          case c2 => exact RowAt.lit (wr.drewN nq) #[.slice (some ⟨g', 0, none⟩) (partI l s k).length cp'] 23 1 _ (Nat.lt_succ_self wr.heap.size)
          case c3 => rfl
          case c4 => intro u hu; simp at hu; subst hu; rfl
          case c5 => unfold maxLen; omega
          case c6 => omega
          case c7 => simp; omega
          intro v5 w5 ho5 hg5
          have hb5 : Below w3.heap.size w3 w5 := ((hb.drewN nq).alloc (by simpa using hz) _).appended (hob.alloc _) hg5 (Nat.le_refl _) (by simp; omega)
          rw [← hu, ← HT.out] at ho5
          clear hg5 hob hoa ck0 ck1 hcv
          go_wp2_with fail
          go_roundw
          case rel => exact ⟨k + 1, by omega, by go_num, by rw [HN.out]; exact congrArg (Value.int .i64) (by omega), ho5, hb5⟩
          case measure => simp [intOf]; omega
        · have d3 : decide (((partI l s k).length : Int) < s) = false := by simp; omega
          have d5 : decide ((k : Int) < many) = false := by simp; omega
          go_wp2_with fail
          go_quiet (fail)
          have hob := owns_below hoa ((Below.refl wr.heap.size wr).drewN nq) (Nat.le_refl _)
          go_wp2_with (at_builtin; refine wpList_append_row rfl _ _ 41 rfl w3.heap.size Try.underlying41 infoS2 k (us.take k) rfl ?c1 (wr.heap.size + 1) 1 [.slice (some ⟨g', 0, none⟩) (partI l s k).length cp'] rfl ?c2 ?c3 ?c4 ?c5 ?c6 ?c7 ?_)
          case c1 => exact hob.alloc _
          case c2 => exact RowAt.lit (wr.drewN nq) #[.slice (some ⟨g', 0, none⟩) (partI l s k).length cp'] 23 1 _ (Nat.lt_succ_self wr.heap.size)
          case c3 => rfl
          case c4 => intro u hu; simp at hu; subst hu; rfl
          case c5 => unfold maxLen; omega
          case c6 => omega
          case c7 => simp; omega
          intro v5 w5 ho5 hg5
          have hb5 : Below w3.heap.size w3 w5 := ((hb.drewN nq).alloc (by simpa using hz) _).appended (hob.alloc _) hg5 (Nat.le_refl _) (by simp; omega)
          rw [← hu, ← HT.out] at ho5
          clear hg5 hob hoa ck0 ck1 hcv
          go_wp2_with fail
          go_roundw
          case rel => exact ⟨k + 1, by omega, by go_num, by rw [HN.out]; exact congrArg (Value.int .i64) (by omega), ho5, hb5⟩
          case measure => simp [intOf]; omega
    · obtain rfl : k = us.length := by omega
      have e1 : us.take us.length = us := List.take_length
      rw [e1] at hoa
      clear e1
      have hls : ((List.range us.length).map (partI l s)).flatten = l := by rw [HKK.out]; exact parts_flat l s hs
      have hrs : RowsAt wr.heap.size wr _ us ((List.range us.length).map (partI l s)) := ⟨RowAt.of_owns hoa (Nat.le_refl _), by simp, fun j h h' => by
        obtain ⟨g', cp', e1, e2⟩ := HC2.out j h
        simp only [List.getElem_map, List.getElem_range]
        exact (e2.below hb (Nat.le_refl _)).mono hz⟩
      have HJ := Lib.hid (fun (W : World) (h : Below wr.heap.size wr W) => Joined_ok _ us ((List.range us.length).map (partI l s)) (by rw [hls]; omega) (by simp; omega) wr.heap.size W h.size (hrs.below h (Nat.le_refl _)))
      rw [hls] at HJ
      have HB := Lib.hid (fun (W : World) (h : Below wr.heap.size wr W) => run_convert_row (P := Try.prog) l ((HV3.out.below hb (by omega)).below h (by omega)) Try.underlying23 Try.underlying5 Try.underlying9)
      have HKe := Lib.hid (fun (W : World) (h : Below wr.heap.size wr W) => keptAt ((HL3.out.below hb (by omega)).below h (by omega)) ((HV3.out.below hb (by omega)).below h (by omega)))
      have hk3 := HK3.out
      clear hls hrs hoa
      by_cases hmK : many < us.length
      · have e3 : (((us3.length : Nat) : Int) == many) = true := by simp; omega
        clear hk3
        go_wp2_with fail
        refine wp_region_held_drew (S := fun Y => Below wr.heap.size wr Y ∧ (convert 23 9 (.slice ad l.length cap)).run Try.prog Y = .ok (.string (strOfNums l)) Y) (by kernel_rfl) ⟨(Below.refl _ wr).drew, HB.out _ (Below.refl _ wr).drew⟩ (fun hHeld => ?_)
        refine wpAnyH_take (i := 0) (v := ?_) rfl (by kernel_rfl) (by kernel_rfl) (by kernel_rfl) (fun _ _ _ h => h) (Or.inl ⟨by rfl, ?_⟩) (by assumption) ?_
        rotate_left
        · (intro Y hSw; (try dsimp only at hSw); obtain ⟨hS1, hS2⟩ := hSw; go_simp; try with_reducible rfl)
        try simp only [Act.put, List.getElem_toArray, List.getElem_cons_zero, List.getElem_cons_succ, List.setIfInBounds_toArray, List.set_cons_zero, List.set_cons_succ]
        refine wpAnyH_take (i := 3) (v := ?_) rfl (by kernel_rfl) (by kernel_rfl) (by kernel_rfl) (fun _ _ _ h => h) (Or.inl ⟨by rfl, ?_⟩) (by assumption) ?_
        rotate_left
        · (intro Y hSw; (try dsimp only at hSw); obtain ⟨hS1, hS2⟩ := hSw; go_simp; try with_reducible rfl)
        try simp only [Act.put, List.getElem_toArray, List.getElem_cons_zero, List.getElem_cons_succ, List.setIfInBounds_toArray, List.set_cons_zero, List.set_cons_succ]
        refine wpAnyH_take (i := 4) (v := ?_) rfl (by kernel_rfl) (by kernel_rfl) (by kernel_rfl) (fun _ _ _ h => h) (Or.inl ⟨by rfl, ?_⟩) (by assumption) ?_
        rotate_left
        · (intro Y hSw; (try dsimp only at hSw); obtain ⟨hS1, hS2⟩ := hSw; go_simp; try with_reducible rfl)
        try simp only [Act.put, List.getElem_toArray, List.getElem_cons_zero, List.getElem_cons_succ, List.setIfInBounds_toArray, List.set_cons_zero, List.set_cons_succ]
        refine wpAnyH_ready (rs := [1]) (by kernel_rfl) (by simp) ?_
        refine AllReadyH.cons rfl (fun K hK => ?_) AllReadyH.nil
        go_simp
        go_at_call 22
        refine (HJ.out _ (Below.refl _ wr).drew).mono ?_
        rintro e w5 ⟨v5, rfl, ho5, hb5⟩
        have hb6 := (Below.refl wr.heap.size wr).drew.trans (hb5.mono (Nat.le_refl _))
        have hcv5 := run_convert_row (P := Try.prog) l (RowAt.of_owns ho5 (Nat.le_refl _)) Try.underlying23 Try.underlying5 Try.underlying9
        go_wp2_with fail
        refine hK.out _ _ (⟨hb6, HB.out w5 hb6⟩) (fun hHeld => ?_)
        clear hK K
        try simp only [Act.put, List.getElem_toArray, List.getElem_cons_zero, List.getElem_cons_succ, List.setIfInBounds_toArray, List.set_cons_zero, List.set_cons_succ]
        refine wpAnyH_ready (rs := [2]) (by kernel_rfl) (by simp) ?_
        refine AllReadyH.cons rfl (fun K hK => ?_) AllReadyH.nil
        go_simp
        refine hK.out _ _ (⟨hb6, HB.out w5 hb6⟩) (fun hHeld => ?_)
        clear hK K
        try simp only [Act.put, List.getElem_toArray, List.getElem_cons_zero, List.getElem_cons_succ, List.setIfInBounds_toArray, List.set_cons_zero, List.set_cons_succ]
        refine wpAnyH_take (i := 5) (v := ?_) rfl (by kernel_rfl) (by kernel_rfl) (by kernel_rfl) (fun _ _ _ h => h) (Or.inl ⟨by rfl, ?_⟩) (by assumption) ?_
        rotate_left
        · (intro Y hSw; (try dsimp only at hSw); obtain ⟨hS1, hS2⟩ := hSw; go_simp; try with_reducible rfl)
        try simp only [Act.put, List.getElem_toArray, List.getElem_cons_zero, List.getElem_cons_succ, List.setIfInBounds_toArray, List.set_cons_zero, List.set_cons_succ]
        refine wpAnyH_take (i := 6) (v := ?_) rfl (by kernel_rfl) (by kernel_rfl) (by kernel_rfl) (fun _ _ _ h => h) (Or.inl ⟨by rfl, ?_⟩) (by assumption) ?_
        rotate_left
        · (intro Y hSw; (try dsimp only at hSw); obtain ⟨hS1, hS2⟩ := hSw; go_simp; try with_reducible rfl)
        try simp only [Act.put, List.getElem_toArray, List.getElem_cons_zero, List.getElem_cons_succ, List.setIfInBounds_toArray, List.set_cons_zero, List.set_cons_succ]
        refine wpAnyH_take (i := 7) (v := ?_) rfl (by kernel_rfl) (by kernel_rfl) (by kernel_rfl) (fun _ _ _ h => h) (Or.inl ⟨by rfl, ?_⟩) (by assumption) ?_
        rotate_left
        · (intro Y hSw; (try dsimp only at hSw); obtain ⟨hS1, hS2⟩ := hSw; go_simp; try with_reducible rfl)
        try simp only [Act.put, List.getElem_toArray, List.getElem_cons_zero, List.getElem_cons_succ, List.setIfInBounds_toArray, List.set_cons_zero, List.set_cons_succ]
        refine wpAnyH_take (i := 8) (v := ?_) rfl (by kernel_rfl) (by kernel_rfl) (by kernel_rfl) (fun _ _ _ h => h) (Or.inl ⟨by rfl, ?_⟩) (by assumption) ?_
        rotate_left
        · (intro Y hSw; (try dsimp only at hSw); obtain ⟨hS1, hS2⟩ := hSw; go_simp; try with_reducible rfl)
        try simp only [Act.put, List.getElem_toArray, List.getElem_cons_zero, List.getElem_cons_succ, List.setIfInBounds_toArray, List.set_cons_zero, List.set_cons_succ]
        refine wpAnyH_take (i := 9) (v := ?_) rfl (by kernel_rfl) (by kernel_rfl) (by kernel_rfl) (fun _ _ _ h => h) (Or.inl ⟨by rfl, ?_⟩) (by assumption) ?_
        rotate_left
        · (intro Y hSw; (try dsimp only at hSw); obtain ⟨hS1, hS2⟩ := hSw; go_simp; try with_reducible rfl)
        try simp only [Act.put, List.getElem_toArray, List.getElem_cons_zero, List.getElem_cons_succ, List.setIfInBounds_toArray, List.set_cons_zero, List.set_cons_succ]
        refine wpAnyH_take (i := 10) (v := ?_) rfl (by kernel_rfl) (by kernel_rfl) (by kernel_rfl) (fun _ _ _ h => h) (Or.inl ⟨by rfl, ?_⟩) (by assumption) ?_
        rotate_left
        · (intro Y hSw; (try dsimp only at hSw); obtain ⟨hS1, hS2⟩ := hSw; go_simp; try with_reducible rfl)
        try simp only [Act.put, List.getElem_toArray, List.getElem_cons_zero, List.getElem_cons_succ, List.setIfInBounds_toArray, List.set_cons_zero, List.set_cons_succ]
        refine wpAnyH_take (i := 11) (v := ?_) rfl (by kernel_rfl) (by kernel_rfl) (by kernel_rfl) (fun _ _ _ h => h) (Or.inl ⟨by rfl, ?_⟩) (by assumption) ?_
        rotate_left
        · (intro Y hSw; (try dsimp only at hSw); obtain ⟨hS1, hS2⟩ := hSw; go_simp; try with_reducible rfl)
        try simp only [Act.put, List.getElem_toArray, List.getElem_cons_zero, List.getElem_cons_succ, List.setIfInBounds_toArray, List.set_cons_zero, List.set_cons_succ]
        refine wpAnyH_take (i := 12) (v := ?_) rfl (by kernel_rfl) (by kernel_rfl) (by kernel_rfl) (fun _ _ _ h => h) (Or.inl ⟨by rfl, ?_⟩) (by assumption) ?_
        rotate_left
        · (intro Y hSw; (try dsimp only at hSw); obtain ⟨hS1, hS2⟩ := hSw; go_simp; try with_reducible rfl)
        try simp only [Act.put, List.getElem_toArray, List.getElem_cons_zero, List.getElem_cons_succ, List.setIfInBounds_toArray, List.set_cons_zero, List.set_cons_succ]
        refine wpAnyH_take (i := 13) (v := ?_) rfl (by kernel_rfl) (by kernel_rfl) (by kernel_rfl) (fun _ _ _ h => h) (Or.inl ⟨by rfl, ?_⟩) (by assumption) ?_
        rotate_left
        · (intro Y hSw; (try dsimp only at hSw); obtain ⟨hS1, hS2⟩ := hSw; go_simp; try with_reducible rfl)
        try simp only [Act.put, List.getElem_toArray, List.getElem_cons_zero, List.getElem_cons_succ, List.setIfInBounds_toArray, List.set_cons_zero, List.set_cons_succ]
        refine wpAnyH_take (i := 14) (v := ?_) rfl (by kernel_rfl) (by kernel_rfl) (by kernel_rfl) (fun _ _ _ h => h) (Or.inl ⟨by rfl, ?_⟩) (by assumption) ?_
        rotate_left
        · (intro Y hSw; (try dsimp only at hSw); obtain ⟨hS1, hS2⟩ := hSw; go_simp; try with_reducible rfl)
        try simp only [Act.put, List.getElem_toArray, List.getElem_cons_zero, List.getElem_cons_succ, List.setIfInBounds_toArray, List.set_cons_zero, List.set_cons_succ]
        refine wpAnyH_take (i := 15) (v := ?_) rfl (by kernel_rfl) (by kernel_rfl) (by kernel_rfl) (fun _ _ _ h => h) (Or.inl ⟨by rfl, ?_⟩) (by assumption) ?_
        rotate_left
        · (intro Y hSw; (try dsimp only at hSw); obtain ⟨hS1, hS2⟩ := hSw; go_simp; try with_reducible rfl)
        try simp only [Act.put, List.getElem_toArray, List.getElem_cons_zero, List.getElem_cons_succ, List.setIfInBounds_toArray, List.set_cons_zero, List.set_cons_succ]
        refine wpAnyH_take (i := 16) (v := ?_) rfl (by kernel_rfl) (by kernel_rfl) (by kernel_rfl) (fun _ _ _ h => h) (Or.inl ⟨by rfl, ?_⟩) (by assumption) ?_
        rotate_left
        · (intro Y hSw; (try dsimp only at hSw); obtain ⟨hS1, hS2⟩ := hSw; go_simp; try with_reducible rfl)
        try simp only [Act.put, List.getElem_toArray, List.getElem_cons_zero, List.getElem_cons_succ, List.setIfInBounds_toArray, List.set_cons_zero, List.set_cons_succ]
        refine wpAnyH_take (i := 17) (v := ?_) rfl (by kernel_rfl) (by kernel_rfl) (by kernel_rfl) (fun _ _ _ h => h) (Or.inl ⟨by rfl, ?_⟩) (by assumption) ?_
        rotate_left
        · (intro Y hSw; (try dsimp only at hSw); obtain ⟨hS1, hS2⟩ := hSw; go_simp; try with_reducible rfl)
        try simp only [Act.put, List.getElem_toArray, List.getElem_cons_zero, List.getElem_cons_succ, List.setIfInBounds_toArray, List.set_cons_zero, List.set_cons_succ]
        refine wpAnyH_ready (rs := [18]) (by kernel_rfl) (by simp) ?_
        refine AllReadyH.cons rfl (fun K hK => ?_) AllReadyH.nil
        go_simp
        go_at_call 16
        refine (HKe.out _ hb6).mono ?_
        rintro e w6 ⟨rfl, rfl⟩
        go_wp2_with fail
        refine hK.out _ _ (⟨hb6, HB.out _ hb6⟩) (fun hHeld => ?_)
        clear hK K
        try simp only [Act.put, List.getElem_toArray, List.getElem_cons_zero, List.getElem_cons_succ, List.setIfInBounds_toArray, List.set_cons_zero, List.set_cons_succ]
        refine wpAnyH_take (i := 19) (v := ?_) rfl (by kernel_rfl) (by kernel_rfl) (by kernel_rfl) (fun _ _ _ h => h) (Or.inl ⟨by rfl, ?_⟩) (by assumption) ?_
        rotate_left
        · (intro Y hSw; (try dsimp only at hSw); obtain ⟨hS1, hS2⟩ := hSw; go_simp; try with_reducible rfl)
        try simp only [Act.put, List.getElem_toArray, List.getElem_cons_zero, List.getElem_cons_succ, List.setIfInBounds_toArray, List.set_cons_zero, List.set_cons_succ]
        refine wpAnyH_take (i := 20) (v := ?_) rfl (by kernel_rfl) (by kernel_rfl) (by kernel_rfl) (fun _ _ _ h => h) (Or.inl ⟨by rfl, ?_⟩) (by assumption) ?_
        rotate_left
        · (intro Y hSw; (try dsimp only at hSw); obtain ⟨hS1, hS2⟩ := hSw; go_simp; try with_reducible rfl)
        try simp only [Act.put, List.getElem_toArray, List.getElem_cons_zero, List.getElem_cons_succ, List.setIfInBounds_toArray, List.set_cons_zero, List.set_cons_succ]
        refine wpAnyH_ready (rs := [21]) (by kernel_rfl) (by simp) ?_
        refine AllReadyH.cons rfl (fun K hK => ?_) AllReadyH.nil
        go_simp
        go_at_call 12
        refine (works_ok _).mono ?_
        rintro e w7 ⟨rfl, hb7⟩
        have hb8 := hb6.trans (hb7.mono hb6.size)
        go_wp2_with fail
        refine hK.out _ _ (⟨hb8, HB.out _ hb8⟩) (fun hHeld => ?_)
        clear hK K
        try simp only [Act.put, List.getElem_toArray, List.getElem_cons_zero, List.getElem_cons_succ, List.setIfInBounds_toArray, List.set_cons_zero, List.set_cons_succ]
        refine wpAnyH_take (i := 22) (v := ?_) rfl (by kernel_rfl) (by kernel_rfl) (by kernel_rfl) (fun _ _ _ h => h) (Or.inl ⟨by rfl, ?_⟩) (by assumption) ?_
        rotate_left
        · (intro Y hSw; (try dsimp only at hSw); obtain ⟨hS1, hS2⟩ := hSw; go_simp; try with_reducible rfl)
        try simp only [Act.put, List.getElem_toArray, List.getElem_cons_zero, List.getElem_cons_succ, List.setIfInBounds_toArray, List.set_cons_zero, List.set_cons_succ]
        refine wpAnyH_take (i := 23) (v := ?_) rfl (by kernel_rfl) (by kernel_rfl) (by kernel_rfl) (fun _ _ _ h => h) (Or.inl ⟨by rfl, ?_⟩) (by assumption) ?_
        rotate_left
        · (intro Y hSw; (try dsimp only at hSw); obtain ⟨hS1, hS2⟩ := hSw; go_simp; try with_reducible rfl)
        try simp only [Act.put, List.getElem_toArray, List.getElem_cons_zero, List.getElem_cons_succ, List.setIfInBounds_toArray, List.set_cons_zero, List.set_cons_succ]
        refine wpAnyH_done (by kernel_rfl) ?_ _
        go_wp2_with fail
        go_ret
        exact ⟨rfl, (hbw3.trans (hb.mono hbw3.size)).trans (hb8.mono (by have := hbw3.size; omega))⟩
      · have hmF : (many < ((us.length : Nat) : Int)) = False := by simp; omega
        have e4 : us3.length = us.length := by omega
        clear hk3 hmK
        go_wp2_with fail
        refine wp_region_held_drew (S := fun Y => Below wr.heap.size wr Y ∧ (convert 23 9 (.slice ad l.length cap)).run Try.prog Y = .ok (.string (strOfNums l)) Y) (by kernel_rfl) ⟨(Below.refl _ wr).drew, HB.out _ (Below.refl _ wr).drew⟩ (fun hHeld => ?_)
        refine wpAnyH_take (i := 0) (v := ?_) rfl (by kernel_rfl) (by kernel_rfl) (by kernel_rfl) (fun _ _ _ h => h) (Or.inl ⟨by rfl, ?_⟩) (by assumption) ?_
        rotate_left
        · (intro Y hSw; (try dsimp only at hSw); obtain ⟨hS1, hS2⟩ := hSw; go_simp; try with_reducible rfl)
        try simp only [Act.put, List.getElem_toArray, List.getElem_cons_zero, List.getElem_cons_succ, List.setIfInBounds_toArray, List.set_cons_zero, List.set_cons_succ]
        refine wpAnyH_take (i := 3) (v := ?_) rfl (by kernel_rfl) (by kernel_rfl) (by kernel_rfl) (fun _ _ _ h => h) (Or.inl ⟨by rfl, ?_⟩) (by assumption) ?_
        rotate_left
        · (intro Y hSw; (try dsimp only at hSw); obtain ⟨hS1, hS2⟩ := hSw; go_simp; try with_reducible rfl)
        try simp only [Act.put, List.getElem_toArray, List.getElem_cons_zero, List.getElem_cons_succ, List.setIfInBounds_toArray, List.set_cons_zero, List.set_cons_succ]
        refine wpAnyH_take (i := 4) (v := ?_) rfl (by kernel_rfl) (by kernel_rfl) (by kernel_rfl) (fun _ _ _ h => h) (Or.inl ⟨by rfl, ?_⟩) (by assumption) ?_
        rotate_left
        · (intro Y hSw; (try dsimp only at hSw); obtain ⟨hS1, hS2⟩ := hSw; go_simp; try with_reducible rfl)
        try simp only [Act.put, List.getElem_toArray, List.getElem_cons_zero, List.getElem_cons_succ, List.setIfInBounds_toArray, List.set_cons_zero, List.set_cons_succ]
        refine wpAnyH_ready (rs := [1]) (by kernel_rfl) (by simp) ?_
        refine AllReadyH.cons rfl (fun K hK => ?_) AllReadyH.nil
        go_simp
        go_at_call 22
        refine (HJ.out _ (Below.refl _ wr).drew).mono ?_
        rintro e w5 ⟨v5, rfl, ho5, hb5⟩
        have hb6 := (Below.refl wr.heap.size wr).drew.trans (hb5.mono (Nat.le_refl _))
        have hcv5 := run_convert_row (P := Try.prog) l (RowAt.of_owns ho5 (Nat.le_refl _)) Try.underlying23 Try.underlying5 Try.underlying9
        go_wp2_with fail
        refine hK.out _ _ (⟨hb6, HB.out w5 hb6⟩) (fun hHeld => ?_)
        clear hK K
        try simp only [Act.put, List.getElem_toArray, List.getElem_cons_zero, List.getElem_cons_succ, List.setIfInBounds_toArray, List.set_cons_zero, List.set_cons_succ]
        refine wpAnyH_ready (rs := [2]) (by kernel_rfl) (by simp) ?_
        refine AllReadyH.cons rfl (fun K hK => ?_) AllReadyH.nil
        go_simp
        refine hK.out _ _ (⟨hb6, HB.out w5 hb6⟩) (fun hHeld => ?_)
        clear hK K
        try simp only [Act.put, List.getElem_toArray, List.getElem_cons_zero, List.getElem_cons_succ, List.setIfInBounds_toArray, List.set_cons_zero, List.set_cons_succ]
        refine wpAnyH_take (i := 5) (v := ?_) rfl (by kernel_rfl) (by kernel_rfl) (by kernel_rfl) (fun _ _ _ h => h) (Or.inl ⟨by rfl, ?_⟩) (by assumption) ?_
        rotate_left
        · (intro Y hSw; (try dsimp only at hSw); obtain ⟨hS1, hS2⟩ := hSw; go_simp; try with_reducible rfl)
        try simp only [Act.put, List.getElem_toArray, List.getElem_cons_zero, List.getElem_cons_succ, List.setIfInBounds_toArray, List.set_cons_zero, List.set_cons_succ]
        refine wpAnyH_take (i := 6) (v := ?_) rfl (by kernel_rfl) (by kernel_rfl) (by kernel_rfl) (fun _ _ _ h => h) (Or.inl ⟨by rfl, ?_⟩) (by assumption) ?_
        rotate_left
        · (intro Y hSw; (try dsimp only at hSw); obtain ⟨hS1, hS2⟩ := hSw; go_simp; try with_reducible rfl)
        try simp only [Act.put, List.getElem_toArray, List.getElem_cons_zero, List.getElem_cons_succ, List.setIfInBounds_toArray, List.set_cons_zero, List.set_cons_succ]
        refine wpAnyH_take (i := 7) (v := ?_) rfl (by kernel_rfl) (by kernel_rfl) (by kernel_rfl) (fun _ _ _ h => h) (Or.inl ⟨by rfl, ?_⟩) (by assumption) ?_
        rotate_left
        · (intro Y hSw; (try dsimp only at hSw); obtain ⟨hS1, hS2⟩ := hSw; go_simp; try with_reducible rfl)
        try simp only [Act.put, List.getElem_toArray, List.getElem_cons_zero, List.getElem_cons_succ, List.setIfInBounds_toArray, List.set_cons_zero, List.set_cons_succ]
        refine wpAnyH_take (i := 8) (v := ?_) rfl (by kernel_rfl) (by kernel_rfl) (by kernel_rfl) (fun _ _ _ h => h) (Or.inl ⟨by rfl, ?_⟩) (by assumption) ?_
        rotate_left
        · (intro Y hSw; (try dsimp only at hSw); obtain ⟨hS1, hS2⟩ := hSw; go_simp; try with_reducible rfl)
        try simp only [Act.put, List.getElem_toArray, List.getElem_cons_zero, List.getElem_cons_succ, List.setIfInBounds_toArray, List.set_cons_zero, List.set_cons_succ]
        refine wpAnyH_take (i := 9) (v := ?_) rfl (by kernel_rfl) (by kernel_rfl) (by kernel_rfl) (fun _ _ _ h => h) (Or.inl ⟨by rfl, ?_⟩) (by assumption) ?_
        rotate_left
        · (intro Y hSw; (try dsimp only at hSw); obtain ⟨hS1, hS2⟩ := hSw; go_simp; try with_reducible rfl)
        try simp only [Act.put, List.getElem_toArray, List.getElem_cons_zero, List.getElem_cons_succ, List.setIfInBounds_toArray, List.set_cons_zero, List.set_cons_succ]
        refine wpAnyH_take (i := 10) (v := ?_) rfl (by kernel_rfl) (by kernel_rfl) (by kernel_rfl) (fun _ _ _ h => h) (Or.inl ⟨by rfl, ?_⟩) (by assumption) ?_
        rotate_left
        · (intro Y hSw; (try dsimp only at hSw); obtain ⟨hS1, hS2⟩ := hSw; go_simp; try with_reducible rfl)
        try simp only [Act.put, List.getElem_toArray, List.getElem_cons_zero, List.getElem_cons_succ, List.setIfInBounds_toArray, List.set_cons_zero, List.set_cons_succ]
        refine wpAnyH_take (i := 11) (v := ?_) rfl (by kernel_rfl) (by kernel_rfl) (by kernel_rfl) (fun _ _ _ h => h) (Or.inl ⟨by rfl, ?_⟩) (by assumption) ?_
        rotate_left
        · (intro Y hSw; (try dsimp only at hSw); obtain ⟨hS1, hS2⟩ := hSw; go_simp; try with_reducible rfl)
        try simp only [Act.put, List.getElem_toArray, List.getElem_cons_zero, List.getElem_cons_succ, List.setIfInBounds_toArray, List.set_cons_zero, List.set_cons_succ]
        refine wpAnyH_take (i := 12) (v := ?_) rfl (by kernel_rfl) (by kernel_rfl) (by kernel_rfl) (fun _ _ _ h => h) (Or.inl ⟨by rfl, ?_⟩) (by assumption) ?_
        rotate_left
        · (intro Y hSw; (try dsimp only at hSw); obtain ⟨hS1, hS2⟩ := hSw; go_simp; try with_reducible rfl)
        try simp only [Act.put, List.getElem_toArray, List.getElem_cons_zero, List.getElem_cons_succ, List.setIfInBounds_toArray, List.set_cons_zero, List.set_cons_succ]
        refine wpAnyH_take (i := 13) (v := ?_) rfl (by kernel_rfl) (by kernel_rfl) (by kernel_rfl) (fun _ _ _ h => h) (Or.inl ⟨by rfl, ?_⟩) (by assumption) ?_
        rotate_left
        · (intro Y hSw; (try dsimp only at hSw); obtain ⟨hS1, hS2⟩ := hSw; go_simp; try with_reducible rfl)
        try simp only [Act.put, List.getElem_toArray, List.getElem_cons_zero, List.getElem_cons_succ, List.setIfInBounds_toArray, List.set_cons_zero, List.set_cons_succ]
        refine wpAnyH_take (i := 14) (v := ?_) rfl (by kernel_rfl) (by kernel_rfl) (by kernel_rfl) (fun _ _ _ h => h) (Or.inl ⟨by rfl, ?_⟩) (by assumption) ?_
        rotate_left
        · (intro Y hSw; (try dsimp only at hSw); obtain ⟨hS1, hS2⟩ := hSw; go_simp; try with_reducible rfl)
        try simp only [Act.put, List.getElem_toArray, List.getElem_cons_zero, List.getElem_cons_succ, List.setIfInBounds_toArray, List.set_cons_zero, List.set_cons_succ]
        refine wpAnyH_take (i := 15) (v := ?_) rfl (by kernel_rfl) (by kernel_rfl) (by kernel_rfl) (fun _ _ _ h => h) (Or.inl ⟨by rfl, ?_⟩) (by assumption) ?_
        rotate_left
        · (intro Y hSw; (try dsimp only at hSw); obtain ⟨hS1, hS2⟩ := hSw; go_simp; try with_reducible rfl)
        try simp only [Act.put, List.getElem_toArray, List.getElem_cons_zero, List.getElem_cons_succ, List.setIfInBounds_toArray, List.set_cons_zero, List.set_cons_succ]
        refine wpAnyH_take (i := 16) (v := ?_) rfl (by kernel_rfl) (by kernel_rfl) (by kernel_rfl) (fun _ _ _ h => h) (Or.inl ⟨by rfl, ?_⟩) (by assumption) ?_
        rotate_left
        · (intro Y hSw; (try dsimp only at hSw); obtain ⟨hS1, hS2⟩ := hSw; go_simp; try with_reducible rfl)
        try simp only [Act.put, List.getElem_toArray, List.getElem_cons_zero, List.getElem_cons_succ, List.setIfInBounds_toArray, List.set_cons_zero, List.set_cons_succ]
        refine wpAnyH_take (i := 17) (v := ?_) rfl (by kernel_rfl) (by kernel_rfl) (by kernel_rfl) (fun _ _ _ h => h) (Or.inl ⟨by rfl, ?_⟩) (by assumption) ?_
        rotate_left
        · (intro Y hSw; (try dsimp only at hSw); obtain ⟨hS1, hS2⟩ := hSw; go_simp; try with_reducible rfl)
        try simp only [Act.put, List.getElem_toArray, List.getElem_cons_zero, List.getElem_cons_succ, List.setIfInBounds_toArray, List.set_cons_zero, List.set_cons_succ]
        refine wpAnyH_ready (rs := [18]) (by kernel_rfl) (by simp) ?_
        refine AllReadyH.cons rfl (fun K hK => ?_) AllReadyH.nil
        go_simp
        go_at_call 16
        refine (HKe.out _ hb6).mono ?_
        rintro e w6 ⟨rfl, rfl⟩
        go_wp2_with fail
        refine hK.out _ _ (⟨hb6, HB.out _ hb6⟩) (fun hHeld => ?_)
        clear hK K
        try simp only [Act.put, List.getElem_toArray, List.getElem_cons_zero, List.getElem_cons_succ, List.setIfInBounds_toArray, List.set_cons_zero, List.set_cons_succ]
        refine wpAnyH_take (i := 19) (v := ?_) rfl (by kernel_rfl) (by kernel_rfl) (by kernel_rfl) (fun _ _ _ h => h) (Or.inl ⟨by rfl, ?_⟩) (by assumption) ?_
        rotate_left
        · (intro Y hSw; (try dsimp only at hSw); obtain ⟨hS1, hS2⟩ := hSw; go_simp; try with_reducible rfl)
        try simp only [Act.put, List.getElem_toArray, List.getElem_cons_zero, List.getElem_cons_succ, List.setIfInBounds_toArray, List.set_cons_zero, List.set_cons_succ]
        refine wpAnyH_take (i := 20) (v := ?_) rfl (by kernel_rfl) (by kernel_rfl) (by kernel_rfl) (fun _ _ _ h => h) (Or.inl ⟨by rfl, ?_⟩) (by assumption) ?_
        rotate_left
        · (intro Y hSw; (try dsimp only at hSw); obtain ⟨hS1, hS2⟩ := hSw; go_simp; try with_reducible rfl)
        try simp only [Act.put, List.getElem_toArray, List.getElem_cons_zero, List.getElem_cons_succ, List.setIfInBounds_toArray, List.set_cons_zero, List.set_cons_succ]
        refine wpAnyH_ready (rs := [21]) (by kernel_rfl) (by simp) ?_
        refine AllReadyH.cons rfl (fun K hK => ?_) AllReadyH.nil
        go_simp
        go_at_call 12
        refine (works_ok _).mono ?_
        rintro e w7 ⟨rfl, hb7⟩
        have hb8 := hb6.trans (hb7.mono hb6.size)
        go_wp2_with fail
        refine hK.out _ _ (⟨hb8, HB.out _ hb8⟩) (fun hHeld => ?_)
        clear hK K
        try simp only [Act.put, List.getElem_toArray, List.getElem_cons_zero, List.getElem_cons_succ, List.setIfInBounds_toArray, List.set_cons_zero, List.set_cons_succ]
        refine wpAnyH_take (i := 22) (v := ?_) rfl (by kernel_rfl) (by kernel_rfl) (by kernel_rfl) (fun _ _ _ h => h) (Or.inl ⟨by rfl, ?_⟩) (by assumption) ?_
        rotate_left
        · (intro Y hSw; (try dsimp only at hSw); obtain ⟨hS1, hS2⟩ := hSw; go_simp; try with_reducible rfl)
        try simp only [Act.put, List.getElem_toArray, List.getElem_cons_zero, List.getElem_cons_succ, List.setIfInBounds_toArray, List.set_cons_zero, List.set_cons_succ]
        refine wpAnyH_take (i := 23) (v := ?_) rfl (by kernel_rfl) (by kernel_rfl) (by kernel_rfl) (fun _ _ _ h => h) (Or.inl ⟨by rfl, ?_⟩) (by assumption) ?_
        rotate_left
        · (intro Y hSw; (try dsimp only at hSw); obtain ⟨hS1, hS2⟩ := hSw; go_simp; try with_reducible rfl)
        try simp only [Act.put, List.getElem_toArray, List.getElem_cons_zero, List.getElem_cons_succ, List.setIfInBounds_toArray, List.set_cons_zero, List.set_cons_succ]
        refine wpAnyH_done (by kernel_rfl) ?_ _
        go_wp2_with fail
        go_ret
        exact ⟨rfl, (hbw3.trans (hb.mono hbw3.size)).trans (hb8.mono (by have := hbw3.size; omega))⟩
theorem body (v : Value) (l : List Int) (s many : Int) (hs1 : s ≤ 9223372036854775807) (hm1 : many ≤ 9223372036854775807) (w : World) (hv : RowAt w.heap.size w v l.length (intVals .u8 l)) :
    Calls Try.prog 8 #[v, .int .i64 s, .int .i64 many] w fun e w' => e = .returned (.bool true) ∧ Below w.heap.size w w' := by
  by_cases h : 3000 < l.length ∨ many < 1
  · exact big v l s many _ w hv h
  by_cases hs : s < 1
  · exact no v l s many w hv (by omega) (by omega) hs
  · obtain ⟨k, rfl⟩ : ∃ k : Nat, s = k := ⟨s.toNat, by omega⟩
    exact yes v l k many w hv (by omega) (by omega) hm1 (by omega) (by unfold maxLen; omega)
theorem walk (H : Type) (enc : TypeId × Value → H) (W : World) (base : Nat) (args : Array Value) (ds : List (DataW H)) (p : List MemPlace)
    (hval : ∀ (j : Nat) t v, Try.f8.params[j]? = some t → args[j]? = some v → Value.okWide Try.prog W .any base t v)
    (hA : DataW.TrodAll enc Try.prog W 0 (fun _ => true) true Try.f8.params.toList args.toList ds p) (hlt : ∀ x ∈ p, x.block < W.heap.size) :
    Calls Try.prog 8 args W (fun e W' => e = .returned (.bool true) ∧ Below W.heap.size W W') ∧ ∃ d0 d1 d2, ds = [d0, d1, d2] := by
  rw [Try.params8] at hA hval
  obtain ⟨v0, vs0, d0, ds0, p0, q0, hargs, rfl, rfl, h0, r0⟩ := trodAll_cons hA
  obtain ⟨v1, vs1, d1, ds1, p1, q1, rfl, rfl, rfl, h1, r1⟩ := trodAll_cons r0
  obtain ⟨v2, vs2, d2, ds2, p2, q2, rfl, rfl, rfl, h2, r2⟩ := trodAll_cons r1
  obtain ⟨rfl, rfl, rfl⟩ := trodAll_nil r2
  obtain rfl : args = #[v0, v1, v2] := by cases args; simp_all
  obtain ⟨l, hr, _, _⟩ := open_row Try.underlying23 Try.underlying5 (by kernel_rfl) (hval 0 23 v0 rfl rfl) h0
  obtain ⟨a1, rfl, rfl, rfl, w1⟩ := open_int Try.underlying3 (hval 1 3 v1 rfl rfl) h1
  obtain ⟨a2, rfl, rfl, rfl, w2⟩ := open_int Try.underlying3 (hval 2 3 v2 rfl rfl) h2
  have b1 := i64_bd w1
  have b2 := i64_bd w2
  exact ⟨body v0 l a1 a2 b1.2 b2.2 W hr, _, _, _, rfl⟩

theorem own : ownKnob Try.prog.godebug = none := by kernel_rfl
set_option maxRecDepth 100000 in
theorem lifted (os : Os) (started : os.Started) (H : Type) (enc : TypeId × Value → H) :
    ReturnsInHanded {} Try.checked os 8 .any (Rows.wordPartsSpec.pre6 enc Try.prog Try.f8 Rows.wordPartsRow.domain false) (Rows.wordPartsSpec.post enc Try.prog Try.f8 false true false false) := by
  refine returnsInHanded_of_change (C := Try.checked) own started (by kernel_rfl) Try.func8
    (ChangeSpec.witness6 (enc := enc) (C := Try.checked) false ⟨#[], #[.slice none 0 0, .int .i64 0, .int .i64 0], []⟩ 8 (by kernel_rfl) (by kernel_rfl) (by kernel_rfl) (by kernel_rfl)) ?_
  intro W base args ds gs before hval hW hcnd _
  have hW' := hW
  obtain ⟨p, q, hA, hV, rfl, hfz, hnd⟩ := hW
  obtain ⟨rfl, rfl⟩ := trodVars_none hV
  have hlt : ∀ x ∈ p, x.block < W.heap.size := fun x hx => hW'.lt x (List.mem_append_left _ hx)
  obtain ⟨hc, d0, d1, d2, rfl⟩ := walk H enc W base args ds p hval hA hlt
  refine hc.mono fun e W' ⟨he, hb⟩ => ?_
  subst he
  exact ⟨_, rfl, law_post (by kernel_rfl) (by kernel_rfl) rfl (by kernel_rfl) rfl rfl rfl rfl hW' hA hlt hb⟩

theorem over : Rows.wordPartsRow.holds Try.pinned (OpenSpec.ofChange Rows.wordPartsSpec) :=
  OpenClaim.holds_of_wide 8 Try.f8 rfl rfl rfl rfl rfl rfl rfl ⟨rfl, rfl, rfl, rfl, rfl⟩ rfl rfl rfl rfl rfl (by kernel_rfl) Try.func8 (by kernel_rfl)
    (of_decide_eq_true (by kernel_rfl)) (by unfold Func.isWrapper; first | (rw [if_pos (by decide +kernel)]; kernel_rfl) | (rw [if_neg (by decide +kernel)]; exact ⟨rfl, rfl⟩))
    (fun os started H enc _ => lifted os started H enc)

theorem proved : Rows.WordPartsSaid :=
  over

end Go.Proofs.Ytalaaembfgapfaa.wordParts
