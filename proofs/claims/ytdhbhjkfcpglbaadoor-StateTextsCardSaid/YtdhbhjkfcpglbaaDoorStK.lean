/-
  Package pinfoldref14: Move, Parse. Conditions: few states.
-/
import Derived.Test.YtdhbhjkfcpglbaaDoorStJ
import Derived.Deep.AppendLies
import Derived.OwnWalk
namespace Go.Proofs.YtdhbhjkfcpglbaaDoor
open Go.RowKit
attribute [local go_sem] Oper.semAt_some
set_option maxHeartbeats 4000000
set_option maxRecDepth 8000

theorem owns_set {W : World} {base g n cap k : Nat} {e : TypeId} {l : List Int} (h : W.ownsRow base e 1 (.slice (some ⟨g, 0, none⟩) n cap) n (intVals .i64 l)) (x : Int) :
    W.frozen? ⟨g, k, none⟩ = false ∧ (W.setCell ⟨g, k, none⟩ (.int .i64 x)).ownsRow base e 1 (.slice (some ⟨g, 0, none⟩) n cap) n (intVals .i64 (l.set k x)) := by
  obtain ⟨hn, hx⟩ := h
  rcases hx with ⟨h1, _⟩ | ⟨g', cap', cur, e1, hlo, hgb, hnc, hcm, hcs, htk⟩
  · cases h1
  · simp only [Value.slice.injEq, Option.some.injEq, Addr.mk.injEq, true_and, and_true] at e1
    obtain ⟨rfl, rfl⟩ := e1
    have hgb' : Blk W g cur e := hgb
    refine ⟨hgb'.frozen k, by simpa [intVals] using hn, .inr ⟨g, cap, cur.setIfInBounds k (.int .i64 x), by simp, hlo, hgb'.set k _, hnc, hcm, by simpa using hcs, ?_⟩⟩
    rw [Array.toList_setIfInBounds, List.take_set, htk]
    simp [intVals]
theorem rMove_no (v : Value) (l : List Int) (B : Nat) (i to : Int) (w : World) (hl : l.length < 1000000) (hv : RowAt B w v l.length (intVals .i64 l)) (h : movErr l i to ≠ 0) :
    Calls Tryd.prog 44 #[v, .int .i64 i, .int .i64 to] w fun e w' => e = .returned (.tuple #[v, .int .i64 0, .int .i64 (movErr l i to)]) ∧ w = w' := by
  have H1 := Lib.hid hv
  obtain ⟨a1, c1, rfl, _⟩ := hv.len
  obtain ⟨er, her⟩ : ∃ er, movErr l i to = er := ⟨_, rfl⟩
  rw [her] at h ⊢
  clear hv
  cases hs : isSt to with
  | false =>
    have e1 : er = 2 := by rw [← her]; unfold movErr; rw [if_pos hs]
    subst e1
    have HS := Lib.hid hs
    clear hs h her
    go_enter Tryd.func44, Tryd.ntmps44
    go_wp2_with fail
    refine (rState_calls _ _).mono ?_; rintro e _ ⟨rfl, rfl⟩
    rw [HS.out]
    go_wp2_with fail
    go_ret3
    exact ⟨rfl, rfl⟩
  | true =>
  have HS := Lib.hid hs
  cases hi9 : inI l.length i with
  | false =>
    have e1 : er = 4 := by rw [← her]; unfold movErr; rw [hs, hi9]; rfl
    subst e1
    have hn : ¬ (0 ≤ i ∧ i < l.length) := of_decide_eq_false hi9
    clear hs h her hi9
    by_cases h0 : i < 0
    · clear hn
      go_enter Tryd.func44, Tryd.ntmps44
      go_wp2_with fail
      refine (rState_calls _ _).mono ?_; rintro e _ ⟨rfl, rfl⟩
      rw [HS.out]
      go_wp2_with fail
      go_ret3
      exact ⟨rfl, rfl⟩
    · have h1 : (l.length : Int) ≤ i := by omega
      clear hn
      go_enter Tryd.func44, Tryd.ntmps44
      go_wp2_with fail
      refine (rState_calls _ _).mono ?_; rintro e _ ⟨rfl, rfl⟩
      rw [HS.out]
      go_wp2_with fail
      go_ret3
      exact ⟨rfl, rfl⟩
  | true =>
  obtain ⟨k, rfl, hk⟩ := inI_true hi9
  obtain ⟨b, off, rfl, _, q⟩ := H1.out.geti k hk
  obtain ⟨x, hx⟩ : ∃ x, l[k] = x := ⟨_, rfl⟩
  have hgx : getI l k = x := by rw [getI_at hk, hx]
  rw [hx] at q
  have i0 : (0 : Int) ≤ k := by omega
  have i1 : (k : Int) < l.length := by omega
  cases hm : mayI x to with
  | false =>
    have e1 : er = 240 := by rw [← her]; unfold movErr; rw [hs, hi9, hgx, hm]; rfl
    subst e1
    have HM := Lib.hid hm
    clear hs h her hi9 hm hgx hx
    go_enter Tryd.func44, Tryd.ntmps44
    go_wp2_with fail
    refine (rState_calls _ _).mono ?_; rintro e _ ⟨rfl, rfl⟩
    rw [HS.out]
    go_wp2_with fail
    refine (rMay_calls _ _ _).mono ?_; rintro e _ ⟨rfl, rfl⟩
    rw [HM.out]
    go_wp2_with fail
    go_ret3
    exact ⟨rfl, rfl⟩
  | true =>
    exact absurd (by rw [← her]; unfold movErr; rw [hs, hi9, hgx, hm]; rfl) h
theorem rMove_ok (v : Value) (l : List Int) (B : Nat) (i to : Int) (w : World) (hB : B ≤ w.heap.size) (hl : l.length < 1000000) (hv : RowAt B w v l.length (intVals .i64 l)) (h : movErr l i to = 0) :
    Calls Tryd.prog 44 #[v, .int .i64 i, .int .i64 to] w fun e w' => ∃ v', e = .returned (.tuple #[v', .int .i64 (getI l i), .int .i64 0]) ∧ w'.ownsRow w.heap.size 3 1 v' (movL l i to).length (intVals .i64 (movL l i to)) ∧ Below w.heap.size w w' := by
  have H1 := Lib.hid hv
  obtain ⟨a1, c1, rfl, _⟩ := hv.len
  obtain ⟨hs, hi9, hm⟩ := mov0 h
  have hml : movL l i to = l.set i.toNat to := by unfold movL; rw [if_pos h]
  obtain ⟨k, rfl, hk⟩ := inI_true hi9
  obtain ⟨b, off, rfl, _, q⟩ := hv.geti k hk
  obtain ⟨x, hx⟩ : ∃ x, l[k] = x := ⟨_, rfl⟩
  have hgx : getI l k = x := by rw [getI_at hk, hx]
  rw [hx] at q
  rw [hgx] at hm ⊢
  rw [Int.toNat_natCast] at hml
  rw [hml, List.length_set]
  have HS := Lib.hid hs
  have HM := Lib.hid hm
  have HX := Lib.hid hx
  have HIL := Lib.hid (intVals_len .i64 l)
  have i0 : (0 : Int) ≤ k := by omega
  have i1 : (k : Int) < l.length := by omega
  have hv9 := hv
  clear hs hm hi9 hgx h hml hx hv
  go_enter Tryd.func44, Tryd.ntmps44
  go_wp2_with fail
  refine (rState_calls _ _).mono ?_; rintro e _ ⟨rfl, rfl⟩
  rw [HS.out]
  go_wp2_with fail
  refine (rMay_calls _ _ _).mono ?_; rintro e _ ⟨rfl, rfl⟩
  rw [HM.out]
  go_wp2_with (at_builtin; refine wpList_append_row rfl _ _ 46 rfl w.heap.size Tryd.underlying46 info64 0 [] rfl ?c1 B l.length (intVals .i64 l) rfl ?c2 ?c3 ?c4 ?c5 ?c6 ?c7 ?_)
  case c1 => exact World.ownsRow_made w #[] 0 (Nat.le_refl _) (by decide) rfl
  case c2 => exact hv9.below ((Below.refl _ w).alloc (Nat.le_refl _) _) hB
  case c3 => rw [HIL.out]; omega
  case c4 => exact intVals_one _ _
  case c5 => unfold maxLen; omega
  case c6 => omega
  case c7 => simp
  intro v1 w1 ho1 hg1
  have hb1 : Below w.heap.size w w1 := ((Below.refl _ w).alloc (Nat.le_refl _) _).grown hg1 (by simp) (fun k e => by cases e; exact Nat.le_refl _)
  clear hg1 hv9
  obtain ⟨g, cap', rfl, hgb, hgl⟩ := World.ownsRow.form ho1 (by omega)
  have hcl : w1.cell? ⟨g, k, none⟩ = some (.int .i64 x) := by
    rw [World.ownsRow.cellAt ho1 k (by omega), intVals_get _ _ _ hk, HX.out]
  obtain ⟨hfz, ho2⟩ := owns_set (k := k) ho1 to
  have hb2 := hb1.setCell (p := ⟨g, k, none⟩) hgb (.int .i64 to)
  obtain ⟨b', off', e9, _, q2⟩ := (H1.out.below hb2 hB).geti k hk
  simp only [Option.some.injEq, Addr.mk.injEq, and_true] at e9
  obtain ⟨rfl, rfl⟩ := e9
  rw [HX.out] at q2
  have HO := Lib.hid ho2
  clear ho1 ho2
  go_wp2_with fail
  go_quiet (fail)
  go_wp2_with fail
  go_ret3
  exact ⟨_, rfl, HO.out, hb2.drewN _⟩

theorem stOf_eq (b : UInt8) : stOf b = if b = 102 then 0 else if b = 107 then 1 else if b = 108 then 2 else if b = 104 then 3 else if b = 103 then 4 else -1 := by
  unfold stOf lets
  simp only [Lib.indexByte]
  by_cases h0 : b = 102
  · subst h0; rfl
  by_cases h1 : b = 107
  · subst h1; rfl
  by_cases h2 : b = 108
  · subst h2; rfl
  by_cases h3 : b = 104
  · subst h3; rfl
  by_cases h4 : b = 103
  · subst h4; rfl
  simp [h0, h1, h2, h3, h4, Ne.symm h0, Ne.symm h1, Ne.symm h2, Ne.symm h3, Ne.symm h4]
end Go.Proofs.YtdhbhjkfcpglbaaDoor
