/-
  Package pinfoldlaw04: BitsHolds. No condition.
-/
import Derived.Test.YtbkegknfmcanaaaDoorBiO
namespace Go.Proofs.YtbkegknfmcanaaaDoor
open Go.RowKit
attribute [local go_sem] Oper.semAt_some
set_option maxHeartbeats 8000000
set_option maxRecDepth 8000

theorem par_txt : ∀ L : List Bool, parB (txtB L) = L
  | [] => rfl
  | b :: L => by
    show (txtU b == 49) :: parB (txtB L) = b :: L
    rw [par_txt L]; cases b <;> rfl
theorem all_txt : ∀ L : List Bool, allB (txtB L) = true
  | [] => rfl
  | b :: L => by
    show (zo.contains (txtU b) && allB (txtB L)) = true
    rw [all_txt L]; cases b <;> rfl
theorem txt_par : ∀ bs : List UInt8, allB bs = true → txtB (parB bs) = bs
  | [], _ => rfl
  | b :: bs, h => by
    have h' : zo.contains b = true ∧ allB bs = true := by simpa [allB] using h
    show txtU (b == 49) :: txtB (parB bs) = b :: bs
    rw [txt_par bs h'.2]
    have : b = 48 ∨ b = 49 := by simpa [zo] using h'.1
    rcases this with rfl | rfl <;> rfl
theorem suc_cntF (L : List Bool) : ∀ k, (sucTo L 0 false k).length + cntB L k = k
  | 0 => rfl
  | k + 1 => by
    have ih := suc_cntF L k
    unfold cntB at ih ⊢
    rw [sucTo, cntN]
    by_cases h : L.getD k false = true
    · rw [if_neg (fun e => by rw [h] at e; cases e.2), if_pos h]; omega
    · have h0 : L.getD k false = false := by simpa using h
      rw [if_pos ⟨by omega, h0⟩, if_neg h, List.length_append, List.length_singleton]; omega
theorem nth_ahead (L : List Bool) (k : Nat) (hk : k < L.length) (b : Bool) (hb : L.getD k false = b) (n : Nat) (hn : (if b then cntB L k else k - cntB L k) = n) : nthV (sucL L 0 b) n = k ∧ nthB (sucL L 0 b) n = true := by
  obtain ⟨suf, hs⟩ := suc_split L 0 b k hk ⟨by omega, hb⟩
  have hl : ((sucTo L 0 b k).length : Int) = n := by
    subst hn
    cases b with
    | true => rw [suc_cnt]; rfl
    | false => have := suc_cntF L k; simp; omega
  obtain ⟨e1, e2⟩ := nth_at hs hl
  exact ⟨e2, e1⟩
theorem has_ok {B : Nat} {w0 W : World} {lo hi s : Nat} {L : List Bool} {i : Int} {d : Bool} (h : Run B w0 W lo hi s L) (h1 : hasB L i = d) :
    Calls Tryd.prog 21 #[.pointer (some ⟨s, 0, none⟩), .int .i64 i] W fun e w' => e = .returned (.bool d) ∧ Below W.heap.size W w' := by
  subst h1
  exact Has_ok h.sh h.few i
theorem hasB_at {L : List Bool} {k : Nat} (hk : k < L.length) : hasB L k = L.getD k false := by unfold hasB; rw [inI_at hk, Int.toNat_natCast]; simp
/-- Two marks that stand apart. -/
structure Two (w W : World) (lo hi s lo2 hi2 s2 : Nat) (L M : List Bool) : Prop where
  a : Run w.heap.size w W lo hi s L
  b : Run w.heap.size w W lo2 hi2 s2 M
  ap : hi ≤ lo2
theorem Two.step {w W W' : World} {lo hi s lo2 hi2 s2 : Nat} {L M : List Bool} (h : Two w W lo hi s lo2 hi2 s2 L M) (k : Below W.heap.size W W') : Two w W' lo hi s lo2 hi2 s2 L M := ⟨h.a.step k, h.b.step k, h.ap⟩
theorem holds_body (bs : List UInt8) (at_ : Int) (w : World) (hlen : bs.length ≤ 9223372036854775807) :
    Calls Tryd.prog 5 #[.string ⟨bs.toArray⟩, .int .i64 at_] w fun e w' => e = .returned (.bool true) ∧ Below w.heap.size w w' := by
  have kb : Below w.heap.size w w := Below.refl _ _
  have hsz : (⟨bs.toArray⟩ : ByteArray).size = bs.length := by simp [ByteArray.size]
  have HQ := Lib.hid (fun (W : World) => Parse_no ⟨bs.toArray⟩ W (by rw [hsz]; exact hlen))
  have HK := Lib.hid (fun (W : World) => Parse_ok ⟨bs.toArray⟩ W)
  obtain ⟨S, hS⟩ : ∃ S : ByteArray, (⟨bs.toArray⟩ : ByteArray) = S := ⟨_, rfl⟩
  have hdt : S.data.toList = bs := by rw [← hS]
  rw [hS] at HQ HK hsz ⊢
  by_cases h3 : 300 < bs.length
  · have h3' : (300 : Int) < S.size := by omega
    clear hS hdt
    go_enter Tryd.func5, Tryd.ntmps5
    go_wp2_with fail
    refine (works_ok _).mono ?_; rintro e w9 ⟨rfl, k9⟩
    go_wp2_with fail
    go_ret
    exact ⟨rfl, kb.trans (k9.mono kb.size)⟩
  have h3' : (S.size : Int) ≤ 300 := by omega
  cases hall : allB bs with
  | false =>
    have HB := Lib.hid (fun W => HQ.out W (.inl (by rw [hdt]; exact hall)))
    clear hS hdt hall
    go_enter Tryd.func5, Tryd.ntmps5
    go_wp2_with fail
    refine (HB.out _).mono ?_; rintro e w1 ⟨rfl, k1⟩
    replace kb := kb.trans (k1.mono kb.size)
    go_wp2_with fail
    refine (num_calls _ _).mono ?_; rintro e _ ⟨rfl, rfl⟩
    go_wp2_with fail
    refine (works_ok _).mono ?_; rintro e w9 ⟨rfl, k9⟩
    go_wp2_with fail
    go_ret
    exact ⟨rfl, kb.trans (k9.mono kb.size)⟩
  | true =>
    have htp := txt_par bs hall
    obtain ⟨L, hL⟩ : ∃ L, parB bs = L := ⟨_, rfl⟩
    rw [hL] at htp
    have hLl : L.length = bs.length := by rw [← hL]; exact parB_len bs
    have HSL := Lib.hid (show (⟨(txtB L).toArray⟩ : ByteArray) = S by rw [htp]; exact hS)
    have HP := Lib.hid (fun (W : World) => HK.out W (by omega) (by rw [hdt]; exact hall))
    rw [hdt, hL] at HP
    have HLL := Lib.hid hLl
    have HSZ := Lib.hid hsz
    have hsL : (S.size : Int) = L.length := by omega
    have hL3 : (L.length : Int) ≤ 300 := by omega
    clear hS hdt hall hL htp HQ HK hLl hsz h3 hlen
    go_enter Tryd.func5, Tryd.ntmps5
    go_wp2_with fail
    refine (HP.out _).mono ?_; rintro e w1 ⟨c, lo, hi, rfl, hlo, hM, k1⟩
    have r1 := Lib.hid (⟨hM, k1, hlo, k1.size, by omega⟩ : Run w.heap.size w w1 lo hi c L)
    clear hM k1
    go_wp2_with fail
    refine (num_calls _ _).mono ?_; rintro e _ ⟨rfl, rfl⟩
    go_wp2_with fail
    refine (text_ok r1.out HSL.out).mono ?_; rintro e w2 ⟨rfl, _, k2⟩
    have r2 := Lib.hid (r1.out.step k2)
    go_wp2_with fail
    refine (HP.out _).mono ?_; rintro e w3 ⟨c2, lo2, hi2, rfl, hlo2, hM2, k3⟩
    have r3 := r2.out.step k3
    have T0 := Lib.hid (⟨r3, ⟨hM2, r3.bel, Nat.le_trans r2.out.big hlo2, r3.big, r3.few⟩, Nat.le_trans r2.out.sh.2.2.1 hlo2⟩ : Two w w3 lo hi c lo2 hi2 c2 L L)
    clear r1 r2 r3 hM2 k2 k3 hlo hlo2
    go_wp2_with fail
    refine (num_calls _ _).mono ?_; rintro e _ ⟨rfl, rfl⟩
    go_wp2_with fail
    refine (Same_ok T0.out.a.sh T0.out.b.sh T0.out.a.few T0.out.a.few).mono ?_; rintro e w4 ⟨rfl, k4⟩
    rw [show decide (L = L) = true from by simp]
    have T1 := Lib.hid (T0.out.step k4)
    go_wp2_with fail
    refine (text_ok T1.out.a HSL.out).mono ?_; rintro e w5 ⟨rfl, _, k5⟩
    have T2 := T1.out.step k5
    clear T0 T1 k4 k5
    go_wp2_with fail
    go_loopw [9, 10, 11] (fun y n i wr => ∃ k : Nat, k ≤ L.length ∧ i = .int .i64 k ∧ y = .int .i64 (cntB L k : Nat) ∧ n = .int .i64 (k - cntB L k : Nat) ∧ Two w wr lo hi c lo2 hi2 c2 L L) (fun _ _ i _ => L.length - (intOf i).toNat)
    case atStart => exact ⟨0, by omega, rfl, rfl, rfl, T2⟩
    case round =>
      obtain ⟨k, hk, rfl, rfl, rfl, hT⟩ := hrel
      have HT := Lib.hid hT
      clear T2 hT
      have hcl := cntB_le L k
      obtain ⟨cy, hcy⟩ : ∃ cy, cntB L k = cy := ⟨_, rfl⟩
      rw [hcy] at hcl ⊢
      obtain ⟨cn, hcn⟩ : ∃ cn, k - cy = cn := ⟨_, rfl⟩
      rw [hcn]
      have y0 : (0 : Int) ≤ cy := by omega
      have y1 : (cy : Int) ≤ 300 := by omega
      have n0 : (0 : Int) ≤ cn := by omega
      have n1 : (cn : Int) ≤ 300 := by omega
      by_cases hlt : k < L.length
      · have i0 : (0 : Int) ≤ k := by omega
        have i1 : (k : Int) < L.length := by omega
        cases hd : L.getD k false with
        | true =>
          have hn1 : (if true = true then cntB L k else k - cntB L k) = cy := by rw [if_pos rfl, hcy]
          have HN := Lib.hid (nth_ahead L k hlt true hd cy (by rw [hn1]))
          have hhas := hasB_at hlt
          rw [hd] at hhas
          have HH := Lib.hid hhas
          have hst : cntB L (k + 1) = cntB L k + if L.getD k false then 1 else 0 := rfl
          rw [hd, hcy] at hst
          have HST := Lib.hid hst
          clear hd hhas hst hn1
          go_wp2_with fail
          refine (has_ok HT.out.a HH.out).mono ?_; rintro e w1 ⟨rfl, k1⟩
          have T1 := Lib.hid (HT.out.step k1)
          go_wp2_with fail
          refine (has_ok T1.out.a HH.out).mono ?_; rintro e w2 ⟨rfl, k2⟩
          have T2 := Lib.hid (T1.out.step k2)
          go_wp2_with fail
          refine (nth_ok T2.out.a (by omega) HN.out.1 HN.out.2).mono ?_; rintro e w3 ⟨rfl, _, k3⟩
          have T3 := Lib.hid (T2.out.step k3)
          go_wp2_with fail
          refine (has_ok T3.out.a HH.out).mono ?_; rintro e w4 ⟨rfl, k4⟩
          have T4 := T3.out.step k4
          go_wp2_with fail
          have e1 : cntB L (k + 1) = cy + 1 := HST.out
          exact ⟨⟨k + 1, by omega, by go_num, by rw [e1]; push_cast; rfl, by rw [e1, show k + 1 - (cy + 1) = cn by omega], T4⟩, by simp [intOf]; omega⟩
        | false =>
          have hn1 : (if false = true then cntB L k else k - cntB L k) = cn := by rw [if_neg (by decide), hcy, hcn]
          have HN := Lib.hid (nth_ahead L k hlt false hd cn (by rw [hn1]))
          have hhas := hasB_at hlt
          rw [hd] at hhas
          have HH := Lib.hid hhas
          have hst : cntB L (k + 1) = cntB L k + if L.getD k false then 1 else 0 := rfl
          rw [hd, hcy] at hst
          have HST := Lib.hid hst
          clear hd hhas hst hn1
          go_wp2_with fail
          refine (has_ok HT.out.a HH.out).mono ?_; rintro e w1 ⟨rfl, k1⟩
          have T1 := Lib.hid (HT.out.step k1)
          go_wp2_with fail
          refine (has_ok T1.out.a HH.out).mono ?_; rintro e w2 ⟨rfl, k2⟩
          have T2 := Lib.hid (T1.out.step k2)
          go_wp2_with fail
          refine (nth_ok T2.out.a (by omega) HN.out.1 HN.out.2).mono ?_; rintro e w3 ⟨rfl, _, k3⟩
          have T3 := Lib.hid (T2.out.step k3)
          go_wp2_with fail
          refine (has_ok T3.out.a HH.out).mono ?_; rintro e w4 ⟨rfl, k4⟩
          have T4 := T3.out.step k4
          go_wp2_with fail
          have e1 : cntB L (k + 1) = cy := HST.out
          exact ⟨⟨k + 1, by omega, by go_num, by rw [e1], by rw [e1, show k + 1 - cy = cn + 1 by omega]; push_cast; rfl, T4⟩, by simp [intOf]; omega⟩
      · obtain rfl : k = L.length := by omega
        have HCY := Lib.hid hcy
        have hsum : (cy : Int) + cn = L.length := by omega
        clear hcy hcn
        by_cases hneg : at_ < 0
        · go_wp2_with fail
          refine (count_ok HT.out.a HCY.out).mono ?_; rintro e w6 ⟨rfl, _, k6⟩
          have T5 := HT.out.step k6
          go_wp2_with fail
          refine (works_ok _).mono ?_; rintro e w7 ⟨rfl, k7⟩
          go_wp2_with fail
          go_ret
          exact ⟨rfl, (T5.a.step k7).bel⟩
        by_cases hbig : (L.length : Int) ≤ at_
        · go_wp2_with fail
          refine (count_ok HT.out.a HCY.out).mono ?_; rintro e w6 ⟨rfl, _, k6⟩
          have T5 := HT.out.step k6
          go_wp2_with fail
          refine (works_ok _).mono ?_; rintro e w7 ⟨rfl, k7⟩
          go_wp2_with fail
          go_ret
          exact ⟨rfl, (T5.a.step k7).bel⟩
        obtain ⟨q, rfl⟩ : ∃ q : Nat, at_ = q := ⟨at_.toNat, by omega⟩
        have hq : q < L.length := by omega
        obtain ⟨d, hd⟩ : ∃ d, L.getD q false = d := ⟨_, rfl⟩
        have hhas := hasB_at hq
        rw [hd] at hhas
        obtain ⟨L', hL'⟩ : ∃ L', L.set q (!d) = L' := ⟨_, rfl⟩
        have hl' : L'.length = L.length := by rw [← hL', List.length_set]
        have hg' : L'.getD q false = !d := by
          rw [← hL', List.getD_eq_getElem?_getD, List.getElem?_set_self hq]; rfl
        have hhas' : hasB L' q = !d := by rw [hasB_at (by rw [hl']; exact hq), hg']
        have hback : L'.set q d = L := by
          rw [← hL', List.set_set, ← hd, List.getD_eq_getElem?_getD, List.getElem?_eq_getElem hq]; simp
        have hnq : (!d != d) = true := by cases d <;> rfl
        have HH := Lib.hid hhas
        have HH' := Lib.hid hhas'
        have HD := Lib.hid hd
        have HG := Lib.hid hg'
        have HL1 := Lib.hid hL'
        have HL2 := Lib.hid hback
        have HL3 := Lib.hid hl'
        clear hd hhas hL' hl' hg' hhas' hback
        go_wp2_with fail
        refine (has_ok HT.out.a HH.out).mono ?_; rintro e w6 ⟨rfl, k6⟩
        have T5 := Lib.hid (HT.out.step k6)
        go_wp2_with fail
        refine (set_at T5.out.a hq HD.out HL1.out).mono ?_; rintro e w7 ⟨rfl, ra, ta⟩
        have T6 := Lib.hid (⟨ra, T5.out.b.turned ta T5.out.a.low (.inr T5.out.ap), T5.out.ap⟩ : Two w w7 lo hi c lo2 hi2 c2 L' L)
        clear ra ta
        go_wp2_with fail
        refine (has_ok T6.out.a HH'.out).mono ?_; rintro e w8 ⟨rfl, k8⟩
        have T7 := Lib.hid (T6.out.step k8)
        go_wp2_with fail
        refine (set_at T7.out.a (by rw [HL3.out]; exact hq) HG.out HL2.out).mono ?_; rintro e w9 ⟨rfl, ra, ta⟩
        have T8 := Lib.hid (⟨ra, T7.out.b.turned ta T7.out.a.low (.inr T7.out.ap), T7.out.ap⟩ : Two w w9 lo hi c lo2 hi2 c2 L L)
        clear ra ta
        go_wp2_with fail
        refine (num_calls _ _).mono ?_; rintro e _ ⟨rfl, rfl⟩
        go_wp2_with fail
        refine (Same_ok T8.out.a.sh T8.out.b.sh T8.out.a.few T8.out.a.few).mono ?_; rintro e u1 ⟨rfl, j1⟩
        rw [show decide (L = L) = true from by simp]
        have U1 := Lib.hid (T8.out.step j1)
        go_wp2_with fail
        refine (count_ok U1.out.a HCY.out).mono ?_; rintro e u2 ⟨rfl, _, j2⟩
        have U2 := Lib.hid (U1.out.step j2)
        go_wp2_with fail
        refine (Len_ok U2.out.a.sh).mono ?_; rintro e _ ⟨rfl, rfl⟩
        go_wp2_with fail
        refine (works_ok _).mono ?_; rintro e u3 ⟨rfl, j3⟩
        go_wp2_with fail
        go_ret
        exact ⟨rfl, (U2.out.a.step j3).bel⟩
end Go.Proofs.YtbkegknfmcanaaaDoor
