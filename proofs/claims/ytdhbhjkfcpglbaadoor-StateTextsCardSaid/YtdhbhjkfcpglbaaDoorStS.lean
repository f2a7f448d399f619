/-
  Package pinfoldlaw14: StateTexts. No condition.
-/
import Derived.Test.YtdhbhjkfcpglbaaDoorStT
import Derived.Deep.RegionHeld
namespace Go.Proofs.YtdhbhjkfcpglbaaDoor
open Go.ChangeShapes Go.WideShapes Go.ChangeAt Go.RowKit
attribute [local go_sem] Oper.semAt_some
set_option maxHeartbeats 500000
set_option maxRecDepth 8000

theorem txt_eq {l m : List Int} (hl : ∀ x ∈ l, isSt x = true) (hm : ∀ x ∈ m, isSt x = true) : ((⟨(txtL l).toArray⟩ : ByteArray).toList == (⟨(txtL m).toArray⟩ : ByteArray).toList) = decide (l = m) := by
  by_cases h : l = m
  · subst h; simp
  · rw [decide_eq_false h, beq_eq_false_iff_ne]
    intro e
    refine h ((txt_inj hl hm).1 ?_)
    rw [ByteArray.toList_eq, ByteArray.toList_eq] at e
    exact ByteArray.ext (Array.ext' e)
/-- What stands when both calls are done. -/
structure Txt (w W : World) (lo hi s lo2 hi2 s2 : Nat) (vo vp vw : Value) (bw bx : Nat) (vq : Value) (L1 L2 L : List Int) : Prop where
  a : Run w.heap.size w W lo hi s L1
  b : Run w.heap.size w W lo2 hi2 s2 L2
  o : RowAt W.heap.size W vo L1.length (intVals .i64 L1)
  p : RowAt W.heap.size W vp L2.length (intVals .i64 L2)
  r : RowAt W.heap.size W vw L.length (intVals .i64 L)
  q : AllV w.heap.size W bw bx vq 0 L
theorem Txt.step {w W W' : World} {lo hi s lo2 hi2 s2 : Nat} {vo vp vw : Value} {bw bx : Nat} {vq : Value} {L1 L2 L : List Int} (h : Txt w W lo hi s lo2 hi2 s2 vo vp vw bw bx vq L1 L2 L) (k : Below W.heap.size W W') : Txt w W' lo hi s lo2 hi2 s2 vo vp vw bw bx vq L1 L2 L :=
  ⟨h.a.step k, h.b.step k, (h.o.below k (Nat.le_refl _)).mono k.size, (h.p.below k (Nat.le_refl _)).mono k.size, (h.r.below k (Nat.le_refl _)).mono k.size, h.q.below k⟩
theorem texts_body (bs : List UInt8) (x y : ActV) (w : World) (hlen : bs.length ≤ 9223372036854775807) :
    Calls Tryd.prog 6 #[.string ⟨bs.toArray⟩, .agg #[.bool x.f0, .int .i64 x.f1, .int .i64 x.f2, .bool y.f0, .int .i64 y.f1, .int .i64 y.f2]] w fun e w' => e = .returned (.bool true) ∧ Below w.heap.size w w' := by
  have hfn := fun (fn : Fn) (x y : Array Value) (w : World) => run_eql_func_nil (P := Tryd.prog) Tryd.underlying63 fn x y w
  have HFN := Lib.hid hfn
  clear hfn
  obtain ⟨w0, hw0⟩ : ∃ w0, w.alloc (.cells #[.bool x.f0, .int .i64 x.f1, .int .i64 x.f2, .bool y.f0, .int .i64 y.f1, .int .i64 y.f2] 60) = w0 := ⟨_, rfl⟩
  have kb : Below w.heap.size w w0 := by rw [← hw0]; exact (Below.refl _ w).alloc (Nat.le_refl _) _
  have hB : Blk w0 w.heap.size #[.bool x.f0, .int .i64 x.f1, .int .i64 x.f2, .bool y.f0, .int .i64 y.f1, .int .i64 y.f2] 60 := by rw [← hw0]; exact Blk.new w _ _
  have zb := hB.lt
  have hsz : (⟨bs.toArray⟩ : ByteArray).size = bs.length := by simp [ByteArray.size]
  have HP := Lib.hid (fun (W : World) => rParse_ok bs W hlen)
  have HQ := Lib.hid (fun (W : World) => Parse_no ⟨bs.toArray⟩ W (by rw [hsz]; exact hlen))
  have HK := Lib.hid (fun (W : World) => Parse_ok ⟨bs.toArray⟩ W)
  obtain ⟨S, hS⟩ : ∃ S : ByteArray, (⟨bs.toArray⟩ : ByteArray) = S := ⟨_, rfl⟩
  have hdt : S.data.toList = bs := by rw [← hS]
  rw [hS] at HP HQ HK hsz ⊢
  clear hS
  by_cases h3 : 300 < bs.length
  · have h3' : (300 : Int) < S.size := by omega
    refine calls_of_wp_marks Tryd.func6 rfl ?_; simp only [Tryd.ntmps6, List.size_toArray, List.length_cons, List.length_nil, Nat.reduceAdd, Nat.reduceSub, Array.replicate_succ, Array.replicate_zero, List.push_toArray, List.append_toArray, List.nil_append, List.cons_append]
    go_wp2_with fail
    refine (works_ok _).mono ?_; rintro e w9 ⟨rfl, k9⟩
    go_wp2_with fail
    exact postM_ret0 (results_tmp rfl _ _ _) ⟨rfl, kb.trans (k9.mono kb.size)⟩
  have h3' : (S.size : Int) ≤ 300 := by omega
  by_cases hbad : 256 < bs.length ∨ allLet bs = false
  · refine calls_of_wp_marks Tryd.func6 rfl ?_; simp only [Tryd.ntmps6, List.size_toArray, List.length_cons, List.length_nil, Nat.reduceAdd, Nat.reduceSub, Array.replicate_succ, Array.replicate_zero, List.push_toArray, List.append_toArray, List.nil_append, List.cons_append]
    go_wp2_with fail
    refine (HQ.out _ (by rw [hsz, hdt]; exact hbad)).mono ?_; rintro e w1 ⟨rfl, k1⟩
    replace kb := kb.trans (k1.mono kb.size)
    go_wp2_with fail
    refine (HP.out _).mono ?_; rintro e w2 ⟨⟨rfl, _⟩ | ⟨v, rfl, _, hn1, hn2⟩, k2⟩
    · replace kb := kb.trans (k2.mono kb.size)
      go_wp2_with fail
      refine (num_calls _ _).mono ?_; rintro e _ ⟨rfl, rfl⟩
      go_wp2_with fail
      refine (works_ok _).mono ?_; rintro e w9 ⟨rfl, k9⟩
      go_wp2_with fail
      exact postM_ret0 (results_tmp rfl _ _ _) ⟨rfl, kb.trans (k9.mono kb.size)⟩
    · exfalso
      rcases hbad with h | h
      · omega
      · rw [h] at hn2; cases hn2
  have hg1 : bs.length ≤ 256 := by omega
  have hg2 : allLet bs = true := by
    cases e : allLet bs with
    | true => rfl
    | false => exact absurd (.inr e) hbad
  have hst := st_par hg2
  have hL := parL_len bs
  refine calls_of_wp_marks Tryd.func6 rfl ?_; simp only [Tryd.ntmps6, List.size_toArray, List.length_cons, List.length_nil, Nat.reduceAdd, Nat.reduceSub, Array.replicate_succ, Array.replicate_zero, List.push_toArray, List.append_toArray, List.nil_append, List.cons_append]
  go_wp2_with fail
  refine (HK.out _ (by omega) (by rw [hdt]; exact hg2)).mono ?_; rintro e w1 ⟨s, lo, hi, rfl, hlo, hS1, k1⟩
  rw [hdt] at hS1
  go_wp2_with fail
  refine (HP.out _).mono ?_; rintro e w2 ⟨⟨rfl, hno⟩ | ⟨v, rfl, ho2, _, _⟩, k2⟩
  · exfalso; exact hbad hno
  obtain ⟨L, hLL⟩ : ∃ L, parL bs = L := ⟨_, rfl⟩
  rw [hLL] at hS1 ho2 hst hL
  have z0 := kb.size
  have z1 := k1.size
  have z2 := k2.size
  have hh1 := hS1.2.2.1
  have r1 : Run w.heap.size w w1 lo hi s L := ⟨hS1, kb.trans (k1.mono z0), by omega, by omega, by omega, hst⟩
  have r2 := r1.step k2
  have hv2 : RowAt w2.heap.size w2 v L.length (intVals .i64 L) := by rw [hL]; exact RowAt.of_owns ho2 (Nat.le_refl _)
  have ho : OffV lo hi v := (FarV.of_owns ho2).off hh1
  have hbig := r2.big'
  have HLen := Lib.hid hL
  have b2 := (hB.below k1 hB.lt).below k2 (by omega)
  obtain ⟨va, vc, rfl, _⟩ := hv2.len
  have HR2 := Lib.hid r2
  have HV2 := Lib.hid hv2
  have HO := Lib.hid ho
  clear hL hS1 ho2 r1 r2 hv2 ho hbad hg1 hg2 hLL hst k1 HQ HK HP hdt hB kb hw0
  go_wp2_with fail
  refine (num_calls _ _).mono ?_; rintro e _ ⟨rfl, rfl⟩
  go_wp2_with fail
  refine (Copy_ok HR2.out.sh hbig).mono ?_; rintro e w3 ⟨c, rfl, hC, k3⟩
  have z3 := k3.size
  have HR3 := Lib.hid (HR2.out.step k3)
  have HC3 := Lib.hid (show Run w.heap.size w w3 w2.heap.size w3.heap.size c L from ⟨hC, HR3.out.bel, HR2.out.big, HR3.out.big, HR3.out.few, HR3.out.st⟩)
  have HV3 := Lib.hid (HV2.out.below k3 (Nat.le_refl _))
  have HV0 := Lib.hid (show OffV w2.heap.size w3.heap.size (.slice va L.length vc) from HV2.out.offLow (intVals_len _ _) (Nat.le_refl w2.heap.size))
  have b3 := b2.below k3 b2.lt
  clear hC k3 b2 HR2 HV2
  go_wp2_with fail
  refine (All_ok HR3.out.sh hbig 0).mono ?_; rintro e w4 ⟨bw, bx, vq, rfl, hQ, k4⟩
  have z4 := k4.size
  have HR4 := Lib.hid (HR3.out.step k4)
  have HC4 := Lib.hid (HC3.out.step k4)
  have HV4 := Lib.hid (((HV3.out.mono z3).below k4 (Nat.le_refl _)).mono z4)
  have HQ4 := Lib.hid hQ
  have b4 := b3.below k4 b3.lt
  have q0 := b4.cell 0 rfl
  have q1 := b4.cell 1 rfl
  have q2 := b4.cell 2 rfl
  clear k4 b3 hQ HR3 HC3 HV3
  go_wp2_with fail
  refine (act_ok HR4.out HV4.out HO.out x.f0 x.f1 x.f2).mono ?_; rintro e w5 ⟨s5, v5, lo5, hi5, rfl, hE⟩
  obtain ⟨L5, hL5⟩ : ∃ L5, actL L x.f0 x.f1 x.f2 = L5 := ⟨_, rfl⟩
  rw [hL5] at hE
  have z5 := hE.tur.size
  have hT5 := hE.tur
  have b5 : Blk w5 w.heap.size #[.bool x.f0, .int .i64 x.f1, .int .i64 x.f2, .bool y.f0, .int .i64 y.f1, .int .i64 y.f2] 60 := b4.tur hT5 (.inl (by omega))
  have HC5 := Lib.hid (HC4.out.turned hT5 (by omega) (.inr (by omega)))
  have HV5 := Lib.hid ((hT5.row HV4.out HO.out (intVals_len _ _)).mono z5)
  have HQ5 := Lib.hid (HQ4.out.turned hT5 (by omega))
  have hoff5 : OffV w2.heap.size w3.heap.size v5 := by
    rcases hE.val with rfl | h
    · exact HV0.out
    · exact h.off z4
  have HE5 := Lib.hid hE
  have HO5 := Lib.hid hoff5
  have HL5 := Lib.hid hL5
  obtain ⟨pa, pc, rfl, _⟩ := hE.row.len
  have q3 := b5.cell 3 rfl
  have q4 := b5.cell 4 rfl
  have q5 := b5.cell 5 rfl
  have hrng := hE.rng
  clear hE hT5 hoff5 b4 q0 q1 q2 HR4 HV4 HQ4 HC4 hL5
  go_wp2_with fail
  refine (act_ok HC5.out HV5.out HV0.out y.f0 y.f1 y.f2).mono ?_; rintro e w6 ⟨s6, v6, lo6, hi6, rfl, hE⟩
  obtain ⟨L6, hL6⟩ : ∃ L6, actL L y.f0 y.f1 y.f2 = L6 := ⟨_, rfl⟩
  rw [hL6] at hE
  have z6 := hE.tur.size
  have hT6 := hE.tur
  have hA6 : Run w.heap.size w w6 lo5 hi5 s5 L5 := by
    refine HE5.out.run.turned hT6 (by omega) ?_
    rcases hrng with ⟨rfl, rfl⟩ | h
    · exact .inl (by omega)
    · exact .inr (by omega)
  have hQ6 := HQ5.out.turned hT6 (Nat.le_refl _)
  have HT := Lib.hid (show Txt w w6 lo5 hi5 s5 lo6 hi6 s6 (.slice pa L5.length pc) v6 (.slice va L.length vc) bw bx vq L5 L6 L from
    ⟨hA6, hE.run, (hT6.row HE5.out.row HO5.out (intVals_len _ _)).mono z6, hE.row, (hT6.row HV5.out HV0.out (intVals_len _ _)).mono z6, ⟨hQ6.was, hQ6.st, hQ6.row, by have := hQ6.lo; omega, fun b off m c e h0 => by have := hQ6.far b off m c e h0; omega⟩⟩)
  obtain ⟨qa, qc, rfl, _⟩ := hE.row.len
  have hf5 := HE5.out.run.few
  have hs5 := HE5.out.run.st
  have hf6 := hE.run.few
  have hs6 := hE.run.st
  have zw : w.heap.size ≤ w6.heap.size := by omega
  have hx5 := txt_eq hs5 hs6
  have hb5 := HE5.out.run.big'
  have hb6 := hE.run.big'
  clear hE hT6 hQ6 hA6 hrng b5 q3 q4 q5 hL6 HE5 HO5 HC5 HV5 HQ5 HV0 HO HL5 z0 z1 z2 z3 z4 z5 z6 hlo hh1 zb
  have H5 := Lib.hid hs5
  have H6 := Lib.hid hs6
  clear hs5 hs6
  have HX1 := Lib.hid (fun (W : World) (B : Nat) (hB : B ≤ W.heap.size) (hr : RowAt B W (.slice pa L5.length pc) L5.length (intVals .i64 L5)) => rText_ok _ L5 B W hB hf5 H5.out hr)
  have HX2 := Lib.hid (fun (W : World) (B : Nat) (hB : B ≤ W.heap.size) (hr : RowAt B W (.slice qa L6.length qc) L6.length (intVals .i64 L6)) => rText_ok _ L6 B W hB hf6 H6.out hr)
  obtain ⟨t5, ht5⟩ : ∃ t5 : ByteArray, (⟨(txtL L5).toArray⟩ : ByteArray) = t5 := ⟨_, rfl⟩
  obtain ⟨t6, ht6⟩ : ∃ t6 : ByteArray, (⟨(txtL L6).toArray⟩ : ByteArray) = t6 := ⟨_, rfl⟩
  obtain ⟨d, hd⟩ : ∃ d, decide (L5 = L6) = d := ⟨_, rfl⟩
  rw [ht5, ht6, hd] at hx5
  rw [ht5] at HX1
  rw [ht6] at HX2
  have hd2 : decide (L6 = L5) = d := by rw [← hd]; exact decide_eq_decide.2 eq_comm
  have HD1 := Lib.hid hd
  have HD2 := Lib.hid hd2
  clear ht5 ht6 hd hd2
  go_wp2_with fail
  refine (HX1.out _ _ (Nat.le_refl _) HT.out.o).mono ?_; rintro e w7 ⟨rfl, k7⟩
  have HT7 := Lib.hid (HT.out.step k7)
  replace zw := Nat.le_trans zw k7.size
  clear HT k7 HX1
  go_wp2_with fail
  refine (HX2.out _ _ (Nat.le_refl _) HT7.out.p).mono ?_; rintro e w8 ⟨rfl, k8⟩
  have HT8 := Lib.hid (HT7.out.step k8)
  replace zw := Nat.le_trans zw k8.size
  clear HT7 k8 HX2
  go_wp2_with fail
  refine (is_ok HT8.out.a HT8.out.o).mono ?_; rintro e w9 ⟨rfl, k9⟩
  have HT9 := Lib.hid (HT8.out.step k9)
  replace zw := Nat.le_trans zw k9.size
  clear HT8 k9
  go_wp2_with fail
  refine (is_ok HT9.out.b HT9.out.p).mono ?_; rintro e u1 ⟨rfl, j1⟩
  have HU1 := Lib.hid (HT9.out.step j1)
  replace zw := Nat.le_trans zw j1.size
  clear HT9 j1
  go_wp2_with fail
  refine (Same_ok HU1.out.a.sh HU1.out.b.sh hb5 hb6).mono ?_; rintro e u2 ⟨rfl, j2⟩
  have HU2 := Lib.hid (HU1.out.step j2)
  replace zw := Nat.le_trans zw j2.size
  rw [HD1.out]
  clear HU1 j2
  go_wp2_with fail
  refine (Same_ok HU2.out.b.sh HU2.out.a.sh hb6 hb5).mono ?_; rintro e u3 ⟨rfl, j3⟩
  have HU3 := Lib.hid (HU2.out.step j3)
  replace zw := Nat.le_trans zw j3.size
  rw [HD2.out]
  clear HU2 j3
  have hfn := HFN.out
  go_wp2_with fail
  clear hfn
  obtain ⟨lb, hlb⟩ : ∃ lb, u3.heap.size = lb := ⟨_, rfl⟩
  obtain ⟨U, hU⟩ : ∃ U, U = u3.alloc (.cells #[.slice none 0 0] 46) := ⟨_, rfl⟩
  rw [← hU, hlb]
  have bU : Blk U lb #[.slice none 0 0] 46 := by rw [hU, ← hlb]; exact Blk.new _ _ _
  have kU : Below lb u3 U := by rw [hU, ← hlb]; exact (Below.refl _ _).alloc (Nat.le_refl _) _
  have zU : U.heap.size = lb + 1 := by rw [hU]; simp [hlb]
  obtain ⟨ra, rb, r3, r4, r5, ⟨e1, e2, e3, e4, e5⟩⟩ := HU3.out
  obtain ⟨qva, qvc, rfl, _⟩ := e3.len
  have l1 := e1.lt
  have l2 := e2.lt
  have hbl := ra.bel
  rw [hlb] at r5 e3 l1 l2 zw
  clear hU ra rb r3 r4 HU3 e4 e5 hx5
  refine wp_rangeS1 rfl (enters_of Tryd.func45 (by kernel_rfl) rfl) (All_iter qva qvc L hbig 0 lb bw bx) (fun _ => rfl)
    (fun hi pre W => ∃ v, Blk W lb #[v] 46 ∧ W.ownsRow hi 3 1 v pre.length (intVals .i64 pre) ∧ Below lb u3 W ∧ lb + 1 ≤ W.heap.size ∧ lb + 1 ≤ hi)
    (fun c W => False) ?a1 ?ha ?hI ?hIx ?hA ?h0 ?hbody ?hdone ?hstop
  case ha => intro m l x W K hK; gi_wp2; exact hK
  case hI => rintro hi pre X Y ⟨v, h1, h2, h3, h4, h5⟩ hk; exact ⟨v, h1.keeps hk, owns_keeps h2 hk, h3.keeps hk (by omega), Nat.le_trans h4 hk.size, h5⟩
  case hIx => rintro c X Y h hk; exact h
  case hA => rintro hi pre W ⟨v, h1, h2, h3, h4, h5⟩; exact ⟨(e1.below h3 l1).cell 0 rfl, (e2.below h3 l2).cell 0 rfl, e3.below h3 (Nat.le_refl _)⟩
  case h0 => intro hi hh; exact ⟨_, bU, World.ownsRow_nil _ _ _ _, kU, by omega, by omega⟩
  case hbody =>
    rintro m lp hi pre y suf W hxs hlp hrec hhi hhW ⟨v, h1, h2, h3, h4, h5⟩
    have hpl : pre.length ≤ 256 := by
      have h6 := congrArg List.length hxs
      have h7 := cntI_len L 0
      have h8 := HLen.out
      simp at h6
      omega
    have c1 : W.cell? ⟨lb, 0, none⟩ = some v := h1.cell 0 rfl
    have hrl := Lib.hid (intVals_len .i64 pre)
    gi_wp2_with (gi_at_builtin; refine wpListIn_append_row rfl _ _ 46 rfl hi Tryd.underlying46 info64 pre.length (intVals .i64 pre) rfl ?c1 (W.heap.size + 1) 1 [.int .i64 y] rfl ?c2 ?c3 ?c4 ?c5 ?c6 ?c7 ?_)
    case c1 => exact h2.alloc _
    case c2 => exact RowAt.lit W #[.int .i64 y] 3 1 _ (by omega)
    case c3 => rfl
    case c4 => intro u hu; simp at hu; rcases hu with rfl; rfl
    case c5 => unfold maxLen; omega
    case c6 => omega
    case c7 => simp; omega
    intro v' W' ho hg
    have hbh : Below hi W W' := ((Below.refl hi W).alloc hhW (.cells #[.int .i64 y] 3)).appended (h2.alloc _) hg (Nat.le_refl _) (by simp; omega)
    have hb' : Below lb u3 W' := h3.trans (hbh.mono (by omega))
    have g1 := h1.below hbh (by omega)
    have hz' : lb + 1 ≤ W'.heap.size := by have := hbh.size; omega
    have hsm : Sm U.heap.size hi W W' := Sm.of_below hbh (Nat.le_refl _)
    have ho' : W'.ownsRow hi 3 1 v' (pre ++ [y]).length (intVals .i64 (pre ++ [y])) := by
      rw [List.length_append]; simpa [intVals] using ho
    clear hg c1 ho hbh
    obtain ⟨g, cp, rfl, hgh, hgl⟩ := World.ownsRow.form ho' (by simp)
    rw [show (pre ++ [y]).length = pre.length + 1 by simp] at ho' ⊢
    have f1 := g1.frozen 0
    have c1 : W'.cell? ⟨lb, 0, none⟩ = some v := g1.cell 0 rfl
    have hso := ownsRow_setCell_below ho' (a := ⟨lb, 0, none⟩) (by dsimp only; omega) (.slice (some ⟨g, 0, none⟩) (pre.length + 1) cp)
    have HSO := Lib.hid hso
    clear hso
    gi_wp2_with fail
    refine ⟨hsm.setCell _ (Or.inr (by dsimp only; omega)) _, _, g1.set 0 _, ?_, hb'.setCell (p := ⟨lb, 0, none⟩) (Nat.le_refl _) _, by simpa using hz', h5⟩
    have := HSO.out
    rw [show (pre ++ [y]).length = pre.length + 1 by simp]
    exact this
  case hdone =>
    rintro D W hi hD ⟨v, h1, h2, h3, h4, h5⟩ hK
    have c1 : W.cell? ⟨lb, 0, none⟩ = some v := h1.cell 0 rfl
    have rw1 : RowAt W.heap.size W (.slice va L.length vc) L.length (intVals .i64 L) := (r5.below h3 (Nat.le_refl _)).mono (by omega)
    have rv : RowAt W.heap.size W v (plcL L 0).length (intVals .i64 (plcL L 0)) := RowAt.of_owns h2 (Nat.le_refl _)
    obtain ⟨oa, oc, rfl, _⟩ := rv.len
    have HRW := Lib.hid rw1
    have HRV := Lib.hid rv
    have kd : Below W.heap.size W W.drew := (Below.refl _ W).drew
    have hfw := Lib.hid (cntI_len L 0)
    clear h2 rv rw1
    go_wp2_with fail
    refine wp_onlyN ?_
    refine wp_region_held_drew (S := fun Y => Y.cell? ⟨lb, 0, none⟩ = some (.slice oa (plcL L 0).length oc)) (by kernel_rfl) c1 (fun hHeld => ?_)
    refine wpAnyH_take (i := 0) (v := ?_) rfl (by kernel_rfl) (by kernel_rfl) (by kernel_rfl) (fun _ _ _ h => h) (Or.inl ⟨by rfl, ?_⟩) (by assumption) ?_
    rotate_left
    · (intro Y hSw; (try dsimp only at hSw); obtain hS0 := hSw; go_simp; try with_reducible rfl)
    try simp only [Act.put, List.getElem_toArray, List.getElem_cons_zero, List.getElem_cons_succ, List.setIfInBounds_toArray, List.set_cons_zero, List.set_cons_succ]
    refine wpAnyH_take (i := 1) (v := ?_) rfl (by kernel_rfl) (by kernel_rfl) (by kernel_rfl) (fun _ _ _ h => h) (Or.inl ⟨by rfl, ?_⟩) (by assumption) ?_
    rotate_left
    · (intro Y hSw; (try dsimp only at hSw); obtain hS0 := hSw; go_simp; try with_reducible rfl)
    try simp only [Act.put, List.getElem_toArray, List.getElem_cons_zero, List.getElem_cons_succ, List.setIfInBounds_toArray, List.set_cons_zero, List.set_cons_succ]
    refine wpAnyH_ready (rs := [2]) (by kernel_rfl) (by simp) ?_
    refine AllReadyH.cons rfl (fun K hK => ?_) AllReadyH.nil
    go_simp
    refine (Places_ok (.slice va L.length vc) L W.heap.size 0 W.drew kd.size hbig (HRW.out.below kd (Nat.le_refl _))).mono ?_; rintro e x1 ⟨v1, rfl, o1, k1⟩
    have K1 := kd.trans (k1.mono kd.size)
    have r1 : RowAt x1.heap.size x1 v1 (plcL L 0).length (intVals .i64 (plcL L 0)) := RowAt.of_owns o1 (Nat.le_refl _)
    obtain ⟨ya, yc, rfl, _⟩ := r1.len
    have b1 := h1.below K1 h1.lt
    have R1 := Lib.hid r1
    clear o1 r1 k1
    go_simp
    refine hK.out _ _ ((b1.cell 0 rfl)) (fun hHeld => ?_)
    clear hK K
    try simp only [Act.put, List.getElem_toArray, List.getElem_cons_zero, List.getElem_cons_succ, List.setIfInBounds_toArray, List.set_cons_zero, List.set_cons_succ]
    refine wpAnyH_ready (rs := [3]) (by kernel_rfl) (by simp) ?_
    refine AllReadyH.cons rfl (fun K hK => ?_) AllReadyH.nil
    go_simp
    refine (ints_ok _ _ (plcL L 0) W.heap.size x1.heap.size x1 (by have := hfw.out; omega) (HRV.out.below K1 (Nat.le_refl _)) R1.out K1.size (Nat.le_refl _)).mono ?_; rintro e x2 ⟨rfl, k2⟩
    have K2 := K1.trans (k2.mono K1.size)
    have b2 := b1.below k2 b1.lt
    clear k2 R1
    go_simp
    refine hK.out _ _ ((b2.cell 0 rfl)) (fun hHeld => ?_)
    clear hK K
    try simp only [Act.put, List.getElem_toArray, List.getElem_cons_zero, List.getElem_cons_succ, List.setIfInBounds_toArray, List.set_cons_zero, List.set_cons_succ]
    refine wpAnyH_take (i := 4) (v := ?_) rfl (by kernel_rfl) (by kernel_rfl) (by kernel_rfl) (fun _ _ _ h => h) (Or.inl ⟨by rfl, ?_⟩) (by assumption) ?_
    rotate_left
    · (intro Y hSw; (try dsimp only at hSw); obtain hS0 := hSw; go_simp; try with_reducible rfl)
    try simp only [Act.put, List.getElem_toArray, List.getElem_cons_zero, List.getElem_cons_succ, List.setIfInBounds_toArray, List.set_cons_zero, List.set_cons_succ]
    refine wpAnyH_ready (rs := [5]) (by kernel_rfl) (by simp) ?_
    refine AllReadyH.cons rfl (fun K hK => ?_) AllReadyH.nil
    go_simp
    refine (works_ok x2).mono ?_; rintro e x3 ⟨rfl, k3⟩
    have K3 := K2.trans (k3.mono K2.size)
    have b3 := b2.below k3 b2.lt
    clear k3
    go_simp
    refine hK.out _ _ ((b3.cell 0 rfl)) (fun hHeld => ?_)
    clear hK K
    try simp only [Act.put, List.getElem_toArray, List.getElem_cons_zero, List.getElem_cons_succ, List.setIfInBounds_toArray, List.set_cons_zero, List.set_cons_succ]
    refine wpAnyH_take (i := 6) (v := ?_) rfl (by kernel_rfl) (by kernel_rfl) (by kernel_rfl) (fun _ _ _ h => h) (Or.inl ⟨by rfl, ?_⟩) (by assumption) ?_
    rotate_left
    · (intro Y hSw; (try dsimp only at hSw); obtain hS0 := hSw; go_simp; try with_reducible rfl)
    try simp only [Act.put, List.getElem_toArray, List.getElem_cons_zero, List.getElem_cons_succ, List.setIfInBounds_toArray, List.set_cons_zero, List.set_cons_succ]
    refine wpAnyH_take (i := 7) (v := ?_) rfl (by kernel_rfl) (by kernel_rfl) (by kernel_rfl) (fun _ _ _ h => h) (Or.inl ⟨by rfl, ?_⟩) (by assumption) ?_
    rotate_left
    · (intro Y hSw; (try dsimp only at hSw); obtain hS0 := hSw; go_simp; try with_reducible rfl)
    try simp only [Act.put, List.getElem_toArray, List.getElem_cons_zero, List.getElem_cons_succ, List.setIfInBounds_toArray, List.set_cons_zero, List.set_cons_succ]
    refine wpAnyH_done (by kernel_rfl) ?_ _
    rw [onlyN_normal]
    go_wp2_with fail
    have hK3 : x3.heap[D]? = some (.deferred (some [])) := (K3.block D (Array.getElem?_eq_some_iff.1 hK).1).trans hK
    have hall : Below w.heap.size w x3 := hbl.trans ((h3.trans (K3.mono (by omega))).mono zw)
    exact postM_ret hK3 (results_tmp rfl _ _ _) ⟨rfl, below_putObj hall (by omega) _ (Array.getElem?_eq_some_iff.1 hK3).1⟩
  case hstop => rintro D c W hD h; exact h.elim
end Go.Proofs.YtdhbhjkfcpglbaaDoor
