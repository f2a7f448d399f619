/-
  Package pinfoldlaw04: BitsCopies. No condition.
-/
import Derived.Test.YtbkegknfmcanaaaDoorBiX
import Derived.Test.YtbkegknfmcanaaaDoorSub
import Derived.Deep.RegionHeld
namespace Go.Proofs.YtbkegknfmcanaaaDoor
open Go.ChangeShapes Go.WideShapes Go.ChangeAt Go.RowKit
attribute [local go_sem] Oper.semAt_some
set_option maxHeartbeats 4000000
set_option maxRecDepth 8000

theorem AllV.turned {B N a b : Nat} {W W' : World} {p : Option Addr} {bf bm bi : Nat} {L : List Bool} (h : AllV B N W p bf bm bi L) (k : Tur a b W W') (hb : b ≤ B) : AllV B N W' p bf bm bi L :=
  h.sm ⟨k.size, fun i h1 h2 => k.block i (by have := h.hi.2.2.2; omega) (.inr (by omega))⟩
theorem Blk.tur {W W' : World} {a b k : Nat} {cs : Array Value} {t : TypeId} (h : Blk W k cs t) (hT : Tur a b W W') (hd : k < a ∨ b ≤ k) : Blk W' k cs t := (hT.block k h.lt hd).trans h
theorem intVals_take (P T : List Int) (h : T = P.take T.length) : intVals .i64 T = (intVals .i64 P).take T.length := by
  conv => lhs; rw [h]
  simp [intVals, List.map_take]
theorem AllV.weak {B B' N : Nat} {W : World} {p : Option Addr} {bf bm bi : Nat} {L : List Bool} (h : AllV B N W p bf bm bi L) (hb : B' ≤ B) : AllV B' N W p bf bm bi L :=
  ⟨h.f, h.m, h.i, by
    rcases h.own with h1 | ⟨lo, hi, c, h1, g1, g2, h2⟩
    · exact .inl h1
    · exact .inr ⟨lo, hi, c, h1, by omega, g2, h2⟩, by have := h.lo; omega, h.hi⟩
theorem actL_len (L : List Bool) (cp : Bool) (i : Int) (v : Bool) : (actL L cp i v).length = L.length := by
  unfold actL; split
  · rfl
  · split <;> simp
/-- What stands when both calls are done. -/
structure Txt (w W : World) (lo hi s lo2 hi2 s2 : Nat) (vo vp vw : Value) (N : Nat) (p : Option Addr) (bf bm bi : Nat) (L1 L2 L : List Bool) (many : Int) : Prop where
  a : Run w.heap.size w W lo hi s L1
  b : Run w.heap.size w W lo2 hi2 s2 L2
  o : RowAt W.heap.size W vo L1.length (bvals L1)
  q : RowAt W.heap.size W vp L2.length (bvals L2)
  r : RowAt W.heap.size W vw L.length (bvals L)
  v : AllV w.heap.size N W p bf bm bi L
  m : Blk W (w.heap.size + 1) #[.int .i64 many] 3
theorem Txt.step {w W W' : World} {lo hi s lo2 hi2 s2 : Nat} {vo vp vw : Value} {N : Nat} {p : Option Addr} {bf bm bi : Nat} {L1 L2 L : List Bool} {many : Int} (h : Txt w W lo hi s lo2 hi2 s2 vo vp vw N p bf bm bi L1 L2 L many) (k : Below W.heap.size W W') : Txt w W' lo hi s lo2 hi2 s2 vo vp vw N p bf bm bi L1 L2 L many :=
  ⟨h.a.step k, h.b.step k, (h.o.below k (Nat.le_refl _)).mono k.size, (h.q.below k (Nat.le_refl _)).mono k.size, (h.r.below k (Nat.le_refl _)).mono k.size, h.v.sm (Sm.of_below k (by have := h.v.hi.2.2.2; omega)), h.m.below k h.m.lt⟩
theorem copies_body (bs : List UInt8) (x y : ActV) (many : Int) (w : World) (hlen : bs.length ≤ 9223372036854775807) :
    Calls Tryd.prog 7 #[.string ⟨bs.toArray⟩, .agg #[.bool x.f0, .int .i64 x.f1, .bool x.f2, .bool y.f0, .int .i64 y.f1, .bool y.f2], .int .i64 many] w fun e w' => e = .returned (.bool true) ∧ Below w.heap.size w w' := by
  have hfn := fun (fn : Fn) (x y : Array Value) (w : World) => run_eql_func_nil (P := Tryd.prog) Tryd.underlying61 fn x y w
  have HFN := Lib.hid hfn
  clear hfn
  obtain ⟨w0, hw0⟩ : ∃ w0, (w.alloc (.cells #[.bool x.f0, .int .i64 x.f1, .bool x.f2, .bool y.f0, .int .i64 y.f1, .bool y.f2] 59)).alloc (.cells #[.int .i64 many] 3) = w0 := ⟨_, rfl⟩
  have kb : Below w.heap.size w w0 := by rw [← hw0]; exact ((Below.refl _ w).alloc (Nat.le_refl _) _).alloc (by simp) _
  have hB : Blk w0 w.heap.size #[.bool x.f0, .int .i64 x.f1, .bool x.f2, .bool y.f0, .int .i64 y.f1, .bool y.f2] 59 := by rw [← hw0]; exact (Blk.new w _ _).alloc _
  have hM : Blk w0 (w.heap.size + 1) #[.int .i64 many] 3 := by rw [← hw0]; exact Blk.newAt _ _ _ (by simp)
  have zb := hM.lt
  have hsz : (⟨bs.toArray⟩ : ByteArray).size = bs.length := by simp [ByteArray.size]
  have HP := Lib.hid (fun (W : World) => rParse_ok bs W hlen)
  have HQ := Lib.hid (fun (W : World) => Parse_no ⟨bs.toArray⟩ W (by rw [hsz]; exact hlen))
  have HK := Lib.hid (fun (W : World) => Parse_ok ⟨bs.toArray⟩ W)
  obtain ⟨S, hS⟩ : ∃ S : ByteArray, (⟨bs.toArray⟩ : ByteArray) = S := ⟨_, rfl⟩
  have hdt : S.data.toList = bs := by rw [← hS]
  rw [hS] at HP HQ HK hsz ⊢
  clear hS
  by_cases hbad : allB bs = false ∨ 4096 < bs.length
  · have HB := Lib.hid (fun W => HQ.out W (by rw [hsz, hdt]; exact hbad))
    by_cases h3 : 300 < bs.length
    · have h3' : (300 : Int) < S.size := by omega
      clear hdt
      refine calls_of_wp_marks Tryd.func7 rfl ?_; simp only [Tryd.ntmps7, List.size_toArray, List.length_cons, List.length_nil, Nat.reduceAdd, Nat.reduceSub, Array.replicate_succ, Array.replicate_zero, List.push_toArray, List.append_toArray, List.nil_append, List.cons_append]
      go_wp2_with fail
      refine (HB.out _).mono ?_; rintro e w1 ⟨rfl, k1⟩
      replace kb := kb.trans (k1.mono kb.size)
      go_wp2_with fail
      refine (HP.out _).mono ?_; rintro e w2 ⟨⟨rfl, _⟩ | ⟨v, rfl, _, hn1, hn2⟩, k2⟩
      · replace kb := kb.trans (k2.mono kb.size)
        go_wp2_with fail
        refine (works_ok _).mono ?_; rintro e w9 ⟨rfl, k9⟩
        go_wp2_with fail
        exact postM_ret0 (results_tmp rfl _ _ _) ⟨rfl, kb.trans (k9.mono kb.size)⟩
      · exfalso
        rcases hbad with h | h
        · rw [h] at hn2; cases hn2
        · omega
    · have h3' : (S.size : Int) ≤ 300 := by omega
      clear hdt
      refine calls_of_wp_marks Tryd.func7 rfl ?_; simp only [Tryd.ntmps7, List.size_toArray, List.length_cons, List.length_nil, Nat.reduceAdd, Nat.reduceSub, Array.replicate_succ, Array.replicate_zero, List.push_toArray, List.append_toArray, List.nil_append, List.cons_append]
      go_wp2_with fail
      refine (HB.out _).mono ?_; rintro e w1 ⟨rfl, k1⟩
      replace kb := kb.trans (k1.mono kb.size)
      go_wp2_with fail
      refine (HP.out _).mono ?_; rintro e w2 ⟨⟨rfl, _⟩ | ⟨v, rfl, _, hn1, hn2⟩, k2⟩
      · replace kb := kb.trans (k2.mono kb.size)
        go_wp2_with fail
        refine (works_ok _).mono ?_; rintro e w9 ⟨rfl, k9⟩
        go_wp2_with fail
        exact postM_ret0 (results_tmp rfl _ _ _) ⟨rfl, kb.trans (k9.mono kb.size)⟩
      · exfalso
        rcases hbad with h | h
        · rw [h] at hn2; cases hn2
        · omega
  have hg1 : bs.length ≤ 4096 := by omega
  have hg2 : allB bs = true := by
    cases e : allB bs with
    | true => rfl
    | false => exact absurd (.inl e) hbad
  have hL := parB_len bs
  by_cases h3 : 300 < bs.length ∨ many < 1 ∨ 300 < many
  · have hsp : (300 < bs.length) ∨ (bs.length ≤ 300 ∧ many < 1) ∨ (bs.length ≤ 300 ∧ 1 ≤ many ∧ 300 < many) := by omega
    have hmz := hM.cell 0 rfl
    have HM := Lib.hid hM
    have HPP := Lib.hid (fun W => HK.out W (by omega) (by rw [hdt]; exact hg2))
    clear hdt hmz
    refine calls_of_wp_marks Tryd.func7 rfl ?_; simp only [Tryd.ntmps7, List.size_toArray, List.length_cons, List.length_nil, Nat.reduceAdd, Nat.reduceSub, Array.replicate_succ, Array.replicate_zero, List.push_toArray, List.append_toArray, List.nil_append, List.cons_append]
    go_wp2_with fail
    refine (HPP.out _).mono ?_; rintro e w1 ⟨s, lo, hi, rfl, hlo, hS1, k1⟩
    replace kb := kb.trans (k1.mono kb.size)
    have HM1 := Lib.hid (HM.out.below k1 HM.out.lt)
    clear hlo hS1 k1
    go_wp2_with fail
    refine (HP.out _).mono ?_; rintro e w2 ⟨⟨rfl, hno⟩ | ⟨v, rfl, ho2, _, _⟩, k2⟩
    · exfalso
      rcases hno with h | h
      · omega
      · rw [hg2] at h; cases h
    have c5 := (HM1.out.below k2 HM1.out.lt).cell 0 rfl
    replace kb := kb.trans (k2.mono kb.size)
    obtain ⟨va, vc, rfl, _⟩ := (RowAt.of_owns ho2 (Nat.le_refl _)).len
    clear ho2 k2
    rcases hsp with h | ⟨h, h'⟩ | ⟨h, h', h''⟩
    · have h3' : (300 : Int) < S.size := by omega
      go_wp2_with fail
      refine (works_ok _).mono ?_; rintro e w9 ⟨rfl, k9⟩
      go_wp2_with fail
      exact postM_ret0 (results_tmp rfl _ _ _) ⟨rfl, kb.trans (k9.mono kb.size)⟩
    · have h3' : (S.size : Int) ≤ 300 := by omega
      go_wp2_with fail
      refine (works_ok _).mono ?_; rintro e w9 ⟨rfl, k9⟩
      go_wp2_with fail
      exact postM_ret0 (results_tmp rfl _ _ _) ⟨rfl, kb.trans (k9.mono kb.size)⟩
    · have h3' : (S.size : Int) ≤ 300 := by omega
      go_wp2_with fail
      refine (works_ok _).mono ?_; rintro e w9 ⟨rfl, k9⟩
      go_wp2_with fail
      exact postM_ret0 (results_tmp rfl _ _ _) ⟨rfl, kb.trans (k9.mono kb.size)⟩
  have h3' : (S.size : Int) ≤ 300 := by omega
  have m1 : 1 ≤ many := by omega
  have m2 : many ≤ 300 := by omega
  refine calls_of_wp_marks Tryd.func7 rfl ?_; simp only [Tryd.ntmps7, List.size_toArray, List.length_cons, List.length_nil, Nat.reduceAdd, Nat.reduceSub, Array.replicate_succ, Array.replicate_zero, List.push_toArray, List.append_toArray, List.nil_append, List.cons_append]
  go_wp2_with fail
  refine (HK.out _ (by omega) (by rw [hdt]; exact hg2)).mono ?_; rintro e w1 ⟨s, lo, hi, rfl, hlo, hS1, k1⟩
  rw [hdt] at hS1
  go_wp2_with fail
  refine (HP.out _).mono ?_; rintro e w2 ⟨⟨rfl, hno⟩ | ⟨v, rfl, ho2, _, _⟩, k2⟩
  · exfalso
    rcases hno with h | h
    · omega
    · rw [hg2] at h; cases h
  obtain ⟨L, hLL⟩ : ∃ L, parB bs = L := ⟨_, rfl⟩
  rw [hLL] at hS1 ho2 hL
  have z0 := kb.size
  have z1 := k1.size
  have z2 := k2.size
  have hh1 := hS1.2.2.1
  have r1 : Run w.heap.size w w1 lo hi s L := ⟨hS1, kb.trans (k1.mono z0), by omega, by omega, by omega⟩
  have r2 := r1.step k2
  have hv2 : RowAt w2.heap.size w2 v L.length (bvals L) := by rw [hL]; exact RowAt.of_owns ho2 (Nat.le_refl _)
  have ho : OffV lo hi v := (FarV.of_owns ho2).off hh1
  have hbig := r2.few
  have b2 := (hB.below k1 hB.lt).below k2 (by omega)
  have n2 := (hM.below k1 hM.lt).below k2 (by omega)
  have c5 := n2.cell 0 rfl
  obtain ⟨va, vc, rfl, _⟩ := hv2.len
  have HR2 := Lib.hid r2
  have HV2 := Lib.hid hv2
  have HO := Lib.hid ho
  have HN2 := Lib.hid n2
  clear hL hS1 ho2 r1 r2 hv2 ho hbad hg1 hg2 hLL k1 HQ HK HP hdt hB hM kb hw0 h3 n2
  go_wp2_with fail
  refine (num_calls _ _).mono ?_; rintro e _ ⟨rfl, rfl⟩
  clear c5
  go_wp2_with fail
  refine (Copy_ok HR2.out.sh hbig).mono ?_; rintro e w3 ⟨c, rfl, hC, k3⟩
  have z3 := k3.size
  have HR3 := Lib.hid (HR2.out.step k3)
  have HC3 := Lib.hid (show Run w.heap.size w w3 w2.heap.size w3.heap.size c L from ⟨hC, HR3.out.bel, HR2.out.big, HR3.out.big, HR3.out.few⟩)
  have HV3 := Lib.hid (HV2.out.below k3 (Nat.le_refl _))
  have HV0 := Lib.hid (show OffV w2.heap.size w3.heap.size (.slice va L.length vc) from HV2.out.offLow (bvals_len _) (Nat.le_refl w2.heap.size))
  have b3 := b2.below k3 b2.lt
  have HN3 := Lib.hid (HN2.out.below k3 HN2.out.lt)
  clear hC k3 b2 HR2 HV2 HN2
  go_wp2_with fail
  refine (All_ok HR3.out.v).mono ?_; rintro e w4 ⟨p, bf, bm, bi, rfl, hQ, k4⟩
  have z4 := k4.size
  have HR4 := Lib.hid (HR3.out.step k4)
  have HC4 := Lib.hid (HC3.out.step k4)
  have HV4 := Lib.hid (((HV3.out.mono z3).below k4 (Nat.le_refl _)).mono z4)
  have HQ4 := Lib.hid hQ
  have b4 := b3.below k4 b3.lt
  have HN4 := Lib.hid (HN3.out.below k4 HN3.out.lt)
  have q0 := b4.cell 0 rfl
  have q1 := b4.cell 1 rfl
  have q2 := b4.cell 2 rfl
  clear k4 b3 hQ HR3 HC3 HV3 HN3
  go_wp2_with fail
  refine (act_ok HR4.out HV4.out HO.out x.f0 x.f1 x.f2).mono ?_; rintro e w5 ⟨s5, v5, lo5, hi5, rfl, hE⟩
  have hl5 := actL_len L x.f0 x.f1 x.f2
  obtain ⟨L5, hL5⟩ : ∃ L5, actL L x.f0 x.f1 x.f2 = L5 := ⟨_, rfl⟩
  rw [hL5] at hE hl5
  have HL5 := Lib.hid hl5
  have z5 := hE.tur.size
  have hT5 := hE.tur
  have b5 : Blk w5 w.heap.size #[.bool x.f0, .int .i64 x.f1, .bool x.f2, .bool y.f0, .int .i64 y.f1, .bool y.f2] 59 := b4.tur hT5 (.inl (by omega))
  have HN5 := Lib.hid (HN4.out.tur hT5 (.inl (by omega)))
  have HC5 := Lib.hid (HC4.out.turned hT5 (by omega) (.inr (by omega)))
  have HV5 := Lib.hid ((hT5.row HV4.out HO.out (bvals_len _)).mono z5)
  have HQ5 := Lib.hid (HQ4.out.turned hT5 (by omega))
  have hoff5 : OffV w2.heap.size w3.heap.size v5 := by
    rcases hE.val with rfl | h
    · exact HV0.out
    · exact h.off z4
  have HE5 := Lib.hid hE
  have HO5 := Lib.hid hoff5
  obtain ⟨pa, pc, rfl, _⟩ := hE.row.len
  have q3 := b5.cell 3 rfl
  have q4 := b5.cell 4 rfl
  have q5 := b5.cell 5 rfl
  have hrng := hE.rng
  clear hE hT5 hoff5 b4 q0 q1 q2 HR4 HV4 HQ4 HC4 hL5 hl5 HN4
  go_wp2_with fail
  refine (act_ok HC5.out HV5.out HV0.out y.f0 y.f1 y.f2).mono ?_; rintro e w6 ⟨s6, v6, lo6, hi6, rfl, hE⟩
  obtain ⟨L6, hL6⟩ : ∃ L6, actL L y.f0 y.f1 y.f2 = L6 := ⟨_, rfl⟩
  rw [hL6] at hE
  have z6 := hE.tur.size
  have hT6 := hE.tur
  have hA6 : Run w.heap.size w w6 lo5 hi5 s5 L5 := by
    refine HE5.out.run.turned hT6 (by omega) ?_
    rcases hrng with ⟨rfl, rfl⟩ | h
    · exact .inl (by omega)
    · exact .inr (by omega)
  have hQ6 := HQ5.out.turned hT6 (Nat.le_refl _)
  have HT := Lib.hid (show Txt w w6 lo5 hi5 s5 lo6 hi6 s6 (.slice pa L5.length pc) v6 (.slice va L.length vc) w4.heap.size p bf bm bi L5 L6 L many from
    ⟨hA6, hE.run, (hT6.row HE5.out.row HO5.out (bvals_len _)).mono z6, hE.row, (hT6.row HV5.out HV0.out (bvals_len _)).mono z6, hQ6.weak (by omega), HN5.out.tur hT6 (.inl (by omega))⟩)
  obtain ⟨qa, qc, rfl, _⟩ := hE.row.len
  have hf5 := HE5.out.run.few
  have hf6 := hE.run.few
  have zw : w.heap.size ≤ w6.heap.size := by omega
  have zn : w4.heap.size ≤ w6.heap.size := by omega
  clear hE hT6 hQ6 hA6 hrng b5 q3 q4 q5 hL6 HE5 HO5 HC5 HV5 HQ5 HV0 HO HN5 z0 z1 z2 z3 z5 z6 hlo hh1 zb
  obtain ⟨N, hN⟩ : ∃ N, w4.heap.size = N := ⟨_, rfl⟩
  rw [hN] at HT zn
  clear z4 hN
  obtain ⟨d, hd⟩ : ∃ d, decide (L5 = L6) = d := ⟨_, rfl⟩
  have hd2 : decide (L6 = L5) = d := by rw [← hd]; exact decide_eq_decide.2 eq_comm
  have HD1 := Lib.hid hd
  have HD2 := Lib.hid hd2
  clear hd hd2 HL5
  go_wp2_with fail
  refine (is_ok HT.out.a HT.out.o).mono ?_; rintro e w9 ⟨rfl, k9⟩
  have HT9 := Lib.hid (HT.out.step k9)
  replace zw := Nat.le_trans zw k9.size
  replace zn := Nat.le_trans zn k9.size
  clear HT k9
  go_wp2_with fail
  refine (is_ok HT9.out.b HT9.out.q).mono ?_; rintro e u1 ⟨rfl, j1⟩
  have HU1 := Lib.hid (HT9.out.step j1)
  replace zw := Nat.le_trans zw j1.size
  replace zn := Nat.le_trans zn j1.size
  clear HT9 j1
  go_wp2_with fail
  refine (Same_ok HU1.out.a.sh HU1.out.b.sh hf5 hf6).mono ?_; rintro e u2 ⟨rfl, j2⟩
  have HU2 := Lib.hid (HU1.out.step j2)
  replace zw := Nat.le_trans zw j2.size
  replace zn := Nat.le_trans zn j2.size
  rw [HD1.out]
  clear HU1 j2
  go_wp2_with fail
  refine (rSame_ok _ _ L5 L6 _ _ (Nat.le_refl _) hf5 hf6 HU2.out.o HU2.out.q).mono ?_; rintro e u3 ⟨rfl, j3⟩
  have HU3 := Lib.hid (HU2.out.step j3)
  replace zw := Nat.le_trans zw j3.size
  replace zn := Nat.le_trans zn j3.size
  rw [HD1.out]
  clear HU2 j3
  go_wp2_with fail
  refine (Same_ok HU3.out.b.sh HU3.out.a.sh hf6 hf5).mono ?_; rintro e u4 ⟨rfl, j4⟩
  have HU4 := Lib.hid (HU3.out.step j4)
  replace zw := Nat.le_trans zw j4.size
  replace zn := Nat.le_trans zn j4.size
  rw [HD2.out]
  clear HU3 j4
  go_wp2_with fail
  refine (rSame_ok _ _ L5 L6 _ _ (Nat.le_refl _) hf5 hf6 HU4.out.o HU4.out.q).mono ?_; rintro e u5 ⟨rfl, j5⟩
  have HU5 := Lib.hid (HU4.out.step j5)
  replace zw := Nat.le_trans zw j5.size
  replace zn := Nat.le_trans zn j5.size
  rw [HD1.out]
  clear HU4 j5
  have hfn := HFN.out
  go_wp2_with fail
  clear hfn
  obtain ⟨lb, hlb⟩ : ∃ lb, u5.heap.size = lb := ⟨_, rfl⟩
  obtain ⟨U, hU⟩ : ∃ U, U = u5.alloc (.cells #[.slice none 0 0] 51) := ⟨_, rfl⟩
  rw [← hU, hlb]
  have bU : Blk U lb #[.slice none 0 0] 51 := by rw [hU, ← hlb]; exact Blk.new _ _ _
  have kU : Below lb u5 U := by rw [hU, ← hlb]; exact (Below.refl _ _).alloc (Nat.le_refl _) _
  have zU : U.heap.size = lb + 1 := by rw [hU]; simp [hlb]
  obtain ⟨ra, rb, r3, r4, r5, hV, hmb⟩ := HU5.out
  have hml := hmb.lt
  have hbl := ra.bel
  rw [hlb] at r5 zw zn hml
  clear hU ra rb r3 r4 HU5
  have hV1 : ∀ W, Below lb u5 W → AllV w.heap.size N W p bf bm bi L := fun W k => hV.sm (Sm.of_below k zn)
  have HVA := Lib.hid hV1
  have hle := sucL_le L 0 true
  clear hV hV1
  refine wp_rangeS1 rfl (enters_of Tryd.func53 (by kernel_rfl) rfl) (such_iter p L 0 true bf bm bi (by decide)).toS (fun _ => rfl)
    (fun hi pre W => ∃ v, Blk W lb #[v] 51 ∧ W.ownsRow hi 3 1 v pre.length (intVals .i64 pre) ∧ Below lb u5 W ∧ lb + 1 ≤ W.heap.size ∧ lb + 1 ≤ hi ∧ (pre.length : Int) < many)
    (fun c W => c = .exit 0 ∧ ∃ v pre suf, sucL L 0 true = pre ++ suf ∧ (pre.length : Int) = many ∧ Blk W lb #[v] 51 ∧ W.ownsRow (lb + 1) 3 1 v pre.length (intVals .i64 pre) ∧ Below lb u5 W ∧ lb + 1 ≤ W.heap.size) ?a1 ?ha ?hI ?hIx ?hA ?h0 ?hbody ?hdone ?hstop
  case ha => intro m l x W K hK; gi_wp2; exact hK
  case hI => rintro hi pre X Y ⟨v, h1, h2, h3, h4, h5, h6⟩ hk; exact ⟨v, h1.keeps hk, owns_keeps h2 hk, h3.keeps hk (by omega), Nat.le_trans h4 hk.size, h5, h6⟩
  case hIx => rintro c X Y ⟨hc, v, pre, suf, h1, h2, h3, h4, h5, h6⟩ hk; exact ⟨hc, v, pre, suf, h1, h2, h3.keeps hk, owns_keeps h4 hk, h5.keeps hk (by omega), Nat.le_trans h6 hk.size⟩
  case hA => rintro hi pre W ⟨v, h1, h2, h3, h4, h5, h6⟩; have hV2 := HVA.out W h3; exact ⟨hV2.f.cell 0 rfl, hV2.m.cell 0 rfl, hV2.i.cell 0 rfl, hV2.own.v⟩
  case h0 => intro hi hh; exact ⟨_, bU, World.ownsRow_nil _ _ _ _, kU, by omega, by omega, by simp; omega⟩
  case hbody =>
    rintro m lp hi pre y suf W hxs hlp hrec hhi hhW ⟨v, h1, h2, h3, h4, h5, h6⟩
    have hpl : pre.length ≤ 300 := by omega
    have c1 : W.cell? ⟨lb, 0, none⟩ = some v := h1.cell 0 rfl
    have hrl := Lib.hid (intVals_len .i64 pre)
    gi_wp2_with (gi_at_builtin; refine wpListIn_append_row rfl _ _ 51 rfl hi Tryd.underlying51 info64 pre.length (intVals .i64 pre) rfl ?c1 (W.heap.size + 1) 1 [.int .i64 y] rfl ?c2 ?c3 ?c4 ?c5 ?c6 ?c7 ?_)
    case c1 => exact h2.alloc _
    case c2 => exact RowAt.lit W #[.int .i64 y] 3 1 _ (by omega)
    case c3 => rfl
    case c4 => intro u hu; simp at hu; rcases hu with rfl; rfl
    case c5 => unfold maxLen; omega
    case c6 => omega
    case c7 => simp; omega
    intro v' W' ho hg
    have hbh : Below hi W W' := ((Below.refl hi W).alloc hhW (.cells #[.int .i64 y] 3)).appended (h2.alloc _) hg (Nat.le_refl _) (by simp; omega)
    have hb' : Below lb u5 W' := h3.trans (hbh.mono (by omega))
    have g1 := h1.below hbh (by omega)
    have hz' : lb + 1 ≤ W'.heap.size := by have := hbh.size; omega
    have hsm : Sm U.heap.size hi W W' := Sm.of_below hbh (Nat.le_refl _)
    have cm : W'.cell? ⟨w.heap.size + 1, 0, none⟩ = some (.int .i64 many) := (hmb.below hb' hml).cell 0 rfl
    have ho' : W'.ownsRow hi 3 1 v' (pre ++ [y]).length (intVals .i64 (pre ++ [y])) := by
      rw [List.length_append]; simpa [intVals] using ho
    clear hg c1 ho hbh
    obtain ⟨g, cp, rfl, hgh, hgl⟩ := World.ownsRow.form ho' (by simp)
    rw [show (pre ++ [y]).length = pre.length + 1 by simp] at ho' ⊢
    have f1 := g1.frozen 0
    have c1 : W'.cell? ⟨lb, 0, none⟩ = some v := g1.cell 0 rfl
    have hso := ownsRow_setCell_below ho' (a := ⟨lb, 0, none⟩) (by dsimp only; omega) (.slice (some ⟨g, 0, none⟩) (pre.length + 1) cp)
    have HSO := Lib.hid hso
    clear hso
    gi_wp2_with fail
    · have ht : many ≤ (pre.length : Int) + 1 := by assumption
      refine ⟨hsm.setCell _ (Or.inr (by dsimp only; omega)) _, rfl, _, pre ++ [y], suf, by rw [hxs]; simp, by simp; omega, g1.set 0 _, ?_, hb'.setCell (p := ⟨lb, 0, none⟩) (Nat.le_refl _) _, by simpa using hz'⟩
      have := HSO.out
      rw [show (pre ++ [y]).length = pre.length + 1 by simp]
      exact owns_weaken this (by omega)
    · have ht : (pre.length : Int) + 1 < many := by assumption
      refine ⟨hsm.setCell _ (Or.inr (by dsimp only; omega)) _, _, g1.set 0 _, ?_, hb'.setCell (p := ⟨lb, 0, none⟩) (Nat.le_refl _) _, by simpa using hz', h5, by simp; omega⟩
      have := HSO.out
      rw [show (pre ++ [y]).length = pre.length + 1 by simp]
      exact this
  case hdone =>
    rintro D W hi hD ⟨v, h1, h2, h3, h4, h5, h6⟩ hK
    obtain ⟨T, hT⟩ : ∃ T, sucL L 0 true = T := ⟨_, rfl⟩
    rw [hT] at h2 h6
    have hTl : T.length = min many.toNat (sucL L 0 true).length := by rw [hT]; omega
    have htk : T = (sucL L 0 true).take T.length := by rw [hT, List.take_length]
    clear hT
    have c1 : W.cell? ⟨lb, 0, none⟩ = some v := h1.cell 0 rfl
    have rw1 : RowAt W.heap.size W (.slice va L.length vc) L.length (bvals L) := (r5.below h3 (Nat.le_refl _)).mono (by omega)
    have bm1 := hmb.below h3 hml
    have cm : W.cell? ⟨w.heap.size + 1, 0, none⟩ = some (.int .i64 many) := bm1.cell 0 rfl
    have rv : RowAt W.heap.size W v T.length (intVals .i64 T) := RowAt.of_owns h2 (Nat.le_refl _)
    obtain ⟨oa, oc, rfl, _⟩ := rv.len
    have HRW := Lib.hid rw1
    have HRV := Lib.hid rv
    have kd : Below W.heap.size W W.drew := (Below.refl _ W).drew
    clear h2 rv rw1
    go_wp2_with fail
    refine (Places_ok (.slice va L.length vc) L W.heap.size true W (Nat.le_refl _) (by omega) HRW.out).mono ?_; rintro e x1 ⟨v1, rfl, o1, k1⟩
    have rp := RowAt.of_owns o1 (Nat.le_refl _)
    have hpl := hTl
    obtain ⟨P, hP⟩ : ∃ P, sucL L 0 true = P := ⟨_, rfl⟩
    rw [hP] at rp hpl htk hle
    obtain ⟨pa', pc', rfl, hpc⟩ := rp.len'
    have HPC := Lib.hid hpc
    clear hpc
    have HRP := Lib.hid rp
    have HRV1 := Lib.hid (HRV.out.below k1 (Nat.le_refl _))
    have l1 := h1.below k1 h1.lt
    have c1' : x1.cell? ⟨lb, 0, none⟩ = some (.slice oa T.length oc) := l1.cell 0 rfl
    have cm' : x1.cell? ⟨w.heap.size + 1, 0, none⟩ = some (.int .i64 many) := (bm1.below k1 bm1.lt).cell 0 rfl
    have kz := k1.size
    have HK1 := Lib.hid k1
    clear HRV HRW k1 c1 cm rp hP o1 kd
    go_wp2_with fail
    have hq1 : min many (P.length : Int) = (T.length : Int) := by omega
    obtain ⟨hrs, hrq⟩ := slice_head (P := Tryd.prog) (t := 51) (s := 1) Tryd.underlying51 (fun w => by kernel_rfl) HRP.out T.length (by omega)
    have hiv : (intVals .i64 P).take (T.length * 1) = intVals .i64 T := by rw [Nat.mul_one]; exact (intVals_take P T htk).symm
    rw [hiv] at hrq
    clear hiv
    have HRQ := Lib.hid hrq
    have HRS := Lib.hid hrs
    clear hrq hrs
    have HQ1 := Lib.hid hq1
    have HTl := Lib.hid hpl
    have HTk := Lib.hid htk
    have HLE := Lib.hid hle
    clear hq1 hpl htk hTl hle
    refine wp_onlyN ?_
    refine wp_region_held_drew (S := fun Y => Y.cell? ⟨lb, 0, none⟩ = some (.slice oa T.length oc) ∧ Y.cell? ⟨w.heap.size + 1, 0, none⟩ = some (.int .i64 many)) (by kernel_rfl) ⟨c1', cm'⟩ (fun hHeld => ?_)
    refine wpAnyH_take (i := 0) (v := ?_) rfl (by kernel_rfl) (by kernel_rfl) (by kernel_rfl) (fun _ _ _ h => h) (Or.inl ⟨by rfl, ?_⟩) (by assumption) ?_
    rotate_left
    · (intro Y hSw; (try dsimp only at hSw); obtain ⟨hS0, hS1⟩ := hSw; go_simp; try with_reducible rfl)
    try simp only [Act.put, List.getElem_toArray, List.getElem_cons_zero, List.getElem_cons_succ, List.setIfInBounds_toArray, List.set_cons_zero, List.set_cons_succ]
    refine wpAnyH_take (i := 1) (v := ?_) rfl (by kernel_rfl) (by kernel_rfl) (by kernel_rfl) (fun _ _ _ h => h) (Or.inl ⟨by rfl, ?_⟩) (by assumption) ?_
    rotate_left
    · (intro Y hSw; (try dsimp only at hSw); obtain ⟨hS0, hS1⟩ := hSw; go_simp; try with_reducible rfl)
    try simp only [Act.put, List.getElem_toArray, List.getElem_cons_zero, List.getElem_cons_succ, List.setIfInBounds_toArray, List.set_cons_zero, List.set_cons_succ]
    refine wpAnyH_take (i := 2) (v := ?_) rfl (by kernel_rfl) (by kernel_rfl) (by kernel_rfl) (fun _ _ _ h => h) (Or.inl ⟨by rfl, ?_⟩) (by assumption) ?_
    rotate_left
    · (intro Y hSw; (try dsimp only at hSw); obtain ⟨hS0, hS1⟩ := hSw; go_simp; try with_reducible rfl)
    try simp only [Act.put, List.getElem_toArray, List.getElem_cons_zero, List.getElem_cons_succ, List.setIfInBounds_toArray, List.set_cons_zero, List.set_cons_succ]
    refine wpAnyH_take (i := 3) (v := ?_) rfl (by kernel_rfl) (by kernel_rfl) (by kernel_rfl) (fun _ _ _ h => h) (Or.inl ⟨by rfl, ?_⟩) (by assumption) ?_
    rotate_left
    · (intro Y hSw; (try dsimp only at hSw); obtain ⟨hS0, hS1⟩ := hSw; go_simp; try with_reducible rfl)
    try simp only [Act.put, List.getElem_toArray, List.getElem_cons_zero, List.getElem_cons_succ, List.setIfInBounds_toArray, List.set_cons_zero, List.set_cons_succ]
    refine wpAnyH_take (i := 4) (v := ?_) rfl (by kernel_rfl) (by kernel_rfl) (by kernel_rfl) (fun _ _ _ h => h) (Or.inl ⟨by rfl, ?_⟩) (by assumption) ?_
    rotate_left
    · (intro Y hSw; (try dsimp only at hSw); obtain ⟨hS0, hS1⟩ := hSw; go_simp; try with_reducible rfl)
    try simp only [Act.put, List.getElem_toArray, List.getElem_cons_zero, List.getElem_cons_succ, List.setIfInBounds_toArray, List.set_cons_zero, List.set_cons_succ]
    refine wpAnyH_take (i := 5) (v := .int .i64 (T.length : Int)) rfl (by kernel_rfl) (by kernel_rfl) (by kernel_rfl) (fun _ _ _ h => h) (Or.inl ⟨by rfl, by intro Y hSw; go_simp; exact HQ1.out⟩) (by assumption) ?_
    try simp only [Act.put, List.getElem_toArray, List.getElem_cons_zero, List.getElem_cons_succ, List.setIfInBounds_toArray, List.set_cons_zero, List.set_cons_succ]
    refine wpAnyH_take (i := 6) (v := .slice pa' T.length pc') rfl (by kernel_rfl) (by kernel_rfl) (by kernel_rfl) (fun _ _ _ h => h) (Or.inl ⟨by rfl, by intro Y hSw; go_simp; intro h9; exfalso; have := HTl.out; have := HPC.out; omega⟩) (by assumption) ?_
    try simp only [Act.put, List.getElem_toArray, List.getElem_cons_zero, List.getElem_cons_succ, List.setIfInBounds_toArray, List.set_cons_zero, List.set_cons_succ]
    refine wpAnyH_ready (rs := [7]) (by kernel_rfl) (by simp) ?_
    refine AllReadyH.cons rfl (fun K hK => ?_) AllReadyH.nil
    go_simp
    refine (ints_ok _ _ T W.heap.size x1.heap.size x1.drew (by have := HTl.out; have := HLE.out; omega) (HRV1.out.below (Below.refl _ x1).drew kz) (HRQ.out.below (Below.refl _ x1).drew (Nat.le_refl _)) kz (Nat.le_refl _)).mono ?_; rintro e x2 ⟨rfl, k2⟩
    have K2 : Below x1.heap.size x1 x2 := (Below.refl _ x1).drew.trans k2
    have b2 := l1.below K2 l1.lt
    have n2 := (bm1.below HK1.out bm1.lt).below K2 (Nat.lt_of_lt_of_le bm1.lt kz)
    clear k2 HRQ HRV1
    go_simp
    refine hK.out _ _ (⟨b2.cell 0 rfl, n2.cell 0 rfl⟩) (fun hHeld => ?_)
    clear hK K
    try simp only [Act.put, List.getElem_toArray, List.getElem_cons_zero, List.getElem_cons_succ, List.setIfInBounds_toArray, List.set_cons_zero, List.set_cons_succ]
    refine wpAnyH_take (i := 8) (v := ?_) rfl (by kernel_rfl) (by kernel_rfl) (by kernel_rfl) (fun _ _ _ h => h) (Or.inl ⟨by rfl, ?_⟩) (by assumption) ?_
    rotate_left
    · (intro Y hSw; (try dsimp only at hSw); obtain ⟨hS0, hS1⟩ := hSw; go_simp; try with_reducible rfl)
    try simp only [Act.put, List.getElem_toArray, List.getElem_cons_zero, List.getElem_cons_succ, List.setIfInBounds_toArray, List.set_cons_zero, List.set_cons_succ]
    refine wpAnyH_ready (rs := [9]) (by kernel_rfl) (by simp) ?_
    refine AllReadyH.cons rfl (fun K hK => ?_) AllReadyH.nil
    go_simp
    refine (works_ok x2).mono ?_; rintro e x3 ⟨rfl, k3⟩
    have K3 := K2.trans (k3.mono K2.size)
    have b3 := b2.below k3 b2.lt
    have n3 := n2.below k3 n2.lt
    clear k3
    go_simp
    refine hK.out _ _ (⟨b3.cell 0 rfl, n3.cell 0 rfl⟩) (fun hHeld => ?_)
    clear hK K
    try simp only [Act.put, List.getElem_toArray, List.getElem_cons_zero, List.getElem_cons_succ, List.setIfInBounds_toArray, List.set_cons_zero, List.set_cons_succ]
    refine wpAnyH_take (i := 10) (v := ?_) rfl (by kernel_rfl) (by kernel_rfl) (by kernel_rfl) (fun _ _ _ h => h) (Or.inl ⟨by rfl, ?_⟩) (by assumption) ?_
    rotate_left
    · (intro Y hSw; (try dsimp only at hSw); obtain ⟨hS0, hS1⟩ := hSw; go_simp; try with_reducible rfl)
    try simp only [Act.put, List.getElem_toArray, List.getElem_cons_zero, List.getElem_cons_succ, List.setIfInBounds_toArray, List.set_cons_zero, List.set_cons_succ]
    refine wpAnyH_take (i := 11) (v := ?_) rfl (by kernel_rfl) (by kernel_rfl) (by kernel_rfl) (fun _ _ _ h => h) (Or.inl ⟨by rfl, ?_⟩) (by assumption) ?_
    rotate_left
    · (intro Y hSw; (try dsimp only at hSw); obtain ⟨hS0, hS1⟩ := hSw; go_simp; try with_reducible rfl)
    try simp only [Act.put, List.getElem_toArray, List.getElem_cons_zero, List.getElem_cons_succ, List.setIfInBounds_toArray, List.set_cons_zero, List.set_cons_succ]
    refine wpAnyH_done (by kernel_rfl) ?_ _
    rw [onlyN_normal]
    go_wp2_with fail
    have K4 := HK1.out.trans (K3.mono HK1.out.size)
    have hK3 : x3.heap[D]? = some (.deferred (some [])) := (K4.block D (Array.getElem?_eq_some_iff.1 hK).1).trans hK
    have hall : Below w.heap.size w x3 := hbl.trans ((h3.trans (K4.mono (by omega))).mono zw)
    exact postM_ret hK3 (results_tmp rfl _ _ _) ⟨rfl, below_putObj hall (by omega) _ (Array.getElem?_eq_some_iff.1 hK3).1⟩
  case hstop =>
    rintro D c W hD ⟨rfl, v, T, suf, h0, h6, h1, h2, h3, h4⟩ hK
    have hTl : T.length = min many.toNat (sucL L 0 true).length := by rw [h0, List.length_append]; omega
    have htk : T = (sucL L 0 true).take T.length := by rw [h0, List.take_left]
    clear h0 h6
    have c1 : W.cell? ⟨lb, 0, none⟩ = some v := h1.cell 0 rfl
    have rw1 : RowAt W.heap.size W (.slice va L.length vc) L.length (bvals L) := (r5.below h3 (Nat.le_refl _)).mono (by omega)
    have bm1 := hmb.below h3 hml
    have cm : W.cell? ⟨w.heap.size + 1, 0, none⟩ = some (.int .i64 many) := bm1.cell 0 rfl
    have rv : RowAt W.heap.size W v T.length (intVals .i64 T) := RowAt.of_owns h2 (Nat.le_refl _)
    obtain ⟨oa, oc, rfl, _⟩ := rv.len
    have HRW := Lib.hid rw1
    have HRV := Lib.hid rv
    have kd : Below W.heap.size W W.drew := (Below.refl _ W).drew
    clear h2 rv rw1
    go_wp2_with fail
    refine (Places_ok (.slice va L.length vc) L W.heap.size true W (Nat.le_refl _) (by omega) HRW.out).mono ?_; rintro e x1 ⟨v1, rfl, o1, k1⟩
    have rp := RowAt.of_owns o1 (Nat.le_refl _)
    have hpl := hTl
    obtain ⟨P, hP⟩ : ∃ P, sucL L 0 true = P := ⟨_, rfl⟩
    rw [hP] at rp hpl htk hle
    obtain ⟨pa', pc', rfl, hpc⟩ := rp.len'
    have HPC := Lib.hid hpc
    clear hpc
    have HRP := Lib.hid rp
    have HRV1 := Lib.hid (HRV.out.below k1 (Nat.le_refl _))
    have l1 := h1.below k1 h1.lt
    have c1' : x1.cell? ⟨lb, 0, none⟩ = some (.slice oa T.length oc) := l1.cell 0 rfl
    have cm' : x1.cell? ⟨w.heap.size + 1, 0, none⟩ = some (.int .i64 many) := (bm1.below k1 bm1.lt).cell 0 rfl
    have kz := k1.size
    have HK1 := Lib.hid k1
    clear HRV HRW k1 c1 cm rp hP o1 kd
    go_wp2_with fail
    have hq1 : min many (P.length : Int) = (T.length : Int) := by omega
    obtain ⟨hrs, hrq⟩ := slice_head (P := Tryd.prog) (t := 51) (s := 1) Tryd.underlying51 (fun w => by kernel_rfl) HRP.out T.length (by omega)
    have hiv : (intVals .i64 P).take (T.length * 1) = intVals .i64 T := by rw [Nat.mul_one]; exact (intVals_take P T htk).symm
    rw [hiv] at hrq
    clear hiv
    have HRQ := Lib.hid hrq
    have HRS := Lib.hid hrs
    clear hrq hrs
    have HQ1 := Lib.hid hq1
    have HTl := Lib.hid hpl
    have HTk := Lib.hid htk
    have HLE := Lib.hid hle
    clear hq1 hpl htk hTl hle
    refine wp_onlyN ?_
    refine wp_region_held_drew (S := fun Y => Y.cell? ⟨lb, 0, none⟩ = some (.slice oa T.length oc) ∧ Y.cell? ⟨w.heap.size + 1, 0, none⟩ = some (.int .i64 many)) (by kernel_rfl) ⟨c1', cm'⟩ (fun hHeld => ?_)
    refine wpAnyH_take (i := 0) (v := ?_) rfl (by kernel_rfl) (by kernel_rfl) (by kernel_rfl) (fun _ _ _ h => h) (Or.inl ⟨by rfl, ?_⟩) (by assumption) ?_
    rotate_left
    · (intro Y hSw; (try dsimp only at hSw); obtain ⟨hS0, hS1⟩ := hSw; go_simp; try with_reducible rfl)
    try simp only [Act.put, List.getElem_toArray, List.getElem_cons_zero, List.getElem_cons_succ, List.setIfInBounds_toArray, List.set_cons_zero, List.set_cons_succ]
    refine wpAnyH_take (i := 1) (v := ?_) rfl (by kernel_rfl) (by kernel_rfl) (by kernel_rfl) (fun _ _ _ h => h) (Or.inl ⟨by rfl, ?_⟩) (by assumption) ?_
    rotate_left
    · (intro Y hSw; (try dsimp only at hSw); obtain ⟨hS0, hS1⟩ := hSw; go_simp; try with_reducible rfl)
    try simp only [Act.put, List.getElem_toArray, List.getElem_cons_zero, List.getElem_cons_succ, List.setIfInBounds_toArray, List.set_cons_zero, List.set_cons_succ]
    refine wpAnyH_take (i := 2) (v := ?_) rfl (by kernel_rfl) (by kernel_rfl) (by kernel_rfl) (fun _ _ _ h => h) (Or.inl ⟨by rfl, ?_⟩) (by assumption) ?_
    rotate_left
    · (intro Y hSw; (try dsimp only at hSw); obtain ⟨hS0, hS1⟩ := hSw; go_simp; try with_reducible rfl)
    try simp only [Act.put, List.getElem_toArray, List.getElem_cons_zero, List.getElem_cons_succ, List.setIfInBounds_toArray, List.set_cons_zero, List.set_cons_succ]
    refine wpAnyH_take (i := 3) (v := ?_) rfl (by kernel_rfl) (by kernel_rfl) (by kernel_rfl) (fun _ _ _ h => h) (Or.inl ⟨by rfl, ?_⟩) (by assumption) ?_
    rotate_left
    · (intro Y hSw; (try dsimp only at hSw); obtain ⟨hS0, hS1⟩ := hSw; go_simp; try with_reducible rfl)
    try simp only [Act.put, List.getElem_toArray, List.getElem_cons_zero, List.getElem_cons_succ, List.setIfInBounds_toArray, List.set_cons_zero, List.set_cons_succ]
    refine wpAnyH_take (i := 4) (v := ?_) rfl (by kernel_rfl) (by kernel_rfl) (by kernel_rfl) (fun _ _ _ h => h) (Or.inl ⟨by rfl, ?_⟩) (by assumption) ?_
    rotate_left
    · (intro Y hSw; (try dsimp only at hSw); obtain ⟨hS0, hS1⟩ := hSw; go_simp; try with_reducible rfl)
    try simp only [Act.put, List.getElem_toArray, List.getElem_cons_zero, List.getElem_cons_succ, List.setIfInBounds_toArray, List.set_cons_zero, List.set_cons_succ]
    refine wpAnyH_take (i := 5) (v := .int .i64 (T.length : Int)) rfl (by kernel_rfl) (by kernel_rfl) (by kernel_rfl) (fun _ _ _ h => h) (Or.inl ⟨by rfl, by intro Y hSw; go_simp; exact HQ1.out⟩) (by assumption) ?_
    try simp only [Act.put, List.getElem_toArray, List.getElem_cons_zero, List.getElem_cons_succ, List.setIfInBounds_toArray, List.set_cons_zero, List.set_cons_succ]
    refine wpAnyH_take (i := 6) (v := .slice pa' T.length pc') rfl (by kernel_rfl) (by kernel_rfl) (by kernel_rfl) (fun _ _ _ h => h) (Or.inl ⟨by rfl, by intro Y hSw; go_simp; intro h9; exfalso; have := HTl.out; have := HPC.out; omega⟩) (by assumption) ?_
    try simp only [Act.put, List.getElem_toArray, List.getElem_cons_zero, List.getElem_cons_succ, List.setIfInBounds_toArray, List.set_cons_zero, List.set_cons_succ]
    refine wpAnyH_ready (rs := [7]) (by kernel_rfl) (by simp) ?_
    refine AllReadyH.cons rfl (fun K hK => ?_) AllReadyH.nil
    go_simp
    refine (ints_ok _ _ T W.heap.size x1.heap.size x1.drew (by have := HTl.out; have := HLE.out; omega) (HRV1.out.below (Below.refl _ x1).drew kz) (HRQ.out.below (Below.refl _ x1).drew (Nat.le_refl _)) kz (Nat.le_refl _)).mono ?_; rintro e x2 ⟨rfl, k2⟩
    have K2 : Below x1.heap.size x1 x2 := (Below.refl _ x1).drew.trans k2
    have b2 := l1.below K2 l1.lt
    have n2 := (bm1.below HK1.out bm1.lt).below K2 (Nat.lt_of_lt_of_le bm1.lt kz)
    clear k2 HRQ HRV1
    go_simp
    refine hK.out _ _ (⟨b2.cell 0 rfl, n2.cell 0 rfl⟩) (fun hHeld => ?_)
    clear hK K
    try simp only [Act.put, List.getElem_toArray, List.getElem_cons_zero, List.getElem_cons_succ, List.setIfInBounds_toArray, List.set_cons_zero, List.set_cons_succ]
    refine wpAnyH_take (i := 8) (v := ?_) rfl (by kernel_rfl) (by kernel_rfl) (by kernel_rfl) (fun _ _ _ h => h) (Or.inl ⟨by rfl, ?_⟩) (by assumption) ?_
    rotate_left
    · (intro Y hSw; (try dsimp only at hSw); obtain ⟨hS0, hS1⟩ := hSw; go_simp; try with_reducible rfl)
    try simp only [Act.put, List.getElem_toArray, List.getElem_cons_zero, List.getElem_cons_succ, List.setIfInBounds_toArray, List.set_cons_zero, List.set_cons_succ]
    refine wpAnyH_ready (rs := [9]) (by kernel_rfl) (by simp) ?_
    refine AllReadyH.cons rfl (fun K hK => ?_) AllReadyH.nil
    go_simp
    refine (works_ok x2).mono ?_; rintro e x3 ⟨rfl, k3⟩
    have K3 := K2.trans (k3.mono K2.size)
    have b3 := b2.below k3 b2.lt
    have n3 := n2.below k3 n2.lt
    clear k3
    go_simp
    refine hK.out _ _ (⟨b3.cell 0 rfl, n3.cell 0 rfl⟩) (fun hHeld => ?_)
    clear hK K
    try simp only [Act.put, List.getElem_toArray, List.getElem_cons_zero, List.getElem_cons_succ, List.setIfInBounds_toArray, List.set_cons_zero, List.set_cons_succ]
    refine wpAnyH_take (i := 10) (v := ?_) rfl (by kernel_rfl) (by kernel_rfl) (by kernel_rfl) (fun _ _ _ h => h) (Or.inl ⟨by rfl, ?_⟩) (by assumption) ?_
    rotate_left
    · (intro Y hSw; (try dsimp only at hSw); obtain ⟨hS0, hS1⟩ := hSw; go_simp; try with_reducible rfl)
    try simp only [Act.put, List.getElem_toArray, List.getElem_cons_zero, List.getElem_cons_succ, List.setIfInBounds_toArray, List.set_cons_zero, List.set_cons_succ]
    refine wpAnyH_take (i := 11) (v := ?_) rfl (by kernel_rfl) (by kernel_rfl) (by kernel_rfl) (fun _ _ _ h => h) (Or.inl ⟨by rfl, ?_⟩) (by assumption) ?_
    rotate_left
    · (intro Y hSw; (try dsimp only at hSw); obtain ⟨hS0, hS1⟩ := hSw; go_simp; try with_reducible rfl)
    try simp only [Act.put, List.getElem_toArray, List.getElem_cons_zero, List.getElem_cons_succ, List.setIfInBounds_toArray, List.set_cons_zero, List.set_cons_succ]
    refine wpAnyH_done (by kernel_rfl) ?_ _
    rw [onlyN_normal]
    go_wp2_with fail
    have K4 := HK1.out.trans (K3.mono HK1.out.size)
    have hK3 : x3.heap[D]? = some (.deferred (some [])) := (K4.block D (Array.getElem?_eq_some_iff.1 hK).1).trans hK
    have hall : Below w.heap.size w x3 := hbl.trans ((h3.trans (K4.mono (by omega))).mono zw)
    exact postM_ret hK3 (results_tmp rfl _ _ _) ⟨rfl, below_putObj hall (by omega) _ (Array.getElem?_eq_some_iff.1 hK3).1⟩
end Go.Proofs.YtbkegknfmcanaaaDoor
