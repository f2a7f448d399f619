/-
  Package vmem: what is wrong with a reach. Conditions: books in order.
-/
import Derived.Test.YtlpchcdalfkfcaaGreatBVmC
namespace Go.Proofs.YtlpchcdalfkfcaaGreat
open Go.RowKit
attribute [local go_sem] Oper.semAt_some
set_option maxHeartbeats 4000000
set_option maxRecDepth 4000

def rchQ (D : Tb) (b1 b2 b3 b4 p5 p6 p7 p8 p9 : Nat) (owner at_ many may : Int) : List Qn :=
  [⟨155, #[.pointer (some ⟨b1 + 1, 0, none⟩), .pointer (some ⟨b1 + 1 + 1, 0, none⟩)], 0⟩,
   ⟨155, #[.pointer (some ⟨b2, 0, none⟩), .pointer (some ⟨b2 + 1, 0, none⟩)], if badMany many = true then 2 else 0⟩,
   ⟨155, #[.pointer (some ⟨b3, 0, none⟩), .pointer (some ⟨b3 + 1, 0, none⟩)], if badWho owner = true then 2 else 0⟩,
   ⟨155, #[.pointer (some ⟨b4, 0, none⟩), .pointer (some ⟨b4 + 1, 0, none⟩)], if 16777216 - many < at_ then 4 else 0⟩,
   ⟨171, #[.pointer (some ⟨p5, 0, none⟩), .pointer (some ⟨p6, 0, none⟩), .pointer (some ⟨p9, 0, none⟩), .pointer (some ⟨p7, 0, none⟩), .pointer (some ⟨p8, 0, none⟩)], if ((partsL at_ many).all fun x => rchB D owner may x.1) = true then 0 else 190⟩]
theorem rchQ_eq (D : Tb) (b1 b2 b3 b4 p5 p6 p7 p8 p9 : Nat) (owner at_ many may : Int) : firstN (rchQ D b1 b2 b3 b4 p5 p6 p7 p8 p9 owner at_ many may) = rchE D owner at_ many may := by
  unfold rchQ rchE
  simp only [firstN, if_true]
  by_cases h1 : badMany many = true
  · rw [if_pos h1, if_neg (by decide), if_pos h1]
  · rw [if_neg h1, if_pos rfl, if_neg h1]
    by_cases h2 : badWho owner = true
    · rw [if_pos h2, if_neg (by decide), if_pos h2]
    · rw [if_neg h2, if_pos rfl, if_neg h2]
      by_cases h3 : 16777216 - many < at_
      · rw [if_pos h3, if_neg (by decide), if_pos h3]
      · rw [if_neg h3, if_pos rfl, if_neg h3]
        split <;> simp_all
/-- What the questions lean on. -/
structure RchB (W : World) (k : Mb) (s : Ms) (b1 b2 b3 b4 p5 p6 p7 p8 p9 : Nat) (owner at_ many may : Int) : Prop where
  m : MemAt W k s
  c5 : Blk W p5 #[.pointer (some ⟨k.b, 0, none⟩)] 38
  c6 : Blk W p6 #[.int .i64 owner] 3
  c7 : Blk W p7 #[.int .u32 at_] 24
  c8 : Blk W p8 #[.int .i64 many] 3
  c9 : Blk W p9 #[.int .i64 may] 95
  d0 : Blk W b1 #[.pointer (some ⟨k.b, 0, none⟩)] 38
  d1 : Blk W (b1 + 1) #[.func (.func 154) #[] #[.pointer (some ⟨b1, 0, none⟩)]] 35
  d2 : Blk W (b1 + 1 + 1) #[.int .i64 1] 25
  e1 : Blk W b2 #[.func (.func 168) #[] #[.pointer (some ⟨p8, 0, none⟩)]] 35
  e2 : Blk W (b2 + 1) #[.int .i64 2] 25
  f1 : Blk W b3 #[.func (.func 169) #[] #[.pointer (some ⟨p6, 0, none⟩)]] 35
  f2 : Blk W (b3 + 1) #[.int .i64 2] 25
  g1 : Blk W b4 #[.func (.func 170) #[] #[.pointer (some ⟨p7, 0, none⟩), .pointer (some ⟨p8, 0, none⟩)]] 35
  g2 : Blk W (b4 + 1) #[.int .i64 4] 25
theorem RchB.step {W W' : World} {k : Mb} {s : Ms} {b1 b2 b3 b4 p5 p6 p7 p8 p9 : Nat} {owner at_ many may : Int} (h : RchB W k s b1 b2 b3 b4 p5 p6 p7 p8 p9 owner at_ many may) (j : Below W.heap.size W W') : RchB W' k s b1 b2 b3 b4 p5 p6 p7 p8 p9 owner at_ many may :=
  ⟨h.m.step j, h.c5.below j h.c5.lt, h.c6.below j h.c6.lt, h.c7.below j h.c7.lt, h.c8.below j h.c8.lt, h.c9.below j h.c9.lt, h.d0.below j h.d0.lt, h.d1.below j h.d1.lt, h.d2.below j h.d2.lt, h.e1.below j h.e1.lt, h.e2.below j h.e2.lt, h.f1.below j h.f1.lt, h.f2.below j h.f2.lt, h.g1.below j h.g1.lt, h.g2.below j h.g2.lt⟩
theorem rch_ans {w : World} {k : Mb} {s : Ms} {bb b1 b2 b3 b4 p5 p6 p7 p8 p9 : Nat} {owner at_ many may : Int} (h : RchB w k s b1 b2 b3 b4 p5 p6 p7 p8 p9 owner at_ many may) (hr : QRow w bb (rchQ s.D b1 b2 b3 b4 p5 p6 p7 p8 p9 owner at_ many may)) (hbb : bb < w.heap.size) (h0 : 0 ≤ at_) (h1 : at_ < 4294967296) :
    QAns (rchQ s.D b1 b2 b3 b4 p5 p6 p7 p8 p9 owner at_ many may) bb (fun i W => Below w.heap.size w W ∧ (2 ≤ i → badMany many = false)) (fun _ W => Below w.heap.size w W) where
  eg i hi args W := by
    match i, hi with
    | 0, _ => exact enters_of Tryz.func155 (by kernel_rfl) rfl args W
    | 1, _ => exact enters_of Tryz.func155 (by kernel_rfl) rfl args W
    | 2, _ => exact enters_of Tryz.func155 (by kernel_rfl) rfl args W
    | 3, _ => exact enters_of Tryz.func155 (by kernel_rfl) rfl args W
    | 4, _ => exact enters_of Tryz.func171 (by kernel_rfl) rfl args W
  row i W hW := ⟨fun j hj => (hW.1.cell (p := ⟨bb, j, none⟩) hbb).trans (hr.c0 j hj)⟩
  ans i hi W hW := by
    obtain ⟨kW, hbm⟩ := hW
    have hq := h.step kW
    have many_ok : badMany many = false → 1 ≤ many ∧ many ≤ 16777216 := fun e => by
      unfold badMany at e
      simp at e
      omega
    match i, hi with
    | 0, _ =>
      refine (is1_ok (b := true) (R := fun _ => True) (hq.d1.cell 0 rfl) (hq.d2.cell 0 rfl) (fun args W => enters_of Tryz.func154 (by kernel_rfl) rfl args W) (there1_ok hq.m (hq.d0.cell 0 rfl))).mono ?_
      rintro e w2 ⟨rfl, j⟩
      exact ⟨rfl, fun _ => ⟨kW.trans (j.mono kW.size), fun h => by omega⟩, fun h => absurd rfl h⟩
    | 1, _ =>
      refine (is1_ok (b := !badMany many) (R := fun _ => True) (hq.e1.cell 0 rfl) (hq.e2.cell 0 rfl) (fun args W => enters_of Tryz.func168 (by kernel_rfl) rfl args W) (asked1_ok (hq.c8.cell 0 rfl))).mono ?_
      rintro e w2 ⟨rfl, j⟩
      refine ⟨?_, fun h9 => ⟨kW.trans (j.mono kW.size), fun _ => ?_⟩, fun _ => kW.trans (j.mono kW.size)⟩
      · show Ending.returned (.int .i64 (if (!badMany many) = true then 0 else 2)) = .returned (.int .i64 (if badMany many = true then 2 else 0))
        cases badMany many <;> rfl
      · change (if badMany many = true then (2 : Int) else 0) = 0 at h9
        cases hb : badMany many
        · rfl
        · rw [hb] at h9; cases h9
    | 2, _ =>
      refine (is1_ok (b := !badWho owner) (R := fun _ => True) (hq.f1.cell 0 rfl) (hq.f2.cell 0 rfl) (fun args W => enters_of Tryz.func169 (by kernel_rfl) rfl args W) (asked2_ok (hq.c6.cell 0 rfl))).mono ?_
      rintro e w2 ⟨rfl, j⟩
      refine ⟨?_, fun h9 => ⟨kW.trans (j.mono kW.size), fun _ => hbm (by omega)⟩, fun _ => kW.trans (j.mono kW.size)⟩
      show Ending.returned (.int .i64 (if (!badWho owner) = true then 0 else 2)) = .returned (.int .i64 (if badWho owner = true then 2 else 0))
      cases badWho owner <;> rfl
    | 3, _ =>
      obtain ⟨m0, m1⟩ := many_ok (hbm (by omega))
      refine (is1_ok (b := !decide (16777216 - many < at_)) (R := fun _ => True) (hq.g1.cell 0 rfl) (hq.g2.cell 0 rfl) (fun args W => enters_of Tryz.func170 (by kernel_rfl) rfl args W) (asked3_ok (hq.c7.cell 0 rfl) (hq.c8.cell 0 rfl) h0 h1 m0 m1)).mono ?_
      rintro e w2 ⟨rfl, j⟩
      refine ⟨?_, fun h9 => ⟨kW.trans (j.mono kW.size), fun _ => hbm (by omega)⟩, fun _ => kW.trans (j.mono kW.size)⟩
      show Ending.returned (.int .i64 (if (!decide (16777216 - many < at_)) = true then 0 else 4)) = .returned (.int .i64 (if 16777216 - many < at_ then 4 else 0))
      by_cases h9 : 16777216 - many < at_
      · rw [if_pos h9, decide_eq_true h9]; rfl
      · rw [if_neg h9, decide_eq_false h9]; rfl
    | 4, _ =>
      obtain ⟨m0, m1⟩ := many_ok (hbm (by omega))
      refine (asked4_ok hq.m (hq.c5.cell 0 rfl) (hq.c6.cell 0 rfl) (hq.c9.cell 0 rfl) (hq.c7.cell 0 rfl) (hq.c8.cell 0 rfl) h0 h1 (by omega) m1).mono ?_
      rintro e w2 ⟨rfl, j⟩
      exact ⟨rfl, fun h9 => ⟨kW.trans (j.mono kW.size), fun _ => hbm (by omega)⟩, fun _ => kW.trans (j.mono kW.size)⟩
theorem asked_okV {w : World} {k : Mb} {s : Ms} (h : MemAt w k s) (owner at_ many may : Int) (h0 : 0 ≤ at_) (h1 : at_ < 4294967296) :
    Calls Tryz.prog 98 #[.pointer (some ⟨k.b, 0, none⟩), .int .i64 owner, .int .u32 at_, .int .i64 many, .int .i64 may] w fun e w' => e = .returned (.int .i64 (rchE s.D owner at_ many may)) ∧ Below w.heap.size w w' := by
  obtain ⟨w1, hw1⟩ : ∃ w1, ((((w.alloc (.cells #[.pointer (some ⟨k.b, 0, none⟩)] 38)).alloc (.cells #[.int .i64 owner] 3)).alloc (.cells #[.int .u32 at_] 24)).alloc (.cells #[.int .i64 many] 3)).alloc (.cells #[.int .i64 may] 95) = w1 := ⟨_, rfl⟩
  have a0 : Blk w1 w.heap.size #[.pointer (some ⟨k.b, 0, none⟩)] 38 := by rw [← hw1]; exact ((((Blk.new w _ _).alloc _).alloc _).alloc _).alloc _
  have a1 : Blk w1 (w.heap.size + 1) #[.int .i64 owner] 3 := by rw [← hw1]; exact (((Blk.newAt _ _ _ (by simp)).alloc _).alloc _).alloc _
  have a2 : Blk w1 (w.heap.size + 1 + 1) #[.int .u32 at_] 24 := by rw [← hw1]; exact ((Blk.newAt _ _ _ (by simp)).alloc _).alloc _
  have a3 : Blk w1 (w.heap.size + 1 + 1 + 1) #[.int .i64 many] 3 := by rw [← hw1]; exact (Blk.newAt _ _ _ (by simp)).alloc _
  have a4 : Blk w1 (w.heap.size + 1 + 1 + 1 + 1) #[.int .i64 may] 95 := by rw [← hw1]; exact Blk.newAt _ _ _ (by simp)
  have k1 : Below w.heap.size w w1 := by rw [← hw1]; exact (((((Below.refl _ w).alloc (Nat.le_refl _) _).alloc (by simp) _).alloc (by simp; omega) _).alloc (by simp; omega) _).alloc (by simp; omega) _
  have m1 := h.step k1
  have c0 : w1.cell? ⟨w.heap.size, 0, none⟩ = some (.pointer (some ⟨k.b, 0, none⟩)) := a0.cell 0 rfl
  go_enter Tryz.func98, Tryz.ntmps98
  go_wp2_with fail
  clear hw1
  refine (there_okV m1).mono ?_; rintro e w2 ⟨rfl, ⟨d0, d1, d2⟩, k2⟩
  go_wp2_with fail
  refine (is_ok2 _ _ _ w2).mono ?_; rintro e w3 ⟨rfl, e1, e2, k3⟩
  go_wp2_with fail
  refine (is_ok2 _ _ _ w3).mono ?_; rintro e w4 ⟨rfl, f1, f2, k4⟩
  go_wp2_with fail
  refine (is_ok2 _ _ _ w4).mono ?_; rintro e w5 ⟨rfl, g1, g2, k5⟩
  have z1 := k1.size
  have z2 := k2.size
  have z3 := k3.size
  have z4 := k4.size
  have z5 := k5.size
  have j4 := k5
  have j3 := k4.trans (j4.mono z4)
  have j2 := k3.trans (j3.mono z3)
  have j1 := k2.trans (j2.mono z2)
  have hB : RchB w5 k s w1.heap.size w2.heap.size w3.heap.size w4.heap.size w.heap.size (w.heap.size + 1) (w.heap.size + 1 + 1) (w.heap.size + 1 + 1 + 1) (w.heap.size + 1 + 1 + 1 + 1) owner at_ many may :=
    ⟨m1.step j1, a0.below j1 a0.lt, a1.below j1 a1.lt, a2.below j1 a2.lt, a3.below j1 a3.lt, a4.below j1 a4.lt, d0.below j2 d0.lt, d1.below j2 d1.lt, d2.below j2 d2.lt, e1.below j3 e1.lt, e2.below j3 e2.lt, f1.below j4 f1.lt, f2.below j4 f2.lt, g1, g2⟩
  obtain ⟨b1, hb1⟩ : ∃ b1, w1.heap.size = b1 := ⟨_, rfl⟩
  obtain ⟨b2, hb2⟩ : ∃ b2, w2.heap.size = b2 := ⟨_, rfl⟩
  obtain ⟨b3, hb3⟩ : ∃ b3, w3.heap.size = b3 := ⟨_, rfl⟩
  obtain ⟨b4, hb4⟩ : ∃ b4, w4.heap.size = b4 := ⟨_, rfl⟩
  have kk : Below w.heap.size w w5 := k1.trans (j1.mono z1)
  rw [hb1, hb2, hb3, hb4] at hB
  rw [hb1, hb2, hb3, hb4]
  clear d0 d1 d2 e1 e2 f1 f2 g1 g2 a0 a1 a2 a3 a4 c0 k1 k2 k3 k4 k5 j1 j2 j3 j4 z1 z2 z3 z4 z5 hb1 hb2 hb3 hb4 m1
  have hAll := fun (W : World) (bb : Nat) (hB : RchB W k s b1 b2 b3 b4 w.heap.size (w.heap.size + 1) (w.heap.size + 1 + 1) (w.heap.size + 1 + 1 + 1) (w.heap.size + 1 + 1 + 1 + 1) owner at_ many may) hr hbb => rch_ans (bb := bb) hB hr hbb h0 h1
  have hE := rchQ_eq s.D b1 b2 b3 b4 w.heap.size (w.heap.size + 1) (w.heap.size + 1 + 1) (w.heap.size + 1 + 1 + 1) (w.heap.size + 1 + 1 + 1 + 1) owner at_ many may
  obtain ⟨L, hL⟩ : ∃ L, rchQ s.D b1 b2 b3 b4 w.heap.size (w.heap.size + 1) (w.heap.size + 1 + 1) (w.heap.size + 1 + 1 + 1) (w.heap.size + 1 + 1 + 1 + 1) owner at_ many may = L := ⟨_, rfl⟩
  have hlen : L.length = 5 := by rw [← hL]; rfl
  obtain ⟨w6, hw6⟩ : ∃ w6, w5.alloc (.cells (L.map fun q => Value.func (.func q.fn) #[] q.caps).toArray 151) = w6 := ⟨_, rfl⟩
  have k6 : Below w5.heap.size w5 w6 := by rw [← hw6]; exact (Below.refl _ w5).alloc (Nat.le_refl _) _
  have hX : Blk w6 w5.heap.size (L.map fun q => Value.func (.func q.fn) #[] q.caps).toArray 151 := by rw [← hw6]; exact Blk.new w5 _ _
  have hrow : QRow w6 w5.heap.size L := ⟨fun i hi => hX.cell i (by simp [hi])⟩
  have hA6 := hAll w6 w5.heap.size (hB.step k6)
  rw [hL] at hA6 hE
  have HA := Lib.hid (hA6 hrow hX.lt)
  have HK := Lib.hid (kk.trans (k6.mono kk.size))
  have HE := Lib.hid hE
  have HLN := Lib.hid hlen
  rw [← hL] at hw6
  simp only [rchQ, List.map_cons, List.map_nil] at hw6
  clear hB hX hrow k6 kk hAll hA6 hE hlen hL
  go_wp2_with fail
  clear hw6
  refine (vfirst_ok w6 w5.heap.size 5 5 L HLN.out.symm (by rw [HLN.out]; decide) _ _ HA (Lib.hid ⟨Below.refl _ _, fun h => by omega⟩)).mono ?_
  rintro e w7 ⟨rfl, h8, h9⟩
  have k7 : Below w6.heap.size w6 w7 := by
    by_cases hz : firstN L = 0
    · exact (h8 hz).1
    · obtain ⟨_, _, _, _, hZ⟩ := h9 hz; exact hZ
  clear h8 h9
  go_wp2_with fail
  go_ret
  exact ⟨by rw [← HE.out]; rfl, HK.out.trans (k7.mono HK.out.size)⟩
end Go.Proofs.YtlpchcdalfkfcaaGreat


/-
 Package vmem: Map. Conditions: books in order.
-/
namespace Go.Proofs.YtlpchcdalfkfcaaGreat
open Go.RowKit
attribute [local go_sem] Oper.semAt_some
set_option maxHeartbeats 4000000
set_option maxRecDepth 4000

def vmpE (s : Ms) (n owner payer may : Int) : Int :=
 if badOwner payer = true then 2 else if mapE s.D n ⟨owner, may, 16384⟩ = 0 then (if takErr s.F s.R payer = 0 then mapE s.D n ⟨owner, may, takAt s.many s.F s.R payer⟩ else takErr s.F s.R payer) else mapE s.D n ⟨owner, may, 16384⟩
def vmpF (s : Ms) (n owner payer may : Int) : Ms :=
 if badOwner payer = true then s else if mapE s.D n ⟨owner, may, 16384⟩ = 0 then (if takErr s.F s.R payer = 0 then { s with F := takAfter s.many s.F s.R payer, D := mapD s.D n ⟨owner, may, takAt s.many s.F s.R payer⟩ } else s) else s
theorem unm_map {D : Tb} {n : Int} {x : Ent} (h : mapE D n x = 0) : unmD (mapD D n x) n = D := by
 obtain ⟨_, _, h3, h4, _⟩ := mapE_ok h
 have e1 : mapD D n x = insR n x D := by unfold mapD; rw [if_pos h]
 have e2 : unmE (insR n x D) n = 0 := by
  unfold unmE
  rw [if_neg (by unfold badP; simp; omega), if_neg (by rw [hasR_ins]; simp)]
 rw [e1]
 unfold unmD
 rw [if_pos e2, delR_ins h4]
theorem map1_okV {w : World} {p : Nat} {n : Int} (hp : w.cell? ⟨p, 0, none⟩ = some (.int .i64 n)) : Calls Tryz.prog 92 #[.pointer (some ⟨p, 0, none⟩)] w fun e w' => e = .returned (.bool (!badOwner n)) ∧ Below w.heap.size w w' := by
 obtain ⟨r, hr⟩ : ∃ r, (!badOwner n) = r := ⟨_, rfl⟩
 rw [hr]
 have HR := Lib.hid hr
 clear hr
 unfold badOwner at HR
 by_cases h1 : 0 ≤ n
 ·by_cases h2 : n < 64
  ·go_enter Tryz.func92, Tryz.ntmps92
   go_wp2_with fail
   go_ret
   exact ⟨by rw [← HR.out]; simp; omega, Below.refl _ _⟩
  ·go_enter Tryz.func92, Tryz.ntmps92
   go_wp2_with fail
   go_ret
   exact ⟨by rw [← HR.out]; simp; omega, Below.refl _ _⟩
 ·go_enter Tryz.func92, Tryz.ntmps92
  go_wp2_with fail
  go_ret
  exact ⟨by rw [← HR.out]; simp; omega, Below.refl _ _⟩
structure Mp2S (p5 p6 p7 p9 kb kt : Nat) (n owner may : Int) (Y : World) : Prop where
 e0 : Y.cell? ⟨p5, 0, none⟩ = some (.pointer (some ⟨kb, 0, none⟩))
 e1 : Y.cell? ⟨kb, 0, none⟩ = some (.pointer (some ⟨kt, 0, none⟩))
 e2 : Y.cell? ⟨p6, 0, none⟩ = some (.int .i64 n)
 e3 : Y.cell? ⟨p7, 0, none⟩ = some (.int .i64 owner)
 e4 : Y.cell? ⟨p9, 0, none⟩ = some (.int .i64 may)
structure Mp2B (W : World) (k : Mb) (s : Ms) (p5 p6 p7 p9 : Nat) (n owner may : Int) : Prop where
 m : MemAt W k s
 c5 : Blk W p5 #[.pointer (some ⟨k.b, 0, none⟩)] 38
 c6 : Blk W p6 #[.int .i64 n] 3
 c7 : Blk W p7 #[.int .i64 owner] 3
 c9 : Blk W p9 #[.int .i64 may] 95
theorem Mp2B.step {W W' : World} {k : Mb} {s : Ms} {p5 p6 p7 p9 : Nat} {n owner may : Int} (h : Mp2B W k s p5 p6 p7 p9 n owner may) (j : Below W.heap.size W W') : Mp2B W' k s p5 p6 p7 p9 n owner may :=
 ⟨h.m.step j, h.c5.below j h.c5.lt, h.c6.below j h.c6.lt, h.c7.below j h.c7.lt, h.c9.below j h.c9.lt⟩
theorem Mp2B.chg {W W' : World} {k : Mb} {s s' : Ms} {p5 p6 p7 p9 : Nat} {n owner may : Int} (h : Mp2B W k s p5 p6 p7 p9 n owner may) (hm : MemAt W' k s') (j : ChgM k W W') : Mp2B W' k s' p5 p6 p7 p9 n owner may :=
 ⟨hm, j.cells h.m h.c5, j.cells h.m h.c6, j.cells h.m h.c7, j.cells h.m h.c9⟩
theorem Mp2B.s {W : World} {k : Mb} {s : Ms} {p5 p6 p7 p9 : Nat} {n owner may : Int} (h : Mp2B W k s p5 p6 p7 p9 n owner may) : Mp2S p5 p6 p7 p9 k.b k.t n owner may W := ⟨h.c5.cell 0 rfl, h.m.cells.1, h.c6.cell 0 rfl, h.c7.cell 0 rfl, h.c9.cell 0 rfl⟩
theorem map2_okV {w : World} {k : Mb} {s : Ms} {p5 p6 p7 p9 : Nat} {n owner may : Int} (h : Mp2B w k s p5 p6 p7 p9 n owner may) (hlen : s.D.length ≤ 1000000) (hs : SrtR s.D) :
  Calls Tryz.prog 93 #[.pointer (some ⟨p5, 0, none⟩), .pointer (some ⟨p6, 0, none⟩), .pointer (some ⟨p7, 0, none⟩), .pointer (some ⟨p9, 0, none⟩)] w fun e w' => e = .returned (.int .i64 (mapE s.D n ⟨owner, may, 16384⟩)) ∧ MemAt w' k s ∧ ChgM k w w' := by
 obtain ⟨q, hq⟩ : ∃ q, mapE s.D n ⟨owner, may, 16384⟩ = q := ⟨_, rfl⟩
 have HQ := Lib.hid hq
 rw [hq]
 clear hq
 go_enter Tryz.func93, Tryz.ntmps93
 go_wp2_with fail
 refine wp_onlyN ?_
 have h1 := h.step (Below.refl _ w).drew
 refine wp_region_held_drew (S := Mp2S p5 p6 p7 p9 k.b k.t n owner may) (by kernel_rfl) h1.s (fun hHeld => ?_)
 change wpAnyH _ _ _ _ _ _ _ _ w.drew
 have k1 : ChgM k w w.drew := .of_below (Below.refl _ w).drew
 generalize w.drew = Y at h1 k1 hHeld ⊢
 refine wpAnyH_take (i := 0) (v := ?_) rfl (by kernel_rfl) (by kernel_rfl) (by kernel_rfl) (fun _ _ _ h => h) (Or.inl ⟨by rfl, ?_⟩) (by assumption) ?_
 rotate_left
 ·(intro Y hSw; (try dsimp only at hSw); obtain ⟨hS0, hS1, hS2, hS3, hS4⟩ := hSw; go_simp; try with_reducible rfl)
 try simp only [Act.put, pu1, pu2, pu3, pu4, pu5, pu6]
 refine wpAnyH_take (i := 1) (v := ?_) rfl (by kernel_rfl) (by kernel_rfl) (by kernel_rfl) (fun _ _ _ h => h) (Or.inl ⟨by rfl, ?_⟩) (by assumption) ?_
 rotate_left
 ·(intro Y hSw; (try dsimp only at hSw); obtain ⟨hS0, hS1, hS2, hS3, hS4⟩ := hSw; go_simp; try with_reducible rfl)
 try simp only [Act.put, pu1, pu2, pu3, pu4, pu5, pu6]
 refine wpAnyH_take (i := 2) (v := ?_) rfl (by kernel_rfl) (by kernel_rfl) (by kernel_rfl) (fun _ _ _ h => h) (Or.inl ⟨by rfl, ?_⟩) (by assumption) ?_
 rotate_left
 ·(intro Y hSw; (try dsimp only at hSw); obtain ⟨hS0, hS1, hS2, hS3, hS4⟩ := hSw; go_simp; try with_reducible rfl)
 try simp only [Act.put, pu1, pu2, pu3, pu4, pu5, pu6]
 refine wpAnyH_take (i := 3) (v := ?_) rfl (by kernel_rfl) (by kernel_rfl) (by kernel_rfl) (fun _ _ _ h => h) (Or.inl ⟨by rfl, ?_⟩) (by assumption) ?_
 rotate_left
 ·(intro Y hSw; (try dsimp only at hSw); obtain ⟨hS0, hS1, hS2, hS3, hS4⟩ := hSw; go_simp; try with_reducible rfl)
 try simp only [Act.put, pu1, pu2, pu3, pu4, pu5, pu6]
 refine wpAnyH_take (i := 4) (v := ?_) rfl (by kernel_rfl) (by kernel_rfl) (by kernel_rfl) (fun _ _ _ h => h) (Or.inl ⟨by rfl, ?_⟩) (by assumption) ?_
 rotate_left
 ·(intro Y hSw; (try dsimp only at hSw); obtain ⟨hS0, hS1, hS2, hS3, hS4⟩ := hSw; go_simp; try with_reducible rfl)
 try simp only [Act.put, pu1, pu2, pu3, pu4, pu5, pu6]
 refine wpAnyH_take (i := 5) (v := ?_) rfl (by kernel_rfl) (by kernel_rfl) (by kernel_rfl) (fun _ _ _ h => h) (Or.inl ⟨by rfl, ?_⟩) (by assumption) ?_
 rotate_left
 ·(intro Y hSw; (try dsimp only at hSw); obtain ⟨hS0, hS1, hS2, hS3, hS4⟩ := hSw; go_simp; try with_reducible rfl)
 try simp only [Act.put, pu1, pu2, pu3, pu4, pu5, pu6]
 refine wpAnyH_take (i := 6) (v := ?_) rfl (by kernel_rfl) (by kernel_rfl) (by kernel_rfl) (fun _ _ _ h => h) (Or.inl ⟨by rfl, ?_⟩) (by assumption) ?_
 rotate_left
 ·(intro Y hSw; (try dsimp only at hSw); obtain ⟨hS0, hS1, hS2, hS3, hS4⟩ := hSw; go_simp; try with_reducible rfl)
 try simp only [Act.put, pu1, pu2, pu3, pu4, pu5, pu6]
 refine wpAnyH_take (i := 7) (v := ?_) rfl (by kernel_rfl) (by kernel_rfl) (by kernel_rfl) (fun _ _ _ h => h) (Or.inl ⟨by rfl, ?_⟩) (by assumption) ?_
 rotate_left
 ·(intro Y hSw; (try dsimp only at hSw); obtain ⟨hS0, hS1, hS2, hS3, hS4⟩ := hSw; go_simp; try with_reducible rfl)
 try simp only [Act.put, pu1, pu2, pu3, pu4, pu5, pu6]
 refine wpAnyH_take (i := 8) (v := ?_) rfl (by kernel_rfl) (by kernel_rfl) (by kernel_rfl) (fun _ _ _ h => h) (Or.inl ⟨by rfl, ?_⟩) (by assumption) ?_
 rotate_left
 ·(intro Y hSw; (try dsimp only at hSw); obtain ⟨hS0, hS1, hS2, hS3, hS4⟩ := hSw; go_simp; try with_reducible rfl)
 try simp only [Act.put, pu1, pu2, pu3, pu4, pu5, pu6]
 refine wpAnyH_ready (rs := [9]) (by kernel_rfl) (by simp) ?_
 refine AllReadyH.cons rfl (fun K hK => ?_) AllReadyH.nil
 go_simp
 refine (Map_ok h1.m.tb hlen n ⟨owner, may, 16384⟩).mono ?_; rintro e Z ⟨rfl, ht, hc⟩
 rw [HQ.out]
 have h2 := h1.chg (h1.m.table ht hc) (.of_tm hc)
 have k2 := k1.trans (.of_tm hc)
 clear h1 k1 ht hc
 go_simp
 refine hK.out _ _ (h2.s) (fun hHeld => ?_)
 clear hK K
 try simp only [Act.put, pu1, pu2, pu3, pu4, pu5, pu6]
 refine wpAnyH_take (i := 10) (v := ?_) rfl (by kernel_rfl) (by kernel_rfl) (by kernel_rfl) (fun _ _ _ h => h) (Or.inl ⟨by rfl, ?_⟩) (by assumption) ?_
 rotate_left
 ·(intro Y hSw; (try dsimp only at hSw); obtain ⟨hS0, hS1, hS2, hS3, hS4⟩ := hSw; go_simp; try with_reducible rfl)
 try simp only [Act.put, pu1, pu2, pu3, pu4, pu5, pu6]
 refine wpAnyH_done (by kernel_rfl) ?_ _
 rw [onlyN_normal]
 clear hHeld
 by_cases h0 : q = 0
 ·subst h0
  have hu := unm_map HQ.out
  have HU := Lib.hid hu
  have hgs : SrtR (mapD s.D n ⟨owner, may, 16384⟩) := by
   unfold mapD
   rw [if_pos HQ.out]
   exact hs.ins (mapE_ok HQ.out).2.2.2.1
  have HGS := Lib.hid hgs
  clear hu hgs
  go_wp2_with fail
  refine wp_onlyN ?_
  have h3 := h2.step (Below.refl _ Z).drew
  refine wp_region_held_drew (S := Mp2S p5 p6 p7 p9 k.b k.t n owner may) (by kernel_rfl) h3.s (fun hHeld => ?_)
  change wpAnyH _ _ _ _ _ _ _ _ Z.drew
  have k3 : ChgM k w Z.drew := k2.trans (.of_below (Below.refl _ Z).drew)
  generalize Z.drew = Y2 at h3 k3 hHeld ⊢
  clear h2 k2
  refine wpAnyH_take (i := 0) (v := ?_) rfl (by kernel_rfl) (by kernel_rfl) (by kernel_rfl) (fun _ _ _ h => h) (Or.inl ⟨by rfl, ?_⟩) (by assumption) ?_
  rotate_left
  ·(intro Y hSw; (try dsimp only at hSw); obtain ⟨hS0, hS1, hS2, hS3, hS4⟩ := hSw; go_simp; try with_reducible rfl)
  try simp only [Act.put, pu1, pu2, pu3, pu4, pu5, pu6]
  refine wpAnyH_take (i := 1) (v := ?_) rfl (by kernel_rfl) (by kernel_rfl) (by kernel_rfl) (fun _ _ _ h => h) (Or.inl ⟨by rfl, ?_⟩) (by assumption) ?_
  rotate_left
  ·(intro Y hSw; (try dsimp only at hSw); obtain ⟨hS0, hS1, hS2, hS3, hS4⟩ := hSw; go_simp; try with_reducible rfl)
  try simp only [Act.put, pu1, pu2, pu3, pu4, pu5, pu6]
  refine wpAnyH_take (i := 2) (v := ?_) rfl (by kernel_rfl) (by kernel_rfl) (by kernel_rfl) (fun _ _ _ h => h) (Or.inl ⟨by rfl, ?_⟩) (by assumption) ?_
  rotate_left
  ·(intro Y hSw; (try dsimp only at hSw); obtain ⟨hS0, hS1, hS2, hS3, hS4⟩ := hSw; go_simp; try with_reducible rfl)
  try simp only [Act.put, pu1, pu2, pu3, pu4, pu5, pu6]
  refine wpAnyH_take (i := 3) (v := ?_) rfl (by kernel_rfl) (by kernel_rfl) (by kernel_rfl) (fun _ _ _ h => h) (Or.inl ⟨by rfl, ?_⟩) (by assumption) ?_
  rotate_left
  ·(intro Y hSw; (try dsimp only at hSw); obtain ⟨hS0, hS1, hS2, hS3, hS4⟩ := hSw; go_simp; try with_reducible rfl)
  try simp only [Act.put, pu1, pu2, pu3, pu4, pu5, pu6]
  refine wpAnyH_take (i := 4) (v := ?_) rfl (by kernel_rfl) (by kernel_rfl) (by kernel_rfl) (fun _ _ _ h => h) (Or.inl ⟨by rfl, ?_⟩) (by assumption) ?_
  rotate_left
  ·(intro Y hSw; (try dsimp only at hSw); obtain ⟨hS0, hS1, hS2, hS3, hS4⟩ := hSw; go_simp; try with_reducible rfl)
  try simp only [Act.put, pu1, pu2, pu3, pu4, pu5, pu6]
  refine wpAnyH_take (i := 5) (v := ?_) rfl (by kernel_rfl) (by kernel_rfl) (by kernel_rfl) (fun _ _ _ h => h) (Or.inl ⟨by rfl, ?_⟩) (by assumption) ?_
  rotate_left
  ·(intro Y hSw; (try dsimp only at hSw); obtain ⟨hS0, hS1, hS2, hS3, hS4⟩ := hSw; go_simp; try with_reducible rfl)
  try simp only [Act.put, pu1, pu2, pu3, pu4, pu5, pu6]
  refine wpAnyH_ready (rs := [6]) (by kernel_rfl) (by simp) ?_
  refine AllReadyH.cons rfl (fun K hK => ?_) AllReadyH.nil
  go_simp
  refine (Unmap_ok h3.m.tb HGS.out n).mono ?_; rintro e Z2 ⟨rfl, ht, hc⟩
  dsimp only at ht
  rw [HU.out] at ht
  have h4 := h3.chg (h3.m.table ht hc) (.of_tm hc)
  have k4 := k3.trans (.of_tm hc)
  clear h3 k3 ht hc
  unfold encE
  go_simp
  refine hK.out _ _ (h4.s) (fun hHeld => ?_)
  clear hK K
  try simp only [Act.put, pu1, pu2, pu3, pu4, pu5, pu6]
  refine wpAnyH_done (by kernel_rfl) ?_ _
  rw [onlyN_normal]
  go_wp2_with fail
  go_ret
  exact ⟨rfl, h4.m, k4⟩
 ·have hd : mapD s.D n ⟨owner, may, 16384⟩ = s.D := by unfold mapD; rw [if_neg (by rw [HQ.out]; exact h0)]
  rw [hd] at h2
  go_wp2_with fail
  go_ret
  exact ⟨rfl, h2.m, k2⟩
end Go.Proofs.YtlpchcdalfkfcaaGreat

