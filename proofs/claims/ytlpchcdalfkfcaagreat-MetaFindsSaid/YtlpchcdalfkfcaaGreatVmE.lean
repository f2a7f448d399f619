/-
  Package vmem: what is wrong with a reach. Conditions: books in order.
-/
import Derived.Test.YtlpchcdalfkfcaaGreatBVmC
namespace Go.Proofs.YtlpchcdalfkfcaaGreat
open Go.RowKit
attribute [local go_sem] Oper.semAt_some
set_option maxHeartbeats 4000000
set_option maxRecDepth 4000

def rchQ (D : Tb) (b1 b2 b3 b4 p5 p6 p7 p8 p9 : Nat) (owner at_ many may : Int) : List Qn :=
  [⟨155, #[.pointer (some ⟨b1 + 1, 0, none⟩), .pointer (some ⟨b1 + 1 + 1, 0, none⟩)], 0⟩,
   ⟨155, #[.pointer (some ⟨b2, 0, none⟩), .pointer (some ⟨b2 + 1, 0, none⟩)], if badMany many = true then 2 else 0⟩,
   ⟨155, #[.pointer (some ⟨b3, 0, none⟩), .pointer (some ⟨b3 + 1, 0, none⟩)], if badWho owner = true then 2 else 0⟩,
   ⟨155, #[.pointer (some ⟨b4, 0, none⟩), .pointer (some ⟨b4 + 1, 0, none⟩)], if 16777216 - many < at_ then 4 else 0⟩,
   ⟨171, #[.pointer (some ⟨p5, 0, none⟩), .pointer (some ⟨p6, 0, none⟩), .pointer (some ⟨p9, 0, none⟩), .pointer (some ⟨p7, 0, none⟩), .pointer (some ⟨p8, 0, none⟩)], if ((partsL at_ many).all fun x => rchB D owner may x.1) = true then 0 else 190⟩]
theorem rchQ_eq (D : Tb) (b1 b2 b3 b4 p5 p6 p7 p8 p9 : Nat) (owner at_ many may : Int) : firstN (rchQ D b1 b2 b3 b4 p5 p6 p7 p8 p9 owner at_ many may) = rchE D owner at_ many may := by
  unfold rchQ rchE
  simp only [firstN, if_true]
  by_cases h1 : badMany many = true
  · rw [if_pos h1, if_neg (by decide), if_pos h1]
  · rw [if_neg h1, if_pos rfl, if_neg h1]
    by_cases h2 : badWho owner = true
    · rw [if_pos h2, if_neg (by decide), if_pos h2]
    · rw [if_neg h2, if_pos rfl, if_neg h2]
      by_cases h3 : 16777216 - many < at_
      · rw [if_pos h3, if_neg (by decide), if_pos h3]
      · rw [if_neg h3, if_pos rfl, if_neg h3]
        split <;> simp_all
/-- What the questions lean on. -/
structure RchB (W : World) (k : Mb) (s : Ms) (b1 b2 b3 b4 p5 p6 p7 p8 p9 : Nat) (owner at_ many may : Int) : Prop where
  m : MemAt W k s
  c5 : Blk W p5 #[.pointer (some ⟨k.b, 0, none⟩)] 38
  c6 : Blk W p6 #[.int .i64 owner] 3
  c7 : Blk W p7 #[.int .u32 at_] 24
  c8 : Blk W p8 #[.int .i64 many] 3
  c9 : Blk W p9 #[.int .i64 may] 95
  d0 : Blk W b1 #[.pointer (some ⟨k.b, 0, none⟩)] 38
  d1 : Blk W (b1 + 1) #[.func (.func 154) #[] #[.pointer (some ⟨b1, 0, none⟩)]] 35
  d2 : Blk W (b1 + 1 + 1) #[.int .i64 1] 25
  e1 : Blk W b2 #[.func (.func 168) #[] #[.pointer (some ⟨p8, 0, none⟩)]] 35
  e2 : Blk W (b2 + 1) #[.int .i64 2] 25
  f1 : Blk W b3 #[.func (.func 169) #[] #[.pointer (some ⟨p6, 0, none⟩)]] 35
  f2 : Blk W (b3 + 1) #[.int .i64 2] 25
  g1 : Blk W b4 #[.func (.func 170) #[] #[.pointer (some ⟨p7, 0, none⟩), .pointer (some ⟨p8, 0, none⟩)]] 35
  g2 : Blk W (b4 + 1) #[.int .i64 4] 25
theorem RchB.step {W W' : World} {k : Mb} {s : Ms} {b1 b2 b3 b4 p5 p6 p7 p8 p9 : Nat} {owner at_ many may : Int} (h : RchB W k s b1 b2 b3 b4 p5 p6 p7 p8 p9 owner at_ many may) (j : Below W.heap.size W W') : RchB W' k s b1 b2 b3 b4 p5 p6 p7 p8 p9 owner at_ many may :=
  ⟨h.m.step j, h.c5.below j h.c5.lt, h.c6.below j h.c6.lt, h.c7.below j h.c7.lt, h.c8.below j h.c8.lt, h.c9.below j h.c9.lt, h.d0.below j h.d0.lt, h.d1.below j h.d1.lt, h.d2.below j h.d2.lt, h.e1.below j h.e1.lt, h.e2.below j h.e2.lt, h.f1.below j h.f1.lt, h.f2.below j h.f2.lt, h.g1.below j h.g1.lt, h.g2.below j h.g2.lt⟩
theorem rch_ans {w : World} {k : Mb} {s : Ms} {bb b1 b2 b3 b4 p5 p6 p7 p8 p9 : Nat} {owner at_ many may : Int} (h : RchB w k s b1 b2 b3 b4 p5 p6 p7 p8 p9 owner at_ many may) (hr : QRow w bb (rchQ s.D b1 b2 b3 b4 p5 p6 p7 p8 p9 owner at_ many may)) (hbb : bb < w.heap.size) (h0 : 0 ≤ at_) (h1 : at_ < 4294967296) :
    QAns (rchQ s.D b1 b2 b3 b4 p5 p6 p7 p8 p9 owner at_ many may) bb (fun i W => Below w.heap.size w W ∧ (2 ≤ i → badMany many = false)) (fun _ W => Below w.heap.size w W) where
  eg i hi args W := by
    match i, hi with
    | 0, _ => exact enters_of Tryz.func155 (by kernel_rfl) rfl args W
    | 1, _ => exact enters_of Tryz.func155 (by kernel_rfl) rfl args W
    | 2, _ => exact enters_of Tryz.func155 (by kernel_rfl) rfl args W
    | 3, _ => exact enters_of Tryz.func155 (by kernel_rfl) rfl args W
    | 4, _ => exact enters_of Tryz.func171 (by kernel_rfl) rfl args W
  row i W hW := ⟨fun j hj => (hW.1.cell (p := ⟨bb, j, none⟩) hbb).trans (hr.c0 j hj)⟩
  ans i hi W hW := by
    obtain ⟨kW, hbm⟩ := hW
    have hq := h.step kW
    have many_ok : badMany many = false → 1 ≤ many ∧ many ≤ 16777216 := fun e => by
      unfold badMany at e
      simp at e
      omega
    match i, hi with
    | 0, _ =>
      refine (is1_ok (b := true) (R := fun _ => True) (hq.d1.cell 0 rfl) (hq.d2.cell 0 rfl) (fun args W => enters_of Tryz.func154 (by kernel_rfl) rfl args W) (there1_ok hq.m (hq.d0.cell 0 rfl))).mono ?_
      rintro e w2 ⟨rfl, j⟩
      exact ⟨rfl, fun _ => ⟨kW.trans (j.mono kW.size), fun h => by omega⟩, fun h => absurd rfl h⟩
    | 1, _ =>
      refine (is1_ok (b := !badMany many) (R := fun _ => True) (hq.e1.cell 0 rfl) (hq.e2.cell 0 rfl) (fun args W => enters_of Tryz.func168 (by kernel_rfl) rfl args W) (asked1_ok (hq.c8.cell 0 rfl))).mono ?_
      rintro e w2 ⟨rfl, j⟩
      refine ⟨?_, fun h9 => ⟨kW.trans (j.mono kW.size), fun _ => ?_⟩, fun _ => kW.trans (j.mono kW.size)⟩
      · show Ending.returned (.int .i64 (if (!badMany many) = true then 0 else 2)) = .returned (.int .i64 (if badMany many = true then 2 else 0))
        cases badMany many <;> rfl
      · change (if badMany many = true then (2 : Int) else 0) = 0 at h9
        cases hb : badMany many
        · rfl
        · rw [hb] at h9; cases h9
    | 2, _ =>
      refine (is1_ok (b := !badWho owner) (R := fun _ => True) (hq.f1.cell 0 rfl) (hq.f2.cell 0 rfl) (fun args W => enters_of Tryz.func169 (by kernel_rfl) rfl args W) (asked2_ok (hq.c6.cell 0 rfl))).mono ?_
      rintro e w2 ⟨rfl, j⟩
      refine ⟨?_, fun h9 => ⟨kW.trans (j.mono kW.size), fun _ => hbm (by omega)⟩, fun _ => kW.trans (j.mono kW.size)⟩
      show Ending.returned (.int .i64 (if (!badWho owner) = true then 0 else 2)) = .returned (.int .i64 (if badWho owner = true then 2 else 0))
      cases badWho owner <;> rfl
    | 3, _ =>
      obtain ⟨m0, m1⟩ := many_ok (hbm (by omega))
      refine (is1_ok (b := !decide (16777216 - many < at_)) (R := fun _ => True) (hq.g1.cell 0 rfl) (hq.g2.cell 0 rfl) (fun args W => enters_of Tryz.func170 (by kernel_rfl) rfl args W) (asked3_ok (hq.c7.cell 0 rfl) (hq.c8.cell 0 rfl) h0 h1 m0 m1)).mono ?_
      rintro e w2 ⟨rfl, j⟩
      refine ⟨?_, fun h9 => ⟨kW.trans (j.mono kW.size), fun _ => hbm (by omega)⟩, fun _ => kW.trans (j.mono kW.size)⟩
      show Ending.returned (.int .i64 (if (!decide (16777216 - many < at_)) = true then 0 else 4)) = .returned (.int .i64 (if 16777216 - many < at_ then 4 else 0))
      by_cases h9 : 16777216 - many < at_
      · rw [if_pos h9, decide_eq_true h9]; rfl
      · rw [if_neg h9, decide_eq_false h9]; rfl
    | 4, _ =>
      obtain ⟨m0, m1⟩ := many_ok (hbm (by omega))
      refine (asked4_ok hq.m (hq.c5.cell 0 rfl) (hq.c6.cell 0 rfl) (hq.c9.cell 0 rfl) (hq.c7.cell 0 rfl) (hq.c8.cell 0 rfl) h0 h1 (by omega) m1).mono ?_
      rintro e w2 ⟨rfl, j⟩
      exact ⟨rfl, fun h9 => ⟨kW.trans (j.mono kW.size), fun _ => hbm (by omega)⟩, fun _ => kW.trans (j.mono kW.size)⟩
theorem asked_okV {w : World} {k : Mb} {s : Ms} (h : MemAt w k s) (owner at_ many may : Int) (h0 : 0 ≤ at_) (h1 : at_ < 4294967296) :
    Calls Tryz.prog 98 #[.pointer (some ⟨k.b, 0, none⟩), .int .i64 owner, .int .u32 at_, .int .i64 many, .int .i64 may] w fun e w' => e = .returned (.int .i64 (rchE s.D owner at_ many may)) ∧ Below w.heap.size w w' := by
  obtain ⟨w1, hw1⟩ : ∃ w1, ((((w.alloc (.cells #[.pointer (some ⟨k.b, 0, none⟩)] 38)).alloc (.cells #[.int .i64 owner] 3)).alloc (.cells #[.int .u32 at_] 24)).alloc (.cells #[.int .i64 many] 3)).alloc (.cells #[.int .i64 may] 95) = w1 := ⟨_, rfl⟩
  have a0 : Blk w1 w.heap.size #[.pointer (some ⟨k.b, 0, none⟩)] 38 := by rw [← hw1]; exact ((((Blk.new w _ _).alloc _).alloc _).alloc _).alloc _
  have a1 : Blk w1 (w.heap.size + 1) #[.int .i64 owner] 3 := by rw [← hw1]; exact (((Blk.newAt _ _ _ (by simp)).alloc _).alloc _).alloc _
  have a2 : Blk w1 (w.heap.size + 1 + 1) #[.int .u32 at_] 24 := by rw [← hw1]; exact ((Blk.newAt _ _ _ (by simp)).alloc _).alloc _
  have a3 : Blk w1 (w.heap.size + 1 + 1 + 1) #[.int .i64 many] 3 := by rw [← hw1]; exact (Blk.newAt _ _ _ (by simp)).alloc _
  have a4 : Blk w1 (w.heap.size + 1 + 1 + 1 + 1) #[.int .i64 may] 95 := by rw [← hw1]; exact Blk.newAt _ _ _ (by simp)
  have k1 : Below w.heap.size w w1 := by rw [← hw1]; exact (((((Below.refl _ w).alloc (Nat.le_refl _) _).alloc (by simp) _).alloc (by simp; omega) _).alloc (by simp; omega) _).alloc (by simp; omega) _
  have m1 := h.step k1
  have c0 : w1.cell? ⟨w.heap.size, 0, none⟩ = some (.pointer (some ⟨k.b, 0, none⟩)) := a0.cell 0 rfl
  go_enter Tryz.func98, Tryz.ntmps98
  go_wp2_with fail
  clear hw1
  refine (there_okV m1).mono ?_; rintro e w2 ⟨rfl, ⟨d0, d1, d2⟩, k2⟩
  go_wp2_with fail
  refine (is_ok2 _ _ _ w2).mono ?_; rintro e w3 ⟨rfl, e1, e2, k3⟩
  go_wp2_with fail
  refine (is_ok2 _ _ _ w3).mono ?_; rintro e w4 ⟨rfl, f1, f2, k4⟩
  go_wp2_with fail
  refine (is_ok2 _ _ _ w4).mono ?_; rintro e w5 ⟨rfl, g1, g2, k5⟩
  have z1 := k1.size
  have z2 := k2.size
  have z3 := k3.size
  have z4 := k4.size
  have z5 := k5.size
  have j4 := k5
  have j3 := k4.trans (j4.mono z4)
  have j2 := k3.trans (j3.mono z3)
  have j1 := k2.trans (j2.mono z2)
  have hB : RchB w5 k s w1.heap.size w2.heap.size w3.heap.size w4.heap.size w.heap.size (w.heap.size + 1) (w.heap.size + 1 + 1) (w.heap.size + 1 + 1 + 1) (w.heap.size + 1 + 1 + 1 + 1) owner at_ many may :=
    ⟨m1.step j1, a0.below j1 a0.lt, a1.below j1 a1.lt, a2.below j1 a2.lt, a3.below j1 a3.lt, a4.below j1 a4.lt, d0.below j2 d0.lt, d1.below j2 d1.lt, d2.below j2 d2.lt, e1.below j3 e1.lt, e2.below j3 e2.lt, f1.below j4 f1.lt, f2.below j4 f2.lt, g1, g2⟩
  obtain ⟨b1, hb1⟩ : ∃ b1, w1.heap.size = b1 := ⟨_, rfl⟩
  obtain ⟨b2, hb2⟩ : ∃ b2, w2.heap.size = b2 := ⟨_, rfl⟩
  obtain ⟨b3, hb3⟩ : ∃ b3, w3.heap.size = b3 := ⟨_, rfl⟩
  obtain ⟨b4, hb4⟩ : ∃ b4, w4.heap.size = b4 := ⟨_, rfl⟩
  have kk : Below w.heap.size w w5 := k1.trans (j1.mono z1)
  rw [hb1, hb2, hb3, hb4] at hB
  rw [hb1, hb2, hb3, hb4]
  clear d0 d1 d2 e1 e2 f1 f2 g1 g2 a0 a1 a2 a3 a4 c0 k1 k2 k3 k4 k5 j1 j2 j3 j4 z1 z2 z3 z4 z5 hb1 hb2 hb3 hb4 m1
  have hAll := fun (W : World) (bb : Nat) (hB : RchB W k s b1 b2 b3 b4 w.heap.size (w.heap.size + 1) (w.heap.size + 1 + 1) (w.heap.size + 1 + 1 + 1) (w.heap.size + 1 + 1 + 1 + 1) owner at_ many may) hr hbb => rch_ans (bb := bb) hB hr hbb h0 h1
  have hE := rchQ_eq s.D b1 b2 b3 b4 w.heap.size (w.heap.size + 1) (w.heap.size + 1 + 1) (w.heap.size + 1 + 1 + 1) (w.heap.size + 1 + 1 + 1 + 1) owner at_ many may
  obtain ⟨L, hL⟩ : ∃ L, rchQ s.D b1 b2 b3 b4 w.heap.size (w.heap.size + 1) (w.heap.size + 1 + 1) (w.heap.size + 1 + 1 + 1) (w.heap.size + 1 + 1 + 1 + 1) owner at_ many may = L := ⟨_, rfl⟩
  have hlen : L.length = 5 := by rw [← hL]; rfl
  obtain ⟨w6, hw6⟩ : ∃ w6, w5.alloc (.cells (L.map fun q => Value.func (.func q.fn) #[] q.caps).toArray 151) = w6 := ⟨_, rfl⟩
  have k6 : Below w5.heap.size w5 w6 := by rw [← hw6]; exact (Below.refl _ w5).alloc (Nat.le_refl _) _
  have hX : Blk w6 w5.heap.size (L.map fun q => Value.func (.func q.fn) #[] q.caps).toArray 151 := by rw [← hw6]; exact Blk.new w5 _ _
  have hrow : QRow w6 w5.heap.size L := ⟨fun i hi => hX.cell i (by simp [hi])⟩
  have hA6 := hAll w6 w5.heap.size (hB.step k6)
  rw [hL] at hA6 hE
  have HA := Lib.hid (hA6 hrow hX.lt)
  have HK := Lib.hid (kk.trans (k6.mono kk.size))
  have HE := Lib.hid hE
  have HLN := Lib.hid hlen
  rw [← hL] at hw6
  simp only [rchQ, List.map_cons, List.map_nil] at hw6
  clear hB hX hrow k6 kk hAll hA6 hE hlen hL
  go_wp2_with fail
  clear hw6
  refine (vfirst_ok w6 w5.heap.size 5 5 L HLN.out.symm (by rw [HLN.out]; decide) _ _ HA (Lib.hid ⟨Below.refl _ _, fun h => by omega⟩)).mono ?_
  rintro e w7 ⟨rfl, h8, h9⟩
  have k7 : Below w6.heap.size w6 w7 := by
    by_cases hz : firstN L = 0
    · exact (h8 hz).1
    · obtain ⟨_, _, _, _, hZ⟩ := h9 hz; exact hZ
  clear h8 h9
  go_wp2_with fail
  go_ret
  exact ⟨by rw [← HE.out]; rfl, HK.out.trans (k7.mono HK.out.size)⟩
end Go.Proofs.YtlpchcdalfkfcaaGreat
