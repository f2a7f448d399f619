/-
  Package vmem: Map, Unmap. Conditions: books in order.
-/
import Derived.Test.YtlpchcdalfkfcaaGreatBVmE
import Derived.Test.YtlpchcdalfkfcaaGreatBVmF
namespace Go.Proofs.YtlpchcdalfkfcaaGreat
open Go.RowKit
attribute [local go_sem] Oper.semAt_some
set_option maxHeartbeats 4000000
set_option maxRecDepth 4000

structure Mp3S (p5 p8 kb kp : Nat) (payer : Int) (Y : World) : Prop where
  e0 : Y.cell? ⟨p5, 0, none⟩ = some (.pointer (some ⟨kb, 0, none⟩))
  e1 : Y.cell? ⟨kb, 1, none⟩ = some (.pointer (some ⟨kp, 0, none⟩))
  e2 : Y.cell? ⟨p8, 0, none⟩ = some (.int .i64 payer)
theorem MemAt.setc' {W : World} {k : Mb} {s : Ms} (h : MemAt W k s) {c i : Nat} {cs : Array Value} {t : TypeId} (hb : Blk W c cs t) (h1 : k.b ≠ c) (h2 : k.t ≠ c) (h3 : k.p ≠ c) (v : Value) : MemAt (W.setCell ⟨c, i, none⟩ v) k s := by
  obtain ⟨q1, q2, q3⟩ := h.nes hb
  have hc := (Chg.refl c W).setc ⟨c, i, none⟩ v rfl
  exact ⟨hc.blk h.blk h1, h.tb.chg hc h2 (Ne.symm q1), ⟨hc.blk h.pl.blk h3, hc.map h.pl.fr (Ne.symm q2), hc.map h.pl.re (Ne.symm q3), h.pl.ne⟩, h.n1, h.n2⟩
theorem map3_okV {w : World} {k : Mb} {s : Ms} (h : MemAt w k s) (gd : Good s.many s.F s.R) {p5 p8 p11 : Nat} {payer owner may : Int} (c5 : Blk w p5 #[.pointer (some ⟨k.b, 0, none⟩)] 38) (c8 : Blk w p8 #[.int .i64 payer] 3)
    (c11 : Blk w p11 #[.int .i64 owner, .int .i64 may, .int .i64 0] 97) (l1 : k.b < p11) (l2 : k.t < p11) (l3 : k.p < p11) (n5 : p5 ≠ p11) (n8 : p8 ≠ p11) :
    Calls Tryz.prog 96 #[.pointer (some ⟨p5, 0, none⟩), .pointer (some ⟨p8, 0, none⟩), .pointer (some ⟨p11, 0, none⟩)] w fun e w' => e = .returned (.int .i64 (takErr s.F s.R payer)) ∧
      MemAt w' k { s with F := takAfter s.many s.F s.R payer } ∧ Blk w' p11 #[.int .i64 owner, .int .i64 may, .int .i64 (takAt s.many s.F s.R payer)] 97 ∧ ∃ X, ChgM k w X ∧ w' = X.setCell ⟨p11, 2, none⟩ (.int .i64 (takAt s.many s.F s.R payer)) := by
  obtain ⟨q, hq⟩ : ∃ q, takErr s.F s.R payer = q := ⟨_, rfl⟩
  obtain ⟨i, hi⟩ : ∃ i, takAt s.many s.F s.R payer = i := ⟨_, rfl⟩
  have HQ := Lib.hid hq
  have HI := Lib.hid hi
  rw [hq, hi]
  clear hq hi
  have j0 := (Below.refl w.heap.size w).drew
  go_enter Tryz.func96, Tryz.ntmps96
  go_wp2_with fail
  refine wp_onlyN ?_
  have hS : Mp3S p5 p8 k.b k.p payer w.drew := ⟨(c5.below j0 c5.lt).cell 0 rfl, (h.step j0).cells.2, (c8.below j0 c8.lt).cell 0 rfl⟩
  refine wp_region_held_drew (S := Mp3S p5 p8 k.b k.p payer) (by kernel_rfl) hS (fun hHeld => ?_)
  change wpAnyH _ _ _ _ _ _ _ _ w.drew
  clear hS
  have k1 : ChgM k w w.drew := .of_below j0
  generalize w.drew = Y at j0 k1 hHeld ⊢
  have m1 := h.step j0
  have d5 := c5.below j0 c5.lt
  have d8 := c8.below j0 c8.lt
  have d11 := c11.below j0 c11.lt
  refine wpAnyH_take (i := 0) (v := ?_) rfl (by kernel_rfl) (by kernel_rfl) (by kernel_rfl) (fun _ _ _ h => h) (Or.inl ⟨by rfl, ?_⟩) (by assumption) ?_
  rotate_left
  · (intro Y hSw; (try dsimp only at hSw); obtain ⟨hS0, hS1, hS2⟩ := hSw; go_simp; try with_reducible rfl)
  try simp only [Act.put, pu1, pu2, pu3, pu4, pu5, pu6]
  refine wpAnyH_take (i := 1) (v := ?_) rfl (by kernel_rfl) (by kernel_rfl) (by kernel_rfl) (fun _ _ _ h => h) (Or.inl ⟨by rfl, ?_⟩) (by assumption) ?_
  rotate_left
  · (intro Y hSw; (try dsimp only at hSw); obtain ⟨hS0, hS1, hS2⟩ := hSw; go_simp; try with_reducible rfl)
  try simp only [Act.put, pu1, pu2, pu3, pu4, pu5, pu6]
  refine wpAnyH_take (i := 2) (v := ?_) rfl (by kernel_rfl) (by kernel_rfl) (by kernel_rfl) (fun _ _ _ h => h) (Or.inl ⟨by rfl, ?_⟩) (by assumption) ?_
  rotate_left
  · (intro Y hSw; (try dsimp only at hSw); obtain ⟨hS0, hS1, hS2⟩ := hSw; go_simp; try with_reducible rfl)
  try simp only [Act.put, pu1, pu2, pu3, pu4, pu5, pu6]
  refine wpAnyH_take (i := 3) (v := ?_) rfl (by kernel_rfl) (by kernel_rfl) (by kernel_rfl) (fun _ _ _ h => h) (Or.inl ⟨by rfl, ?_⟩) (by assumption) ?_
  rotate_left
  · (intro Y hSw; (try dsimp only at hSw); obtain ⟨hS0, hS1, hS2⟩ := hSw; go_simp; try with_reducible rfl)
  try simp only [Act.put, pu1, pu2, pu3, pu4, pu5, pu6]
  refine wpAnyH_take (i := 4) (v := ?_) rfl (by kernel_rfl) (by kernel_rfl) (by kernel_rfl) (fun _ _ _ h => h) (Or.inl ⟨by rfl, ?_⟩) (by assumption) ?_
  rotate_left
  · (intro Y hSw; (try dsimp only at hSw); obtain ⟨hS0, hS1, hS2⟩ := hSw; go_simp; try with_reducible rfl)
  try simp only [Act.put, pu1, pu2, pu3, pu4, pu5, pu6]
  refine wpAnyH_ready (rs := [5]) (by kernel_rfl) (by simp) ?_
  refine AllReadyH.cons rfl (fun K hK => ?_) AllReadyH.nil
  go_simp
  refine (Take_ok m1.pl gd.snd payer (fun h => gd.free payer h)).mono ?_; rintro e Z ⟨rfl, hp, hc⟩
  rw [HQ.out, HI.out]
  have m2 := m1.frames hp hc
  have k2 : ChgM k Y Z := .of_pf hc
  have e5 := k2.cells m1 d5
  have e8 := k2.cells m1 d8
  have e11 := k2.cells m1 d11
  have kk := k1.trans k2
  go_simp
  refine hK.out _ _ (⟨e5.cell 0 rfl, m2.cells.2, e8.cell 0 rfl⟩) (fun hHeld => ?_)
  clear hK K
  try simp only [Act.put, pu1, pu2, pu3, pu4, pu5, pu6]
  refine wpAnyH_take (i := 6) (v := ?_) rfl (by kernel_rfl) (by kernel_rfl) (by kernel_rfl) (fun _ _ _ h => h) (Or.inl ⟨by rfl, ?_⟩) (by assumption) ?_
  rotate_left
  · (intro Y hSw; (try dsimp only at hSw); obtain ⟨hS0, hS1, hS2⟩ := hSw; go_simp; try with_reducible rfl)
  try simp only [Act.put, pu1, pu2, pu3, pu4, pu5, pu6]
  refine wpAnyH_take (i := 7) (v := ?_) rfl (by kernel_rfl) (by kernel_rfl) (by kernel_rfl) (fun _ _ _ h => h) (Or.inl ⟨by rfl, ?_⟩) (by assumption) ?_
  rotate_left
  · (intro Y hSw; (try dsimp only at hSw); obtain ⟨hS0, hS1, hS2⟩ := hSw; go_simp; try with_reducible rfl)
  try simp only [Act.put, pu1, pu2, pu3, pu4, pu5, pu6]
  refine wpAnyH_take (i := 8) (v := ?_) rfl (by kernel_rfl) (by kernel_rfl) (by kernel_rfl) (fun _ _ _ h => h) (Or.inl ⟨by rfl, ?_⟩) (by assumption) ?_
  rotate_left
  · (intro Y hSw; (try dsimp only at hSw); obtain ⟨hS0, hS1, hS2⟩ := hSw; go_simp; try with_reducible rfl)
  try simp only [Act.put, pu1, pu2, pu3, pu4, pu5, pu6]
  refine wpAnyH_take (i := 9) (v := ?_) rfl (by kernel_rfl) (by kernel_rfl) (by kernel_rfl) (fun _ _ _ h => h) (Or.inl ⟨by rfl, ?_⟩) (by assumption) ?_
  rotate_left
  · (intro Y hSw; (try dsimp only at hSw); obtain ⟨hS0, hS1, hS2⟩ := hSw; go_simp; try with_reducible rfl)
  try simp only [Act.put, pu1, pu2, pu3, pu4, pu5, pu6]
  have g2 : Z.cell? ⟨p11, 2, none⟩ = some (.int .i64 0) := e11.cell 2 rfl
  have f2 := e11.frozen 2
  have hN := e11.set 2 (.int .i64 i)
  have hM := m2.setc' (i := 2) e11 (by omega) (by omega) (by omega) (.int .i64 i)
  have h5 := e5.setOther ⟨p11, 2, none⟩ (.int .i64 i) (by dsimp only; omega)
  have h8 := e8.setOther ⟨p11, 2, none⟩ (.int .i64 i) (by dsimp only; omega)
  refine wpAnyH_ready (rs := [10]) (by kernel_rfl) (by simp) ?_
  refine AllReadyH.cons rfl (fun K hK => ?_) AllReadyH.nil
  go_simp
  refine hK.out _ _ (⟨h5.cell 0 rfl, hM.cells.2, h8.cell 0 rfl⟩) (fun hHeld => ?_)
  clear hK K
  try simp only [Act.put, pu1, pu2, pu3, pu4, pu5, pu6]
  refine wpAnyH_take (i := 11) (v := ?_) rfl (by kernel_rfl) (by kernel_rfl) (by kernel_rfl) (fun _ _ _ h => h) (Or.inl ⟨by rfl, ?_⟩) (by assumption) ?_
  rotate_left
  · (intro Y hSw; (try dsimp only at hSw); obtain ⟨hS0, hS1, hS2⟩ := hSw; go_simp; try with_reducible rfl)
  try simp only [Act.put, pu1, pu2, pu3, pu4, pu5, pu6]
  refine wpAnyH_done (by kernel_rfl) ?_ _
  rw [onlyN_normal]
  have HM := Lib.hid hM
  have HN := Lib.hid hN
  have HK := Lib.hid kk
  clear hM hN kk hHeld e5 e8 e11 d5 d8 d11 m1 m2 g2 f2 h5 h8 hp hc k1 k2
  go_wp2_with fail
  go_ret
  exact ⟨rfl, HM.out, HN.out, Z, HK.out, rfl⟩
/-! ### Map -/
def mapQ (s : Ms) (b1 b2 p5 p6 p7 p8 p9 p11 : Nat) (n owner payer may : Int) : List Qn :=
  [⟨155, #[.pointer (some ⟨b1 + 1, 0, none⟩), .pointer (some ⟨b1 + 1 + 1, 0, none⟩)], 0⟩,
   ⟨155, #[.pointer (some ⟨b2, 0, none⟩), .pointer (some ⟨b2 + 1, 0, none⟩)], if badOwner payer = true then 2 else 0⟩,
   ⟨93, #[.pointer (some ⟨p5, 0, none⟩), .pointer (some ⟨p6, 0, none⟩), .pointer (some ⟨p7, 0, none⟩), .pointer (some ⟨p9, 0, none⟩)], mapE s.D n ⟨owner, may, 16384⟩⟩,
   ⟨96, #[.pointer (some ⟨p5, 0, none⟩), .pointer (some ⟨p8, 0, none⟩), .pointer (some ⟨p11, 0, none⟩)], takErr s.F s.R payer⟩]
def mapQE (s : Ms) (n owner payer may : Int) : Int := if badOwner payer = true then 2 else if mapE s.D n ⟨owner, may, 16384⟩ = 0 then takErr s.F s.R payer else mapE s.D n ⟨owner, may, 16384⟩
theorem mapQ_eq (s : Ms) (b1 b2 p5 p6 p7 p8 p9 p11 : Nat) (n owner payer may : Int) : firstN (mapQ s b1 b2 p5 p6 p7 p8 p9 p11 n owner payer may) = mapQE s n owner payer may := by
  unfold mapQ mapQE
  simp only [firstN, if_true]
  by_cases h1 : badOwner payer = true
  · rw [if_pos h1, if_neg (by decide), if_pos h1]
  · rw [if_neg h1, if_pos rfl, if_neg h1]
    by_cases h2 : mapE s.D n ⟨owner, may, 16384⟩ = 0
    · rw [if_pos h2, if_pos h2]
      by_cases h3 : takErr s.F s.R payer = 0
      · rw [if_pos h3, h3]
      · rw [if_neg h3]
    · rw [if_neg h2, if_neg h2]
/-- What Map's questions lean on; xf: the frame that the entry has. -/
structure MpB (w0 W : World) (k : Mb) (s : Ms) (bb b1 b2 p5 p6 p7 p8 p9 p11 : Nat) (n owner payer may xf : Int) (L : List Qn) : Prop where
  b : Mp2B W k s p5 p6 p7 p9 n owner may
  c8 : Blk W p8 #[.int .i64 payer] 3
  c11 : Blk W p11 #[.int .i64 owner, .int .i64 may, .int .i64 xf] 97
  d0 : Blk W b1 #[.pointer (some ⟨k.b, 0, none⟩)] 38
  d1 : Blk W (b1 + 1) #[.func (.func 154) #[] #[.pointer (some ⟨b1, 0, none⟩)]] 35
  d2 : Blk W (b1 + 1 + 1) #[.int .i64 1] 25
  e1 : Blk W b2 #[.func (.func 92) #[] #[.pointer (some ⟨p8, 0, none⟩)]] 35
  e2 : Blk W (b2 + 1) #[.int .i64 2] 25
  row : Blk W bb (L.map fun q => Value.func (.func q.fn) #[] q.caps).toArray 151
  ch : ChgM k w0 W
  ne : p11 ≠ p5 ∧ p11 ≠ p6 ∧ p11 ≠ p7 ∧ p11 ≠ p8 ∧ p11 ≠ p9 ∧ p11 < b1 ∧ p11 < b2 ∧ p11 < bb ∧ w0.heap.size ≤ p11 ∧ k.b < p11 ∧ k.t < p11 ∧ k.p < p11
section
variable {w0 W W' : World} {k : Mb} {s : Ms} {bb b1 b2 p5 p6 p7 p8 p9 p11 : Nat} {n owner payer may xf : Int} {L : List Qn}
theorem MpB.step (h : MpB w0 W k s bb b1 b2 p5 p6 p7 p8 p9 p11 n owner payer may xf L) (j : Below W.heap.size W W') : MpB w0 W' k s bb b1 b2 p5 p6 p7 p8 p9 p11 n owner payer may xf L :=
  ⟨h.b.step j, h.c8.below j h.c8.lt, h.c11.below j h.c11.lt, h.d0.below j h.d0.lt, h.d1.below j h.d1.lt, h.d2.below j h.d2.lt, h.e1.below j h.e1.lt, h.e2.below j h.e2.lt, h.row.below j h.row.lt, h.ch.more j h.ch.size, h.ne⟩
theorem MpB.chg {s' : Ms} (h : MpB w0 W k s bb b1 b2 p5 p6 p7 p8 p9 p11 n owner payer may xf L) (hm : MemAt W' k s') (j : ChgM k W W') : MpB w0 W' k s' bb b1 b2 p5 p6 p7 p8 p9 p11 n owner payer may xf L :=
  ⟨h.b.chg hm j, j.cells h.b.m h.c8, j.cells h.b.m h.c11, j.cells h.b.m h.d0, j.cells h.b.m h.d1, j.cells h.b.m h.d2, j.cells h.b.m h.e1, j.cells h.b.m h.e2, j.cells h.b.m h.row, h.ch.trans j, h.ne⟩
end
theorem map_ans {w0 : World} {k : Mb} {s : Ms} {bb b1 b2 p5 p6 p7 p8 p9 p11 : Nat} {n owner payer may : Int} (gd : Good s.many s.F s.R) (hlen : s.D.length ≤ 1000000) (hs : SrtR s.D) :
    QAns (mapQ s b1 b2 p5 p6 p7 p8 p9 p11 n owner payer may) bb
      (fun i W => (i ≤ 3 → MpB w0 W k s bb b1 b2 p5 p6 p7 p8 p9 p11 n owner payer may 0 (mapQ s b1 b2 p5 p6 p7 p8 p9 p11 n owner payer may)) ∧
        (i = 4 → MpB w0 W k { s with F := takAfter s.many s.F s.R payer } bb b1 b2 p5 p6 p7 p8 p9 p11 n owner payer may (takAt s.many s.F s.R payer) (mapQ s b1 b2 p5 p6 p7 p8 p9 p11 n owner payer may)) ∧ i ≤ 4)
      (fun _ W => MemAt W k s ∧ ChgM k w0 W) where
  eg i hi args W := by
    match i, hi with
    | 0, _ => exact enters_of Tryz.func155 (by kernel_rfl) rfl args W
    | 1, _ => exact enters_of Tryz.func155 (by kernel_rfl) rfl args W
    | 2, _ => exact enters_of Tryz.func93 (by kernel_rfl) rfl args W
    | 3, _ => exact enters_of Tryz.func96 (by kernel_rfl) rfl args W
  row i W hW := by
    refine ⟨fun j hj => ?_⟩
    rcases Nat.lt_or_ge i 4 with h4 | h4
    · exact (hW.1 (by omega)).row.cell j (by simp [hj])
    · exact (hW.2.1 (by have := hW.2.2; omega)).row.cell j (by simp [hj])
  ans i hi W hW := by
    match i, hi with
    | 0, _ =>
      have hq := hW.1 (by omega)
      refine (is1_ok (b := true) (R := fun _ => True) (hq.d1.cell 0 rfl) (hq.d2.cell 0 rfl) (fun args W => enters_of Tryz.func154 (by kernel_rfl) rfl args W) (there1_ok hq.b.m (hq.d0.cell 0 rfl))).mono ?_
      rintro e w2 ⟨rfl, j⟩
      exact ⟨rfl, fun _ => ⟨fun _ => hq.step j, fun h => by omega, by omega⟩, fun h => absurd rfl h⟩
    | 1, _ =>
      have hq := hW.1 (by omega)
      refine (is1_ok (b := !badOwner payer) (R := fun _ => True) (hq.e1.cell 0 rfl) (hq.e2.cell 0 rfl) (fun args W => enters_of Tryz.func92 (by kernel_rfl) rfl args W) (map1_okV (hq.c8.cell 0 rfl))).mono ?_
      rintro e w2 ⟨rfl, j⟩
      refine ⟨?_, fun _ => ⟨fun _ => hq.step j, fun h => by omega, by omega⟩, fun _ => ⟨(hq.step j).b.m, (hq.step j).ch⟩⟩
      show Ending.returned (.int .i64 (if (!badOwner payer) = true then 0 else 2)) = .returned (.int .i64 (if badOwner payer = true then 2 else 0))
      cases badOwner payer <;> rfl
    | 2, _ =>
      have hq := hW.1 (by omega)
      refine (map2_okV hq.b hlen hs).mono ?_
      rintro e w2 ⟨rfl, m, j⟩
      have hq2 := hq.chg m j
      exact ⟨rfl, fun _ => ⟨fun _ => hq2, fun h => by omega, by omega⟩, fun _ => ⟨hq2.b.m, hq2.ch⟩⟩
    | 3, _ =>
      have hq := hW.1 (by omega)
      obtain ⟨n1, n2, n3, n4, n5, n6, n7, n8, n9, l1, l2, l3⟩ := hq.ne
      refine (map3_okV hq.b.m gd hq.b.c5 hq.c8 hq.c11 l1 l2 l3 (Ne.symm n1) (Ne.symm n4)).mono ?_
      rintro e w2 ⟨rfl, m, c, X, j, rfl⟩
      have hch : ChgM k w0 (X.setCell ⟨p11, 2, none⟩ (.int .i64 (takAt s.many s.F s.R payer))) := (hq.ch.trans j).setc _ _ n9
      have cs := fun {c : Nat} {cs : Array Value} {t : TypeId} (hb : Blk W c cs t) (hne : p11 ≠ c) => (j.cells hq.b.m hb).setOther ⟨p11, 2, none⟩ (.int .i64 (takAt s.many s.F s.R payer)) (by dsimp only; exact fun e => hne e.symm)
      refine ⟨rfl, fun h0 => ⟨fun h => by omega, fun _ => ⟨⟨m, cs hq.b.c5 n1, cs hq.b.c6 n2, cs hq.b.c7 n3, cs hq.b.c9 n5⟩, cs hq.c8 n4, c, cs hq.d0 (by omega), cs hq.d1 (by omega), cs hq.d2 (by omega), cs hq.e1 (by omega), cs hq.e2 (by omega), cs hq.row (by omega), hch, hq.ne⟩, by omega⟩, fun h0 => ⟨?_, hch⟩⟩
      have e : takAfter s.many s.F s.R payer = s.F := by unfold takAfter; exact if_neg h0
      rw [e] at m
      exact m
structure Mp5S (p5 p6 p11 kb kt : Nat) (n owner may xf : Int) (Y : World) : Prop where
  e0 : Y.cell? ⟨p5, 0, none⟩ = some (.pointer (some ⟨kb, 0, none⟩))
  e1 : Y.cell? ⟨kb, 0, none⟩ = some (.pointer (some ⟨kt, 0, none⟩))
  e2 : Y.cell? ⟨p6, 0, none⟩ = some (.int .i64 n)
  e3 : Y.cell? ⟨p11, 0, none⟩ = some (.int .i64 owner)
  e4 : Y.cell? ⟨p11, 1, none⟩ = some (.int .i64 may)
  e5 : Y.cell? ⟨p11, 2, none⟩ = some (.int .i64 xf)
theorem MpB.s5 {w0 W : World} {k : Mb} {s : Ms} {bb b1 b2 p5 p6 p7 p8 p9 p11 : Nat} {n owner payer may xf : Int} {L : List Qn} (h : MpB w0 W k s bb b1 b2 p5 p6 p7 p8 p9 p11 n owner payer may xf L) : Mp5S p5 p6 p11 k.b k.t n owner may xf W :=
  ⟨h.b.c5.cell 0 rfl, h.b.m.cells.1, h.b.c6.cell 0 rfl, h.c11.cell 0 rfl, h.c11.cell 1 rfl, h.c11.cell 2 rfl⟩
theorem vMap_ok {w : World} {k : Mb} {s : Ms} (h : MemAt w k s) (gd : Good s.many s.F s.R) (hlen : s.D.length ≤ 1000000) (hs : SrtR s.D) (n owner payer may : Int) :
    Calls Tryz.prog 49 #[.pointer (some ⟨k.b, 0, none⟩), .int .i64 n, .int .i64 owner, .int .i64 payer, .int .i64 may] w fun e w' => e = .returned (.int .i64 (vmpE s n owner payer may)) ∧ MemAt w' k (vmpF s n owner payer may) ∧ ChgM k w w' := by
  obtain ⟨w1, hw1⟩ : ∃ w1, ((((w.alloc (.cells #[.pointer (some ⟨k.b, 0, none⟩)] 38)).alloc (.cells #[.int .i64 n] 3)).alloc (.cells #[.int .i64 owner] 3)).alloc (.cells #[.int .i64 payer] 3)).alloc (.cells #[.int .i64 may] 95) = w1 := ⟨_, rfl⟩
  have a0 : Blk w1 w.heap.size #[.pointer (some ⟨k.b, 0, none⟩)] 38 := by rw [← hw1]; exact ((((Blk.new w _ _).alloc _).alloc _).alloc _).alloc _
  have a1 : Blk w1 (w.heap.size + 1) #[.int .i64 n] 3 := by rw [← hw1]; exact (((Blk.newAt _ _ _ (by simp)).alloc _).alloc _).alloc _
  have a2 : Blk w1 (w.heap.size + 1 + 1) #[.int .i64 owner] 3 := by rw [← hw1]; exact ((Blk.newAt _ _ _ (by simp)).alloc _).alloc _
  have a3 : Blk w1 (w.heap.size + 1 + 1 + 1) #[.int .i64 payer] 3 := by rw [← hw1]; exact (Blk.newAt _ _ _ (by simp)).alloc _
  have a4 : Blk w1 (w.heap.size + 1 + 1 + 1 + 1) #[.int .i64 may] 95 := by rw [← hw1]; exact Blk.newAt _ _ _ (by simp)
  have k1 : Below w.heap.size w w1 := by rw [← hw1]; exact (((((Below.refl _ w).alloc (Nat.le_refl _) _).alloc (by simp) _).alloc (by simp; omega) _).alloc (by simp; omega) _).alloc (by simp; omega) _
  have Z1 := Lib.hid (show w1.heap.size = w.heap.size + 1 + 1 + 1 + 1 + 1 by rw [← hw1]; simp)
  have m1 := h.step k1
  have c0 : w1.cell? ⟨w.heap.size, 0, none⟩ = some (.pointer (some ⟨k.b, 0, none⟩)) := a0.cell 0 rfl
  have c2 : w1.cell? ⟨w.heap.size + 1 + 1, 0, none⟩ = some (.int .i64 owner) := a2.cell 0 rfl
  have c4 : w1.cell? ⟨w.heap.size + 1 + 1 + 1 + 1, 0, none⟩ = some (.int .i64 may) := a4.cell 0 rfl
  have l1 := h.blk.lt
  have l2 := h.tb.blk.lt
  have l3 := h.pl.blk.lt
  obtain ⟨q, hq⟩ : ∃ q, vmpE s n owner payer may = q := ⟨_, rfl⟩
  obtain ⟨s9, hs9⟩ : ∃ s9, vmpF s n owner payer may = s9 := ⟨_, rfl⟩
  have HQ := Lib.hid hq
  have HS9 := Lib.hid hs9
  rw [hq, hs9]
  clear hq hs9
  have lw := a0.lt
  go_enter Tryz.func49, Tryz.ntmps49
  go_wp2_with fail
  clear hw1 c2 c4 lw
  obtain ⟨w2, hw2⟩ : ∃ w2, w1.alloc (.cells #[.int .i64 owner, .int .i64 may, .int .i64 0] 97) = w2 := ⟨_, rfl⟩
  have k2 : Below w1.heap.size w1 w2 := by rw [← hw2]; exact (Below.refl _ w1).alloc (Nat.le_refl _) _
  have a5 : Blk w2 w1.heap.size #[.int .i64 owner, .int .i64 may, .int .i64 0] 97 := by rw [← hw2]; exact Blk.new w1 _ _
  rw [hw2]
  clear hw2
  have m2 := m1.step k2
  refine (there_okV m2).mono ?_; rintro e w3 ⟨rfl, ⟨d0, d1, d2⟩, k3⟩
  go_wp2_with fail
  refine (is_ok2 _ _ _ w3).mono ?_; rintro e w4 ⟨rfl, e1, e2, k4⟩
  have z1 := k1.size
  have z2 := k2.size
  have z3 := k3.size
  have z4 := k4.size
  have l11 := a5.lt
  have j3 := k3.trans (k4.mono z3)
  have j2 := k2.trans (j3.mono z2)
  have kk : Below w.heap.size w w4 := k1.trans (j2.mono z1)
  have hpc := Z1.out
  have hB := fun (L : List Qn) (w5 : World) (k5 : Below w4.heap.size w4 w5) (hrow : Blk w5 w4.heap.size (L.map fun q => Value.func (.func q.fn) #[] q.caps).toArray 151) =>
    (⟨⟨m2.step (j3.trans (k5.mono (Nat.le_trans z3 z4))), (a0.below j2 a0.lt).below k5 (by have := a0.lt; omega), (a1.below j2 a1.lt).below k5 (by have := a1.lt; omega), (a2.below j2 a2.lt).below k5 (by have := a2.lt; omega), (a4.below j2 a4.lt).below k5 (by have := a4.lt; omega)⟩,
      (a3.below j2 a3.lt).below k5 (by have := a3.lt; omega), (a5.below j3 a5.lt).below k5 (by omega), (d0.below k4 d0.lt).below k5 (by have := d0.lt; omega), (d1.below k4 d1.lt).below k5 (by have := d1.lt; omega), (d2.below k4 d2.lt).below k5 (by have := d2.lt; omega), e1.below k5 e1.lt, e2.below k5 e2.lt, hrow, .of_below (kk.trans (k5.mono kk.size)),
      by omega⟩ : MpB w w5 k s w4.heap.size w2.heap.size w3.heap.size w.heap.size (w.heap.size + 1) (w.heap.size + 1 + 1) (w.heap.size + 1 + 1 + 1) (w.heap.size + 1 + 1 + 1 + 1) w1.heap.size n owner payer may 0 L)
  have HB := Lib.hid hB
  clear hB d0 d1 d2 e1 e2 a0 a1 a2 a3 a4 a5 c0 k1 k2 k3 k4 j2 j3 m1 m2 z1 z2 z3 z4 l11 hpc l1 l2 l3 Z1 h kk
  obtain ⟨b1, hb1⟩ : ∃ b1, w2.heap.size = b1 := ⟨_, rfl⟩
  obtain ⟨b2, hb2⟩ : ∃ b2, w3.heap.size = b2 := ⟨_, rfl⟩
  obtain ⟨p11, hp11⟩ : ∃ p, w1.heap.size = p := ⟨_, rfl⟩
  rw [hb1, hb2, hp11] at HB
  rw [hb1, hb2, hp11]
  clear hb1 hb2 hp11
  have hAll := map_ans (w0 := w) (k := k) (s := s) (bb := w4.heap.size) (b1 := b1) (b2 := b2) (p5 := w.heap.size) (p6 := w.heap.size + 1) (p7 := w.heap.size + 1 + 1) (p8 := w.heap.size + 1 + 1 + 1) (p9 := w.heap.size + 1 + 1 + 1 + 1) (p11 := p11) (n := n) (owner := owner) (payer := payer) (may := may) gd hlen hs
  have hE := mapQ_eq s b1 b2 w.heap.size (w.heap.size + 1) (w.heap.size + 1 + 1) (w.heap.size + 1 + 1 + 1) (w.heap.size + 1 + 1 + 1 + 1) p11 n owner payer may
  obtain ⟨L, hL⟩ : ∃ L, mapQ s b1 b2 w.heap.size (w.heap.size + 1) (w.heap.size + 1 + 1) (w.heap.size + 1 + 1 + 1) (w.heap.size + 1 + 1 + 1 + 1) p11 n owner payer may = L := ⟨_, rfl⟩
  have hln : L.length = 4 := by rw [← hL]; rfl
  obtain ⟨w5, hw5⟩ : ∃ w5, w4.alloc (.cells (L.map fun q => Value.func (.func q.fn) #[] q.caps).toArray 151) = w5 := ⟨_, rfl⟩
  have k5 : Below w4.heap.size w4 w5 := by rw [← hw5]; exact (Below.refl _ w4).alloc (Nat.le_refl _) _
  have hX : Blk w5 w4.heap.size (L.map fun q => Value.func (.func q.fn) #[] q.caps).toArray 151 := by rw [← hw5]; exact Blk.new w4 _ _
  have hB5 := HB.out L w5 k5 hX
  rw [hL] at hAll hE
  have HA := Lib.hid hAll
  have HE := Lib.hid hE
  have HLN := Lib.hid hln
  have HB5 := Lib.hid hB5
  rw [← hL] at hw5
  simp only [mapQ, List.map_cons, List.map_nil] at hw5
  clear hX k5 hAll hE hln hL hB5 HB
  go_wp2_with fail
  clear hw5
  refine (vfirst_ok w5 w4.heap.size 4 4 L HLN.out.symm (by rw [HLN.out]; decide) _ _ HA (Lib.hid ⟨fun _ => HB5.out, fun h => by omega, by omega⟩)).mono ?_
  rintro e w6 ⟨rfl, h8, h9⟩
  rw [HE.out] at h8 h9 ⊢
  rw [HLN.out] at h8
  have H8 := Lib.hid h8
  have H9 := Lib.hid h9
  clear h8 h9 HA HB5
  obtain ⟨r, hr⟩ : ∃ r, mapQE s n owner payer may = r := ⟨_, rfl⟩
  rw [hr] at H8 H9 ⊢
  have HR := Lib.hid hr
  clear hr
  by_cases h0 : r = 0
  · subst h0
    have hq6 := (H8.out rfl).2.1 rfl
    have hr0 := HR.out
    unfold mapQE at hr0
    have hb0 : ¬ badOwner payer = true := fun e => by rw [if_pos e] at hr0; cases hr0
    rw [if_neg hb0] at hr0
    have hm0 : mapE s.D n ⟨owner, may, 16384⟩ = 0 := Classical.not_not.1 fun e => by rw [if_neg e] at hr0; exact e hr0
    rw [if_pos hm0] at hr0
    have hqe := HQ.out
    have hse := HS9.out
    unfold vmpE at hqe
    unfold vmpF at hse
    rw [if_neg hb0, if_pos hm0, if_pos hr0] at hqe hse
    have HQE := Lib.hid hqe
    have HSE := Lib.hid hse
    have HQ6 := Lib.hid hq6
    clear hr0 hb0 hm0 hqe hse hq6 H8 H9
    obtain ⟨xf, hxf⟩ : ∃ xf, takAt s.many s.F s.R payer = xf := ⟨_, rfl⟩
    rw [hxf] at HQE HSE HQ6
    clear hxf
    go_wp2_with fail
    refine wp_onlyN ?_
    have h7 := HQ6.out.step (Below.refl _ w6).drew
    refine wp_region_held_drew (S := Mp5S w.heap.size (w.heap.size + 1) p11 k.b k.t n owner may xf) (by kernel_rfl) h7.s5 (fun hHeld => ?_)
    change wpAnyH _ _ _ _ _ _ _ _ w6.drew
    generalize w6.drew = Y at h7 hHeld ⊢
    clear HQ6
    refine wpAnyH_take (i := 0) (v := ?_) rfl (by kernel_rfl) (by kernel_rfl) (by kernel_rfl) (fun _ _ _ h => h) (Or.inl ⟨by rfl, ?_⟩) (by assumption) ?_
    rotate_left
    · (intro Y hSw; (try dsimp only at hSw); obtain ⟨hS0, hS1, hS2, hS3, hS4, hS5⟩ := hSw; go_simp; try with_reducible rfl)
    try simp only [Act.put, pu1, pu2, pu3, pu4, pu5, pu6]
    refine wpAnyH_take (i := 1) (v := ?_) rfl (by kernel_rfl) (by kernel_rfl) (by kernel_rfl) (fun _ _ _ h => h) (Or.inl ⟨by rfl, ?_⟩) (by assumption) ?_
    rotate_left
    · (intro Y hSw; (try dsimp only at hSw); obtain ⟨hS0, hS1, hS2, hS3, hS4, hS5⟩ := hSw; go_simp; try with_reducible rfl)
    try simp only [Act.put, pu1, pu2, pu3, pu4, pu5, pu6]
    refine wpAnyH_take (i := 2) (v := ?_) rfl (by kernel_rfl) (by kernel_rfl) (by kernel_rfl) (fun _ _ _ h => h) (Or.inl ⟨by rfl, ?_⟩) (by assumption) ?_
    rotate_left
    · (intro Y hSw; (try dsimp only at hSw); obtain ⟨hS0, hS1, hS2, hS3, hS4, hS5⟩ := hSw; go_simp; try with_reducible rfl)
    try simp only [Act.put, pu1, pu2, pu3, pu4, pu5, pu6]
    refine wpAnyH_take (i := 3) (v := ?_) rfl (by kernel_rfl) (by kernel_rfl) (by kernel_rfl) (fun _ _ _ h => h) (Or.inl ⟨by rfl, ?_⟩) (by assumption) ?_
    rotate_left
    · (intro Y hSw; (try dsimp only at hSw); obtain ⟨hS0, hS1, hS2, hS3, hS4, hS5⟩ := hSw; go_simp; try with_reducible rfl)
    try simp only [Act.put, pu1, pu2, pu3, pu4, pu5, pu6]
    refine wpAnyH_take (i := 4) (v := ?_) rfl (by kernel_rfl) (by kernel_rfl) (by kernel_rfl) (fun _ _ _ h => h) (Or.inl ⟨by rfl, ?_⟩) (by assumption) ?_
    rotate_left
    · (intro Y hSw; (try dsimp only at hSw); obtain ⟨hS0, hS1, hS2, hS3, hS4, hS5⟩ := hSw; go_simp; try with_reducible rfl)
    try simp only [Act.put, pu1, pu2, pu3, pu4, pu5, pu6]
    refine wpAnyH_take (i := 5) (v := ?_) rfl (by kernel_rfl) (by kernel_rfl) (by kernel_rfl) (fun _ _ _ h => h) (Or.inl ⟨by rfl, ?_⟩) (by assumption) ?_
    rotate_left
    · (intro Y hSw; (try dsimp only at hSw); obtain ⟨hS0, hS1, hS2, hS3, hS4, hS5⟩ := hSw; go_simp; try with_reducible rfl)
    try simp only [Act.put, pu1, pu2, pu3, pu4, pu5, pu6]
    refine wpAnyH_take (i := 6) (v := ?_) rfl (by kernel_rfl) (by kernel_rfl) (by kernel_rfl) (fun _ _ _ h => h) (Or.inl ⟨by rfl, ?_⟩) (by assumption) ?_
    rotate_left
    · (intro Y hSw; (try dsimp only at hSw); obtain ⟨hS0, hS1, hS2, hS3, hS4, hS5⟩ := hSw; go_simp; try with_reducible rfl)
    try simp only [Act.put, pu1, pu2, pu3, pu4, pu5, pu6]
    refine wpAnyH_ready (rs := [7]) (by kernel_rfl) (by simp) ?_
    refine AllReadyH.cons rfl (fun K hK => ?_) AllReadyH.nil
    go_simp
    refine (Map_ok h7.b.m.tb hlen n ⟨owner, may, xf⟩).mono ?_; rintro e Z ⟨rfl, ht, hc⟩
    dsimp only at ht
    have h10 := h7.chg (h7.b.m.table ht hc) (.of_tm hc)
    rw [show mapE ({ s with F := takAfter s.many s.F s.R payer } : Ms).D n ⟨owner, may, xf⟩ = q from HQE.out]
    clear h7 ht hc
    go_simp
    refine hK.out _ _ (h10.s5) (fun hHeld => ?_)
    clear hK K
    try simp only [Act.put, pu1, pu2, pu3, pu4, pu5, pu6]
    refine wpAnyH_take (i := 8) (v := ?_) rfl (by kernel_rfl) (by kernel_rfl) (by kernel_rfl) (fun _ _ _ h => h) (Or.inl ⟨by rfl, ?_⟩) (by assumption) ?_
    rotate_left
    · (intro Y hSw; (try dsimp only at hSw); obtain ⟨hS0, hS1, hS2, hS3, hS4, hS5⟩ := hSw; go_simp; try with_reducible rfl)
    try simp only [Act.put, pu1, pu2, pu3, pu4, pu5, pu6]
    refine wpAnyH_done (by kernel_rfl) ?_ _
    rw [onlyN_normal]
    go_wp2_with fail
    go_ret
    exact ⟨rfl, by rw [← HSE.out]; exact h10.b.m, h10.ch⟩
  · obtain ⟨_, _, _, _, hZ⟩ := H9.out h0
    have hr0 := HR.out
    have hqe : q = r := by
      rw [← HQ.out, ← hr0]
      unfold vmpE mapQE
      split
      · rfl
      · split
        · split
          · rename_i h1 h2 h3
            exfalso
            unfold mapQE at hr0
            rw [if_neg h1, if_pos h2] at hr0
            exact h0 (hr0.symm.trans h3)
          · rfl
        · rfl
    have hse : s9 = s := by
      rw [← HS9.out]
      unfold vmpF
      split
      · rfl
      · split
        · split
          · rename_i h1 h2 h3
            exfalso
            unfold mapQE at hr0
            rw [if_neg h1, if_pos h2] at hr0
            exact h0 (hr0.symm.trans h3)
          · rfl
        · rfl
    have HQE := Lib.hid hqe
    have HSE := Lib.hid hse
    have HZ := Lib.hid hZ
    clear hr0 hqe hse H8 H9 hZ
    go_wp2_with fail
    go_ret
    exact ⟨by rw [HQE.out]; rfl, by rw [HSE.out]; exact HZ.out.1, HZ.out.2⟩
structure UmS (kb kp g : Nat) (xf : Int) (Y : World) : Prop where
  e0 : Y.cell? ⟨kb, 1, none⟩ = some (.pointer (some ⟨kp, 0, none⟩))
  e1 : Y.cell? ⟨g, 2, none⟩ = some (.int .i64 xf)
end Go.Proofs.YtlpchcdalfkfcaaGreat

