/-
 Package pinfoldlaw15: MetaHolds. No condition.
-/
import Derived.Test.YtlpchcdalfkfcaaGreatBMeBq
import Derived.Test.YtlpchcdalfkfcaaGreatBMeAc
import Derived.Test.YtlpchcdalfkfcaaGreatBMeG
namespace Go.Proofs.YtlpchcdalfkfcaaGreat
open Go.RowKit Go.ChangeShapes
attribute [local go_sem] Oper.semAt_some
set_option maxHeartbeats 16000000
set_option maxRecDepth 8000

structure TwS (bx : Nat) (sa ca ia sb cb ib : Int) (Y : World) : Prop where
 h0 : Y.cell? ⟨bx, 0, none⟩ = some (.int .i64 sa)
 h1 : Y.cell? ⟨bx, 1, none⟩ = some (.int .i64 ca)
 h2 : Y.cell? ⟨bx, 2, none⟩ = some (.int .i64 ia)
 h3 : Y.cell? ⟨bx, 3, none⟩ = some (.int .i64 sb)
 h4 : Y.cell? ⟨bx, 4, none⟩ = some (.int .i64 cb)
 h5 : Y.cell? ⟨bx, 5, none⟩ = some (.int .i64 ib)
theorem TwS.of {bx : Nat} {sa ca ia sb cb ib : Int} {Y : World} {ty : TypeId} (h : Blk Y bx #[.int .i64 sa, .int .i64 ca, .int .i64 ia, .int .i64 sb, .int .i64 cb, .int .i64 ib] ty) : TwS bx sa ca ia sb cb ib Y :=
 ⟨h.cell 0 rfl, h.cell 1 rfl, h.cell 2 rfl, h.cell 3 rfl, h.cell 4 rfl, h.cell 5 rfl⟩
theorem Blk.ne_tM {W : World} {b g : Nat} {cs cs' : Array Value} {t t' : TypeId} (h : Blk W b cs t) (k : Blk W g cs' t') (ht : t ≠ t') : b ≠ g := by
 rintro rfl
 unfold Blk at h k
 rw [h] at k
 cases k
 exact ht rfl
theorem LivM.setcM {w0 W : World} {k : Mb} {s : Ms} {c i : Nat} {cs : Array Value} {t : TypeId} (h : LivM w0 W k s) (hb : Blk W c cs t) (h1 : t ≠ 145) (h2 : t ≠ 193) (h3 : t ≠ 189) (hc : w0.heap.size ≤ c) (v : Value) : LivM w0 (W.setCell ⟨c, i, none⟩ v) k s :=
 ⟨h.m.setc' hb (h.m.blk.ne_tM hb (Ne.symm h1)) (h.m.tb.blk.ne_tM hb (Ne.symm h2)) (h.m.pl.blk.ne_tM hb (Ne.symm h3)) v, h.gd, h.bel.setCell hc v, h.lo⟩
theorem LivM.set3c {w0 W : World} {k : Mb} {s : Ms} {c : Nat} {x y z : Value} (h : LivM w0 W k s) (hb : Blk W c #[x, y, z] 23) (hc : w0.heap.size ≤ c) (v0 v1 v2 : Value) : LivM w0 (((W.setCell ⟨c, 0, none⟩ v0).setCell ⟨c, 1, none⟩ v1).setCell ⟨c, 2, none⟩ v2) k s :=
 ((h.setcM hb (by decide) (by decide) (by decide) hc v0).setcM (hb.set 0 v0) (by decide) (by decide) (by decide) hc v1).setcM ((hb.set 0 v0).set 1 v1) (by decide) (by decide) (by decide) hc v2
theorem putGX_rg {s : Ms} {t i : Int} {rg : Bool} (h : putGX s t i rg = 0) : rg = true := by
 unfold putGX at h
 cases rg
 ·rw [if_pos (.inr rfl)] at h; cases h
 ·rfl
theorem holds_bodyM (sa ca ia sb cb ib x0 z0 n0 x1 z1 n1 gs gp gz gf : Int) (hn0 : 0 ≤ n0 ∧ n0 < 4294967296) (hn1 : 0 ≤ n1 ∧ n1 < 4294967296) (w : World) :
  Calls Tryz.prog 6 #[.agg #[.int .i64 sa, .int .i64 ca, .int .i64 ia, .int .i64 sb, .int .i64 cb, .int .i64 ib], .agg #[.int .i64 x0, .int .i64 z0, .int .u32 n0, .int .i64 x1, .int .i64 z1, .int .u32 n1], .agg #[.int .i64 gs, .int .i64 gp, .int .i64 gz, .int .i64 gf]] w fun e w' => e = .returned (.bool true) ∧ Below w.heap.size w w' := by
 obtain ⟨w0, hw0⟩ : ∃ w0, ((w.alloc (.cells #[.int .i64 sa, .int .i64 ca, .int .i64 ia, .int .i64 sb, .int .i64 cb, .int .i64 ib] 60)).alloc (.cells #[.int .i64 x0, .int .i64 z0, .int .u32 n0, .int .i64 x1, .int .i64 z1, .int .u32 n1] 61)).alloc (.cells #[.int .i64 gs, .int .i64 gp, .int .i64 gz, .int .i64 gf] 54) = w0 := ⟨_, rfl⟩
 have hX : Blk w0 w.heap.size #[.int .i64 sa, .int .i64 ca, .int .i64 ia, .int .i64 sb, .int .i64 cb, .int .i64 ib] 60 := by rw [← hw0]; exact ((Blk.new w _ _).alloc _).alloc _
 have hR : Blk w0 (w.heap.size + 1) #[.int .i64 x0, .int .i64 z0, .int .u32 n0, .int .i64 x1, .int .i64 z1, .int .u32 n1] 61 := by rw [← hw0]; exact (Blk.newAt _ _ _ (by simp)).alloc _
 have hG : Blk w0 (w.heap.size + 1 + 1) #[.int .i64 gs, .int .i64 gp, .int .i64 gz, .int .i64 gf] 54 := by rw [← hw0]; exact Blk.newAt _ _ _ (by simp)
 have k0 : Below w.heap.size w w0 := by rw [← hw0]; exact (((Below.refl _ w).alloc (Nat.le_refl _) _).alloc (by simp) _).alloc (by simp; omega) _
 obtain ⟨bx, hbx⟩ : ∃ b, w.heap.size = b := ⟨_, rfl⟩
 go_enter Tryz.func6, Tryz.ntmps6
 go_wp2_with fail
 clear hw0
 rw [hbx] at hX hR hG
 try simp only [hbx]
 have H0 := Lib.hid (And.intro hX (And.intro hR hG))
 have hxl := hX.lt
 clear hX hR hG
 refine (memory_okM _).mono ?_; rintro e W ⟨k, rfl, L⟩
 go_wp2_with fail
 refine (fun hrest => ?mainG : (∀ (pa pb : Nat) (Y : World), LivM w0 Y k memS → Blk Y pa #[.int .i64 sa, .int .i64 ca, .int .i64 ia] 23 → Blk Y pb #[.int .i64 sb, .int .i64 cb, .int .i64 ib] 23 → w0.heap.size ≤ pa → w0.heap.size ≤ pb → pa ≠ pb → (?restP : Nat → Nat → World → Prop) pa pb Y) → _) ?hrG
 case mainG =>
  obtain ⟨Y, hY⟩ : ∃ Y, W.drew = Y := ⟨_, rfl⟩
  have j : Below W.heap.size W Y := by rw [← hY]; exact (Below.refl _ W).drew
  replace L := L.step j
  have hX := H0.out.1.below L.bel H0.out.1.lt
  refine wp_onlyN ?_
  refine wp_region_held_drew (S := TwS bx sa ca ia sb cb ib) (by kernel_rfl) (by rw [hY]; exact TwS.of hX) (fun hHeld => ?_)
  rw [hY] at hHeld ⊢
  clear hY j
  refine wpAnyH_take (i := 0) (v := ?_) rfl (by kernel_rfl) (by kernel_rfl) (by kernel_rfl) (fun _ _ _ h => h) (Or.inl ⟨by rfl, ?_⟩) (by assumption) ?_
  rotate_left
  ·(intro Y hSw; (try dsimp only at hSw); obtain ⟨hS0, hS1, hS2, hS3, hS4, hS5⟩ := hSw; go_simp; try with_reducible rfl)
  try simp only [Act.put, pu1, pu2, pu3, pu4, pu5, pu6]
  refine wpAnyH_take (i := 1) (v := ?_) rfl (by kernel_rfl) (by kernel_rfl) (by kernel_rfl) (fun _ _ _ h => h) (Or.inl ⟨by rfl, ?_⟩) (by assumption) ?_
  rotate_left
  ·(intro Y hSw; (try dsimp only at hSw); obtain ⟨hS0, hS1, hS2, hS3, hS4, hS5⟩ := hSw; go_simp; try with_reducible rfl)
  try simp only [Act.put, pu1, pu2, pu3, pu4, pu5, pu6]
  refine wpAnyH_take (i := 2) (v := ?_) rfl (by kernel_rfl) (by kernel_rfl) (by kernel_rfl) (fun _ _ _ h => h) (Or.inl ⟨by rfl, ?_⟩) (by assumption) ?_
  rotate_left
  ·(intro Y hSw; (try dsimp only at hSw); obtain ⟨hS0, hS1, hS2, hS3, hS4, hS5⟩ := hSw; go_simp; try with_reducible rfl)
  try simp only [Act.put, pu1, pu2, pu3, pu4, pu5, pu6]
  refine wpAnyH_take (i := 3) (v := ?_) rfl (by kernel_rfl) (by kernel_rfl) (by kernel_rfl) (fun _ _ _ h => h) (Or.inl ⟨by rfl, ?_⟩) (by assumption) ?_
  rotate_left
  ·(intro Y hSw; (try dsimp only at hSw); obtain ⟨hS0, hS1, hS2, hS3, hS4, hS5⟩ := hSw; go_simp; try with_reducible rfl)
  try simp only [Act.put, pu1, pu2, pu3, pu4, pu5, pu6]
  refine wpAnyH_ready (rs := [4, 5]) (by kernel_rfl) (by simp) ?_
  refine AllReadyH.cons rfl (fun K hK => ?_) (AllReadyH.cons rfl (fun K hK => ?_) AllReadyH.nil)
  ·go_simp
   obtain ⟨pa, hpa⟩ : ∃ g, Y.heap.size = g := ⟨_, rfl⟩
   obtain ⟨Z, hZ⟩ : ∃ Z, Y.alloc (.cells #[.int .i64 0, .int .i64 0, .int .i64 0] 23) = Z := ⟨_, rfl⟩
   have j : Below Y.heap.size Y Z := by rw [← hZ]; exact (Below.refl _ Y).alloc (Nat.le_refl _) _
   have hA : Blk Z pa #[.int .i64 0, .int .i64 0, .int .i64 0] 23 := by rw [← hZ, ← hpa]; exact Blk.new Y _ _
   have hla : w0.heap.size ≤ pa := by rw [← hpa]; exact L.bel.size
   (try have hne : pa ≠ pb := by have := hA.lt; omega); (try have hne : pa ≠ pb := by have := hB.lt; omega)
   rw [hZ, hpa]
   replace L := L.step j; replace hX := hX.below j hX.lt; (try replace hA := hA.below j hA.lt); (try replace hB := hB.below j hB.lt); clear j hZ hpa
   refine hK.out _ _ (TwS.of hX) (fun hHeld => ?_)
   clear hK K
   try simp only [Act.put, pu1, pu2, pu3, pu4, pu5, pu6]
   obtain ⟨Y, rfl⟩ : ∃ Y : World, Y = Z := ⟨_, rfl⟩
   refine wpAnyH_ready (rs := [5]) (by kernel_rfl) (by simp) ?_
   refine AllReadyH.cons rfl (fun K hK => ?_) AllReadyH.nil
   go_simp
   obtain ⟨pb, hpb⟩ : ∃ g, Y.heap.size = g := ⟨_, rfl⟩
   obtain ⟨Z, hZ⟩ : ∃ Z, Y.alloc (.cells #[.int .i64 0, .int .i64 0, .int .i64 0] 23) = Z := ⟨_, rfl⟩
   have j : Below Y.heap.size Y Z := by rw [← hZ]; exact (Below.refl _ Y).alloc (Nat.le_refl _) _
   have hB : Blk Z pb #[.int .i64 0, .int .i64 0, .int .i64 0] 23 := by rw [← hZ, ← hpb]; exact Blk.new Y _ _
   have hlb : w0.heap.size ≤ pb := by rw [← hpb]; exact L.bel.size
   (try have hne : pa ≠ pb := by have := hA.lt; omega); (try have hne : pa ≠ pb := by have := hB.lt; omega)
   rw [hZ, hpb]
   replace L := L.step j; replace hX := hX.below j hX.lt; (try replace hA := hA.below j hA.lt); (try replace hB := hB.below j hB.lt); clear j hZ hpb
   refine hK.out _ _ (TwS.of hX) (fun hHeld => ?_)
   clear hK K
   try simp only [Act.put, pu1, pu2, pu3, pu4, pu5, pu6]
   obtain ⟨Y, rfl⟩ : ∃ Y : World, Y = Z := ⟨_, rfl⟩
   refine wpAnyH_ready (rs := [6]) (by kernel_rfl) (by simp) ?_
   refine AllReadyH.cons rfl (fun K hK => ?_) AllReadyH.nil
   rw [if_pos (by rfl)]
   have r0 := hA.cell 0 (v := .int .i64 0) rfl
   have r1 := hA.cell 1 (v := .int .i64 0) rfl
   have r2 := hA.cell 2 (v := .int .i64 0) rfl
   have f0 := hA.frozen 0
   have f1 := hA.frozen 1
   have f2 := hA.frozen 2
   have zl := hA.lt
   go_simp
   obtain ⟨Z, hZ⟩ : ∃ Z, ((Y.setCell ⟨pa, 0, none⟩ (.int .i64 sa)).setCell ⟨pa, 1, none⟩ (.int .i64 ca)).setCell ⟨pa, 2, none⟩ (.int .i64 ia) = Z := ⟨_, rfl⟩
   have h9 : Blk Z pa #[.int .i64 sa, .int .i64 ca, .int .i64 ia] 23 := by rw [← hZ]; exact hA.set3 _ _ _
   replace L := by have := L.set3c hA hla (.int .i64 sa) (.int .i64 ca) (.int .i64 ia); rw [hZ] at this; exact this
   have hXp : bx ≠ pa := by omega
   replace hX := by have := ((hX.setOther ⟨pa, 0, none⟩ (.int .i64 sa) hXp).setOther ⟨pa, 1, none⟩ (.int .i64 ca) hXp).setOther ⟨pa, 2, none⟩ (.int .i64 ia) hXp; rw [hZ] at this; exact this
   (try replace hB := by have := ((hB.setOther ⟨pa, 0, none⟩ (.int .i64 sa) (Ne.symm hne)).setOther ⟨pa, 1, none⟩ (.int .i64 ca) (Ne.symm hne)).setOther ⟨pa, 2, none⟩ (.int .i64 ia) (Ne.symm hne); rw [hZ] at this; exact this)
   rw [hZ]
   clear hZ r0 r1 r2 f0 f1 f2 zl hXp hA
   have hA := h9
   clear h9
   refine hK.out _ _ (TwS.of hX) (fun hHeld => ?_)
   clear hK K
   try simp only [Act.put, pu1, pu2, pu3, pu4, pu5, pu6]
   obtain ⟨Y, rfl⟩ : ∃ Y : World, Y = Z := ⟨_, rfl⟩
   refine wpAnyH_ready (rs := [7]) (by kernel_rfl) (by simp) ?_
   refine AllReadyH.cons rfl (fun K hK => ?_) AllReadyH.nil
   rw [if_pos (by rfl)]
   have r0 := hB.cell 0 (v := .int .i64 0) rfl
   have r1 := hB.cell 1 (v := .int .i64 0) rfl
   have r2 := hB.cell 2 (v := .int .i64 0) rfl
   have f0 := hB.frozen 0
   have f1 := hB.frozen 1
   have f2 := hB.frozen 2
   have zl := hB.lt
   go_simp
   obtain ⟨Z, hZ⟩ : ∃ Z, ((Y.setCell ⟨pb, 0, none⟩ (.int .i64 sb)).setCell ⟨pb, 1, none⟩ (.int .i64 cb)).setCell ⟨pb, 2, none⟩ (.int .i64 ib) = Z := ⟨_, rfl⟩
   have h9 : Blk Z pb #[.int .i64 sb, .int .i64 cb, .int .i64 ib] 23 := by rw [← hZ]; exact hB.set3 _ _ _
   replace L := by have := L.set3c hB hlb (.int .i64 sb) (.int .i64 cb) (.int .i64 ib); rw [hZ] at this; exact this
   have hXp : bx ≠ pb := by omega
   replace hX := by have := ((hX.setOther ⟨pb, 0, none⟩ (.int .i64 sb) hXp).setOther ⟨pb, 1, none⟩ (.int .i64 cb) hXp).setOther ⟨pb, 2, none⟩ (.int .i64 ib) hXp; rw [hZ] at this; exact this
   (try replace hA := by have := ((hA.setOther ⟨pb, 0, none⟩ (.int .i64 sb) hne).setOther ⟨pb, 1, none⟩ (.int .i64 cb) hne).setOther ⟨pb, 2, none⟩ (.int .i64 ib) hne; rw [hZ] at this; exact this)
   rw [hZ]
   clear hZ r0 r1 r2 f0 f1 f2 zl hXp hB
   have hB := h9
   clear h9
   refine hK.out _ _ (TwS.of hX) (fun hHeld => ?_)
   clear hK K
   try simp only [Act.put, pu1, pu2, pu3, pu4, pu5, pu6]
   obtain ⟨Y, rfl⟩ : ∃ Y : World, Y = Z := ⟨_, rfl⟩
   refine wpAnyH_done (by kernel_rfl) ?_ _
   rw [onlyN_normal]
   exact hrest pa pb Y L hA hB hla hlb hne
  ·go_simp
   obtain ⟨pb, hpb⟩ : ∃ g, Y.heap.size = g := ⟨_, rfl⟩
   obtain ⟨Z, hZ⟩ : ∃ Z, Y.alloc (.cells #[.int .i64 0, .int .i64 0, .int .i64 0] 23) = Z := ⟨_, rfl⟩
   have j : Below Y.heap.size Y Z := by rw [← hZ]; exact (Below.refl _ Y).alloc (Nat.le_refl _) _
   have hB : Blk Z pb #[.int .i64 0, .int .i64 0, .int .i64 0] 23 := by rw [← hZ, ← hpb]; exact Blk.new Y _ _
   have hlb : w0.heap.size ≤ pb := by rw [← hpb]; exact L.bel.size
   (try have hne : pa ≠ pb := by have := hA.lt; omega); (try have hne : pa ≠ pb := by have := hB.lt; omega)
   rw [hZ, hpb]
   replace L := L.step j; replace hX := hX.below j hX.lt; (try replace hA := hA.below j hA.lt); (try replace hB := hB.below j hB.lt); clear j hZ hpb
   refine hK.out _ _ (TwS.of hX) (fun hHeld => ?_)
   clear hK K
   try simp only [Act.put, pu1, pu2, pu3, pu4, pu5, pu6]
   obtain ⟨Y, rfl⟩ : ∃ Y : World, Y = Z := ⟨_, rfl⟩
   refine wpAnyH_ready (rs := [4]) (by kernel_rfl) (by simp) ?_
   refine AllReadyH.cons rfl (fun K hK => ?_) AllReadyH.nil
   go_simp
   obtain ⟨pa, hpa⟩ : ∃ g, Y.heap.size = g := ⟨_, rfl⟩
   obtain ⟨Z, hZ⟩ : ∃ Z, Y.alloc (.cells #[.int .i64 0, .int .i64 0, .int .i64 0] 23) = Z := ⟨_, rfl⟩
   have j : Below Y.heap.size Y Z := by rw [← hZ]; exact (Below.refl _ Y).alloc (Nat.le_refl _) _
   have hA : Blk Z pa #[.int .i64 0, .int .i64 0, .int .i64 0] 23 := by rw [← hZ, ← hpa]; exact Blk.new Y _ _
   have hla : w0.heap.size ≤ pa := by rw [← hpa]; exact L.bel.size
   (try have hne : pa ≠ pb := by have := hA.lt; omega); (try have hne : pa ≠ pb := by have := hB.lt; omega)
   rw [hZ, hpa]
   replace L := L.step j; replace hX := hX.below j hX.lt; (try replace hA := hA.below j hA.lt); (try replace hB := hB.below j hB.lt); clear j hZ hpa
   refine hK.out _ _ (TwS.of hX) (fun hHeld => ?_)
   clear hK K
   try simp only [Act.put, pu1, pu2, pu3, pu4, pu5, pu6]
   obtain ⟨Y, rfl⟩ : ∃ Y : World, Y = Z := ⟨_, rfl⟩
   refine wpAnyH_ready (rs := [6]) (by kernel_rfl) (by simp) ?_
   refine AllReadyH.cons rfl (fun K hK => ?_) AllReadyH.nil
   rw [if_pos (by rfl)]
   have r0 := hA.cell 0 (v := .int .i64 0) rfl
   have r1 := hA.cell 1 (v := .int .i64 0) rfl
   have r2 := hA.cell 2 (v := .int .i64 0) rfl
   have f0 := hA.frozen 0
   have f1 := hA.frozen 1
   have f2 := hA.frozen 2
   have zl := hA.lt
   go_simp
   obtain ⟨Z, hZ⟩ : ∃ Z, ((Y.setCell ⟨pa, 0, none⟩ (.int .i64 sa)).setCell ⟨pa, 1, none⟩ (.int .i64 ca)).setCell ⟨pa, 2, none⟩ (.int .i64 ia) = Z := ⟨_, rfl⟩
   have h9 : Blk Z pa #[.int .i64 sa, .int .i64 ca, .int .i64 ia] 23 := by rw [← hZ]; exact hA.set3 _ _ _
   replace L := by have := L.set3c hA hla (.int .i64 sa) (.int .i64 ca) (.int .i64 ia); rw [hZ] at this; exact this
   have hXp : bx ≠ pa := by omega
   replace hX := by have := ((hX.setOther ⟨pa, 0, none⟩ (.int .i64 sa) hXp).setOther ⟨pa, 1, none⟩ (.int .i64 ca) hXp).setOther ⟨pa, 2, none⟩ (.int .i64 ia) hXp; rw [hZ] at this; exact this
   (try replace hB := by have := ((hB.setOther ⟨pa, 0, none⟩ (.int .i64 sa) (Ne.symm hne)).setOther ⟨pa, 1, none⟩ (.int .i64 ca) (Ne.symm hne)).setOther ⟨pa, 2, none⟩ (.int .i64 ia) (Ne.symm hne); rw [hZ] at this; exact this)
   rw [hZ]
   clear hZ r0 r1 r2 f0 f1 f2 zl hXp hA
   have hA := h9
   clear h9
   refine hK.out _ _ (TwS.of hX) (fun hHeld => ?_)
   clear hK K
   try simp only [Act.put, pu1, pu2, pu3, pu4, pu5, pu6]
   obtain ⟨Y, rfl⟩ : ∃ Y : World, Y = Z := ⟨_, rfl⟩
   refine wpAnyH_ready (rs := [7]) (by kernel_rfl) (by simp) ?_
   refine AllReadyH.cons rfl (fun K hK => ?_) AllReadyH.nil
   rw [if_pos (by rfl)]
   have r0 := hB.cell 0 (v := .int .i64 0) rfl
   have r1 := hB.cell 1 (v := .int .i64 0) rfl
   have r2 := hB.cell 2 (v := .int .i64 0) rfl
   have f0 := hB.frozen 0
   have f1 := hB.frozen 1
   have f2 := hB.frozen 2
   have zl := hB.lt
   go_simp
   obtain ⟨Z, hZ⟩ : ∃ Z, ((Y.setCell ⟨pb, 0, none⟩ (.int .i64 sb)).setCell ⟨pb, 1, none⟩ (.int .i64 cb)).setCell ⟨pb, 2, none⟩ (.int .i64 ib) = Z := ⟨_, rfl⟩
   have h9 : Blk Z pb #[.int .i64 sb, .int .i64 cb, .int .i64 ib] 23 := by rw [← hZ]; exact hB.set3 _ _ _
   replace L := by have := L.set3c hB hlb (.int .i64 sb) (.int .i64 cb) (.int .i64 ib); rw [hZ] at this; exact this
   have hXp : bx ≠ pb := by omega
   replace hX := by have := ((hX.setOther ⟨pb, 0, none⟩ (.int .i64 sb) hXp).setOther ⟨pb, 1, none⟩ (.int .i64 cb) hXp).setOther ⟨pb, 2, none⟩ (.int .i64 ib) hXp; rw [hZ] at this; exact this
   (try replace hA := by have := ((hA.setOther ⟨pb, 0, none⟩ (.int .i64 sb) hne).setOther ⟨pb, 1, none⟩ (.int .i64 cb) hne).setOther ⟨pb, 2, none⟩ (.int .i64 ib) hne; rw [hZ] at this; exact this)
   rw [hZ]
   clear hZ r0 r1 r2 f0 f1 f2 zl hXp hB
   have hB := h9
   clear h9
   refine hK.out _ _ (TwS.of hX) (fun hHeld => ?_)
   clear hK K
   try simp only [Act.put, pu1, pu2, pu3, pu4, pu5, pu6]
   obtain ⟨Y, rfl⟩ : ∃ Y : World, Y = Z := ⟨_, rfl⟩
   refine wpAnyH_done (by kernel_rfl) ?_ _
   rw [onlyN_normal]
   exact hrest pa pb Y L hA hB hla hlb hne
 case hrG =>
  clear L
  intro pa pb Y L hA hB hla hlb hne
  have d0 := hA.cell 0 (v := .int .i64 sa) rfl
  have e0 := hB.cell 0 (v := .int .i64 sb) rfl
  by_cases c1 : sa = sb
  ·have q1 : (sa == sb) = true := by simpa using c1
   clear c1
   clear hn0 hn1
   go_wp2_with fail
   refine (works_okM _).mono ?_; rintro e Z9 ⟨rfl, j9⟩
   go_wp2_with fail
   go_ret
   exact ⟨rfl, (k0.trans (L.bel.mono k0.size)).trans (j9.mono (k0.trans (L.bel.mono k0.size)).size)⟩
  have q1 : (sa == sb) = false := by simpa using c1
  by_cases c2 : sa < 0
  ·have q2 : decide (sa < 0) = true := decide_eq_true c2
   clear c2 c1
   clear hn0 hn1
   go_wp2_with fail
   refine (works_okM _).mono ?_; rintro e Z9 ⟨rfl, j9⟩
   go_wp2_with fail
   go_ret
   exact ⟨rfl, (k0.trans (L.bel.mono k0.size)).trans (j9.mono (k0.trans (L.bel.mono k0.size)).size)⟩
  have q2 : decide (sa < 0) = false := decide_eq_false c2
  by_cases c3 : 3 < sa
  ·have q3 : decide (3 < sa) = true := decide_eq_true c3
   clear c3 c2 c1
   clear hn0 hn1
   go_wp2_with fail
   refine (works_okM _).mono ?_; rintro e Z9 ⟨rfl, j9⟩
   go_wp2_with fail
   go_ret
   exact ⟨rfl, (k0.trans (L.bel.mono k0.size)).trans (j9.mono (k0.trans (L.bel.mono k0.size)).size)⟩
  have q3 : decide (3 < sa) = false := decide_eq_false c3
  by_cases c4 : sb < 0
  ·have q4 : decide (sb < 0) = true := decide_eq_true c4
   clear c4 c3 c2 c1
   clear hn0 hn1
   go_wp2_with fail
   refine (works_okM _).mono ?_; rintro e Z9 ⟨rfl, j9⟩
   go_wp2_with fail
   go_ret
   exact ⟨rfl, (k0.trans (L.bel.mono k0.size)).trans (j9.mono (k0.trans (L.bel.mono k0.size)).size)⟩
  have q4 : decide (sb < 0) = false := decide_eq_false c4
  by_cases c5 : 3 < sb
  ·have q5 : decide (3 < sb) = true := decide_eq_true c5
   clear c5 c4 c3 c2 c1
   clear hn0 hn1
   go_wp2_with fail
   refine (works_okM _).mono ?_; rintro e Z9 ⟨rfl, j9⟩
   go_wp2_with fail
   go_ret
   exact ⟨rfl, (k0.trans (L.bel.mono k0.size)).trans (j9.mono (k0.trans (L.bel.mono k0.size)).size)⟩
  have q5 : decide (3 < sb) = false := decide_eq_false c5
  have hsa : 0 ≤ sa ∧ sa < 4 := by omega
  have hsb : 0 ≤ sb ∧ sb < 4 := by omega
  clear c2 c3 c4 c5
  obtain ⟨o1, o2, ba, bb, gd, hz0⟩ := two_open hsa hsb c1
  go_wp2_with fail
  clear q1 q2 q3 q4 q5 d0 e0
  refine (mOpen_ok L sa 63).mono ?_; rintro e W1 ⟨rfl, L1, c⟩
  rw [o1]
  replace hA := c.cells L.m hA; replace hB := c.cells L.m hB
  (try replace hV := c.cells L.m hV); (try replace hC := c.cells L.m hC); (try replace hP := c.cells L.m hP); (try replace hQ := c.cells L.m hQ); (try replace hU := c.cells L.m hU)
  clear c L
  have L := L1
  clear L1
  go_wp2_with fail
  refine (num_callsM _ _).mono ?_; rintro e _ ⟨rfl, rfl⟩
  have e0 := hB.cell 0 (v := .int .i64 sb) rfl
  go_wp2_with fail
  clear e0
  refine (mOpen_ok L sb 63).mono ?_; rintro e W2 ⟨rfl, L1, c⟩
  rw [o2]
  replace hA := c.cells L.m hA; replace hB := c.cells L.m hB
  (try replace hV := c.cells L.m hV); (try replace hC := c.cells L.m hC); (try replace hP := c.cells L.m hP); (try replace hQ := c.cells L.m hQ); (try replace hU := c.cells L.m hU)
  clear c L
  have L := L1
  clear L1
  generalize opnF (opnF memS sa 63) sb 63 = m2 at *
  clear o1 o2
  go_wp2_with fail
  refine (num_callsM _ _).mono ?_; rintro e _ ⟨rfl, rfl⟩
  have d0 := hA.cell 0 (v := .int .i64 sa) rfl
  have d1 := hA.cell 1 (v := .int .i64 ca) rfl
  have d2 := hA.cell 2 (v := .int .i64 ia) rfl
  have e0 := hB.cell 0 (v := .int .i64 sb) rfl
  have e1 := hB.cell 1 (v := .int .i64 cb) rfl
  have e2 := hB.cell 2 (v := .int .i64 ib) rfl
  have la := hA.lt
  have lb := hB.lt
  have hR := H0.out.2.1.below L.bel H0.out.2.1.lt
  have s0 := hR.cell 0 (v := .int .i64 x0) rfl
  have s1 := hR.cell 1 (v := .int .i64 z0) rfl
  have s2 := hR.cell 2 (v := .int .u32 n0) rfl
  have s3 := hR.cell 3 (v := .int .i64 x1) rfl
  have s4 := hR.cell 4 (v := .int .i64 z1) rfl
  have s5 := hR.cell 5 (v := .int .u32 n1) rfl
  have lr := hR.lt
  have lx := Nat.lt_of_succ_lt lr
  go_wp2_with fail
  by_cases hp : ¬ putX m2 sa ca ia (rgtR x0 z0) = 0
  ·refine (mPut_no L sa ca ia x0 z0 n0 hp).mono ?_; rintro e W3 ⟨rfl, j⟩
   obtain ⟨q, hq'⟩ : ∃ q, putX m2 sa ca ia (rgtR x0 z0) = q := ⟨_, rfl⟩
   rw [hq'] at hp ⊢
   have hq1 : (q == 0) = false := by simpa using hp
   have hq2 : (q != 0) = true := by simpa using hp
   replace L := L.step j
   clear hq' j hp la lb lr lx d0 d1 d2 e0 e1 e2 hR s0 s1 s2 s3 s4 s5 hn0 hn1
   go_wp2_with fail
   refine (num_callsM _ _).mono ?_; rintro e _ ⟨rfl, rfl⟩
   go_wp2_with fail
   refine (works_okM _).mono ?_; rintro e Z9 ⟨rfl, j9⟩
   go_wp2_with fail
   go_ret
   exact ⟨rfl, (k0.trans (L.bel.mono k0.size)).trans (j9.mono (k0.trans (L.bel.mono k0.size)).size)⟩
  replace hp := Decidable.not_not.1 hp
  obtain ⟨ha, hr0⟩ := putX_zero hp
  clear la lb lr lx d0 d1 d2 e0 e1 e2 hR s0 s1 s2 s3 s4 s5 hp
  refine (mPut_yes L ha ba hr0 hn0).mono ?_; rintro e W3 ⟨rfl, L1, c⟩
  replace hA := c.cells L.m hA; replace hB := c.cells L.m hB
  (try replace hV := c.cells L.m hV); (try replace hC := c.cells L.m hC); (try replace hP := c.cells L.m hP); (try replace hQ := c.cells L.m hQ); (try replace hU := c.cells L.m hU)
  clear c L
  have L := L1
  clear L1
  have HA := Lib.hid (And.intro ha hr0)
  clear ha hr0
  go_wp2_with fail
  refine (num_callsM _ _).mono ?_; rintro e _ ⟨rfl, rfl⟩
  have d0 := hA.cell 0 (v := .int .i64 sa) rfl
  have d1 := hA.cell 1 (v := .int .i64 ca) rfl
  have d2 := hA.cell 2 (v := .int .i64 ia) rfl
  have e0 := hB.cell 0 (v := .int .i64 sb) rfl
  have e1 := hB.cell 1 (v := .int .i64 cb) rfl
  have e2 := hB.cell 2 (v := .int .i64 ib) rfl
  have la := hA.lt
  have lb := hB.lt
  have hR := H0.out.2.1.below L.bel H0.out.2.1.lt
  have s0 := hR.cell 0 (v := .int .i64 x0) rfl
  have s1 := hR.cell 1 (v := .int .i64 z0) rfl
  have s2 := hR.cell 2 (v := .int .u32 n0) rfl
  have s3 := hR.cell 3 (v := .int .i64 x1) rfl
  have s4 := hR.cell 4 (v := .int .i64 z1) rfl
  have s5 := hR.cell 5 (v := .int .u32 n1) rfl
  have lr := hR.lt
  have lx := Nat.lt_of_succ_lt lr
  go_wp2_with fail
  by_cases hq : ¬ putX (wrS m2 (-2) (spA sa ca ia) (bytR x0 z0 n0)) sb cb ib (rgtR x1 z1) = 0
  ·refine (mPut_no L sb cb ib x1 z1 n1 hq).mono ?_; rintro e W4 ⟨rfl, j⟩
   obtain ⟨q, hq'⟩ : ∃ q, putX (wrS m2 (-2) (spA sa ca ia) (bytR x0 z0 n0)) sb cb ib (rgtR x1 z1) = q := ⟨_, rfl⟩
   rw [hq'] at hq ⊢
   have hq1 : (q == 0) = false := by simpa using hq
   have hq2 : (q != 0) = true := by simpa using hq
   replace L := L.step j
   clear hq' j hq la lb lr lx d0 d1 d2 e0 e1 e2 hR s0 s1 s2 s3 s4 s5 hn0 hn1
   go_wp2_with fail
   refine (num_callsM _ _).mono ?_; rintro e _ ⟨rfl, rfl⟩
   go_wp2_with fail
   refine (works_okM _).mono ?_; rintro e Z9 ⟨rfl, j9⟩
   go_wp2_with fail
   go_ret
   exact ⟨rfl, (k0.trans (L.bel.mono k0.size)).trans (j9.mono (k0.trans (L.bel.mono k0.size)).size)⟩
  replace hq := Decidable.not_not.1 hq
  obtain ⟨hb, hr1⟩ := putX_zero hq
  obtain ⟨bb3, hd⟩ := Hd.start HA.out.1 hb c1 gd ba bb hz0 (bytR_len x0 z0 n0) (bytR_len x1 z1 n1)
  clear la lb lr lx d0 d1 d2 e0 e1 e2 hR s0 s1 s2 s3 s4 s5 hq ba bb gd hz0
  refine (mPut_yes L hb bb3 hr1 hn1).mono ?_; rintro e W4 ⟨rfl, L1, c⟩
  replace hA := c.cells L.m hA; replace hB := c.cells L.m hB
  (try replace hV := c.cells L.m hV); (try replace hC := c.cells L.m hC); (try replace hP := c.cells L.m hP); (try replace hQ := c.cells L.m hQ); (try replace hU := c.cells L.m hU)
  clear c L
  have L := L1
  clear L1
  generalize wrS (wrS m2 (-2) (spA sa ca ia) (bytR x0 z0 n0)) (-2) (spA sb cb ib) (bytR x1 z1 n1) = m4 at *
  have HB := Lib.hid (And.intro hb hr1)
  have HD := Lib.hid hd
  clear hb hr1 bb3 hd
  go_wp2_with fail
  refine (num_callsM _ _).mono ?_; rintro e _ ⟨rfl, rfl⟩
  have d0 := hA.cell 0 (v := .int .i64 sa) rfl
  go_wp2_with fail
  clear d0
  refine (mGetG_yes L (i := 383) (by decide) HD.out.a _ HD.out.f3 (by simp) (fun x hx => by rw [List.eq_of_mem_replicate hx]; decide)).mono ?_; rintro e W5 ⟨rfl, j⟩
  rw [grtV_zero.1, grtV_zero.2]
  replace L := L.step j; replace hA := hA.below j hA.lt; replace hB := hB.below j hB.lt
  (try replace hV := hV.below j hV.lt); (try replace hC := hC.below j hC.lt); (try replace hP := hP.below j hP.lt); (try replace hQ := hQ.below j hQ.lt); (try replace hU := hU.below j hU.lt)
  clear j
  have d0 := hA.cell 0 (v := .int .i64 sa) rfl
  have d1 := hA.cell 1 (v := .int .i64 ca) rfl
  have d2 := hA.cell 2 (v := .int .i64 ia) rfl
  have e0 := hB.cell 0 (v := .int .i64 sb) rfl
  have e1 := hB.cell 1 (v := .int .i64 cb) rfl
  have e2 := hB.cell 2 (v := .int .i64 ib) rfl
  have la := hA.lt
  have lb := hB.lt
  have hR := H0.out.2.1.below L.bel H0.out.2.1.lt
  have s0 := hR.cell 0 (v := .int .i64 x0) rfl
  have s1 := hR.cell 1 (v := .int .i64 z0) rfl
  have s2 := hR.cell 2 (v := .int .u32 n0) rfl
  have s3 := hR.cell 3 (v := .int .i64 x1) rfl
  have s4 := hR.cell 4 (v := .int .i64 z1) rfl
  have s5 := hR.cell 5 (v := .int .u32 n1) rfl
  have lr := hR.lt
  have lx := Nat.lt_of_succ_lt lr
  by_cases hcb : cb = ca
  ·by_cases hib : ib = ia
   ·subst hcb hib
    go_wp2_with fail
    obtain ⟨Y5, hY5⟩ : ∃ Y, (W5.alloc (.cells #[.int .i64 0, .int .i64 0, .int .i64 0, .int .i64 0] 54)).alloc (.cells #[.int .i64 sa, .int .i64 cb, .int .i64 ib] 23) = Y := ⟨_, rfl⟩
    obtain ⟨bv, hbv⟩ : ∃ b, W5.heap.size = b := ⟨_, rfl⟩
    have hV : Blk Y5 bv #[.int .i64 0, .int .i64 0, .int .i64 0, .int .i64 0] 54 := by rw [← hY5, ← hbv]; exact (Blk.new W5 _ _).alloc _
    have j : Below W5.heap.size W5 Y5 := by rw [← hY5]; exact ((Below.refl _ W5).alloc (Nat.le_refl _) _).alloc (by simp) _
    rw [hY5]
    try simp only [hbv]
    clear hY5 hbv la lb lr lx d0 d1 d2 e0 e1 e2 hR s0 s1 s2 s3 s4 s5
    replace L := L.step j; replace hA := hA.below j hA.lt; replace hB := hB.below j hB.lt
    clear j
    refine (mPutG_yes L (t := sb) (i := 0) (st := 0) (pg := 0) (sz := 0) (fi := 0) (by decide) HD.out.b (by decide)).mono ?_; rintro e W7 ⟨rfl, L1, c⟩
    replace hA := c.cells L.m hA; replace hB := c.cells L.m hB
    (try replace hV := c.cells L.m hV); (try replace hC := c.cells L.m hC); (try replace hP := c.cells L.m hP); (try replace hQ := c.cells L.m hQ); (try replace hU := c.cells L.m hU)
    clear c L
    have L := L1
    clear L1
    have hd6 := (HD.out.put_g HA.out.1 HB.out.1 HD.out.b (bytG_len 0 0 0 0)).1
    clear HD
    generalize wrS _ (-2) (grA sb 0) (bytG 0 0 0 0) = m6 at *
    have HD := Lib.hid hd6
    clear hd6
    go_wp2_with fail
    refine (num_callsM _ _).mono ?_; rintro e _ ⟨rfl, rfl⟩
    have d0 := hA.cell 0 (v := .int .i64 sa) rfl
    have d1 := hA.cell 1 (v := .int .i64 cb) rfl
    have d2 := hA.cell 2 (v := .int .i64 ib) rfl
    have e0 := hB.cell 0 (v := .int .i64 sb) rfl
    have e1 := hB.cell 1 (v := .int .i64 cb) rfl
    have e2 := hB.cell 2 (v := .int .i64 ib) rfl
    have la := hA.lt
    have lb := hB.lt
    go_wp2_with fail
    clear d0 d1 d2 e0 e1 e2 la lb
    refine (mGet_yes L HA.out.1 HD.out.a (bytR x0 z0 n0) HD.out.f1 (bytR_len x0 z0 n0) (bytR_bd x0 z0 n0)).mono ?_; rintro e W8 ⟨rfl, j⟩
    rw [(recV_byt HA.out.2 hn0).1, (recV_byt HA.out.2 hn0).2]
    replace L := L.step j; replace hA := hA.below j hA.lt; replace hB := hB.below j hB.lt
    (try replace hV := hV.below j hV.lt); (try replace hC := hC.below j hC.lt); (try replace hP := hP.below j hP.lt); (try replace hQ := hQ.below j hQ.lt); (try replace hU := hU.below j hU.lt)
    clear j
    have d0 := hA.cell 0 (v := .int .i64 sa) rfl
    have d1 := hA.cell 1 (v := .int .i64 cb) rfl
    have d2 := hA.cell 2 (v := .int .i64 ib) rfl
    have e0 := hB.cell 0 (v := .int .i64 sb) rfl
    have e1 := hB.cell 1 (v := .int .i64 cb) rfl
    have e2 := hB.cell 2 (v := .int .i64 ib) rfl
    have la := hA.lt
    have lb := hB.lt
    have lv := hV.lt
    go_wp2_with fail
    clear d0 d1 d2 e0 e1 e2 la lb lv
    obtain ⟨Y8, hY9⟩ : ∃ Y, W8.alloc (.cells #[.int .i64 x0, .int .i64 z0, .int .u32 n0] 47) = Y := ⟨_, rfl⟩
    obtain ⟨bp, hb9⟩ : ∃ b, W8.heap.size = b := ⟨_, rfl⟩
    have hP : Blk Y8 bp #[.int .i64 x0, .int .i64 z0, .int .u32 n0] 47 := by rw [← hY9, ← hb9]; exact Blk.new W8 _ _
    have j : Below W8.heap.size W8 Y8 := by rw [← hY9]; exact (Below.refl _ W8).alloc (Nat.le_refl _) _
    rw [hY9]
    try simp only [hb9]
    clear hY9 hb9
    replace L := L.step j; replace hA := hA.below j hA.lt; replace hB := hB.below j hB.lt; replace hV := hV.below j hV.lt
    clear j
    refine (mGet_yes L HB.out.1 HD.out.b (bytR x1 z1 n1) HD.out.f2 (bytR_len x1 z1 n1) (bytR_bd x1 z1 n1)).mono ?_; rintro e W9 ⟨rfl, j⟩
    rw [(recV_byt HB.out.2 hn1).1, (recV_byt HB.out.2 hn1).2]
    replace L := L.step j; replace hA := hA.below j hA.lt; replace hB := hB.below j hB.lt
    (try replace hV := hV.below j hV.lt); (try replace hC := hC.below j hC.lt); (try replace hP := hP.below j hP.lt); (try replace hQ := hQ.below j hQ.lt); (try replace hU := hU.below j hU.lt)
    clear j
    have d0 := hA.cell 0 (v := .int .i64 sa) rfl
    have la := hA.lt
    go_wp2_with fail
    clear d0 la
    obtain ⟨Y9, hY9⟩ : ∃ Y, W9.alloc (.cells #[.int .i64 x1, .int .i64 z1, .int .u32 n1] 47) = Y := ⟨_, rfl⟩
    obtain ⟨bq, hb9⟩ : ∃ b, W9.heap.size = b := ⟨_, rfl⟩
    have hQ : Blk Y9 bq #[.int .i64 x1, .int .i64 z1, .int .u32 n1] 47 := by rw [← hY9, ← hb9]; exact Blk.new W9 _ _
    have j : Below W9.heap.size W9 Y9 := by rw [← hY9]; exact (Below.refl _ W9).alloc (Nat.le_refl _) _
    rw [hY9]
    try simp only [hb9]
    clear hY9 hb9
    replace L := L.step j; replace hA := hA.below j hA.lt; replace hB := hB.below j hB.lt; replace hV := hV.below j hV.lt; replace hP := hP.below j hP.lt
    clear j
    refine (mGetG_yes L (i := 383) (by decide) HD.out.a _ HD.out.f3 (by simp) (fun x hx => by rw [List.eq_of_mem_replicate hx]; decide)).mono ?_; rintro e W10 ⟨rfl, j⟩
    rw [grtV_zero.1, grtV_zero.2]
    replace L := L.step j; replace hA := hA.below j hA.lt; replace hB := hB.below j hB.lt
    (try replace hV := hV.below j hV.lt); (try replace hC := hC.below j hC.lt); (try replace hP := hP.below j hP.lt); (try replace hQ := hQ.below j hQ.lt); (try replace hU := hU.below j hU.lt)
    clear j
    have lq := hQ.lt
    have lp := hP.lt
    have lv := hV.lt
    have la := hA.lt
    have v0 := hV.cell 0 (v := .int .i64 0) rfl
    have v1 := hV.cell 1 (v := .int .i64 0) rfl
    have v2 := hV.cell 2 (v := .int .i64 0) rfl
    have v3 := hV.cell 3 (v := .int .i64 0) rfl
    have u0 := hP.cell 0 (v := .int .i64 x0) rfl
    have u1 := hP.cell 1 (v := .int .i64 z0) rfl
    have u2 := hP.cell 2 (v := .int .u32 n0) rfl
    have y0 := hQ.cell 0 (v := .int .i64 x1) rfl
    have y1 := hQ.cell 1 (v := .int .i64 z1) rfl
    have y2 := hQ.cell 2 (v := .int .u32 n1) rfl
    have hR := H0.out.2.1.below L.bel H0.out.2.1.lt
    have s0 := hR.cell 0 (v := .int .i64 x0) rfl
    have s1 := hR.cell 1 (v := .int .i64 z0) rfl
    have s2 := hR.cell 2 (v := .int .u32 n0) rfl
    have s3 := hR.cell 3 (v := .int .i64 x1) rfl
    have s4 := hR.cell 4 (v := .int .i64 z1) rfl
    have s5 := hR.cell 5 (v := .int .u32 n1) rfl
    have lr := hR.lt
    have lx := Nat.lt_of_succ_lt lr
    go_wp2_with fail
    refine (num_callsM _ _).mono ?_; rintro e w1 ⟨rfl, rfl⟩
    go_wp2_with fail
    refine (num_callsM _ _).mono ?_; rintro e w1 ⟨rfl, rfl⟩
    go_wp2_with fail
    refine (num_callsM _ _).mono ?_; rintro e w1 ⟨rfl, rfl⟩
    go_wp2_with fail
    refine (num_callsM _ _).mono ?_; rintro e w1 ⟨rfl, rfl⟩
    have d0 := hA.cell 0 (v := .int .i64 sa) rfl
    have hG := H0.out.2.2.below L.bel H0.out.2.2.lt
    have g0 := hG.cell 0 (v := .int .i64 gs) rfl
    have g1 := hG.cell 1 (v := .int .i64 gp) rfl
    have g2 := hG.cell 2 (v := .int .i64 gz) rfl
    have g3 := hG.cell 3 (v := .int .i64 gf) rfl
    have lg := hG.lt
    have lg2 : bx < W10.heap.size := by omega
    have lg3 : bx + 1 < W10.heap.size := by omega
    go_wp2_with fail
    clear lg lg2 lg3 g0 g1 g2 g3 hG d0 hR s0 s1 s2 s3 s4 s5 lr lx v0 v1 v2 v3 u0 u1 u2 y0 y1 y2 lq lp lv la hP hQ hV
    obtain ⟨Y10, hY9⟩ : ∃ Y, W10.alloc (.cells #[.int .i64 0, .int .i64 0, .int .i64 0, .int .i64 0] 54) = Y := ⟨_, rfl⟩
    have j : Below W10.heap.size W10 Y10 := by rw [← hY9]; exact (Below.refl _ W10).alloc (Nat.le_refl _) _
    rw [hY9]
    clear hY9
    replace L := L.step j; replace hA := hA.below j hA.lt
    clear j hB
    by_cases hg : ¬ putGX m6 sa 0 (rgtG gs gp gz gf) = 0
    ·refine (mPutG_no L sa 0 gs gp gz gf hg).mono ?_; rintro e W11 ⟨rfl, j⟩
     obtain ⟨q, hq'⟩ : ∃ q, putGX m6 sa 0 (rgtG gs gp gz gf) = q := ⟨_, rfl⟩
     rw [hq'] at hg ⊢
     have hq1 : (q == 0) = false := by simpa using hg
     replace L := L.step j; replace hA := hA.below j hA.lt
     clear hq' hg j
     have HK := Lib.hid HD.out.a
     go_wp2_with fail
     refine (num_callsM _ _).mono ?_; rintro e _ ⟨rfl, rfl⟩
     go_wp2_with fail
     go_loopw [24] (fun i wr => ∃ o : Nat, o ≤ 4 ∧ i = .int .i64 o ∧ LivM w0 wr k m6 ∧ Blk wr pa #[.int .i64 sa, .int .i64 cb, .int .i64 ib] 23) (fun i _ => 4 - (intOf i).toNat)
     case atStart => exact ⟨0, by omega, rfl, L, hA⟩
     case round =>
      clear L hA
      obtain ⟨o, ho, rfl, L, hA⟩ := hrel
      by_cases hlt : o < 4
      ·have i0 : (0 : Int) ≤ o := by omega
       have i1 : (o : Int) < 4 := by omega
       have dt : decide ((o : Int) < 4) = true := decide_eq_true i1
       go_wp2_with fail
       try rw [dt]
       go_loopw [25] (fun i wr => ∃ n : Nat, n ≤ 48 ∧ i = .int .i64 n ∧ LivM w0 wr k m6 ∧ Blk wr pa #[.int .i64 sa, .int .i64 cb, .int .i64 ib] 23) (fun i _ => 48 - (intOf i).toNat)
       case atStart => exact ⟨0, by omega, rfl, L, hA⟩
       case round =>
        clear L hA
        obtain ⟨n, hn, rfl, L, hA⟩ := hrel
        by_cases hlt2 : n < 48
        ·have j0 : (0 : Int) ≤ n := by omega
         have j1 : (n : Int) < 48 := by omega
         have d0 := hA.cell 0 (v := .int .i64 sa) rfl
         have hmx : max (o : Int) (-1) = o := by omega
         go_wp2_with fail
         clear d0
         refine (L.load o (256 * (64 * sa + 1 + n)) 1 (by omega) (by omega) (.inl (by decide))).mono ?_; rintro e V1 ⟨v, rfl, _, j⟩
         rw [hmx, HK.out.barred ⟨i0, i1⟩ ⟨j0, j1⟩]
         replace L := L.step j; replace hA := hA.below j hA.lt
         clear j
         go_wp2_with fail
         refine (num_callsM _ _).mono ?_; rintro e _ ⟨rfl, rfl⟩
         go_wp2_with fail
         have hv : RowAt (V1.alloc (.cells #[.int .u8 1] 5)).heap.size (V1.alloc (.cells #[.int .u8 1] 5)) (.slice (some ⟨V1.heap.size, 0, none⟩) 1 1) ([1] : List Int).length (intVals .u8 [1]) := RowAt.lit V1 #[.int .u8 1] 5 1 _ (by simp)
         have jj : Below V1.heap.size V1 (V1.alloc (.cells #[.int .u8 1] 5)) := (Below.refl _ V1).alloc (Nat.le_refl _) _
         replace L := L.step jj; replace hA := hA.below jj hA.lt
         have hst := L.store o (256 * (64 * sa + 1 + n)) (by omega) (by omega) [1] (Nat.le_refl _) hv
         have hno : rchE m6.D (o : Int) (256 * (64 * sa + 1 + n)) (([1] : List Int).length : Nat) 2 = 190 := HK.out.barred ⟨i0, i1⟩ ⟨j0, j1⟩
         rw [hmx, hno, BkP.keeps_no L.gd (by omega) (by rw [hno]; decide)] at hst
         refine hst.mono ?_; rintro e V2 ⟨rfl, L1, c⟩
         replace hA := c.cells L.m hA
         clear hst hno hv jj c L hmx
         go_wp2_with fail
         refine (num_callsM _ _).mono ?_; rintro e _ ⟨rfl, rfl⟩
         go_wp2_with fail
         exact ⟨⟨n + 1, by omega, by go_num, L1, hA⟩, by simp [intOf]; omega⟩
        ·obtain rfl : n = 48 := by omega
         go_wp2_with fail
         exact ⟨⟨o + 1, by omega, by go_num, L, hA⟩, by simp [intOf]; omega⟩
      ·obtain rfl : o = 4 := by omega
       go_wp2_with fail
       refine (works_okM _).mono ?_; rintro e Z9 ⟨rfl, j9⟩
       go_wp2_with fail
       go_ret
       exact ⟨rfl, (k0.trans (L.bel.mono k0.size)).trans (j9.mono (k0.trans (L.bel.mono k0.size)).size)⟩
    ·replace hg := Decidable.not_not.1 hg
     have hrg := putGX_rg hg
     refine (mPutG_yes L (i := 0) (by decide) HD.out.a hrg).mono ?_; rintro e W11 ⟨rfl, L1, c⟩
     replace hA := c.cells L.m hA
     clear hg c L
     have L := L1
     clear L1
     have H7 := Lib.hid (HD.out.put_g HA.out.1 HB.out.1 HD.out.a (bytG_len gs gp gz gf))
     have HRG := Lib.hid hrg
     clear hrg
     generalize wrS m6 (-2) (grA sa 0) (bytG gs gp gz gf) = m7 at *
     go_wp2_with fail
     refine (num_callsM _ _).mono ?_; rintro e _ ⟨rfl, rfl⟩
     have d0 := hA.cell 0 (v := .int .i64 sa) rfl
     go_wp2_with fail
     clear d0
     refine (mGetG_yes L (i := 0) (by decide) H7.out.1.a _ H7.out.2 (bytG_len gs gp gz gf) (bytG_bd gs gp gz gf)).mono ?_; rintro e W12 ⟨rfl, j⟩
     rw [(grtV_byt HRG.out).1, (grtV_byt HRG.out).2]
     replace L := L.step j; replace hA := hA.below j hA.lt
     clear j
     have d0 := hA.cell 0 (v := .int .i64 sa) rfl
     have d1 := hA.cell 1 (v := .int .i64 cb) rfl
     have d2 := hA.cell 2 (v := .int .i64 ib) rfl
     have la := hA.lt
     go_wp2_with fail
     clear d0 d1 d2 la
     obtain ⟨Y12, hY9⟩ : ∃ Y, W12.alloc (.cells #[.int .i64 gs, .int .i64 gp, .int .i64 gz, .int .i64 gf] 54) = Y := ⟨_, rfl⟩
     obtain ⟨bz, hb9⟩ : ∃ b, W12.heap.size = b := ⟨_, rfl⟩
     have hZ : Blk Y12 bz #[.int .i64 gs, .int .i64 gp, .int .i64 gz, .int .i64 gf] 54 := by rw [← hY9, ← hb9]; exact Blk.new W12 _ _
     have j : Below W12.heap.size W12 Y12 := by rw [← hY9]; exact (Below.refl _ W12).alloc (Nat.le_refl _) _
     rw [hY9]
     try simp only [hb9]
     clear hY9 hb9
     replace L := L.step j; replace hA := hA.below j hA.lt
     clear j
     refine (mGet_yes L HA.out.1 H7.out.1.a (bytR x0 z0 n0) H7.out.1.f1 (bytR_len x0 z0 n0) (bytR_bd x0 z0 n0)).mono ?_; rintro e W13 ⟨rfl, j⟩
     rw [(recV_byt HA.out.2 hn0).1, (recV_byt HA.out.2 hn0).2]
     replace L := L.step j; replace hA := hA.below j hA.lt; replace hZ := hZ.below j hZ.lt
     clear j
     have hR := H0.out.2.1.below L.bel H0.out.2.1.lt
     have s0 := hR.cell 0 (v := .int .i64 x0) rfl
     have s1 := hR.cell 1 (v := .int .i64 z0) rfl
     have s2 := hR.cell 2 (v := .int .u32 n0) rfl
     have s3 := hR.cell 3 (v := .int .i64 x1) rfl
     have s4 := hR.cell 4 (v := .int .i64 z1) rfl
     have s5 := hR.cell 5 (v := .int .u32 n1) rfl
     have lr := hR.lt
     have lx := Nat.lt_of_succ_lt lr
     have hG := H0.out.2.2.below L.bel H0.out.2.2.lt
     have g0 := hG.cell 0 (v := .int .i64 gs) rfl
     have g1 := hG.cell 1 (v := .int .i64 gp) rfl
     have g2 := hG.cell 2 (v := .int .i64 gz) rfl
     have g3 := hG.cell 3 (v := .int .i64 gf) rfl
     have y0 := hZ.cell 0 (v := .int .i64 gs) rfl
     have y1 := hZ.cell 1 (v := .int .i64 gp) rfl
     have y2 := hZ.cell 2 (v := .int .i64 gz) rfl
     have y3 := hZ.cell 3 (v := .int .i64 gf) rfl
     have lg := hG.lt
     have lz := hZ.lt
     have lg3 : bx + 1 < W13.heap.size := by omega
     go_wp2_with fail
     refine (num_callsM _ _).mono ?_; rintro e w1 ⟨rfl, rfl⟩
     go_wp2_with fail
     refine (num_callsM _ _).mono ?_; rintro e w1 ⟨rfl, rfl⟩
     go_wp2_with fail
     clear hR s0 s1 s2 s3 s4 s5 lr lx hG g0 g1 g2 g3 y0 y1 y2 y3 lg lz lg3 hZ
     have HK := Lib.hid H7.out.1.a
     have j : Below W13.heap.size W13 (W13.alloc (.cells #[.int .i64 x0, .int .i64 z0, .int .u32 n0] 47)) := (Below.refl _ W13).alloc (Nat.le_refl _) _
     replace L := L.step j; replace hA := hA.below j hA.lt
     clear j
     go_loopw [24] (fun i wr => ∃ o : Nat, o ≤ 4 ∧ i = .int .i64 o ∧ LivM w0 wr k m7 ∧ Blk wr pa #[.int .i64 sa, .int .i64 cb, .int .i64 ib] 23) (fun i _ => 4 - (intOf i).toNat)
     case atStart => exact ⟨0, by omega, rfl, L, hA⟩
     case round =>
      clear L hA
      obtain ⟨o, ho, rfl, L, hA⟩ := hrel
      by_cases hlt : o < 4
      ·have i0 : (0 : Int) ≤ o := by omega
       have i1 : (o : Int) < 4 := by omega
       have dt : decide ((o : Int) < 4) = true := decide_eq_true i1
       go_wp2_with fail
       try rw [dt]
       go_loopw [25] (fun i wr => ∃ n : Nat, n ≤ 48 ∧ i = .int .i64 n ∧ LivM w0 wr k m7 ∧ Blk wr pa #[.int .i64 sa, .int .i64 cb, .int .i64 ib] 23) (fun i _ => 48 - (intOf i).toNat)
       case atStart => exact ⟨0, by omega, rfl, L, hA⟩
       case round =>
        clear L hA
        obtain ⟨n, hn, rfl, L, hA⟩ := hrel
        by_cases hlt2 : n < 48
        ·have j0 : (0 : Int) ≤ n := by omega
         have j1 : (n : Int) < 48 := by omega
         have d0 := hA.cell 0 (v := .int .i64 sa) rfl
         have hmx : max (o : Int) (-1) = o := by omega
         go_wp2_with fail
         clear d0
         refine (L.load o (256 * (64 * sa + 1 + n)) 1 (by omega) (by omega) (.inl (by decide))).mono ?_; rintro e V1 ⟨v, rfl, _, j⟩
         rw [hmx, HK.out.barred ⟨i0, i1⟩ ⟨j0, j1⟩]
         replace L := L.step j; replace hA := hA.below j hA.lt
         clear j
         go_wp2_with fail
         refine (num_callsM _ _).mono ?_; rintro e _ ⟨rfl, rfl⟩
         go_wp2_with fail
         have hv : RowAt (V1.alloc (.cells #[.int .u8 1] 5)).heap.size (V1.alloc (.cells #[.int .u8 1] 5)) (.slice (some ⟨V1.heap.size, 0, none⟩) 1 1) ([1] : List Int).length (intVals .u8 [1]) := RowAt.lit V1 #[.int .u8 1] 5 1 _ (by simp)
         have jj : Below V1.heap.size V1 (V1.alloc (.cells #[.int .u8 1] 5)) := (Below.refl _ V1).alloc (Nat.le_refl _) _
         replace L := L.step jj; replace hA := hA.below jj hA.lt
         have hst := L.store o (256 * (64 * sa + 1 + n)) (by omega) (by omega) [1] (Nat.le_refl _) hv
         have hno : rchE m7.D (o : Int) (256 * (64 * sa + 1 + n)) (([1] : List Int).length : Nat) 2 = 190 := HK.out.barred ⟨i0, i1⟩ ⟨j0, j1⟩
         rw [hmx, hno, BkP.keeps_no L.gd (by omega) (by rw [hno]; decide)] at hst
         refine hst.mono ?_; rintro e V2 ⟨rfl, L1, c⟩
         replace hA := c.cells L.m hA
         clear hst hno hv jj c L hmx
         go_wp2_with fail
         refine (num_callsM _ _).mono ?_; rintro e _ ⟨rfl, rfl⟩
         go_wp2_with fail
         exact ⟨⟨n + 1, by omega, by go_num, L1, hA⟩, by simp [intOf]; omega⟩
        ·obtain rfl : n = 48 := by omega
         go_wp2_with fail
         exact ⟨⟨o + 1, by omega, by go_num, L, hA⟩, by simp [intOf]; omega⟩
      ·obtain rfl : o = 4 := by omega
       go_wp2_with fail
       refine (works_okM _).mono ?_; rintro e Z9 ⟨rfl, j9⟩
       go_wp2_with fail
       go_ret
       exact ⟨rfl, (k0.trans (L.bel.mono k0.size)).trans (j9.mono (k0.trans (L.bel.mono k0.size)).size)⟩
   ·have HIB := Lib.hid hib
    subst hcb
    go_wp2_with fail
    obtain ⟨Y5, hY5⟩ : ∃ Y, (W5.alloc (.cells #[.int .i64 0, .int .i64 0, .int .i64 0, .int .i64 0] 54)).alloc (.cells #[.int .i64 sa, .int .i64 cb, .int .i64 ib] 23) = Y := ⟨_, rfl⟩
    obtain ⟨bv, hbv⟩ : ∃ b, W5.heap.size = b := ⟨_, rfl⟩
    have hV : Blk Y5 bv #[.int .i64 0, .int .i64 0, .int .i64 0, .int .i64 0] 54 := by rw [← hY5, ← hbv]; exact (Blk.new W5 _ _).alloc _
    have j : Below W5.heap.size W5 Y5 := by rw [← hY5]; exact ((Below.refl _ W5).alloc (Nat.le_refl _) _).alloc (by simp) _
    rw [hY5]
    try simp only [hbv]
    clear hY5 hbv la lb lr lx d0 d1 d2 e0 e1 e2 hR s0 s1 s2 s3 s4 s5
    replace L := L.step j; replace hA := hA.below j hA.lt; replace hB := hB.below j hB.lt
    clear j
    obtain ⟨hcs, hd5⟩ := HD.out.put_c HA.out.1 HB.out.1 c1 (fun e => HIB.out e.2) (bytR_len x1 z1 n1)
    refine (mPut_yes L hcs HD.out.a HB.out.2 hn1).mono ?_; rintro e W6 ⟨rfl, L1, c⟩
    replace hA := c.cells L.m hA; replace hB := c.cells L.m hB
    (try replace hV := c.cells L.m hV); (try replace hC := c.cells L.m hC); (try replace hP := c.cells L.m hP); (try replace hQ := c.cells L.m hQ); (try replace hU := c.cells L.m hU)
    clear c L
    have L := L1
    clear L1
    clear HD hcs
    generalize wrS m4 (-2) (spA sa cb ib) (bytR x1 z1 n1) = m5 at *
    have HD := Lib.hid hd5
    clear hd5
    go_wp2_with fail
    refine (num_callsM _ _).mono ?_; rintro e _ ⟨rfl, rfl⟩
    have e0 := hB.cell 0 (v := .int .i64 sb) rfl
    go_wp2_with fail
    clear e0
    refine (mPutG_yes L (t := sb) (i := 0) (st := 0) (pg := 0) (sz := 0) (fi := 0) (by decide) HD.out.b (by decide)).mono ?_; rintro e W7 ⟨rfl, L1, c⟩
    replace hA := c.cells L.m hA; replace hB := c.cells L.m hB
    (try replace hV := c.cells L.m hV); (try replace hC := c.cells L.m hC); (try replace hP := c.cells L.m hP); (try replace hQ := c.cells L.m hQ); (try replace hU := c.cells L.m hU)
    clear c L
    have L := L1
    clear L1
    have hd6 := (HD.out.put_g HA.out.1 HB.out.1 HD.out.b (bytG_len 0 0 0 0)).1
    clear HD
    generalize wrS _ (-2) (grA sb 0) (bytG 0 0 0 0) = m6 at *
    have HD := Lib.hid hd6
    clear hd6
    go_wp2_with fail
    refine (num_callsM _ _).mono ?_; rintro e _ ⟨rfl, rfl⟩
    have d0 := hA.cell 0 (v := .int .i64 sa) rfl
    have d1 := hA.cell 1 (v := .int .i64 cb) rfl
    have d2 := hA.cell 2 (v := .int .i64 ia) rfl
    have e0 := hB.cell 0 (v := .int .i64 sb) rfl
    have e1 := hB.cell 1 (v := .int .i64 cb) rfl
    have e2 := hB.cell 2 (v := .int .i64 ib) rfl
    have la := hA.lt
    have lb := hB.lt
    go_wp2_with fail
    clear d0 d1 d2 e0 e1 e2 la lb
    refine (mGet_yes L HA.out.1 HD.out.a (bytR x0 z0 n0) HD.out.f1 (bytR_len x0 z0 n0) (bytR_bd x0 z0 n0)).mono ?_; rintro e W8 ⟨rfl, j⟩
    rw [(recV_byt HA.out.2 hn0).1, (recV_byt HA.out.2 hn0).2]
    replace L := L.step j; replace hA := hA.below j hA.lt; replace hB := hB.below j hB.lt
    (try replace hV := hV.below j hV.lt); (try replace hC := hC.below j hC.lt); (try replace hP := hP.below j hP.lt); (try replace hQ := hQ.below j hQ.lt); (try replace hU := hU.below j hU.lt)
    clear j
    have d0 := hA.cell 0 (v := .int .i64 sa) rfl
    have d1 := hA.cell 1 (v := .int .i64 cb) rfl
    have d2 := hA.cell 2 (v := .int .i64 ia) rfl
    have e0 := hB.cell 0 (v := .int .i64 sb) rfl
    have e1 := hB.cell 1 (v := .int .i64 cb) rfl
    have e2 := hB.cell 2 (v := .int .i64 ib) rfl
    have la := hA.lt
    have lb := hB.lt
    have lv := hV.lt
    go_wp2_with fail
    clear d0 d1 d2 e0 e1 e2 la lb lv
    obtain ⟨Y8, hY9⟩ : ∃ Y, W8.alloc (.cells #[.int .i64 x0, .int .i64 z0, .int .u32 n0] 47) = Y := ⟨_, rfl⟩
    obtain ⟨bp, hb9⟩ : ∃ b, W8.heap.size = b := ⟨_, rfl⟩
    have hP : Blk Y8 bp #[.int .i64 x0, .int .i64 z0, .int .u32 n0] 47 := by rw [← hY9, ← hb9]; exact Blk.new W8 _ _
    have j : Below W8.heap.size W8 Y8 := by rw [← hY9]; exact (Below.refl _ W8).alloc (Nat.le_refl _) _
    rw [hY9]
    try simp only [hb9]
    clear hY9 hb9
    replace L := L.step j; replace hA := hA.below j hA.lt; replace hB := hB.below j hB.lt; replace hV := hV.below j hV.lt
    clear j
    refine (mGet_yes L HB.out.1 HD.out.b (bytR x1 z1 n1) HD.out.f2 (bytR_len x1 z1 n1) (bytR_bd x1 z1 n1)).mono ?_; rintro e W9 ⟨rfl, j⟩
    rw [(recV_byt HB.out.2 hn1).1, (recV_byt HB.out.2 hn1).2]
    replace L := L.step j; replace hA := hA.below j hA.lt; replace hB := hB.below j hB.lt
    (try replace hV := hV.below j hV.lt); (try replace hC := hC.below j hC.lt); (try replace hP := hP.below j hP.lt); (try replace hQ := hQ.below j hQ.lt); (try replace hU := hU.below j hU.lt)
    clear j
    have d0 := hA.cell 0 (v := .int .i64 sa) rfl
    have la := hA.lt
    go_wp2_with fail
    clear d0 la
    obtain ⟨Y9, hY9⟩ : ∃ Y, W9.alloc (.cells #[.int .i64 x1, .int .i64 z1, .int .u32 n1] 47) = Y := ⟨_, rfl⟩
    obtain ⟨bq, hb9⟩ : ∃ b, W9.heap.size = b := ⟨_, rfl⟩
    have hQ : Blk Y9 bq #[.int .i64 x1, .int .i64 z1, .int .u32 n1] 47 := by rw [← hY9, ← hb9]; exact Blk.new W9 _ _
    have j : Below W9.heap.size W9 Y9 := by rw [← hY9]; exact (Below.refl _ W9).alloc (Nat.le_refl _) _
    rw [hY9]
    try simp only [hb9]
    clear hY9 hb9
    replace L := L.step j; replace hA := hA.below j hA.lt; replace hB := hB.below j hB.lt; replace hV := hV.below j hV.lt; replace hP := hP.below j hP.lt
    clear j
    refine (mGetG_yes L (i := 383) (by decide) HD.out.a _ HD.out.f3 (by simp) (fun x hx => by rw [List.eq_of_mem_replicate hx]; decide)).mono ?_; rintro e W10 ⟨rfl, j⟩
    rw [grtV_zero.1, grtV_zero.2]
    replace L := L.step j; replace hA := hA.below j hA.lt; replace hB := hB.below j hB.lt
    (try replace hV := hV.below j hV.lt); (try replace hC := hC.below j hC.lt); (try replace hP := hP.below j hP.lt); (try replace hQ := hQ.below j hQ.lt); (try replace hU := hU.below j hU.lt)
    clear j
    have lq := hQ.lt
    have lp := hP.lt
    have lv := hV.lt
    have la := hA.lt
    have v0 := hV.cell 0 (v := .int .i64 0) rfl
    have v1 := hV.cell 1 (v := .int .i64 0) rfl
    have v2 := hV.cell 2 (v := .int .i64 0) rfl
    have v3 := hV.cell 3 (v := .int .i64 0) rfl
    have u0 := hP.cell 0 (v := .int .i64 x0) rfl
    have u1 := hP.cell 1 (v := .int .i64 z0) rfl
    have u2 := hP.cell 2 (v := .int .u32 n0) rfl
    have y0 := hQ.cell 0 (v := .int .i64 x1) rfl
    have y1 := hQ.cell 1 (v := .int .i64 z1) rfl
    have y2 := hQ.cell 2 (v := .int .u32 n1) rfl
    have hR := H0.out.2.1.below L.bel H0.out.2.1.lt
    have s0 := hR.cell 0 (v := .int .i64 x0) rfl
    have s1 := hR.cell 1 (v := .int .i64 z0) rfl
    have s2 := hR.cell 2 (v := .int .u32 n0) rfl
    have s3 := hR.cell 3 (v := .int .i64 x1) rfl
    have s4 := hR.cell 4 (v := .int .i64 z1) rfl
    have s5 := hR.cell 5 (v := .int .u32 n1) rfl
    have lr := hR.lt
    have lx := Nat.lt_of_succ_lt lr
    go_wp2_with fail
    refine (num_callsM _ _).mono ?_; rintro e w1 ⟨rfl, rfl⟩
    go_wp2_with fail
    refine (num_callsM _ _).mono ?_; rintro e w1 ⟨rfl, rfl⟩
    go_wp2_with fail
    refine (num_callsM _ _).mono ?_; rintro e w1 ⟨rfl, rfl⟩
    go_wp2_with fail
    refine (num_callsM _ _).mono ?_; rintro e w1 ⟨rfl, rfl⟩
    have d0 := hA.cell 0 (v := .int .i64 sa) rfl
    have hG := H0.out.2.2.below L.bel H0.out.2.2.lt
    have g0 := hG.cell 0 (v := .int .i64 gs) rfl
    have g1 := hG.cell 1 (v := .int .i64 gp) rfl
    have g2 := hG.cell 2 (v := .int .i64 gz) rfl
    have g3 := hG.cell 3 (v := .int .i64 gf) rfl
    have lg := hG.lt
    have lg2 : bx < W10.heap.size := by omega
    have lg3 : bx + 1 < W10.heap.size := by omega
    go_wp2_with fail
    clear lg lg2 lg3 g0 g1 g2 g3 hG d0 hR s0 s1 s2 s3 s4 s5 lr lx v0 v1 v2 v3 u0 u1 u2 y0 y1 y2 lq lp lv la hP hQ hV
    obtain ⟨Y10, hY9⟩ : ∃ Y, W10.alloc (.cells #[.int .i64 0, .int .i64 0, .int .i64 0, .int .i64 0] 54) = Y := ⟨_, rfl⟩
    have j : Below W10.heap.size W10 Y10 := by rw [← hY9]; exact (Below.refl _ W10).alloc (Nat.le_refl _) _
    rw [hY9]
    clear hY9
    replace L := L.step j; replace hA := hA.below j hA.lt
    clear j hB
    by_cases hg : ¬ putGX m6 sa 0 (rgtG gs gp gz gf) = 0
    ·refine (mPutG_no L sa 0 gs gp gz gf hg).mono ?_; rintro e W11 ⟨rfl, j⟩
     obtain ⟨q, hq'⟩ : ∃ q, putGX m6 sa 0 (rgtG gs gp gz gf) = q := ⟨_, rfl⟩
     rw [hq'] at hg ⊢
     have hq1 : (q == 0) = false := by simpa using hg
     replace L := L.step j; replace hA := hA.below j hA.lt
     clear hq' hg j
     have HK := Lib.hid HD.out.a
     go_wp2_with fail
     refine (num_callsM _ _).mono ?_; rintro e _ ⟨rfl, rfl⟩
     go_wp2_with fail
     go_loopw [24] (fun i wr => ∃ o : Nat, o ≤ 4 ∧ i = .int .i64 o ∧ LivM w0 wr k m6 ∧ Blk wr pa #[.int .i64 sa, .int .i64 cb, .int .i64 ia] 23) (fun i _ => 4 - (intOf i).toNat)
     case atStart => exact ⟨0, by omega, rfl, L, hA⟩
     case round =>
      clear L hA
      obtain ⟨o, ho, rfl, L, hA⟩ := hrel
      by_cases hlt : o < 4
      ·have i0 : (0 : Int) ≤ o := by omega
       have i1 : (o : Int) < 4 := by omega
       have dt : decide ((o : Int) < 4) = true := decide_eq_true i1
       go_wp2_with fail
       try rw [dt]
       go_loopw [25] (fun i wr => ∃ n : Nat, n ≤ 48 ∧ i = .int .i64 n ∧ LivM w0 wr k m6 ∧ Blk wr pa #[.int .i64 sa, .int .i64 cb, .int .i64 ia] 23) (fun i _ => 48 - (intOf i).toNat)
       case atStart => exact ⟨0, by omega, rfl, L, hA⟩
       case round =>
        clear L hA
        obtain ⟨n, hn, rfl, L, hA⟩ := hrel
        by_cases hlt2 : n < 48
        ·have j0 : (0 : Int) ≤ n := by omega
         have j1 : (n : Int) < 48 := by omega
         have d0 := hA.cell 0 (v := .int .i64 sa) rfl
         have hmx : max (o : Int) (-1) = o := by omega
         go_wp2_with fail
         clear d0
         refine (L.load o (256 * (64 * sa + 1 + n)) 1 (by omega) (by omega) (.inl (by decide))).mono ?_; rintro e V1 ⟨v, rfl, _, j⟩
         rw [hmx, HK.out.barred ⟨i0, i1⟩ ⟨j0, j1⟩]
         replace L := L.step j; replace hA := hA.below j hA.lt
         clear j
         go_wp2_with fail
         refine (num_callsM _ _).mono ?_; rintro e _ ⟨rfl, rfl⟩
         go_wp2_with fail
         have hv : RowAt (V1.alloc (.cells #[.int .u8 1] 5)).heap.size (V1.alloc (.cells #[.int .u8 1] 5)) (.slice (some ⟨V1.heap.size, 0, none⟩) 1 1) ([1] : List Int).length (intVals .u8 [1]) := RowAt.lit V1 #[.int .u8 1] 5 1 _ (by simp)
         have jj : Below V1.heap.size V1 (V1.alloc (.cells #[.int .u8 1] 5)) := (Below.refl _ V1).alloc (Nat.le_refl _) _
         replace L := L.step jj; replace hA := hA.below jj hA.lt
         have hst := L.store o (256 * (64 * sa + 1 + n)) (by omega) (by omega) [1] (Nat.le_refl _) hv
         have hno : rchE m6.D (o : Int) (256 * (64 * sa + 1 + n)) (([1] : List Int).length : Nat) 2 = 190 := HK.out.barred ⟨i0, i1⟩ ⟨j0, j1⟩
         rw [hmx, hno, BkP.keeps_no L.gd (by omega) (by rw [hno]; decide)] at hst
         refine hst.mono ?_; rintro e V2 ⟨rfl, L1, c⟩
         replace hA := c.cells L.m hA
         clear hst hno hv jj c L hmx
         go_wp2_with fail
         refine (num_callsM _ _).mono ?_; rintro e _ ⟨rfl, rfl⟩
         go_wp2_with fail
         exact ⟨⟨n + 1, by omega, by go_num, L1, hA⟩, by simp [intOf]; omega⟩
        ·obtain rfl : n = 48 := by omega
         go_wp2_with fail
         exact ⟨⟨o + 1, by omega, by go_num, L, hA⟩, by simp [intOf]; omega⟩
      ·obtain rfl : o = 4 := by omega
       go_wp2_with fail
       refine (works_okM _).mono ?_; rintro e Z9 ⟨rfl, j9⟩
       go_wp2_with fail
       go_ret
       exact ⟨rfl, (k0.trans (L.bel.mono k0.size)).trans (j9.mono (k0.trans (L.bel.mono k0.size)).size)⟩
    ·replace hg := Decidable.not_not.1 hg
     have hrg := putGX_rg hg
     refine (mPutG_yes L (i := 0) (by decide) HD.out.a hrg).mono ?_; rintro e W11 ⟨rfl, L1, c⟩
     replace hA := c.cells L.m hA
     clear hg c L
     have L := L1
     clear L1
     have H7 := Lib.hid (HD.out.put_g HA.out.1 HB.out.1 HD.out.a (bytG_len gs gp gz gf))
     have HRG := Lib.hid hrg
     clear hrg
     generalize wrS m6 (-2) (grA sa 0) (bytG gs gp gz gf) = m7 at *
     go_wp2_with fail
     refine (num_callsM _ _).mono ?_; rintro e _ ⟨rfl, rfl⟩
     have d0 := hA.cell 0 (v := .int .i64 sa) rfl
     go_wp2_with fail
     clear d0
     refine (mGetG_yes L (i := 0) (by decide) H7.out.1.a _ H7.out.2 (bytG_len gs gp gz gf) (bytG_bd gs gp gz gf)).mono ?_; rintro e W12 ⟨rfl, j⟩
     rw [(grtV_byt HRG.out).1, (grtV_byt HRG.out).2]
     replace L := L.step j; replace hA := hA.below j hA.lt
     clear j
     have d0 := hA.cell 0 (v := .int .i64 sa) rfl
     have d1 := hA.cell 1 (v := .int .i64 cb) rfl
     have d2 := hA.cell 2 (v := .int .i64 ia) rfl
     have la := hA.lt
     go_wp2_with fail
     clear d0 d1 d2 la
     obtain ⟨Y12, hY9⟩ : ∃ Y, W12.alloc (.cells #[.int .i64 gs, .int .i64 gp, .int .i64 gz, .int .i64 gf] 54) = Y := ⟨_, rfl⟩
     obtain ⟨bz, hb9⟩ : ∃ b, W12.heap.size = b := ⟨_, rfl⟩
     have hZ : Blk Y12 bz #[.int .i64 gs, .int .i64 gp, .int .i64 gz, .int .i64 gf] 54 := by rw [← hY9, ← hb9]; exact Blk.new W12 _ _
     have j : Below W12.heap.size W12 Y12 := by rw [← hY9]; exact (Below.refl _ W12).alloc (Nat.le_refl _) _
     rw [hY9]
     try simp only [hb9]
     clear hY9 hb9
     replace L := L.step j; replace hA := hA.below j hA.lt
     clear j
     refine (mGet_yes L HA.out.1 H7.out.1.a (bytR x0 z0 n0) H7.out.1.f1 (bytR_len x0 z0 n0) (bytR_bd x0 z0 n0)).mono ?_; rintro e W13 ⟨rfl, j⟩
     rw [(recV_byt HA.out.2 hn0).1, (recV_byt HA.out.2 hn0).2]
     replace L := L.step j; replace hA := hA.below j hA.lt; replace hZ := hZ.below j hZ.lt
     clear j
     have hR := H0.out.2.1.below L.bel H0.out.2.1.lt
     have s0 := hR.cell 0 (v := .int .i64 x0) rfl
     have s1 := hR.cell 1 (v := .int .i64 z0) rfl
     have s2 := hR.cell 2 (v := .int .u32 n0) rfl
     have s3 := hR.cell 3 (v := .int .i64 x1) rfl
     have s4 := hR.cell 4 (v := .int .i64 z1) rfl
     have s5 := hR.cell 5 (v := .int .u32 n1) rfl
     have lr := hR.lt
     have lx := Nat.lt_of_succ_lt lr
     have hG := H0.out.2.2.below L.bel H0.out.2.2.lt
     have g0 := hG.cell 0 (v := .int .i64 gs) rfl
     have g1 := hG.cell 1 (v := .int .i64 gp) rfl
     have g2 := hG.cell 2 (v := .int .i64 gz) rfl
     have g3 := hG.cell 3 (v := .int .i64 gf) rfl
     have y0 := hZ.cell 0 (v := .int .i64 gs) rfl
     have y1 := hZ.cell 1 (v := .int .i64 gp) rfl
     have y2 := hZ.cell 2 (v := .int .i64 gz) rfl
     have y3 := hZ.cell 3 (v := .int .i64 gf) rfl
     have lg := hG.lt
     have lz := hZ.lt
     have lg3 : bx + 1 < W13.heap.size := by omega
     go_wp2_with fail
     refine (num_callsM _ _).mono ?_; rintro e w1 ⟨rfl, rfl⟩
     go_wp2_with fail
     refine (num_callsM _ _).mono ?_; rintro e w1 ⟨rfl, rfl⟩
     go_wp2_with fail
     clear hR s0 s1 s2 s3 s4 s5 lr lx hG g0 g1 g2 g3 y0 y1 y2 y3 lg lz lg3 hZ
     have HK := Lib.hid H7.out.1.a
     have j : Below W13.heap.size W13 (W13.alloc (.cells #[.int .i64 x0, .int .i64 z0, .int .u32 n0] 47)) := (Below.refl _ W13).alloc (Nat.le_refl _) _
     replace L := L.step j; replace hA := hA.below j hA.lt
     clear j
     go_loopw [24] (fun i wr => ∃ o : Nat, o ≤ 4 ∧ i = .int .i64 o ∧ LivM w0 wr k m7 ∧ Blk wr pa #[.int .i64 sa, .int .i64 cb, .int .i64 ia] 23) (fun i _ => 4 - (intOf i).toNat)
     case atStart => exact ⟨0, by omega, rfl, L, hA⟩
     case round =>
      clear L hA
      obtain ⟨o, ho, rfl, L, hA⟩ := hrel
      by_cases hlt : o < 4
      ·have i0 : (0 : Int) ≤ o := by omega
       have i1 : (o : Int) < 4 := by omega
       have dt : decide ((o : Int) < 4) = true := decide_eq_true i1
       go_wp2_with fail
       try rw [dt]
       go_loopw [25] (fun i wr => ∃ n : Nat, n ≤ 48 ∧ i = .int .i64 n ∧ LivM w0 wr k m7 ∧ Blk wr pa #[.int .i64 sa, .int .i64 cb, .int .i64 ia] 23) (fun i _ => 48 - (intOf i).toNat)
       case atStart => exact ⟨0, by omega, rfl, L, hA⟩
       case round =>
        clear L hA
        obtain ⟨n, hn, rfl, L, hA⟩ := hrel
        by_cases hlt2 : n < 48
        ·have j0 : (0 : Int) ≤ n := by omega
         have j1 : (n : Int) < 48 := by omega
         have d0 := hA.cell 0 (v := .int .i64 sa) rfl
         have hmx : max (o : Int) (-1) = o := by omega
         go_wp2_with fail
         clear d0
         refine (L.load o (256 * (64 * sa + 1 + n)) 1 (by omega) (by omega) (.inl (by decide))).mono ?_; rintro e V1 ⟨v, rfl, _, j⟩
         rw [hmx, HK.out.barred ⟨i0, i1⟩ ⟨j0, j1⟩]
         replace L := L.step j; replace hA := hA.below j hA.lt
         clear j
         go_wp2_with fail
         refine (num_callsM _ _).mono ?_; rintro e _ ⟨rfl, rfl⟩
         go_wp2_with fail
         have hv : RowAt (V1.alloc (.cells #[.int .u8 1] 5)).heap.size (V1.alloc (.cells #[.int .u8 1] 5)) (.slice (some ⟨V1.heap.size, 0, none⟩) 1 1) ([1] : List Int).length (intVals .u8 [1]) := RowAt.lit V1 #[.int .u8 1] 5 1 _ (by simp)
         have jj : Below V1.heap.size V1 (V1.alloc (.cells #[.int .u8 1] 5)) := (Below.refl _ V1).alloc (Nat.le_refl _) _
         replace L := L.step jj; replace hA := hA.below jj hA.lt
         have hst := L.store o (256 * (64 * sa + 1 + n)) (by omega) (by omega) [1] (Nat.le_refl _) hv
         have hno : rchE m7.D (o : Int) (256 * (64 * sa + 1 + n)) (([1] : List Int).length : Nat) 2 = 190 := HK.out.barred ⟨i0, i1⟩ ⟨j0, j1⟩
         rw [hmx, hno, BkP.keeps_no L.gd (by omega) (by rw [hno]; decide)] at hst
         refine hst.mono ?_; rintro e V2 ⟨rfl, L1, c⟩
         replace hA := c.cells L.m hA
         clear hst hno hv jj c L hmx
         go_wp2_with fail
         refine (num_callsM _ _).mono ?_; rintro e _ ⟨rfl, rfl⟩
         go_wp2_with fail
         exact ⟨⟨n + 1, by omega, by go_num, L1, hA⟩, by simp [intOf]; omega⟩
        ·obtain rfl : n = 48 := by omega
         go_wp2_with fail
         exact ⟨⟨o + 1, by omega, by go_num, L, hA⟩, by simp [intOf]; omega⟩
      ·obtain rfl : o = 4 := by omega
       go_wp2_with fail
       refine (works_okM _).mono ?_; rintro e Z9 ⟨rfl, j9⟩
       go_wp2_with fail
       go_ret
       exact ⟨rfl, (k0.trans (L.bel.mono k0.size)).trans (j9.mono (k0.trans (L.bel.mono k0.size)).size)⟩
  ·have HCB := Lib.hid hcb
   go_wp2_with fail
   obtain ⟨Y5, hY5⟩ : ∃ Y, (W5.alloc (.cells #[.int .i64 0, .int .i64 0, .int .i64 0, .int .i64 0] 54)).alloc (.cells #[.int .i64 sa, .int .i64 cb, .int .i64 ib] 23) = Y := ⟨_, rfl⟩
   obtain ⟨bv, hbv⟩ : ∃ b, W5.heap.size = b := ⟨_, rfl⟩
   have hV : Blk Y5 bv #[.int .i64 0, .int .i64 0, .int .i64 0, .int .i64 0] 54 := by rw [← hY5, ← hbv]; exact (Blk.new W5 _ _).alloc _
   have j : Below W5.heap.size W5 Y5 := by rw [← hY5]; exact ((Below.refl _ W5).alloc (Nat.le_refl _) _).alloc (by simp) _
   rw [hY5]
   try simp only [hbv]
   clear hY5 hbv la lb lr lx d0 d1 d2 e0 e1 e2 hR s0 s1 s2 s3 s4 s5
   replace L := L.step j; replace hA := hA.below j hA.lt; replace hB := hB.below j hB.lt
   clear j
   obtain ⟨hcs, hd5⟩ := HD.out.put_c HA.out.1 HB.out.1 c1 (fun e => HCB.out e.1) (bytR_len x1 z1 n1)
   refine (mPut_yes L hcs HD.out.a HB.out.2 hn1).mono ?_; rintro e W6 ⟨rfl, L1, c⟩
   replace hA := c.cells L.m hA; replace hB := c.cells L.m hB
   (try replace hV := c.cells L.m hV); (try replace hC := c.cells L.m hC); (try replace hP := c.cells L.m hP); (try replace hQ := c.cells L.m hQ); (try replace hU := c.cells L.m hU)
   clear c L
   have L := L1
   clear L1
   clear HD hcs
   generalize wrS m4 (-2) (spA sa cb ib) (bytR x1 z1 n1) = m5 at *
   have HD := Lib.hid hd5
   clear hd5
   go_wp2_with fail
   refine (num_callsM _ _).mono ?_; rintro e _ ⟨rfl, rfl⟩
   have e0 := hB.cell 0 (v := .int .i64 sb) rfl
   go_wp2_with fail
   clear e0
   refine (mPutG_yes L (t := sb) (i := 0) (st := 0) (pg := 0) (sz := 0) (fi := 0) (by decide) HD.out.b (by decide)).mono ?_; rintro e W7 ⟨rfl, L1, c⟩
   replace hA := c.cells L.m hA; replace hB := c.cells L.m hB
   (try replace hV := c.cells L.m hV); (try replace hC := c.cells L.m hC); (try replace hP := c.cells L.m hP); (try replace hQ := c.cells L.m hQ); (try replace hU := c.cells L.m hU)
   clear c L
   have L := L1
   clear L1
   have hd6 := (HD.out.put_g HA.out.1 HB.out.1 HD.out.b (bytG_len 0 0 0 0)).1
   clear HD
   generalize wrS _ (-2) (grA sb 0) (bytG 0 0 0 0) = m6 at *
   have HD := Lib.hid hd6
   clear hd6
   go_wp2_with fail
   refine (num_callsM _ _).mono ?_; rintro e _ ⟨rfl, rfl⟩
   have d0 := hA.cell 0 (v := .int .i64 sa) rfl
   have d1 := hA.cell 1 (v := .int .i64 ca) rfl
   have d2 := hA.cell 2 (v := .int .i64 ia) rfl
   have e0 := hB.cell 0 (v := .int .i64 sb) rfl
   have e1 := hB.cell 1 (v := .int .i64 cb) rfl
   have e2 := hB.cell 2 (v := .int .i64 ib) rfl
   have la := hA.lt
   have lb := hB.lt
   go_wp2_with fail
   clear d0 d1 d2 e0 e1 e2 la lb
   refine (mGet_yes L HA.out.1 HD.out.a (bytR x0 z0 n0) HD.out.f1 (bytR_len x0 z0 n0) (bytR_bd x0 z0 n0)).mono ?_; rintro e W8 ⟨rfl, j⟩
   rw [(recV_byt HA.out.2 hn0).1, (recV_byt HA.out.2 hn0).2]
   replace L := L.step j; replace hA := hA.below j hA.lt; replace hB := hB.below j hB.lt
   (try replace hV := hV.below j hV.lt); (try replace hC := hC.below j hC.lt); (try replace hP := hP.below j hP.lt); (try replace hQ := hQ.below j hQ.lt); (try replace hU := hU.below j hU.lt)
   clear j
   have d0 := hA.cell 0 (v := .int .i64 sa) rfl
   have d1 := hA.cell 1 (v := .int .i64 ca) rfl
   have d2 := hA.cell 2 (v := .int .i64 ia) rfl
   have e0 := hB.cell 0 (v := .int .i64 sb) rfl
   have e1 := hB.cell 1 (v := .int .i64 cb) rfl
   have e2 := hB.cell 2 (v := .int .i64 ib) rfl
   have la := hA.lt
   have lb := hB.lt
   have lv := hV.lt
   go_wp2_with fail
   clear d0 d1 d2 e0 e1 e2 la lb lv
   obtain ⟨Y8, hY9⟩ : ∃ Y, W8.alloc (.cells #[.int .i64 x0, .int .i64 z0, .int .u32 n0] 47) = Y := ⟨_, rfl⟩
   obtain ⟨bp, hb9⟩ : ∃ b, W8.heap.size = b := ⟨_, rfl⟩
   have hP : Blk Y8 bp #[.int .i64 x0, .int .i64 z0, .int .u32 n0] 47 := by rw [← hY9, ← hb9]; exact Blk.new W8 _ _
   have j : Below W8.heap.size W8 Y8 := by rw [← hY9]; exact (Below.refl _ W8).alloc (Nat.le_refl _) _
   rw [hY9]
   try simp only [hb9]
   clear hY9 hb9
   replace L := L.step j; replace hA := hA.below j hA.lt; replace hB := hB.below j hB.lt; replace hV := hV.below j hV.lt
   clear j
   refine (mGet_yes L HB.out.1 HD.out.b (bytR x1 z1 n1) HD.out.f2 (bytR_len x1 z1 n1) (bytR_bd x1 z1 n1)).mono ?_; rintro e W9 ⟨rfl, j⟩
   rw [(recV_byt HB.out.2 hn1).1, (recV_byt HB.out.2 hn1).2]
   replace L := L.step j; replace hA := hA.below j hA.lt; replace hB := hB.below j hB.lt
   (try replace hV := hV.below j hV.lt); (try replace hC := hC.below j hC.lt); (try replace hP := hP.below j hP.lt); (try replace hQ := hQ.below j hQ.lt); (try replace hU := hU.below j hU.lt)
   clear j
   have d0 := hA.cell 0 (v := .int .i64 sa) rfl
   have la := hA.lt
   go_wp2_with fail
   clear d0 la
   obtain ⟨Y9, hY9⟩ : ∃ Y, W9.alloc (.cells #[.int .i64 x1, .int .i64 z1, .int .u32 n1] 47) = Y := ⟨_, rfl⟩
   obtain ⟨bq, hb9⟩ : ∃ b, W9.heap.size = b := ⟨_, rfl⟩
   have hQ : Blk Y9 bq #[.int .i64 x1, .int .i64 z1, .int .u32 n1] 47 := by rw [← hY9, ← hb9]; exact Blk.new W9 _ _
   have j : Below W9.heap.size W9 Y9 := by rw [← hY9]; exact (Below.refl _ W9).alloc (Nat.le_refl _) _
   rw [hY9]
   try simp only [hb9]
   clear hY9 hb9
   replace L := L.step j; replace hA := hA.below j hA.lt; replace hB := hB.below j hB.lt; replace hV := hV.below j hV.lt; replace hP := hP.below j hP.lt
   clear j
   refine (mGetG_yes L (i := 383) (by decide) HD.out.a _ HD.out.f3 (by simp) (fun x hx => by rw [List.eq_of_mem_replicate hx]; decide)).mono ?_; rintro e W10 ⟨rfl, j⟩
   rw [grtV_zero.1, grtV_zero.2]
   replace L := L.step j; replace hA := hA.below j hA.lt; replace hB := hB.below j hB.lt
   (try replace hV := hV.below j hV.lt); (try replace hC := hC.below j hC.lt); (try replace hP := hP.below j hP.lt); (try replace hQ := hQ.below j hQ.lt); (try replace hU := hU.below j hU.lt)
   clear j
   have lq := hQ.lt
   have lp := hP.lt
   have lv := hV.lt
   have la := hA.lt
   have v0 := hV.cell 0 (v := .int .i64 0) rfl
   have v1 := hV.cell 1 (v := .int .i64 0) rfl
   have v2 := hV.cell 2 (v := .int .i64 0) rfl
   have v3 := hV.cell 3 (v := .int .i64 0) rfl
   have u0 := hP.cell 0 (v := .int .i64 x0) rfl
   have u1 := hP.cell 1 (v := .int .i64 z0) rfl
   have u2 := hP.cell 2 (v := .int .u32 n0) rfl
   have y0 := hQ.cell 0 (v := .int .i64 x1) rfl
   have y1 := hQ.cell 1 (v := .int .i64 z1) rfl
   have y2 := hQ.cell 2 (v := .int .u32 n1) rfl
   have hR := H0.out.2.1.below L.bel H0.out.2.1.lt
   have s0 := hR.cell 0 (v := .int .i64 x0) rfl
   have s1 := hR.cell 1 (v := .int .i64 z0) rfl
   have s2 := hR.cell 2 (v := .int .u32 n0) rfl
   have s3 := hR.cell 3 (v := .int .i64 x1) rfl
   have s4 := hR.cell 4 (v := .int .i64 z1) rfl
   have s5 := hR.cell 5 (v := .int .u32 n1) rfl
   have lr := hR.lt
   have lx := Nat.lt_of_succ_lt lr
   go_wp2_with fail
   refine (num_callsM _ _).mono ?_; rintro e w1 ⟨rfl, rfl⟩
   go_wp2_with fail
   refine (num_callsM _ _).mono ?_; rintro e w1 ⟨rfl, rfl⟩
   go_wp2_with fail
   refine (num_callsM _ _).mono ?_; rintro e w1 ⟨rfl, rfl⟩
   go_wp2_with fail
   refine (num_callsM _ _).mono ?_; rintro e w1 ⟨rfl, rfl⟩
   have d0 := hA.cell 0 (v := .int .i64 sa) rfl
   have hG := H0.out.2.2.below L.bel H0.out.2.2.lt
   have g0 := hG.cell 0 (v := .int .i64 gs) rfl
   have g1 := hG.cell 1 (v := .int .i64 gp) rfl
   have g2 := hG.cell 2 (v := .int .i64 gz) rfl
   have g3 := hG.cell 3 (v := .int .i64 gf) rfl
   have lg := hG.lt
   have lg2 : bx < W10.heap.size := by omega
   have lg3 : bx + 1 < W10.heap.size := by omega
   go_wp2_with fail
   clear lg lg2 lg3 g0 g1 g2 g3 hG d0 hR s0 s1 s2 s3 s4 s5 lr lx v0 v1 v2 v3 u0 u1 u2 y0 y1 y2 lq lp lv la hP hQ hV
   obtain ⟨Y10, hY9⟩ : ∃ Y, W10.alloc (.cells #[.int .i64 0, .int .i64 0, .int .i64 0, .int .i64 0] 54) = Y := ⟨_, rfl⟩
   have j : Below W10.heap.size W10 Y10 := by rw [← hY9]; exact (Below.refl _ W10).alloc (Nat.le_refl _) _
   rw [hY9]
   clear hY9
   replace L := L.step j; replace hA := hA.below j hA.lt
   clear j hB
   by_cases hg : ¬ putGX m6 sa 0 (rgtG gs gp gz gf) = 0
   ·refine (mPutG_no L sa 0 gs gp gz gf hg).mono ?_; rintro e W11 ⟨rfl, j⟩
    obtain ⟨q, hq'⟩ : ∃ q, putGX m6 sa 0 (rgtG gs gp gz gf) = q := ⟨_, rfl⟩
    rw [hq'] at hg ⊢
    have hq1 : (q == 0) = false := by simpa using hg
    replace L := L.step j; replace hA := hA.below j hA.lt
    clear hq' hg j
    have HK := Lib.hid HD.out.a
    go_wp2_with fail
    refine (num_callsM _ _).mono ?_; rintro e _ ⟨rfl, rfl⟩
    go_wp2_with fail
    go_loopw [24] (fun i wr => ∃ o : Nat, o ≤ 4 ∧ i = .int .i64 o ∧ LivM w0 wr k m6 ∧ Blk wr pa #[.int .i64 sa, .int .i64 ca, .int .i64 ia] 23) (fun i _ => 4 - (intOf i).toNat)
    case atStart => exact ⟨0, by omega, rfl, L, hA⟩
    case round =>
     clear L hA
     obtain ⟨o, ho, rfl, L, hA⟩ := hrel
     by_cases hlt : o < 4
     ·have i0 : (0 : Int) ≤ o := by omega
      have i1 : (o : Int) < 4 := by omega
      have dt : decide ((o : Int) < 4) = true := decide_eq_true i1
      go_wp2_with fail
      try rw [dt]
      go_loopw [25] (fun i wr => ∃ n : Nat, n ≤ 48 ∧ i = .int .i64 n ∧ LivM w0 wr k m6 ∧ Blk wr pa #[.int .i64 sa, .int .i64 ca, .int .i64 ia] 23) (fun i _ => 48 - (intOf i).toNat)
      case atStart => exact ⟨0, by omega, rfl, L, hA⟩
      case round =>
       clear L hA
       obtain ⟨n, hn, rfl, L, hA⟩ := hrel
       by_cases hlt2 : n < 48
       ·have j0 : (0 : Int) ≤ n := by omega
        have j1 : (n : Int) < 48 := by omega
        have d0 := hA.cell 0 (v := .int .i64 sa) rfl
        have hmx : max (o : Int) (-1) = o := by omega
        go_wp2_with fail
        clear d0
        refine (L.load o (256 * (64 * sa + 1 + n)) 1 (by omega) (by omega) (.inl (by decide))).mono ?_; rintro e V1 ⟨v, rfl, _, j⟩
        rw [hmx, HK.out.barred ⟨i0, i1⟩ ⟨j0, j1⟩]
        replace L := L.step j; replace hA := hA.below j hA.lt
        clear j
        go_wp2_with fail
        refine (num_callsM _ _).mono ?_; rintro e _ ⟨rfl, rfl⟩
        go_wp2_with fail
        have hv : RowAt (V1.alloc (.cells #[.int .u8 1] 5)).heap.size (V1.alloc (.cells #[.int .u8 1] 5)) (.slice (some ⟨V1.heap.size, 0, none⟩) 1 1) ([1] : List Int).length (intVals .u8 [1]) := RowAt.lit V1 #[.int .u8 1] 5 1 _ (by simp)
        have jj : Below V1.heap.size V1 (V1.alloc (.cells #[.int .u8 1] 5)) := (Below.refl _ V1).alloc (Nat.le_refl _) _
        replace L := L.step jj; replace hA := hA.below jj hA.lt
        have hst := L.store o (256 * (64 * sa + 1 + n)) (by omega) (by omega) [1] (Nat.le_refl _) hv
        have hno : rchE m6.D (o : Int) (256 * (64 * sa + 1 + n)) (([1] : List Int).length : Nat) 2 = 190 := HK.out.barred ⟨i0, i1⟩ ⟨j0, j1⟩
        rw [hmx, hno, BkP.keeps_no L.gd (by omega) (by rw [hno]; decide)] at hst
        refine hst.mono ?_; rintro e V2 ⟨rfl, L1, c⟩
        replace hA := c.cells L.m hA
        clear hst hno hv jj c L hmx
        go_wp2_with fail
        refine (num_callsM _ _).mono ?_; rintro e _ ⟨rfl, rfl⟩
        go_wp2_with fail
        exact ⟨⟨n + 1, by omega, by go_num, L1, hA⟩, by simp [intOf]; omega⟩
       ·obtain rfl : n = 48 := by omega
        go_wp2_with fail
        exact ⟨⟨o + 1, by omega, by go_num, L, hA⟩, by simp [intOf]; omega⟩
     ·obtain rfl : o = 4 := by omega
      go_wp2_with fail
      refine (works_okM _).mono ?_; rintro e Z9 ⟨rfl, j9⟩
      go_wp2_with fail
      go_ret
      exact ⟨rfl, (k0.trans (L.bel.mono k0.size)).trans (j9.mono (k0.trans (L.bel.mono k0.size)).size)⟩
   ·replace hg := Decidable.not_not.1 hg
    have hrg := putGX_rg hg
    refine (mPutG_yes L (i := 0) (by decide) HD.out.a hrg).mono ?_; rintro e W11 ⟨rfl, L1, c⟩
    replace hA := c.cells L.m hA
    clear hg c L
    have L := L1
    clear L1
    have H7 := Lib.hid (HD.out.put_g HA.out.1 HB.out.1 HD.out.a (bytG_len gs gp gz gf))
    have HRG := Lib.hid hrg
    clear hrg
    generalize wrS m6 (-2) (grA sa 0) (bytG gs gp gz gf) = m7 at *
    go_wp2_with fail
    refine (num_callsM _ _).mono ?_; rintro e _ ⟨rfl, rfl⟩
    have d0 := hA.cell 0 (v := .int .i64 sa) rfl
    go_wp2_with fail
    clear d0
    refine (mGetG_yes L (i := 0) (by decide) H7.out.1.a _ H7.out.2 (bytG_len gs gp gz gf) (bytG_bd gs gp gz gf)).mono ?_; rintro e W12 ⟨rfl, j⟩
    rw [(grtV_byt HRG.out).1, (grtV_byt HRG.out).2]
    replace L := L.step j; replace hA := hA.below j hA.lt
    clear j
    have d0 := hA.cell 0 (v := .int .i64 sa) rfl
    have d1 := hA.cell 1 (v := .int .i64 ca) rfl
    have d2 := hA.cell 2 (v := .int .i64 ia) rfl
    have la := hA.lt
    go_wp2_with fail
    clear d0 d1 d2 la
    obtain ⟨Y12, hY9⟩ : ∃ Y, W12.alloc (.cells #[.int .i64 gs, .int .i64 gp, .int .i64 gz, .int .i64 gf] 54) = Y := ⟨_, rfl⟩
    obtain ⟨bz, hb9⟩ : ∃ b, W12.heap.size = b := ⟨_, rfl⟩
    have hZ : Blk Y12 bz #[.int .i64 gs, .int .i64 gp, .int .i64 gz, .int .i64 gf] 54 := by rw [← hY9, ← hb9]; exact Blk.new W12 _ _
    have j : Below W12.heap.size W12 Y12 := by rw [← hY9]; exact (Below.refl _ W12).alloc (Nat.le_refl _) _
    rw [hY9]
    try simp only [hb9]
    clear hY9 hb9
    replace L := L.step j; replace hA := hA.below j hA.lt
    clear j
    refine (mGet_yes L HA.out.1 H7.out.1.a (bytR x0 z0 n0) H7.out.1.f1 (bytR_len x0 z0 n0) (bytR_bd x0 z0 n0)).mono ?_; rintro e W13 ⟨rfl, j⟩
    rw [(recV_byt HA.out.2 hn0).1, (recV_byt HA.out.2 hn0).2]
    replace L := L.step j; replace hA := hA.below j hA.lt; replace hZ := hZ.below j hZ.lt
    clear j
    have hR := H0.out.2.1.below L.bel H0.out.2.1.lt
    have s0 := hR.cell 0 (v := .int .i64 x0) rfl
    have s1 := hR.cell 1 (v := .int .i64 z0) rfl
    have s2 := hR.cell 2 (v := .int .u32 n0) rfl
    have s3 := hR.cell 3 (v := .int .i64 x1) rfl
    have s4 := hR.cell 4 (v := .int .i64 z1) rfl
    have s5 := hR.cell 5 (v := .int .u32 n1) rfl
    have lr := hR.lt
    have lx := Nat.lt_of_succ_lt lr
    have hG := H0.out.2.2.below L.bel H0.out.2.2.lt
    have g0 := hG.cell 0 (v := .int .i64 gs) rfl
    have g1 := hG.cell 1 (v := .int .i64 gp) rfl
    have g2 := hG.cell 2 (v := .int .i64 gz) rfl
    have g3 := hG.cell 3 (v := .int .i64 gf) rfl
    have y0 := hZ.cell 0 (v := .int .i64 gs) rfl
    have y1 := hZ.cell 1 (v := .int .i64 gp) rfl
    have y2 := hZ.cell 2 (v := .int .i64 gz) rfl
    have y3 := hZ.cell 3 (v := .int .i64 gf) rfl
    have lg := hG.lt
    have lz := hZ.lt
    have lg3 : bx + 1 < W13.heap.size := by omega
    go_wp2_with fail
    refine (num_callsM _ _).mono ?_; rintro e w1 ⟨rfl, rfl⟩
    go_wp2_with fail
    refine (num_callsM _ _).mono ?_; rintro e w1 ⟨rfl, rfl⟩
    go_wp2_with fail
    clear hR s0 s1 s2 s3 s4 s5 lr lx hG g0 g1 g2 g3 y0 y1 y2 y3 lg lz lg3 hZ
    have HK := Lib.hid H7.out.1.a
    have j : Below W13.heap.size W13 (W13.alloc (.cells #[.int .i64 x0, .int .i64 z0, .int .u32 n0] 47)) := (Below.refl _ W13).alloc (Nat.le_refl _) _
    replace L := L.step j; replace hA := hA.below j hA.lt
    clear j
    go_loopw [24] (fun i wr => ∃ o : Nat, o ≤ 4 ∧ i = .int .i64 o ∧ LivM w0 wr k m7 ∧ Blk wr pa #[.int .i64 sa, .int .i64 ca, .int .i64 ia] 23) (fun i _ => 4 - (intOf i).toNat)
    case atStart => exact ⟨0, by omega, rfl, L, hA⟩
    case round =>
     clear L hA
     obtain ⟨o, ho, rfl, L, hA⟩ := hrel
     by_cases hlt : o < 4
     ·have i0 : (0 : Int) ≤ o := by omega
      have i1 : (o : Int) < 4 := by omega
      have dt : decide ((o : Int) < 4) = true := decide_eq_true i1
      go_wp2_with fail
      try rw [dt]
      go_loopw [25] (fun i wr => ∃ n : Nat, n ≤ 48 ∧ i = .int .i64 n ∧ LivM w0 wr k m7 ∧ Blk wr pa #[.int .i64 sa, .int .i64 ca, .int .i64 ia] 23) (fun i _ => 48 - (intOf i).toNat)
      case atStart => exact ⟨0, by omega, rfl, L, hA⟩
      case round =>
       clear L hA
       obtain ⟨n, hn, rfl, L, hA⟩ := hrel
       by_cases hlt2 : n < 48
       ·have j0 : (0 : Int) ≤ n := by omega
        have j1 : (n : Int) < 48 := by omega
        have d0 := hA.cell 0 (v := .int .i64 sa) rfl
        have hmx : max (o : Int) (-1) = o := by omega
        go_wp2_with fail
        clear d0
        refine (L.load o (256 * (64 * sa + 1 + n)) 1 (by omega) (by omega) (.inl (by decide))).mono ?_; rintro e V1 ⟨v, rfl, _, j⟩
        rw [hmx, HK.out.barred ⟨i0, i1⟩ ⟨j0, j1⟩]
        replace L := L.step j; replace hA := hA.below j hA.lt
        clear j
        go_wp2_with fail
        refine (num_callsM _ _).mono ?_; rintro e _ ⟨rfl, rfl⟩
        go_wp2_with fail
        have hv : RowAt (V1.alloc (.cells #[.int .u8 1] 5)).heap.size (V1.alloc (.cells #[.int .u8 1] 5)) (.slice (some ⟨V1.heap.size, 0, none⟩) 1 1) ([1] : List Int).length (intVals .u8 [1]) := RowAt.lit V1 #[.int .u8 1] 5 1 _ (by simp)
        have jj : Below V1.heap.size V1 (V1.alloc (.cells #[.int .u8 1] 5)) := (Below.refl _ V1).alloc (Nat.le_refl _) _
        replace L := L.step jj; replace hA := hA.below jj hA.lt
        have hst := L.store o (256 * (64 * sa + 1 + n)) (by omega) (by omega) [1] (Nat.le_refl _) hv
        have hno : rchE m7.D (o : Int) (256 * (64 * sa + 1 + n)) (([1] : List Int).length : Nat) 2 = 190 := HK.out.barred ⟨i0, i1⟩ ⟨j0, j1⟩
        rw [hmx, hno, BkP.keeps_no L.gd (by omega) (by rw [hno]; decide)] at hst
        refine hst.mono ?_; rintro e V2 ⟨rfl, L1, c⟩
        replace hA := c.cells L.m hA
        clear hst hno hv jj c L hmx
        go_wp2_with fail
        refine (num_callsM _ _).mono ?_; rintro e _ ⟨rfl, rfl⟩
        go_wp2_with fail
        exact ⟨⟨n + 1, by omega, by go_num, L1, hA⟩, by simp [intOf]; omega⟩
       ·obtain rfl : n = 48 := by omega
        go_wp2_with fail
        exact ⟨⟨o + 1, by omega, by go_num, L, hA⟩, by simp [intOf]; omega⟩
     ·obtain rfl : o = 4 := by omega
      go_wp2_with fail
      refine (works_okM _).mono ?_; rintro e Z9 ⟨rfl, j9⟩
      go_wp2_with fail
      go_ret
      exact ⟨rfl, (k0.trans (L.bel.mono k0.size)).trans (j9.mono (k0.trans (L.bel.mono k0.size)).size)⟩
end Go.Proofs.YtlpchcdalfkfcaaGreat

