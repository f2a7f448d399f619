/-
 Package vmem: Load, Peek. Conditions: books in order; not too many bytes.
-/
import Derived.Test.YtlpchcdalfkfcaaGreatBVmF
import Derived.Test.YtlpchcdalfkfcaaGreatBCore
import Derived.Test.YtlpchcdalfkfcaaGreatBFrB
namespace Go.Proofs.YtlpchcdalfkfcaaGreat
open Go.RowKit
attribute [local go_sem] Oper.semAt_some
set_option maxHeartbeats 4000000
set_option maxRecDepth 4000

/-- A part's bytes; those of parts. -/
def rdB (s : Ms) (x : Int × Int × Int) : List Int := redL s.many s.F (getE s.D x.1).f x.2.1 x.2.2
def rdP (s : Ms) (l : List (Int × Int × Int)) : List Int := l.flatMap (rdB s)
theorem rdP_snoc (s : Ms) (l : List (Int × Int × Int)) (x : Int × Int × Int) : rdP s (l ++ [x]) = rdP s l ++ rdB s x := by simp [rdP]
theorem rdB_len (s : Ms) (x : Int × Int × Int) : (rdB s x).length ≤ x.2.2.toNat := by
 unfold rdB redL
 split
 ·exact List.length_take_le _ _
 ·simp
theorem rdP_len (s : Ms) (u : Int) : ∀ (n : Nat) (f : Int), ((rdP s (partsK n f u)).length : Int) ≤ max 0 (u - f)
 | 0, f => by simp [partsK, rdP] <;> omega
 | n + 1, f => by
  rw [partsK]
  split
  ·rename_i h
   have ih := rdP_len s u n (f + min (u - f) (256 - f % 256))
   have h2 := rdB_len s (f / 256, f % 256, min (u - f) (256 - f % 256))
   have e : rdP s ((f / 256, f % 256, min (u - f) (256 - f % 256)) :: partsK n (f + min (u - f) (256 - f % 256)) u) = rdB s (f / 256, f % 256, min (u - f) (256 - f % 256)) ++ rdP s (partsK n (f + min (u - f) (256 - f % 256)) u) := rfl
   rw [e, List.length_append]
   dsimp only at h2
   omega
  ·simp [rdP] <;> omega
theorem rdP_pre (s : Ms) (pre : List (Int × Int × Int)) (x : Int × Int × Int) (suf : List (Int × Int × Int)) : (rdP s pre).length + (rdB s x).length ≤ (rdP s (pre ++ x :: suf)).length := by
 have e : rdP s (pre ++ x :: suf) = rdP s pre ++ (rdB s x ++ rdP s suf) := by simp [rdP]
 rw [e]; simp <;> omega
structure RdS (g kb kp b : Nat) (x : Int × Int × Int) (Y : World) : Prop where
 e0 : Y.cell? ⟨g, 0, none⟩ = some (.pointer (some ⟨kb, 0, none⟩))
 e1 : Y.cell? ⟨kb, 1, none⟩ = some (.pointer (some ⟨kp, 0, none⟩))
 e2 : Y.cell? ⟨b, 1, none⟩ = some (.int .i64 x.2.1)
 e3 : Y.cell? ⟨b, 2, none⟩ = some (.int .i64 x.2.2)
theorem read1_ok {w : World} {k : Mb} {s : Ms} (h : MemAt w k s) (h256 : ∀ x ∈ s.F, x.2.2.length = 256) {g : Nat} (hg : Blk w g #[.pointer (some ⟨k.b, 0, none⟩)] 38) {v : Value} {l : List Int} {B : Nat} (hv : w.ownsRow B 5 1 v l.length (intVals .u8 l)) (x : Int × Int × Int) (hB : B ≤ w.heap.size)
  (hl : l.length + (rdB s x).length ≤ 1000000) :
  Calls Tryz.prog 128 #[v, .int .i64 (getE s.D x.1).f, encPart x, .pointer (some ⟨g, 0, none⟩)] w fun e w' => ∃ v', e = .returned v' ∧ w'.ownsRow w.heap.size 5 1 v' (l ++ rdB s x).length (intVals .u8 (l ++ rdB s x)) ∧ Below w.heap.size w w' := by
 obtain ⟨va, vc, rfl, _⟩ := (RowAt.of_owns hv (Nat.le_refl _)).len
 obtain ⟨w1, hw1⟩ : ∃ w1, w.alloc (.cells #[.int .i64 x.1, .int .i64 x.2.1, .int .i64 x.2.2] 160) = w1 := ⟨_, rfl⟩
 have hX : Blk w1 w.heap.size #[.int .i64 x.1, .int .i64 x.2.1, .int .i64 x.2.2] 160 := by rw [← hw1]; exact Blk.new w _ _
 have k1 : Below w.heap.size w w1 := by rw [← hw1]; exact (Below.refl _ w).alloc (Nat.le_refl _) _
 have m1 := h.step k1
 have g1 := hg.below k1 hg.lt
 have v1 := owns_below hv k1 (Nat.le_refl _)
 have z1 := k1.size
 obtain ⟨fr, hfr⟩ : ∃ fr, (getE s.D x.1).f = fr := ⟨_, rfl⟩
 have HL := Lib.hid hl
 have HFR := Lib.hid hfr
 obtain ⟨bs, hbs⟩ : ∃ bs, rdB s x = bs := ⟨_, rfl⟩
 have HBS := Lib.hid hbs
 rw [hfr, hbs]
 rw [hbs] at HL
 unfold encPart
 clear h hg hv hfr hl hbs
 go_enter Tryz.func128, Tryz.ntmps128
 go_wp2_with fail
 clear hw1
 refine wp_onlyN ?_
 have hS0 : RdS g k.b k.p w.heap.size x w1.drew := ⟨g1.cell 0 rfl, m1.cells.2, hX.cell 1 rfl, hX.cell 2 rfl⟩
 refine wp_region_held_drew (S := RdS g k.b k.p w.heap.size x) (by kernel_rfl) hS0 (fun hHeld => ?_)
 clear hS0
 change wpAnyH _ _ _ _ _ _ _ _ w1.drew
 have kY := (Below.refl w1.heap.size w1).drew
 generalize w1.drew = Y at kY hHeld ⊢
 refine wpAnyH_take (i := 0) (v := ?_) rfl (by kernel_rfl) (by kernel_rfl) (by kernel_rfl) (fun _ _ _ h => h) (Or.inl ⟨by rfl, ?_⟩) (by assumption) ?_
 rotate_left
 ·(intro Y hSw; (try dsimp only at hSw); obtain ⟨hS0, hS1, hS2, hS3⟩ := hSw; go_simp; try with_reducible rfl)
 try simp only [Act.put, pu1, pu2, pu3, pu4, pu5, pu6]
 refine wpAnyH_take (i := 1) (v := ?_) rfl (by kernel_rfl) (by kernel_rfl) (by kernel_rfl) (fun _ _ _ h => h) (Or.inl ⟨by rfl, ?_⟩) (by assumption) ?_
 rotate_left
 ·(intro Y hSw; (try dsimp only at hSw); obtain ⟨hS0, hS1, hS2, hS3⟩ := hSw; go_simp; try with_reducible rfl)
 try simp only [Act.put, pu1, pu2, pu3, pu4, pu5, pu6]
 refine wpAnyH_take (i := 2) (v := ?_) rfl (by kernel_rfl) (by kernel_rfl) (by kernel_rfl) (fun _ _ _ h => h) (Or.inl ⟨by rfl, ?_⟩) (by assumption) ?_
 rotate_left
 ·(intro Y hSw; (try dsimp only at hSw); obtain ⟨hS0, hS1, hS2, hS3⟩ := hSw; go_simp; try with_reducible rfl)
 try simp only [Act.put, pu1, pu2, pu3, pu4, pu5, pu6]
 refine wpAnyH_take (i := 3) (v := ?_) rfl (by kernel_rfl) (by kernel_rfl) (by kernel_rfl) (fun _ _ _ h => h) (Or.inl ⟨by rfl, ?_⟩) (by assumption) ?_
 rotate_left
 ·(intro Y hSw; (try dsimp only at hSw); obtain ⟨hS0, hS1, hS2, hS3⟩ := hSw; go_simp; try with_reducible rfl)
 try simp only [Act.put, pu1, pu2, pu3, pu4, pu5, pu6]
 refine wpAnyH_take (i := 4) (v := ?_) rfl (by kernel_rfl) (by kernel_rfl) (by kernel_rfl) (fun _ _ _ h => h) (Or.inl ⟨by rfl, ?_⟩) (by assumption) ?_
 rotate_left
 ·(intro Y hSw; (try dsimp only at hSw); obtain ⟨hS0, hS1, hS2, hS3⟩ := hSw; go_simp; try with_reducible rfl)
 try simp only [Act.put, pu1, pu2, pu3, pu4, pu5, pu6]
 refine wpAnyH_take (i := 5) (v := ?_) rfl (by kernel_rfl) (by kernel_rfl) (by kernel_rfl) (fun _ _ _ h => h) (Or.inl ⟨by rfl, ?_⟩) (by assumption) ?_
 rotate_left
 ·(intro Y hSw; (try dsimp only at hSw); obtain ⟨hS0, hS1, hS2, hS3⟩ := hSw; go_simp; try with_reducible rfl)
 try simp only [Act.put, pu1, pu2, pu3, pu4, pu5, pu6]
 refine wpAnyH_take (i := 6) (v := ?_) rfl (by kernel_rfl) (by kernel_rfl) (by kernel_rfl) (fun _ _ _ h => h) (Or.inl ⟨by rfl, ?_⟩) (by assumption) ?_
 rotate_left
 ·(intro Y hSw; (try dsimp only at hSw); obtain ⟨hS0, hS1, hS2, hS3⟩ := hSw; go_simp; try with_reducible rfl)
 try simp only [Act.put, pu1, pu2, pu3, pu4, pu5, pu6]
 refine wpAnyH_take (i := 7) (v := ?_) rfl (by kernel_rfl) (by kernel_rfl) (by kernel_rfl) (fun _ _ _ h => h) (Or.inl ⟨by rfl, ?_⟩) (by assumption) ?_
 rotate_left
 ·(intro Y hSw; (try dsimp only at hSw); obtain ⟨hS0, hS1, hS2, hS3⟩ := hSw; go_simp; try with_reducible rfl)
 try simp only [Act.put, pu1, pu2, pu3, pu4, pu5, pu6]
 refine wpAnyH_take (i := 8) (v := ?_) rfl (by kernel_rfl) (by kernel_rfl) (by kernel_rfl) (fun _ _ _ h => h) (Or.inl ⟨by rfl, ?_⟩) (by assumption) ?_
 rotate_left
 ·(intro Y hSw; (try dsimp only at hSw); obtain ⟨hS0, hS1, hS2, hS3⟩ := hSw; go_simp; try with_reducible rfl)
 try simp only [Act.put, pu1, pu2, pu3, pu4, pu5, pu6]
 refine wpAnyH_ready (rs := [9]) (by kernel_rfl) (by simp) ?_
 refine AllReadyH.cons rfl (fun K hK => ?_) AllReadyH.nil
 go_simp
 refine (Read_ok (m1.step kY).pl h256 fr x.2.1 x.2.2).mono ?_; rintro e Z ⟨v2, rfl, o2, j2⟩
 have kZ := kY.trans (j2.mono kY.size)
 obtain ⟨ra, rc, rfl, _⟩ := (RowAt.of_owns o2 (Nat.le_refl _)).len
 go_simp
 have hlt : w.heap.size < w1.heap.size := hX.lt
 have hX2 := hX.below kZ hX.lt
 have g2 := g1.below kZ g1.lt
 refine hK.out _ _ (⟨g2.cell 0 rfl, (m1.step kZ).cells.2, hX2.cell 1 rfl, hX2.cell 2 rfl⟩) (fun hHeld => ?_)
 clear hK K
 try simp only [Act.put, pu1, pu2, pu3, pu4, pu5, pu6]
 refine wpAnyH_take (i := 10) (v := ?_) rfl (by kernel_rfl) (by kernel_rfl) (by kernel_rfl) (fun _ _ _ h => h) (Or.inl ⟨by rfl, ?_⟩) (by assumption) ?_
 rotate_left
 ·(intro Y hSw; (try dsimp only at hSw); obtain ⟨hS0, hS1, hS2, hS3⟩ := hSw; go_simp; try with_reducible rfl)
 try simp only [Act.put, pu1, pu2, pu3, pu4, pu5, pu6]
 refine wpAnyH_take (i := 11) (v := ?_) rfl (by kernel_rfl) (by kernel_rfl) (by kernel_rfl) (fun _ _ _ h => h) (Or.inl ⟨by rfl, ?_⟩) (by assumption) ?_
 rotate_left
 ·(intro Y hSw; (try dsimp only at hSw); obtain ⟨hS0, hS1, hS2, hS3⟩ := hSw; go_simp; try with_reducible rfl)
 try simp only [Act.put, pu1, pu2, pu3, pu4, pu5, pu6]
 refine wpAnyH_take (i := 12) (v := ?_) rfl (by kernel_rfl) (by kernel_rfl) (by kernel_rfl) (fun _ _ _ h => h) (Or.inl ⟨by rfl, ?_⟩) (by assumption) ?_
 rotate_left
 ·(intro Y hSw; (try dsimp only at hSw); obtain ⟨hS0, hS1, hS2, hS3⟩ := hSw; go_simp; try with_reducible rfl)
 try simp only [Act.put, pu1, pu2, pu3, pu4, pu5, pu6]
 refine wpAnyH_take (i := 13) (v := ?_) rfl (by kernel_rfl) (by kernel_rfl) (by kernel_rfl) (fun _ _ _ h => h) (Or.inl ⟨by rfl, ?_⟩) (by assumption) ?_
 rotate_left
 ·(intro Y hSw; (try dsimp only at hSw); obtain ⟨hS0, hS1, hS2, hS3⟩ := hSw; go_simp; try with_reducible rfl)
 try simp only [Act.put, pu1, pu2, pu3, pu4, pu5, pu6]
 refine wpAnyH_take (i := 14) (v := ?_) rfl (by kernel_rfl) (by kernel_rfl) (by kernel_rfl) (fun _ _ _ h => h) (Or.inl ⟨by rfl, ?_⟩) (by assumption) ?_
 rotate_left
 ·(intro Y hSw; (try dsimp only at hSw); obtain ⟨hS0, hS1, hS2, hS3⟩ := hSw; go_simp; try with_reducible rfl)
 try simp only [Act.put, pu1, pu2, pu3, pu4, pu5, pu6]
 refine wpAnyH_done (by kernel_rfl) ?_ _
 rw [onlyN_normal]
 have v2 := owns_below v1 kZ (Nat.le_refl _)
 have o2' := owns_weaken o2 (show w1.heap.size ≤ Y.heap.size from kY.size)
 have HB : redL s.many s.F fr x.2.1 x.2.2 = rdB s x := by unfold rdB; rw [HFR.out]
 rw [HB, HBS.out] at o2' ⊢
 clear hHeld HFR HB HBS o2 j2 kY v1
 have hz := kZ.size
 have hro : RowsAt (Z.heap.size + 1) (Z.alloc (.cells #[.slice va l.length vc, .slice ra bs.length rc] 44)) (.slice (some ⟨Z.heap.size, 0, none⟩) 2 2) [.slice va l.length vc, .slice ra bs.length rc] [l, bs] := by
  refine ⟨RowAt.lit Z #[.slice va l.length vc, .slice ra bs.length rc] 44 2 _ (Nat.lt_succ_self _), rfl, fun i h1 h2 => ?_⟩
  have ja := (Below.refl Z.heap.size Z).alloc (Nat.le_refl _) (.cells #[.slice va l.length vc, .slice ra bs.length rc] 44)
  match i, h1, h2 with
  | 0, _, _ => exact ((RowAt.of_owns v2 (Nat.le_refl _)).below ja (Nat.le_refl _)).mono (Nat.le_succ _)
  | 1, _, _ => exact ((RowAt.of_owns o2' (Nat.le_refl _)).below ja (Nat.le_refl _)).mono (Nat.le_succ _)
 have HRO := Lib.hid hro
 have HKZ := Lib.hid kZ
 clear hro v2 o2' hX2 g2 hX g1 m1 kZ
 go_wp2_with fail
 refine (Joined_ok _ _ [l, bs] (by have := HL.out; simp; omega) (by simp) (Z.heap.size + 1) _ (by simp) HRO.out).mono ?_; rintro e W ⟨v', rfl, o3, j3⟩
 go_wp2_with fail
 go_ret
 have e2 : [l, bs].flatten = l ++ bs := by simp
 rw [e2] at o3
 have ja := (Below.refl Z.heap.size Z).alloc (Nat.le_refl _) (.cells #[.slice va l.length vc, .slice ra bs.length rc] 44)
 exact ⟨v', rfl, owns_weaken o3 (by simp; omega), k1.trans ((HKZ.out.trans ((ja.trans (j3.mono ja.size)).mono hz)).mono z1)⟩
def rdA (s : Ms) (owner at_ many : Int) : List Int := if rchE s.D owner at_ many 1 = 0 then rdP s (partsL at_ many) else []
theorem rchE_many2 {D : Tb} {owner at_ many may : Int} (h : rchE D owner at_ many may = 0) : 1 ≤ many ∧ many ≤ 16777216 ∧ at_ ≤ 16777216 - many := by
 unfold rchE at h
 split at h
 ·cases h
 rename_i h1
 split at h
 ·cases h
 split at h
 ·cases h
 unfold badMany at h1
 simp at h1
 omega
theorem read_each {w : World} {k : Mb} {s : Ms} (h : MemAt w k s) (h256 : ∀ x ∈ s.F, x.2.2.length = 256) {g : Nat} (hg : Blk w g #[.pointer (some ⟨k.b, 0, none⟩)] 38) (at_ many : Int) (hm : many ≤ 1000000) (hm0 : 0 ≤ many) :
  EachH k s.D w.heap.size 128 #[.pointer (some ⟨g, 0, none⟩)] (partsL at_ many)
   (fun pre v W => Below w.heap.size w W ∧ W.ownsRow (w.heap.size + 5) 5 1 v (rdP s pre).length (intVals .u8 (rdP s pre)) ∧ w.heap.size + 5 ≤ W.heap.size) where
 mem pre v W hS := ⟨s, h.step hS.1, rfl⟩
 sl pre v W hS := by obtain ⟨a, c, e, _⟩ := (RowAt.of_owns hS.2.1 (Nat.le_refl _)).len; exact ⟨_, _, _, e⟩
 kp pre v X Y hS hk := ⟨hS.1.trans (hk.below.mono (Nat.le_add_right _ _)), owns_keeps hS.2.1 hk, Nat.le_trans hS.2.2 hk.size⟩
 set pre v X u u' hS hB := ⟨hS.1.setCell (p := ⟨w.heap.size + 1, 0, none⟩) (Nat.le_add_right _ _) u, ownsRow_setCell_below hS.2.1 (by dsimp only; omega) u, by simpa using hS.2.2⟩
 eg args W := enters_of Tryz.func128 (by kernel_rfl) rfl args W
 by_ pre x suf v W hxs hS := by
  obtain ⟨h1, h2, h3⟩ := hS
  have hle := rdP_pre s pre x suf
  rw [← hxs] at hle
  have hbd := rdP_len s (at_ + many) many.toNat at_
  refine (read1_ok (h.step h1) h256 (hg.below h1 hg.lt) h2 x h3 (by unfold partsL at hle; omega)).mono ?_
  rintro e W' ⟨v', rfl, o, j⟩
  refine ⟨v', rfl, ⟨h1.trans (j.mono h1.size), ?_, Nat.le_trans h3 j.size⟩, .of_below j⟩
  rw [rdP_snoc]
  exact owns_weaken o h3
theorem read_ok {w : World} {k : Mb} {s : Ms} (h : MemAt w k s) (h256 : ∀ x ∈ s.F, x.2.2.length = 256) (owner at_ many : Int) (h0 : 0 ≤ at_) (h1 : at_ < 4294967296) (hm : many ≤ 1000000 ∨ 16777216 < many) :
  Calls Tryz.prog 60 #[.pointer (some ⟨k.b, 0, none⟩), .int .i64 owner, .int .u32 at_, .int .i64 many] w fun e w' => ∃ v, e = .returned (.tuple #[v, .int .i64 (rchE s.D owner at_ many 1)]) ∧
   w'.ownsRow w.heap.size 5 1 v (rdA s owner at_ many).length (intVals .u8 (rdA s owner at_ many)) ∧ Below w.heap.size w w' := by
 obtain ⟨w1, hw1⟩ : ∃ w1, w.alloc (.cells #[.pointer (some ⟨k.b, 0, none⟩)] 38) = w1 := ⟨_, rfl⟩
 have hG : Blk w1 w.heap.size #[.pointer (some ⟨k.b, 0, none⟩)] 38 := by rw [← hw1]; exact Blk.new w _ _
 have k1 : Below w.heap.size w w1 := by rw [← hw1]; exact (Below.refl _ w).alloc (Nat.le_refl _) _
 have m1 := h.step k1
 have z1 := k1.size
 have c0 : w1.cell? ⟨w.heap.size, 0, none⟩ = some (.pointer (some ⟨k.b, 0, none⟩)) := hG.cell 0 rfl
 obtain ⟨q, hq⟩ : ∃ q, rchE s.D owner at_ many 1 = q := ⟨_, rfl⟩
 have HQ := Lib.hid hq
 have hA : rdA s owner at_ many = if q = 0 then rdP s (partsL at_ many) else [] := by unfold rdA; rw [hq]
 rw [hq, hA]
 clear hq hA
 go_enter Tryz.func60, Tryz.ntmps60
 go_wp2_with fail
 clear hw1
 refine (asked_okV m1 owner at_ many 1 h0 h1).mono ?_; rintro e w2 ⟨rfl, k2⟩
 rw [HQ.out]
 have g2 := hG.below k2 hG.lt
 have m2 := m1.step k2
 have z2 := k2.size
 have kk := k1.trans (k2.mono z1)
 clear k1 k2 hG m1 c0
 have c0 : w2.cell? ⟨w.heap.size, 0, none⟩ = some (.pointer (some ⟨k.b, 0, none⟩)) := g2.cell 0 rfl
 by_cases h9 : q = 0
 ·subst h9
  obtain ⟨b0, b1, b2⟩ := rchE_many2 HQ.out
  have hH := read_each m2 h256 g2 at_ many (by omega) (by omega)
  have HH := Lib.hid hH
  clear hH
  go_wp2_with fail
  refine (each_ok HH (Lib.hid (fun W hW hz => ⟨hW, World.ownsRow_nil _ _ _ _, hz⟩)) h0 h1 (by omega) (by omega)).mono ?_; rintro e w3 ⟨v, rfl, ⟨j1, j2, _⟩, _⟩
  go_wp2_with fail
  go_ret2
  exact ⟨v, rfl, owns_weaken j2 (by omega), kk.trans (j1.mono (by omega))⟩
 ·go_wp2_with fail
  go_ret2
  refine ⟨_, rfl, ?_, kk⟩
  exact World.ownsRow_nil _ _ _ _
theorem who_ok (o : Int) (w : World) : Calls Tryz.prog 61 #[.int .i64 o] w fun e w' => e = .returned (.int .i64 (max o (-1))) ∧ w = w' := by
 go_enter Tryz.func61, Tryz.ntmps61
 go_wp2_with fail
 go_ret
 exact ⟨rfl, rfl⟩
theorem Load_ok {w : World} {k : Mb} {s : Ms} (h : MemAt w k s) (h256 : ∀ x ∈ s.F, x.2.2.length = 256) (owner at_ many : Int) (h0 : 0 ≤ at_) (h1 : at_ < 4294967296) (hm : many ≤ 1000000 ∨ 16777216 < many) :
  Calls Tryz.prog 22 #[.pointer (some ⟨k.b, 0, none⟩), .int .i64 owner, .int .u32 at_, .int .i64 many] w fun e w' => ∃ v, e = .returned (.tuple #[v, .int .i64 (rchE s.D (max owner (-1)) at_ many 1)]) ∧
   w'.ownsRow w.heap.size 5 1 v (rdA s (max owner (-1)) at_ many).length (intVals .u8 (rdA s (max owner (-1)) at_ many)) ∧ Below w.heap.size w w' := by
 go_enter Tryz.func22, Tryz.ntmps22
 go_wp2_with fail
 refine (who_ok owner w).mono ?_; rintro e _ ⟨rfl, rfl⟩
 go_wp2_with fail
 refine (read_ok h h256 (max owner (-1)) at_ many h0 h1 hm).mono ?_; rintro e w1 ⟨v, rfl, o, j⟩
 obtain ⟨va, vc, rfl, _⟩ := (RowAt.of_owns o (Nat.le_refl _)).len
 go_wp2_with fail
 go_ret2
 exact ⟨_, rfl, o, j⟩
end Go.Proofs.YtlpchcdalfkfcaaGreat


/-
 Groundwork: the first k of a row. No condition.
-/
namespace Go.Proofs.YtlpchcdalfkfcaaGreat
open Go.RowKit
variable {P : Program}

theorem addr_add0 (a : Addr) : a.add 0 = a := by simp [Addr.add]
theorem opt_add0 (ad : Option Addr) (m s : Nat) : (if m = 0 then ad else ad.map (·.add (0 * s))) = ad := by
 rw [Nat.zero_mul]
 have : (ad.map (·.add 0)) = ad := by cases ad <;> simp [addr_add0]
 rw [this]; split <;> rfl
theorem slice_head {t : TypeId} {s : Nat} (ht : P.underlying t = some (.slice (P.elem t))) (hs : ∀ w, (sizeOf (P.elem t)).run P w = .ok s w) {B : Nat} {W : World} {ad : Option Addr} {n cap : Nat} {xs : List Value} (h : RowAt B W (.slice ad n cap) n xs) (k : Nat) (hk : k ≤ n) :
  (∀ Y, (Instr.slice t (.slice ad n cap) none (some (.int .i64 (k : Int))) none).run P Y = .ok (.slice ad k cap) Y) ∧ RowAt B W (.slice ad k cap) k (xs.take (k * s)) := by
 obtain ⟨a, c, e, ⟨h1, h2⟩, h3⟩ := h
 simp only [Value.slice.injEq, true_and] at e
 obtain ⟨rfl, rfl⟩ := e
 refine ⟨fun Y => ?_, ad, cap, rfl, ⟨by omega, fun ha => by have := h2 ha; omega⟩, ?_⟩
 ·rw [run_slice_h Y t ad n cap ht .i64 k (by omega) (by omega), hs]
  simp only [Result.andThen, sliced, Int.toNat_natCast, Nat.sub_zero]
  rw [show (if cap = 0 then ad else ad.map (·.add (0 * s))) = ad from opt_add0 ad cap s]
 ·rcases h3 with rfl | ⟨b, off, e, hb, hc⟩
  ·exact .inl (by simp)
  ·by_cases hz : xs.take (k * s) = []
   ·exact .inl hz
   ·refine .inr ⟨b, off, e, hb, fun i hi => ?_⟩
    rw [List.length_take] at hi
    rw [hc i (by omega), List.getElem?_take_of_lt (by omega)]
end Go.Proofs.YtlpchcdalfkfcaaGreat


/-
 Groundwork: what is left of a row behind its first k; an append of any row, as one operation. No condition.
-/
namespace Go.Proofs.YtlpchcdalfkfcaaGreat
open Go.RowKit
variable {P : Program}

theorem slice_tail {t : TypeId} {s : Nat} (ht : P.underlying t = some (.slice (P.elem t))) (hs : ∀ w, (sizeOf (P.elem t)).run P w = .ok s w) {B : Nat} {W : World} {ad : Option Addr} {n cap : Nat} {xs : List Value} (h : RowAt B W (.slice ad n cap) n xs) (hx : xs.length = n * s) (k : Nat) (hk : k ≤ n) :
  ∃ ad', (∀ Y, (Instr.slice t (.slice ad n cap) (some (.int .i64 (k : Int))) none none).run P Y = .ok (.slice ad' (n - k) (cap - k)) Y) ∧ RowAt B W (.slice ad' (n - k) (cap - k)) (n - k) (xs.drop (k * s)) := by
 obtain ⟨a, c, e, ⟨h1, h2⟩, h3⟩ := h
 simp only [Value.slice.injEq, true_and] at e
 obtain ⟨rfl, rfl⟩ := e
 refine ⟨if cap = k then ad else ad.map (·.add (k * s)), fun Y => ?_, _, cap - k, rfl, ⟨by omega, fun ha => ?_⟩, ?_⟩
 ·rw [run_slice_l Y t ad n cap ht .i64 k (by omega) (by omega), hs]
  simp only [Result.andThen, sliced, Int.toNat_natCast]
 ·have hn : ad = none := by
   split at ha
   ·exact ha
   ·simpa using ha
  have := h2 hn
  omega
 ·by_cases hz : xs.drop (k * s) = []
  ·exact .inl hz
  ·rcases h3 with rfl | ⟨b, off, e, hb, hc⟩
   ·exact absurd (by simp) hz
   ·have hlt : k * s < xs.length := by
     rcases Nat.lt_or_ge (k * s) xs.length with h | h
     ·exact h
     ·exact absurd (List.drop_eq_nil_of_le h) hz
    have hkn : k ≠ cap := by
     intro e9
     have : k = n := by omega
     rw [this, ← hx] at hlt
     omega
    have hadd : (⟨b, off, none⟩ : Addr).add (k * s) = ⟨b, off + k * s, none⟩ := by unfold Addr.add; split <;> simp_all
    refine .inr ⟨b, off + k * s, ?_, hb, fun i hi => ?_⟩
    ·rw [if_neg (fun e => hkn e.symm), e]
     simp [hadd]
    ·rw [List.length_drop] at hi
     rw [Nat.add_assoc, hc _ (by omega), List.getElem?_drop]
end Go.Proofs.YtlpchcdalfkfcaaGreat

