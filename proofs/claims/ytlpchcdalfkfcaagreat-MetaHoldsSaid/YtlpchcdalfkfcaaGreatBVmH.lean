/-
 Package vmem: Store, Poke. Conditions: books in order.
-/
import Derived.Test.YtlpchcdalfkfcaaGreatBVmG
import Derived.Test.YtlpchcdalfkfcaaGreatBVmJ
namespace Go.Proofs.YtlpchcdalfkfcaaGreat
open Go.RowKit
attribute [local go_sem] Oper.semAt_some
set_option maxHeartbeats 4000000
set_option maxRecDepth 4000

/-- The frames when parts are written, one by one. -/
def wrP (many : Int) (D : Tb) : List (Int × Int × Int) → List Fr → List Int → List Fr
 | [], F, _ => F
 | x :: r, F, bs => wrP many D r (wrtAfter many F (getE D x.1).f x.2.1 (bs.take x.2.2.toNat)) (bs.drop x.2.2.toNat)
def sumP (l : List (Int × Int × Int)) : Nat := (l.map fun x => x.2.2.toNat).sum
theorem sumP_snoc (l : List (Int × Int × Int)) (x : Int × Int × Int) : sumP (l ++ [x]) = sumP l + x.2.2.toNat := by simp [sumP]
theorem wrP_snoc (many : Int) (D : Tb) : ∀ (l : List (Int × Int × Int)) (x : Int × Int × Int) (F : List Fr) (bs : List Int),
  wrP many D (l ++ [x]) F bs = wrtAfter many (wrP many D l F bs) (getE D x.1).f x.2.1 ((bs.drop (sumP l)).take x.2.2.toNat)
 | [], x, F, bs => by simp [wrP, sumP]
 | y :: l, x, F, bs => by
  have e : sumP (y :: l) = y.2.2.toNat + sumP l := by simp [sumP]
  rw [List.cons_append, wrP, wrP_snoc many D l x, wrP, e, List.drop_drop]
theorem sumP_all (u : Int) : ∀ (n : Nat) (f : Int), u - f ≤ n → 0 ≤ f → (sumP (partsK n f u) : Int) = max 0 (u - f)
 | 0, f, h, _ => by simp [partsK, sumP]; omega
 | n + 1, f, h, hf => by
  rw [partsK]
  split
  ·rename_i h1
   have ih := sumP_all u n (f + min (u - f) (256 - f % 256)) (by omega) (by omega)
   have e : sumP ((f / 256, f % 256, min (u - f) (256 - f % 256)) :: partsK n (f + min (u - f) (256 - f % 256)) u) = (min (u - f) (256 - f % 256)).toNat + sumP (partsK n (f + min (u - f) (256 - f % 256)) u) := by simp [sumP]
   rw [e]
   omega
  ·simp [sumP]; omega
theorem partsK_pos (u : Int) : ∀ (n : Nat) (f : Int), 0 ≤ f → ∀ x ∈ partsK n f u, 0 ≤ x.1 ∧ 0 ≤ x.2.1 ∧ 1 ≤ x.2.2 ∧ x.2.1 + x.2.2 ≤ 256
 | 0, f, _, x, hx => by cases hx
 | n + 1, f, hf, x, hx => by
  rw [partsK] at hx
  split at hx
  ·rename_i h1
   rcases List.mem_cons.1 hx with rfl | hx
   ·dsimp only; omega
   ·exact partsK_pos u n _ (by omega) x hx
  ·cases hx
theorem sumP_split {xs pre suf : List (Int × Int × Int)} {x : Int × Int × Int} (e : xs = pre ++ x :: suf) : sumP pre + x.2.2.toNat ≤ sumP xs := by
 rw [e]
 simp [sumP] <;> omega
/-- A row of cells abides what turns a map. -/
theorem row_chg {B n c : Nat} {W W' : World} {v : Value} {xs : List Value} {m : List (Int × Value)} (h : RowAt B W v n xs) (hm : MapI W c m) (k : Chg c W W') : RowAt B W' v n xs := by
 obtain ⟨a, cp, e, h1, h2⟩ := h
 refine ⟨a, cp, e, h1, ?_⟩
 by_cases hx : xs = []
 ·exact .inl hx
 ·rcases h2 with h2 | ⟨b, off, e2, hb, hc⟩
  ·exact absurd h2 hx
  ·refine .inr ⟨b, off, e2, hb, fun i hi => ?_⟩
   have h3 := hc i hi
   rw [List.getElem?_eq_getElem hi] at h3 ⊢
   have hl := World.block_lt_of_cell? W _ h3
   have hne : b ≠ c := by
    rintro rfl
    obtain ⟨es, cl, h4, _⟩ := hm
    simp [World.cell?, h4] at h3
   exact (World.cell?_of_block (a := ⟨b, off + i, none⟩) (k.block b hl hne)).trans h3
structure WrS (g kb kp b : Nat) (x : Int × Int × Int) (Y : World) : Prop where
 e0 : Y.cell? ⟨g, 0, none⟩ = some (.pointer (some ⟨kb, 0, none⟩))
 e1 : Y.cell? ⟨kb, 1, none⟩ = some (.pointer (some ⟨kp, 0, none⟩))
 e2 : Y.cell? ⟨b, 1, none⟩ = some (.int .i64 x.2.1)
 e3 : Y.cell? ⟨b, 2, none⟩ = some (.int .i64 x.2.2)
theorem write1_ok {w : World} {k : Mb} {s : Ms} (h : MemAt w k s) (h256 : ∀ x ∈ s.F, x.2.2.length = 256) {g : Nat} (hg : Blk w g #[.pointer (some ⟨k.b, 0, none⟩)] 38) {v : Value} {l : List Int} {B : Nat} (hB : B ≤ w.heap.size) (hv : RowAt B w v l.length (intVals .u8 l)) (fr : Int) (x : Int × Int × Int) (hx : 0 ≤ x.2.2) (hl : x.2.2 ≤ l.length) :
  Calls Tryz.prog 100 #[v, .int .i64 fr, encPart x, .pointer (some ⟨g, 0, none⟩)] w fun e w' => ∃ v', e = .returned v' ∧ RowAt B w' v' (l.drop x.2.2.toNat).length (intVals .u8 (l.drop x.2.2.toNat)) ∧
   MemAt w' k { s with F := wrtAfter s.many s.F fr x.2.1 (l.take x.2.2.toNat) } ∧ Chg k.pf w w' := by
 obtain ⟨va, vc, rfl, hvc⟩ := hv.len
 obtain ⟨w1, hw1⟩ : ∃ w1, w.alloc (.cells #[.int .i64 x.1, .int .i64 x.2.1, .int .i64 x.2.2] 160) = w1 := ⟨_, rfl⟩
 have hX : Blk w1 w.heap.size #[.int .i64 x.1, .int .i64 x.2.1, .int .i64 x.2.2] 160 := by rw [← hw1]; exact Blk.new w _ _
 have k1 : Below w.heap.size w w1 := by rw [← hw1]; exact (Below.refl _ w).alloc (Nat.le_refl _) _
 have m1 := h.step k1
 have g1 := hg.below k1 hg.lt
 have v1 := hv.below k1 hB
 have z1 := k1.size
 obtain ⟨n, hn⟩ : ∃ n : Nat, x.2.2 = n := ⟨x.2.2.toNat, by omega⟩
 have hnl : n ≤ l.length := by omega
 obtain ⟨hrs, hrq⟩ := slice_head (P := Tryz.prog) (t := 44) (s := 1) Tryz.underlying44 (fun w => by kernel_rfl) v1 n hnl
 obtain ⟨ad', hts, htq⟩ := slice_tail (P := Tryz.prog) (t := 44) (s := 1) Tryz.underlying44 (fun w => by kernel_rfl) v1 (by rw [intVals_len]; omega) n hnl
 have e1 : (intVals .u8 l).take (n * 1) = intVals .u8 (l.take n) := by simp [intVals]
 have e2 : (intVals .u8 l).drop (n * 1) = intVals .u8 (l.drop n) := by simp [intVals]
 rw [e1] at hrq
 rw [e2] at htq
 have HRQ := Lib.hid hrq
 have HTQ := Lib.hid htq
 have HTS := Lib.hid hts
 have HRS := Lib.hid hrs
 have HN := Lib.hid hn
 have HNL := Lib.hid hnl
 have hx3 : Blk w1 w.heap.size #[.int .i64 x.1, .int .i64 x.2.1, .int .i64 n] 160 := by rw [← hn]; exact hX
 have en : x.2.2.toNat = n := by omega
 rw [en]
 unfold encPart
 clear h hg hv hl v1 e1 e2 hrq htq hts hrs hx hnl
 rw [hn] at hw1 ⊢
 clear hX hn en
 go_enter Tryz.func100, Tryz.ntmps100
 go_wp2_with fail
 clear hw1
 refine wp_onlyN ?_
 have hS0 : WrS g k.b k.p w.heap.size (x.1, x.2.1, (n : Int)) w1.drew := ⟨g1.cell 0 rfl, m1.cells.2, hx3.cell 1 rfl, hx3.cell 2 rfl⟩
 refine wp_region_held_drew (S := WrS g k.b k.p w.heap.size (x.1, x.2.1, (n : Int))) (by kernel_rfl) hS0 (fun hHeld => ?_)
 clear hS0
 change wpAnyH _ _ _ _ _ _ _ _ w1.drew
 have kY := (Below.refl w1.heap.size w1).drew
 generalize w1.drew = Y at kY hHeld ⊢
 have m2 := m1.step kY
 have g2 := g1.below kY g1.lt
 have x2 := hx3.below kY hx3.lt
 have hzY := kY.size
 have hlw := hx3.lt
 refine wpAnyH_take (i := 0) (v := ?_) rfl (by kernel_rfl) (by kernel_rfl) (by kernel_rfl) (fun _ _ _ h => h) (Or.inl ⟨by rfl, ?_⟩) (by assumption) ?_
 rotate_left
 ·(intro Y hSw; (try dsimp only at hSw); obtain ⟨hS0, hS1, hS2, hS3⟩ := hSw; go_simp; try with_reducible rfl)
 try simp only [Act.put, pu1, pu2, pu3, pu4, pu5, pu6]
 refine wpAnyH_take (i := 1) (v := ?_) rfl (by kernel_rfl) (by kernel_rfl) (by kernel_rfl) (fun _ _ _ h => h) (Or.inl ⟨by rfl, ?_⟩) (by assumption) ?_
 rotate_left
 ·(intro Y hSw; (try dsimp only at hSw); obtain ⟨hS0, hS1, hS2, hS3⟩ := hSw; go_simp; try with_reducible rfl)
 try simp only [Act.put, pu1, pu2, pu3, pu4, pu5, pu6]
 refine wpAnyH_take (i := 2) (v := ?_) rfl (by kernel_rfl) (by kernel_rfl) (by kernel_rfl) (fun _ _ _ h => h) (Or.inl ⟨by rfl, ?_⟩) (by assumption) ?_
 rotate_left
 ·(intro Y hSw; (try dsimp only at hSw); obtain ⟨hS0, hS1, hS2, hS3⟩ := hSw; go_simp; try with_reducible rfl)
 try simp only [Act.put, pu1, pu2, pu3, pu4, pu5, pu6]
 refine wpAnyH_take (i := 3) (v := ?_) rfl (by kernel_rfl) (by kernel_rfl) (by kernel_rfl) (fun _ _ _ h => h) (Or.inl ⟨by rfl, ?_⟩) (by assumption) ?_
 rotate_left
 ·(intro Y hSw; (try dsimp only at hSw); obtain ⟨hS0, hS1, hS2, hS3⟩ := hSw; go_simp; try with_reducible rfl)
 try simp only [Act.put, pu1, pu2, pu3, pu4, pu5, pu6]
 refine wpAnyH_take (i := 4) (v := ?_) rfl (by kernel_rfl) (by kernel_rfl) (by kernel_rfl) (fun _ _ _ h => h) (Or.inl ⟨by rfl, ?_⟩) (by assumption) ?_
 rotate_left
 ·(intro Y hSw; (try dsimp only at hSw); obtain ⟨hS0, hS1, hS2, hS3⟩ := hSw; go_simp; try with_reducible rfl)
 try simp only [Act.put, pu1, pu2, pu3, pu4, pu5, pu6]
 refine wpAnyH_take (i := 5) (v := ?_) rfl (by kernel_rfl) (by kernel_rfl) (by kernel_rfl) (fun _ _ _ h => h) (Or.inl ⟨by rfl, ?_⟩) (by assumption) ?_
 rotate_left
 ·(intro Y hSw; (try dsimp only at hSw); obtain ⟨hS0, hS1, hS2, hS3⟩ := hSw; go_simp; try with_reducible rfl)
 try simp only [Act.put, pu1, pu2, pu3, pu4, pu5, pu6]
 refine wpAnyH_take (i := 6) (v := ?_) rfl (by kernel_rfl) (by kernel_rfl) (by kernel_rfl) (fun _ _ _ h => h) (Or.inl ⟨by rfl, ?_⟩) (by assumption) ?_
 rotate_left
 ·(intro Y hSw; (try dsimp only at hSw); obtain ⟨hS0, hS1, hS2, hS3⟩ := hSw; go_simp; try with_reducible rfl)
 try simp only [Act.put, pu1, pu2, pu3, pu4, pu5, pu6]
 refine wpAnyH_take (i := 7) (v := ?_) rfl (by kernel_rfl) (by kernel_rfl) (by kernel_rfl) (fun _ _ _ h => h) (Or.inl ⟨by rfl, ?_⟩) (by assumption) ?_
 rotate_left
 ·(intro Y hSw; (try dsimp only at hSw); obtain ⟨hS0, hS1, hS2, hS3⟩ := hSw; go_simp; try with_reducible rfl)
 try simp only [Act.put, pu1, pu2, pu3, pu4, pu5, pu6]
 refine wpAnyH_take (i := 8) (v := ?_) rfl (by kernel_rfl) (by kernel_rfl) (by kernel_rfl) (fun _ _ _ h => h) (Or.inl ⟨by rfl, ?_⟩) (by assumption) ?_
 rotate_left
 ·(intro Y hSw; (try dsimp only at hSw); obtain ⟨hS0, hS1, hS2, hS3⟩ := hSw; go_simp; try with_reducible rfl)
 try simp only [Act.put, pu1, pu2, pu3, pu4, pu5, pu6]
 refine wpAnyH_take (i := 9) (v := ?_) rfl (by kernel_rfl) (by kernel_rfl) (by kernel_rfl) (fun _ _ _ h => h) (Or.inl ⟨by rfl, ?_⟩) (by assumption) ?_
 rotate_left
 ·(intro Y hSw; (try dsimp only at hSw); obtain ⟨hS0, hS1, hS2, hS3⟩ := hSw; go_simp; try with_reducible rfl)
 try simp only [Act.put, pu1, pu2, pu3, pu4, pu5, pu6]
 refine wpAnyH_take (i := 10) (v := .slice va n vc) rfl (by kernel_rfl) (by kernel_rfl) (by kernel_rfl) (fun _ _ _ h => h) (Or.inl ⟨by rfl, by intro Y hSw; have hrs := HRS.out; go_simp⟩) (by assumption) ?_
 try simp only [Act.put, pu1, pu2, pu3, pu4, pu5, pu6]
 refine wpAnyH_ready (rs := [11]) (by kernel_rfl) (by simp) ?_
 refine AllReadyH.cons rfl (fun K hK => ?_) AllReadyH.nil
 go_simp
 refine (Write_ok m2.pl h256 fr x.2.1 (l.take n) (n := n) ((HRQ.out.below (kY.mono z1) hB).mono (by omega)) (by rw [List.length_take]; have := HNL.out; omega)).mono ?_; rintro e Z ⟨rfl, hp, hc⟩
 have m3 := m2.frames hp hc
 have g3 := (ChgM.of_pf hc).cells m2 g2
 have x3 := (ChgM.of_pf hc).cells m2 x2
 go_simp
 refine hK.out _ _ (⟨g3.cell 0 rfl, m3.cells.2, x3.cell 1 rfl, x3.cell 2 rfl⟩) (fun hHeld => ?_)
 clear hK K
 try simp only [Act.put, pu1, pu2, pu3, pu4, pu5, pu6]
 refine wpAnyH_done (by kernel_rfl) ?_ _
 rw [onlyN_normal]
 have hts := HTS.out
 have y2 : Z.cell? ⟨w.heap.size, 2, none⟩ = some (.int .i64 n) := x3.cell 2 rfl
 have HM := Lib.hid m3
 have HT2 := Lib.hid (row_chg (HTQ.out.below (kY.mono z1) hB) m2.pl.fr hc)
 have HCH := Lib.hid ((Chg.of_below (c := k.pf) (k1.trans (kY.mono z1))).trans hc)
 clear hHeld HRQ HTQ HRS g2 x2 m2 g1 hx3 m1 g3 x3 m3 hc kY k1
 go_wp2_with fail
 go_ret
 exact ⟨_, rfl, by rw [List.length_drop]; exact HT2.out, HM.out, HCH.out⟩
theorem Good.wrP {many : Int} {R : List (Int × Int)} (D : Tb) : ∀ (l : List (Int × Int × Int)) {F : List Fr} (bs : List Int), Good many F R → Good many (wrP many D l F bs) R
 | [], _, _, g => g
 | x :: l, _, bs, g => Good.wrP D l _ (g.write _ _ _)
theorem write_each {w : World} {k : Mb} {s : Ms} (h : MemAt w k s) (gd : Good s.many s.F s.R) {g : Nat} (hg : Blk w g #[.pointer (some ⟨k.b, 0, none⟩)] 38) (at_ : Int) (h0 : 0 ≤ at_) (bs : List Int) :
  EachH k s.D w.heap.size 100 #[.pointer (some ⟨g, 0, none⟩)] (partsL at_ bs.length)
   (fun pre v W => MemAt W k { s with F := wrP s.many s.D pre s.F bs } ∧ RowAt w.heap.size W v (bs.drop (sumP pre)).length (intVals .u8 (bs.drop (sumP pre))) ∧ Blk W g #[.pointer (some ⟨k.b, 0, none⟩)] 38 ∧ w.heap.size ≤ W.heap.size) where
 mem pre v W hS := ⟨_, hS.1, rfl⟩
 sl pre v W hS := by obtain ⟨a, c, e, _⟩ := hS.2.1.len; exact ⟨_, _, _, e⟩
 kp pre v X Y hS hk := ⟨hS.1.keeps hk, hS.2.1.keeps hk, hS.2.2.1.keeps hk, Nat.le_trans hS.2.2.2 hk.size⟩
 set pre v X u u' hS hB := by
  have l1 := h.blk.lt
  have l2 := h.tb.blk.lt
  have l3 := h.pl.blk.lt
  have l4 := hg.lt
  exact ⟨hS.1.setc hB (by omega) (by omega) (by omega) u, hS.2.1.below ((Below.refl w.heap.size X).setCell (p := ⟨w.heap.size + 1, 0, none⟩) (Nat.le_succ _) u) (Nat.le_refl _), hS.2.2.1.setOther _ _ (by dsimp only; omega), by simpa using hS.2.2.2⟩
 eg args W := enters_of Tryz.func100 (by kernel_rfl) rfl args W
 by_ pre x suf v W hxs hS := by
  obtain ⟨h1, h2, h3, h4⟩ := hS
  have hpos := partsK_pos (at_ + bs.length) _ at_ h0 x (by unfold partsL at hxs; rw [hxs]; simp)
  have hsp := sumP_split hxs
  have hsm : (sumP (partsL at_ bs.length) : Int) = max 0 (at_ + bs.length - at_) := sumP_all (at_ + bs.length) _ at_ (by omega) h0
  refine (write1_ok h1 (Good.wrP s.D pre bs gd).snd.b256 h3 h4 h2 (getE s.D x.1).f x (by omega) (by rw [List.length_drop]; omega)).mono ?_
  rintro e W' ⟨v', rfl, q1, q2, q3⟩
  refine ⟨v', rfl, ⟨?_, ?_, ?_, Nat.le_trans h4 q3.size⟩, .of_pf q3⟩
  ·rw [wrP_snoc]; exact q2
  ·rw [sumP_snoc, ← List.drop_drop]; exact q1
  ·exact (ChgM.of_pf q3).cells h1 h3
def wrS (s : Ms) (owner at_ : Int) (bs : List Int) : Ms := if rchE s.D owner at_ bs.length 2 = 0 then { s with F := wrP s.many s.D (partsL at_ bs.length) s.F bs } else s
theorem write_ok {w : World} {k : Mb} {s : Ms} (h : MemAt w k s) (gd : Good s.many s.F s.R) (owner at_ : Int) (h0 : 0 ≤ at_) (h1 : at_ < 4294967296) {v : Value} (bs : List Int) {B : Nat} (hB : B ≤ w.heap.size) (hv : RowAt B w v bs.length (intVals .u8 bs)) :
  Calls Tryz.prog 50 #[.pointer (some ⟨k.b, 0, none⟩), .int .i64 owner, .int .u32 at_, v] w fun e w' => e = .returned (.int .i64 (rchE s.D owner at_ bs.length 2)) ∧ MemAt w' k (wrS s owner at_ bs) ∧ ChgM k w w' := by
 obtain ⟨va, vc, rfl, hvc⟩ := hv.len
 obtain ⟨w1, hw1⟩ : ∃ w1, w.alloc (.cells #[.pointer (some ⟨k.b, 0, none⟩)] 38) = w1 := ⟨_, rfl⟩
 have hG : Blk w1 w.heap.size #[.pointer (some ⟨k.b, 0, none⟩)] 38 := by rw [← hw1]; exact Blk.new w _ _
 have k1 : Below w.heap.size w w1 := by rw [← hw1]; exact (Below.refl _ w).alloc (Nat.le_refl _) _
 have m1 := h.step k1
 have z1 := k1.size
 have c0 : w1.cell? ⟨w.heap.size, 0, none⟩ = some (.pointer (some ⟨k.b, 0, none⟩)) := hG.cell 0 rfl
 obtain ⟨n, hn⟩ : ∃ n, bs.length = n := ⟨_, rfl⟩
 have HN := Lib.hid hn
 obtain ⟨q, hq⟩ : ∃ q, rchE s.D owner at_ bs.length 2 = q := ⟨_, rfl⟩
 have HQ := Lib.hid hq
 have hA : wrS s owner at_ bs = if q = 0 then { s with F := wrP s.many s.D (partsL at_ bs.length) s.F bs } else s := by unfold wrS; rw [hq]
 rw [hq, hA]
 have HV := Lib.hid ((hv.below k1 hB).mono hB)
 clear hq hA hv
 rw [hn]
 clear hn
 go_enter Tryz.func50, Tryz.ntmps50
 go_wp2_with fail
 clear hw1
 refine (asked_okV m1 owner at_ n 2 h0 h1).mono ?_; rintro e w2 ⟨rfl, k2⟩
 rw [show rchE s.D owner at_ n 2 = q by rw [← HN.out]; exact HQ.out]
 have g2 := hG.below k2 hG.lt
 have m2 := m1.step k2
 have z2 := k2.size
 have kk := k1.trans (k2.mono z1)
 have HV2 := Lib.hid ((HV.out.below k2 z1).mono (Nat.le_trans z1 z2))
 clear k1 k2 hG m1 c0 HV
 have c0 : w2.cell? ⟨w.heap.size, 0, none⟩ = some (.pointer (some ⟨k.b, 0, none⟩)) := g2.cell 0 rfl
 by_cases h9 : q = 0
 ·subst h9
  obtain ⟨b0, b1, b2⟩ := rchE_many2 HQ.out
  have HH := Lib.hid (write_each m2 gd g2 at_ h0 bs)
  have hnn : ((bs.length : Nat) : Int) = (n : Int) := by rw [HN.out]
  rw [hnn] at HH b0 b1 b2
  clear hnn
  go_wp2_with fail
  refine (each_ok HH (Lib.hid (fun W hW hz => ⟨m2.step hW, by have := HV2.out.below hW (Nat.le_refl _); simp only [sumP, List.map_nil, List.sum_nil, List.drop_zero]; rw [show (Value.slice va bs.length vc) = .slice va n vc by rw [HN.out]] at this; exact this, g2.below hW g2.lt, by omega⟩)) h0 h1 (by omega) b1).mono ?_; rintro e w3 ⟨v, rfl, ⟨j1, j2, _⟩, jc⟩
  obtain ⟨xa, xc, rfl, _⟩ := j2.len
  have HJ := Lib.hid j1
  have HJC := Lib.hid jc
  clear HH HV2 j1 jc j2
  go_wp2_with fail
  go_ret
  exact ⟨rfl, HJ.out, (ChgM.of_below kk).trans HJC.out⟩
 ·go_wp2_with fail
  go_ret
  exact ⟨rfl, m2, .of_below kk⟩
theorem Store_ok {w : World} {k : Mb} {s : Ms} (h : MemAt w k s) (gd : Good s.many s.F s.R) (owner at_ : Int) (h0 : 0 ≤ at_) (h1 : at_ < 4294967296) {v : Value} (bs : List Int) {B : Nat} (hB : B ≤ w.heap.size) (hv : RowAt B w v bs.length (intVals .u8 bs)) :
  Calls Tryz.prog 23 #[.pointer (some ⟨k.b, 0, none⟩), .int .i64 owner, .int .u32 at_, v] w fun e w' => e = .returned (.int .i64 (rchE s.D (max owner (-1)) at_ bs.length 2)) ∧ MemAt w' k (wrS s (max owner (-1)) at_ bs) ∧ ChgM k w w' := by
 obtain ⟨va, vc, rfl, hvc⟩ := hv.len
 have HV := Lib.hid hv
 clear hv
 go_enter Tryz.func23, Tryz.ntmps23
 go_wp2_with fail
 refine (who_ok owner w).mono ?_; rintro e _ ⟨rfl, rfl⟩
 go_wp2_with fail
 refine (write_ok h gd (max owner (-1)) at_ h0 h1 bs hB HV.out).mono ?_; rintro e w1 ⟨rfl, o, j⟩
 go_wp2_with fail
 go_ret
 exact ⟨rfl, o, j⟩
end Go.Proofs.YtlpchcdalfkfcaaGreat


/-
 Chapter 9, plain: what a memory's books say, byte by byte. No condition.
-/
namespace Go.Proofs.YtlpchcdalfkfcaaGreat
open Go.RowKit
set_option maxHeartbeats 1000000
set_option maxRecDepth 4000

/-- No two pages have one frame. -/
def FIv (D : Tb) : Prop := ∀ x ∈ D, ∀ y ∈ D, x.2.f = y.2.f → x.1 = y.1
structure MGd (s : Ms) : Prop where
 g : Good s.many s.F s.R
 gd : GoodP s.D
 fi : FIv s.D
 tk : ∀ x ∈ s.D, inF s.F x.2.f = true
theorem MGd.new (many : Int) (h0 : 0 ≤ many) (h1 : many ≤ 16384) : MGd ⟨many, [], [], []⟩ := ⟨good_new many h0 h1, GoodP.nil, fun _ h => (by cases h), fun _ h => (by cases h)⟩
theorem srt_len : ∀ {D : Tb} (a b : Int), SrtR D → (∀ x ∈ D, a ≤ x.1 ∧ x.1 < b) → (D.length : Int) ≤ max 0 (b - a)
 | [], a, b, _, _ => by simp; omega
 | x :: D, a, b, hs, hb => by
  have h1 := List.pairwise_cons.1 hs
  have hx := hb x List.mem_cons_self
  have ih := srt_len (x.1 + 1) b h1.2 (fun y hy => ⟨by have := h1.1 y hy; omega, (hb y (List.mem_cons_of_mem _ hy)).2⟩)
  rw [List.length_cons]
  omega
theorem MGd.len {s : Ms} (h : MGd s) : s.D.length ≤ 65536 := by
 have := srt_len 0 65536 h.gd.srt h.gd.pg
 omega
theorem MGd.ent {s : Ms} (h : MGd s) {p : Int} (hp : hasR s.D p = true) : (p, getE s.D p) ∈ s.D := getE_mem h.gd.srt hp
theorem MGd.frm {s : Ms} (h : MGd s) {p : Int} (hp : hasR s.D p = true) : inF s.F (getE s.D p).f = true := h.tk _ (h.ent hp)
theorem inF_bd {many : Int} {F : List Fr} {R : List (Int × Int)} (g : Good many F R) {k : Int} (h : inF F k = true) : 0 ≤ k ∧ k < many := by
 obtain ⟨x, hx, e⟩ := List.any_eq_true.1 h
 have := g.inb x hx
 have e' : x.1 = k := by simpa using e
 omega
/-- A byte. -/
def byF (D : Tb) (F : List Fr) (a : Int) : Int := (dAt F (getE D (a / 256)).f).2.getD (a % 256).toNat 0
theorem dAt_bytes256 {many : Int} {F : List Fr} {R : List (Int × Int)} (g : Good many F R) {k : Int} (h : inF F k = true) : (dAt F k).2.length = 256 := by
 unfold dAt
 rw [if_pos h]
 exact bytesF_len g.snd.b256 k
theorem dAt_own {F G : List Fr} (h : ∀ k, (dAt F k).1 = (dAt G k).1) (hF : ∀ x ∈ F, 0 ≤ x.2.1) (hG : ∀ x ∈ G, 0 ≤ x.2.1) (k : Int) : inF F k = inF G k := by
 have own : ∀ (L : List Fr), (∀ x ∈ L, 0 ≤ x.2.1) → inF L k = true → 0 ≤ (dAt L k).1 := fun L hL hk => by
  unfold dAt
  rw [if_pos hk]
  unfold ownF
  cases hf : L.find? fun x => x.1 == k with
  | none => simp
  | some x => exact hL x (List.mem_of_find?_eq_some hf)
 have no : ∀ (L : List Fr), inF L k = false → (dAt L k).1 = -1 := fun L hk => by unfold dAt; rw [hk]; rfl
 have := h k
 cases h1 : inF F k <;> cases h2 : inF G k
 ·rfl
 ·have a := no F h1; have b := own G hG h2; omega
 ·have a := no G h2; have b := own F hF h1; omega
 ·rfl
theorem putL_get (bs xs : List Int) (n j : Nat) (h1 : n + xs.length ≤ bs.length) : (putL bs n xs).getD j 0 = if n ≤ j ∧ j < n + xs.length then xs.getD (j - n) 0 else bs.getD j 0 := by
 unfold putL
 simp only [List.getD_eq_getElem?_getD]
 have hn : (bs.take n).length = n := by rw [List.length_take]; omega
 by_cases h : j < n
 ·rw [List.getElem?_append_left (by omega), if_neg (by omega), List.getElem?_take_of_lt h]
 ·rw [List.getElem?_append_right (by omega), hn]
  by_cases h2 : j < n + xs.length
  ·rw [List.getElem?_append_left (by omega), if_pos ⟨by omega, h2⟩]
  ·rw [List.getElem?_append_right (by omega), if_neg (by omega), List.getElem?_drop]
   congr 2
   omega
theorem thr_ok {many : Int} {F : List Fr} {R : List (Int × Int)} (g : Good many F R) {fr at_ n : Int} (h : inF F fr = true) (h0 : 0 ≤ at_) (h1 : 0 ≤ n) (h2 : at_ + n ≤ 256) : thrErr many F fr at_ n = 0 := by
 have hb := inF_bd g h
 have e1 : offI many fr = false := by unfold offI; simp; omega
 have e2 : badI at_ n = false := by unfold badI; simp; omega
 unfold thrErr
 rw [e1, if_neg (by decide), e2, if_neg (by decide), if_pos h]
/-- One part written. -/
theorem wrt_one {many : Int} {F : List Fr} {R : List (Int × Int)} (g : Good many F R) {fr at_ : Int} {xs : List Int} (h : inF F fr = true) (h0 : 0 ≤ at_) (h2 : at_ + xs.length ≤ 256) (k : Int) :
  dAt (wrtAfter many F fr at_ xs) k = if k = fr then ((dAt F fr).1, putL (dAt F fr).2 at_.toNat xs) else dAt F k := by
 unfold wrtAfter
 rw [if_pos (show wrtErr many F fr at_ xs = 0 from thr_ok g h h0 (by omega) h2)]
 exact dAt_put F fr at_ xs k h
theorem Good.own0 {many : Int} {F : List Fr} {R : List (Int × Int)} (g : Good many F R) : ∀ x ∈ F, 0 ≤ x.2.1 := fun x hx => by
 have h1 := hasF_pos hx
 have h2 := g.le x.2.1
 obtain ⟨p, hp, e, _⟩ := resvI_mem (R := R) (who := x.2.1) (by omega)
 have := g.rin p hp
 omega
theorem wrP_at {many : Int} {R : List (Int × Int)} {D : Tb} (hs : SrtR D) (fi : FIv D) (u : Int) : ∀ (n : Nat) (f : Int) (F : List Fr) (bs : List Int), Good many F R → (∀ x ∈ D, inF F x.2.f = true) → 0 ≤ f → u - f ≤ n → (bs.length : Int) = u - f → (∀ x ∈ partsK n f u, hasR D x.1 = true) →
  (∀ k, (dAt (wrP many D (partsK n f u) F bs) k).1 = (dAt F k).1) ∧ ∀ a, hasR D (a / 256) = true → byF D (wrP many D (partsK n f u) F bs) a = if f ≤ a ∧ a < u then bs.getD (a - f).toNat 0 else byF D F a
 | 0, f, F, bs, g, tk, h0, h1, hb, hp => ⟨fun k => rfl, fun a ha => by rw [if_neg (by omega)]; rfl⟩
 | n + 1, f, F, bs, g, tk, h0, h1, hb, hp => by
  rw [partsK] at hp ⊢
  by_cases hlt : f < u
  ·rw [if_pos hlt] at hp ⊢
   obtain ⟨m, hm⟩ : ∃ m, min (u - f) (256 - f % 256) = m := ⟨_, rfl⟩
   rw [hm] at hp ⊢
   have hx : hasR D (f / 256) = true := hp _ List.mem_cons_self
   rw [wrP]
   dsimp only
   obtain ⟨fr, hfr⟩ : ∃ fr, (getE D (f / 256)).f = fr := ⟨_, rfl⟩
   rw [hfr]
   have hin : inF F fr = true := by rw [← hfr]; exact tk _ (getE_mem hs hx)
   have hmt : (bs.take m.toNat).length = m.toNat := by rw [List.length_take]; omega
   have h1' := wrt_one (xs := bs.take m.toNat) g hin (show 0 ≤ f % 256 by omega) (by rw [hmt]; omega)
   have g1 := g.write fr (f % 256) (bs.take m.toNat)
   obtain ⟨F1, hF1⟩ : ∃ F1, wrtAfter many F fr (f % 256) (bs.take m.toNat) = F1 := ⟨_, rfl⟩
   rw [hF1] at h1' g1 ⊢
   have hown : ∀ k, (dAt F1 k).1 = (dAt F k).1 := fun k => by
    rw [h1' k]
    by_cases e : k = fr
    ·rw [if_pos e, e]
    ·rw [if_neg e]
   have tk1 : ∀ x ∈ D, inF F1 x.2.f = true := fun x hx => by rw [dAt_own hown g1.own0 g.own0]; exact tk x hx
   obtain ⟨q1, q2⟩ := wrP_at hs fi u n (f + m) F1 (bs.drop m.toNat) g1 tk1 (by omega) (by omega) (by rw [List.length_drop]; omega) (fun x hx => hp x (List.mem_cons_of_mem _ hx))
   refine ⟨fun k => (q1 k).trans (hown k), fun a ha => ?_⟩
   rw [q2 a ha]
   by_cases c1 : f + m ≤ a ∧ a < u
   ·rw [if_pos c1, if_pos ⟨by omega, c1.2⟩]
    simp only [List.getD_eq_getElem?_getD, List.getElem?_drop]
    congr 2
    omega
   ·rw [if_neg c1]
    unfold byF
    rw [h1' (getE D (a / 256)).f]
    have hl := dAt_bytes256 g hin
    by_cases e : (getE D (a / 256)).f = fr
    ·have ep : a / 256 = f / 256 := fi _ (getE_mem hs ha) _ (getE_mem hs hx) (by rw [e, hfr])
     rw [if_pos e, putL_get _ _ _ _ (by rw [hmt, hl]; omega), hmt, e]
     by_cases c2 : f ≤ a ∧ a < f + m
     ·rw [if_pos ⟨by omega, by omega⟩, if_pos ⟨c2.1, by omega⟩]
      simp only [List.getD_eq_getElem?_getD]
      rw [List.getElem?_take_of_lt (by omega)]
      congr 2
      omega
     ·rw [if_neg (by omega), if_neg (by omega)]
    ·rw [if_neg e, if_neg]
     intro c2
     have : a / 256 = f / 256 := by omega
     rw [this] at e
     exact e hfr
  ·rw [if_neg hlt] at hp ⊢
   exact ⟨fun k => rfl, fun a ha => by rw [if_neg (by omega)]; rfl⟩
theorem parts_all (P : Int → Bool) (u : Int) : ∀ (n : Nat) (f : Int), 0 ≤ f → u - f ≤ n → (((partsK n f u).all fun x => P x.1) = true ↔ ∀ a, f ≤ a → a < u → P (a / 256) = true)
 | 0, f, h0, h1 => ⟨fun _ a h2 h3 => by omega, fun _ => rfl⟩
 | n + 1, f, h0, h1 => by
  rw [partsK]
  by_cases hlt : f < u
  ·rw [if_pos hlt, List.all_cons, Bool.and_eq_true, parts_all P u n _ (by omega) (by omega)]
   dsimp only
   constructor
   ·rintro ⟨q1, q2⟩ a h2 h3
    by_cases c : a < f + min (u - f) (256 - f % 256)
    ·rw [show a / 256 = f / 256 by omega]; exact q1
    ·exact q2 a (by omega) h3
   ·intro q
    exact ⟨q f (Int.le_refl _) hlt, fun a h2 h3 => q a (by omega) h3⟩
  ·rw [if_neg hlt]
   exact ⟨fun _ a h2 h3 => by omega, fun _ => rfl⟩
/-- What a reach reads. -/
theorem rdP_at {s : Ms} (h : MGd s) (u : Int) : ∀ (n : Nat) (f : Int), 0 ≤ f → u - f ≤ n → (∀ x ∈ partsK n f u, hasR s.D x.1 = true) → rdP s (partsK n f u) = (List.range (u - f).toNat).map fun (i : Nat) => byF s.D s.F (f + i)
 | 0, f, h0, h1, _ => by
  rw [show (u - f).toNat = 0 by omega]
  rfl
 | n + 1, f, h0, h1, hp => by
  rw [partsK] at hp ⊢
  by_cases hlt : f < u
  ·rw [if_pos hlt] at hp ⊢
   obtain ⟨m, hm⟩ : ∃ m, min (u - f) (256 - f % 256) = m := ⟨_, rfl⟩
   rw [hm] at hp ⊢
   have hx : hasR s.D (f / 256) = true := hp _ List.mem_cons_self
   have ih := rdP_at h u n (f + m) (by omega) (by omega) (fun x hx => hp x (List.mem_cons_of_mem _ hx))
   have e : rdP s ((f / 256, f % 256, m) :: partsK n (f + m) u) = rdB s (f / 256, f % 256, m) ++ rdP s (partsK n (f + m) u) := rfl
   rw [e, ih]
   have hin := h.frm hx
   have hl := dAt_bytes256 h.g hin
   have eb : rdB s (f / 256, f % 256, m) = (((dAt s.F (getE s.D (f / 256)).f).2.drop (f % 256).toNat).take m.toNat) := by
    unfold rdB redL
    dsimp only
    rw [if_pos (show redErr s.many s.F (getE s.D (f / 256)).f (f % 256) m = 0 from thr_ok h.g hin (by omega) (by omega) (by omega))]
    unfold dAt
    rw [if_pos hin]
   rw [eb]
   have ek : (u - f).toNat = m.toNat + (u - (f + m)).toNat := by omega
   rw [ek, List.range_add, List.map_append, List.map_map]
   congr 1
   ·refine List.ext_getElem (by simp; omega) fun i h1 h2 => ?_
    simp only [List.getElem_take, List.getElem_drop, List.getElem_map, List.getElem_range]
    have hi : i < m.toNat := by simp at h2; omega
    unfold byF
    rw [show (f + (i : Int)) / 256 = f / 256 by omega]
    rw [List.getD_eq_getElem?_getD, show ((f + (i : Int)) % 256).toNat = (f % 256).toNat + i by omega, List.getElem?_eq_getElem (by omega)]
    rfl
   ·refine List.map_congr_left fun i _ => ?_
    simp only [Function.comp_apply]
    congr 1
    omega
  ·rw [if_neg hlt, show (u - f).toNat = 0 by omega]
   rfl
end Go.Proofs.YtlpchcdalfkfcaaGreat

