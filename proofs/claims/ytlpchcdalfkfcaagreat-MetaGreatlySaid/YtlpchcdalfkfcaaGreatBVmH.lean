/-
  Package vmem: Store, Poke. Conditions: books in order.
-/
import Derived.Test.YtlpchcdalfkfcaaGreatBVmG
namespace Go.Proofs.YtlpchcdalfkfcaaGreat
open Go.RowKit
attribute [local go_sem] Oper.semAt_some
set_option maxHeartbeats 4000000
set_option maxRecDepth 4000

/-- The frames when parts are written, one by one. -/
def wrP (many : Int) (D : Tb) : List (Int × Int × Int) → List Fr → List Int → List Fr
  | [], F, _ => F
  | x :: r, F, bs => wrP many D r (wrtAfter many F (getE D x.1).f x.2.1 (bs.take x.2.2.toNat)) (bs.drop x.2.2.toNat)
def sumP (l : List (Int × Int × Int)) : Nat := (l.map fun x => x.2.2.toNat).sum
theorem sumP_snoc (l : List (Int × Int × Int)) (x : Int × Int × Int) : sumP (l ++ [x]) = sumP l + x.2.2.toNat := by simp [sumP]
theorem wrP_snoc (many : Int) (D : Tb) : ∀ (l : List (Int × Int × Int)) (x : Int × Int × Int) (F : List Fr) (bs : List Int),
    wrP many D (l ++ [x]) F bs = wrtAfter many (wrP many D l F bs) (getE D x.1).f x.2.1 ((bs.drop (sumP l)).take x.2.2.toNat)
  | [], x, F, bs => by simp [wrP, sumP]
  | y :: l, x, F, bs => by
    have e : sumP (y :: l) = y.2.2.toNat + sumP l := by simp [sumP]
    rw [List.cons_append, wrP, wrP_snoc many D l x, wrP, e, List.drop_drop]
theorem sumP_all (u : Int) : ∀ (n : Nat) (f : Int), u - f ≤ n → 0 ≤ f → (sumP (partsK n f u) : Int) = max 0 (u - f)
  | 0, f, h, _ => by simp [partsK, sumP]; omega
  | n + 1, f, h, hf => by
    rw [partsK]
    split
    · rename_i h1
      have ih := sumP_all u n (f + min (u - f) (256 - f % 256)) (by omega) (by omega)
      have e : sumP ((f / 256, f % 256, min (u - f) (256 - f % 256)) :: partsK n (f + min (u - f) (256 - f % 256)) u) = (min (u - f) (256 - f % 256)).toNat + sumP (partsK n (f + min (u - f) (256 - f % 256)) u) := by simp [sumP]
      rw [e]
      omega
    · simp [sumP]; omega
theorem partsK_pos (u : Int) : ∀ (n : Nat) (f : Int), 0 ≤ f → ∀ x ∈ partsK n f u, 0 ≤ x.1 ∧ 0 ≤ x.2.1 ∧ 1 ≤ x.2.2 ∧ x.2.1 + x.2.2 ≤ 256
  | 0, f, _, x, hx => by cases hx
  | n + 1, f, hf, x, hx => by
    rw [partsK] at hx
    split at hx
    · rename_i h1
      rcases List.mem_cons.1 hx with rfl | hx
      · dsimp only; omega
      · exact partsK_pos u n _ (by omega) x hx
    · cases hx
theorem sumP_split {xs pre suf : List (Int × Int × Int)} {x : Int × Int × Int} (e : xs = pre ++ x :: suf) : sumP pre + x.2.2.toNat ≤ sumP xs := by
  rw [e]
  simp [sumP] <;> omega
/-- A row of cells abides what turns a map. -/
theorem row_chg {B n c : Nat} {W W' : World} {v : Value} {xs : List Value} {m : List (Int × Value)} (h : RowAt B W v n xs) (hm : MapI W c m) (k : Chg c W W') : RowAt B W' v n xs := by
  obtain ⟨a, cp, e, h1, h2⟩ := h
  refine ⟨a, cp, e, h1, ?_⟩
  by_cases hx : xs = []
  · exact .inl hx
  · rcases h2 with h2 | ⟨b, off, e2, hb, hc⟩
    · exact absurd h2 hx
    · refine .inr ⟨b, off, e2, hb, fun i hi => ?_⟩
      have h3 := hc i hi
      rw [List.getElem?_eq_getElem hi] at h3 ⊢
      have hl := World.block_lt_of_cell? W _ h3
      have hne : b ≠ c := by
        rintro rfl
        obtain ⟨es, cl, h4, _⟩ := hm
        simp [World.cell?, h4] at h3
      exact (World.cell?_of_block (a := ⟨b, off + i, none⟩) (k.block b hl hne)).trans h3
structure WrS (g kb kp b : Nat) (x : Int × Int × Int) (Y : World) : Prop where
  e0 : Y.cell? ⟨g, 0, none⟩ = some (.pointer (some ⟨kb, 0, none⟩))
  e1 : Y.cell? ⟨kb, 1, none⟩ = some (.pointer (some ⟨kp, 0, none⟩))
  e2 : Y.cell? ⟨b, 1, none⟩ = some (.int .i64 x.2.1)
  e3 : Y.cell? ⟨b, 2, none⟩ = some (.int .i64 x.2.2)
theorem write1_ok {w : World} {k : Mb} {s : Ms} (h : MemAt w k s) (h256 : ∀ x ∈ s.F, x.2.2.length = 256) {g : Nat} (hg : Blk w g #[.pointer (some ⟨k.b, 0, none⟩)] 38) {v : Value} {l : List Int} {B : Nat} (hB : B ≤ w.heap.size) (hv : RowAt B w v l.length (intVals .u8 l)) (fr : Int) (x : Int × Int × Int) (hx : 0 ≤ x.2.2) (hl : x.2.2 ≤ l.length) :
    Calls Tryz.prog 100 #[v, .int .i64 fr, encPart x, .pointer (some ⟨g, 0, none⟩)] w fun e w' => ∃ v', e = .returned v' ∧ RowAt B w' v' (l.drop x.2.2.toNat).length (intVals .u8 (l.drop x.2.2.toNat)) ∧
      MemAt w' k { s with F := wrtAfter s.many s.F fr x.2.1 (l.take x.2.2.toNat) } ∧ Chg k.pf w w' := by
  obtain ⟨va, vc, rfl, hvc⟩ := hv.len
  obtain ⟨w1, hw1⟩ : ∃ w1, w.alloc (.cells #[.int .i64 x.1, .int .i64 x.2.1, .int .i64 x.2.2] 160) = w1 := ⟨_, rfl⟩
  have hX : Blk w1 w.heap.size #[.int .i64 x.1, .int .i64 x.2.1, .int .i64 x.2.2] 160 := by rw [← hw1]; exact Blk.new w _ _
  have k1 : Below w.heap.size w w1 := by rw [← hw1]; exact (Below.refl _ w).alloc (Nat.le_refl _) _
  have m1 := h.step k1
  have g1 := hg.below k1 hg.lt
  have v1 := hv.below k1 hB
  have z1 := k1.size
  obtain ⟨n, hn⟩ : ∃ n : Nat, x.2.2 = n := ⟨x.2.2.toNat, by omega⟩
  have hnl : n ≤ l.length := by omega
  obtain ⟨hrs, hrq⟩ := slice_head (P := Tryz.prog) (t := 44) (s := 1) Tryz.underlying44 (fun w => by kernel_rfl) v1 n hnl
  obtain ⟨ad', hts, htq⟩ := slice_tail (P := Tryz.prog) (t := 44) (s := 1) Tryz.underlying44 (fun w => by kernel_rfl) v1 (by rw [intVals_len]; omega) n hnl
  have e1 : (intVals .u8 l).take (n * 1) = intVals .u8 (l.take n) := by simp [intVals]
  have e2 : (intVals .u8 l).drop (n * 1) = intVals .u8 (l.drop n) := by simp [intVals]
  rw [e1] at hrq
  rw [e2] at htq
  have HRQ := Lib.hid hrq
  have HTQ := Lib.hid htq
  have HTS := Lib.hid hts
  have HRS := Lib.hid hrs
  have HN := Lib.hid hn
  have HNL := Lib.hid hnl
  have hx3 : Blk w1 w.heap.size #[.int .i64 x.1, .int .i64 x.2.1, .int .i64 n] 160 := by rw [← hn]; exact hX
  have en : x.2.2.toNat = n := by omega
  rw [en]
  unfold encPart
  clear h hg hv hl v1 e1 e2 hrq htq hts hrs hx hnl
  rw [hn] at hw1 ⊢
  clear hX hn en
  go_enter Tryz.func100, Tryz.ntmps100
  go_wp2_with fail
  clear hw1
  refine wp_onlyN ?_
  have hS0 : WrS g k.b k.p w.heap.size (x.1, x.2.1, (n : Int)) w1.drew := ⟨g1.cell 0 rfl, m1.cells.2, hx3.cell 1 rfl, hx3.cell 2 rfl⟩
  refine wp_region_held_drew (S := WrS g k.b k.p w.heap.size (x.1, x.2.1, (n : Int))) (by kernel_rfl) hS0 (fun hHeld => ?_)
  clear hS0
  change wpAnyH _ _ _ _ _ _ _ _ w1.drew
  have kY := (Below.refl w1.heap.size w1).drew
  generalize w1.drew = Y at kY hHeld ⊢
  have m2 := m1.step kY
  have g2 := g1.below kY g1.lt
  have x2 := hx3.below kY hx3.lt
  have hzY := kY.size
  have hlw := hx3.lt
  refine wpAnyH_take (i := 0) (v := ?_) rfl (by kernel_rfl) (by kernel_rfl) (by kernel_rfl) (fun _ _ _ h => h) (Or.inl ⟨by rfl, ?_⟩) (by assumption) ?_
  rotate_left
  · (intro Y hSw; (try dsimp only at hSw); obtain ⟨hS0, hS1, hS2, hS3⟩ := hSw; go_simp; try with_reducible rfl)
  try simp only [Act.put, List.getElem_toArray, List.getElem_cons_zero, List.getElem_cons_succ, List.setIfInBounds_toArray, List.set_cons_zero, List.set_cons_succ]
  refine wpAnyH_take (i := 1) (v := ?_) rfl (by kernel_rfl) (by kernel_rfl) (by kernel_rfl) (fun _ _ _ h => h) (Or.inl ⟨by rfl, ?_⟩) (by assumption) ?_
  rotate_left
  · (intro Y hSw; (try dsimp only at hSw); obtain ⟨hS0, hS1, hS2, hS3⟩ := hSw; go_simp; try with_reducible rfl)
  try simp only [Act.put, List.getElem_toArray, List.getElem_cons_zero, List.getElem_cons_succ, List.setIfInBounds_toArray, List.set_cons_zero, List.set_cons_succ]
  refine wpAnyH_take (i := 2) (v := ?_) rfl (by kernel_rfl) (by kernel_rfl) (by kernel_rfl) (fun _ _ _ h => h) (Or.inl ⟨by rfl, ?_⟩) (by assumption) ?_
  rotate_left
  · (intro Y hSw; (try dsimp only at hSw); obtain ⟨hS0, hS1, hS2, hS3⟩ := hSw; go_simp; try with_reducible rfl)
  try simp only [Act.put, List.getElem_toArray, List.getElem_cons_zero, List.getElem_cons_succ, List.setIfInBounds_toArray, List.set_cons_zero, List.set_cons_succ]
  refine wpAnyH_take (i := 3) (v := ?_) rfl (by kernel_rfl) (by kernel_rfl) (by kernel_rfl) (fun _ _ _ h => h) (Or.inl ⟨by rfl, ?_⟩) (by assumption) ?_
  rotate_left
  · (intro Y hSw; (try dsimp only at hSw); obtain ⟨hS0, hS1, hS2, hS3⟩ := hSw; go_simp; try with_reducible rfl)
  try simp only [Act.put, List.getElem_toArray, List.getElem_cons_zero, List.getElem_cons_succ, List.setIfInBounds_toArray, List.set_cons_zero, List.set_cons_succ]
  refine wpAnyH_take (i := 4) (v := ?_) rfl (by kernel_rfl) (by kernel_rfl) (by kernel_rfl) (fun _ _ _ h => h) (Or.inl ⟨by rfl, ?_⟩) (by assumption) ?_
  rotate_left
  · (intro Y hSw; (try dsimp only at hSw); obtain ⟨hS0, hS1, hS2, hS3⟩ := hSw; go_simp; try with_reducible rfl)
  try simp only [Act.put, List.getElem_toArray, List.getElem_cons_zero, List.getElem_cons_succ, List.setIfInBounds_toArray, List.set_cons_zero, List.set_cons_succ]
  refine wpAnyH_take (i := 5) (v := ?_) rfl (by kernel_rfl) (by kernel_rfl) (by kernel_rfl) (fun _ _ _ h => h) (Or.inl ⟨by rfl, ?_⟩) (by assumption) ?_
  rotate_left
  · (intro Y hSw; (try dsimp only at hSw); obtain ⟨hS0, hS1, hS2, hS3⟩ := hSw; go_simp; try with_reducible rfl)
  try simp only [Act.put, List.getElem_toArray, List.getElem_cons_zero, List.getElem_cons_succ, List.setIfInBounds_toArray, List.set_cons_zero, List.set_cons_succ]
  refine wpAnyH_take (i := 6) (v := ?_) rfl (by kernel_rfl) (by kernel_rfl) (by kernel_rfl) (fun _ _ _ h => h) (Or.inl ⟨by rfl, ?_⟩) (by assumption) ?_
  rotate_left
  · (intro Y hSw; (try dsimp only at hSw); obtain ⟨hS0, hS1, hS2, hS3⟩ := hSw; go_simp; try with_reducible rfl)
  try simp only [Act.put, List.getElem_toArray, List.getElem_cons_zero, List.getElem_cons_succ, List.setIfInBounds_toArray, List.set_cons_zero, List.set_cons_succ]
  refine wpAnyH_take (i := 7) (v := ?_) rfl (by kernel_rfl) (by kernel_rfl) (by kernel_rfl) (fun _ _ _ h => h) (Or.inl ⟨by rfl, ?_⟩) (by assumption) ?_
  rotate_left
  · (intro Y hSw; (try dsimp only at hSw); obtain ⟨hS0, hS1, hS2, hS3⟩ := hSw; go_simp; try with_reducible rfl)
  try simp only [Act.put, List.getElem_toArray, List.getElem_cons_zero, List.getElem_cons_succ, List.setIfInBounds_toArray, List.set_cons_zero, List.set_cons_succ]
  refine wpAnyH_take (i := 8) (v := ?_) rfl (by kernel_rfl) (by kernel_rfl) (by kernel_rfl) (fun _ _ _ h => h) (Or.inl ⟨by rfl, ?_⟩) (by assumption) ?_
  rotate_left
  · (intro Y hSw; (try dsimp only at hSw); obtain ⟨hS0, hS1, hS2, hS3⟩ := hSw; go_simp; try with_reducible rfl)
  try simp only [Act.put, List.getElem_toArray, List.getElem_cons_zero, List.getElem_cons_succ, List.setIfInBounds_toArray, List.set_cons_zero, List.set_cons_succ]
  refine wpAnyH_take (i := 9) (v := ?_) rfl (by kernel_rfl) (by kernel_rfl) (by kernel_rfl) (fun _ _ _ h => h) (Or.inl ⟨by rfl, ?_⟩) (by assumption) ?_
  rotate_left
  · (intro Y hSw; (try dsimp only at hSw); obtain ⟨hS0, hS1, hS2, hS3⟩ := hSw; go_simp; try with_reducible rfl)
  try simp only [Act.put, List.getElem_toArray, List.getElem_cons_zero, List.getElem_cons_succ, List.setIfInBounds_toArray, List.set_cons_zero, List.set_cons_succ]
  refine wpAnyH_take (i := 10) (v := .slice va n vc) rfl (by kernel_rfl) (by kernel_rfl) (by kernel_rfl) (fun _ _ _ h => h) (Or.inl ⟨by rfl, by intro Y hSw; have hrs := HRS.out; go_simp⟩) (by assumption) ?_
  try simp only [Act.put, List.getElem_toArray, List.getElem_cons_zero, List.getElem_cons_succ, List.setIfInBounds_toArray, List.set_cons_zero, List.set_cons_succ]
  refine wpAnyH_ready (rs := [11]) (by kernel_rfl) (by simp) ?_
  refine AllReadyH.cons rfl (fun K hK => ?_) AllReadyH.nil
  go_simp
  refine (Write_ok m2.pl h256 fr x.2.1 (l.take n) (n := n) ((HRQ.out.below (kY.mono z1) hB).mono (by omega)) (by rw [List.length_take]; have := HNL.out; omega)).mono ?_; rintro e Z ⟨rfl, hp, hc⟩
  have m3 := m2.frames hp hc
  have g3 := (ChgM.of_pf hc).cells m2 g2
  have x3 := (ChgM.of_pf hc).cells m2 x2
  go_simp
  refine hK.out _ _ (⟨g3.cell 0 rfl, m3.cells.2, x3.cell 1 rfl, x3.cell 2 rfl⟩) (fun hHeld => ?_)
  clear hK K
  try simp only [Act.put, List.getElem_toArray, List.getElem_cons_zero, List.getElem_cons_succ, List.setIfInBounds_toArray, List.set_cons_zero, List.set_cons_succ]
  refine wpAnyH_done (by kernel_rfl) ?_ _
  rw [onlyN_normal]
  have hts := HTS.out
  have y2 : Z.cell? ⟨w.heap.size, 2, none⟩ = some (.int .i64 n) := x3.cell 2 rfl
  have HM := Lib.hid m3
  have HT2 := Lib.hid (row_chg (HTQ.out.below (kY.mono z1) hB) m2.pl.fr hc)
  have HCH := Lib.hid ((Chg.of_below (c := k.pf) (k1.trans (kY.mono z1))).trans hc)
  clear hHeld HRQ HTQ HRS g2 x2 m2 g1 hx3 m1 g3 x3 m3 hc kY k1
  go_wp2_with fail
  go_ret
  exact ⟨_, rfl, by rw [List.length_drop]; exact HT2.out, HM.out, HCH.out⟩
theorem Good.wrP {many : Int} {R : List (Int × Int)} (D : Tb) : ∀ (l : List (Int × Int × Int)) {F : List Fr} (bs : List Int), Good many F R → Good many (wrP many D l F bs) R
  | [], _, _, g => g
  | x :: l, _, bs, g => Good.wrP D l _ (g.write _ _ _)
theorem write_each {w : World} {k : Mb} {s : Ms} (h : MemAt w k s) (gd : Good s.many s.F s.R) {g : Nat} (hg : Blk w g #[.pointer (some ⟨k.b, 0, none⟩)] 38) (at_ : Int) (h0 : 0 ≤ at_) (bs : List Int) :
    EachH k s.D w.heap.size 100 #[.pointer (some ⟨g, 0, none⟩)] (partsL at_ bs.length)
      (fun pre v W => MemAt W k { s with F := wrP s.many s.D pre s.F bs } ∧ RowAt w.heap.size W v (bs.drop (sumP pre)).length (intVals .u8 (bs.drop (sumP pre))) ∧ Blk W g #[.pointer (some ⟨k.b, 0, none⟩)] 38 ∧ w.heap.size ≤ W.heap.size) where
  mem pre v W hS := ⟨_, hS.1, rfl⟩
  sl pre v W hS := by obtain ⟨a, c, e, _⟩ := hS.2.1.len; exact ⟨_, _, _, e⟩
  kp pre v X Y hS hk := ⟨hS.1.keeps hk, hS.2.1.keeps hk, hS.2.2.1.keeps hk, Nat.le_trans hS.2.2.2 hk.size⟩
  set pre v X u u' hS hB := by
    have l1 := h.blk.lt
    have l2 := h.tb.blk.lt
    have l3 := h.pl.blk.lt
    have l4 := hg.lt
    exact ⟨hS.1.setc hB (by omega) (by omega) (by omega) u, hS.2.1.below ((Below.refl w.heap.size X).setCell (p := ⟨w.heap.size + 1, 0, none⟩) (Nat.le_succ _) u) (Nat.le_refl _), hS.2.2.1.setOther _ _ (by dsimp only; omega), by simpa using hS.2.2.2⟩
  eg args W := enters_of Tryz.func100 (by kernel_rfl) rfl args W
  by_ pre x suf v W hxs hS := by
    obtain ⟨h1, h2, h3, h4⟩ := hS
    have hpos := partsK_pos (at_ + bs.length) _ at_ h0 x (by unfold partsL at hxs; rw [hxs]; simp)
    have hsp := sumP_split hxs
    have hsm : (sumP (partsL at_ bs.length) : Int) = max 0 (at_ + bs.length - at_) := sumP_all (at_ + bs.length) _ at_ (by omega) h0
    refine (write1_ok h1 (Good.wrP s.D pre bs gd).snd.b256 h3 h4 h2 (getE s.D x.1).f x (by omega) (by rw [List.length_drop]; omega)).mono ?_
    rintro e W' ⟨v', rfl, q1, q2, q3⟩
    refine ⟨v', rfl, ⟨?_, ?_, ?_, Nat.le_trans h4 q3.size⟩, .of_pf q3⟩
    · rw [wrP_snoc]; exact q2
    · rw [sumP_snoc, ← List.drop_drop]; exact q1
    · exact (ChgM.of_pf q3).cells h1 h3
def wrS (s : Ms) (owner at_ : Int) (bs : List Int) : Ms := if rchE s.D owner at_ bs.length 2 = 0 then { s with F := wrP s.many s.D (partsL at_ bs.length) s.F bs } else s
theorem write_ok {w : World} {k : Mb} {s : Ms} (h : MemAt w k s) (gd : Good s.many s.F s.R) (owner at_ : Int) (h0 : 0 ≤ at_) (h1 : at_ < 4294967296) {v : Value} (bs : List Int) {B : Nat} (hB : B ≤ w.heap.size) (hv : RowAt B w v bs.length (intVals .u8 bs)) :
    Calls Tryz.prog 50 #[.pointer (some ⟨k.b, 0, none⟩), .int .i64 owner, .int .u32 at_, v] w fun e w' => e = .returned (.int .i64 (rchE s.D owner at_ bs.length 2)) ∧ MemAt w' k (wrS s owner at_ bs) ∧ ChgM k w w' := by
  obtain ⟨va, vc, rfl, hvc⟩ := hv.len
  obtain ⟨w1, hw1⟩ : ∃ w1, w.alloc (.cells #[.pointer (some ⟨k.b, 0, none⟩)] 38) = w1 := ⟨_, rfl⟩
  have hG : Blk w1 w.heap.size #[.pointer (some ⟨k.b, 0, none⟩)] 38 := by rw [← hw1]; exact Blk.new w _ _
  have k1 : Below w.heap.size w w1 := by rw [← hw1]; exact (Below.refl _ w).alloc (Nat.le_refl _) _
  have m1 := h.step k1
  have z1 := k1.size
  have c0 : w1.cell? ⟨w.heap.size, 0, none⟩ = some (.pointer (some ⟨k.b, 0, none⟩)) := hG.cell 0 rfl
  obtain ⟨n, hn⟩ : ∃ n, bs.length = n := ⟨_, rfl⟩
  have HN := Lib.hid hn
  obtain ⟨q, hq⟩ : ∃ q, rchE s.D owner at_ bs.length 2 = q := ⟨_, rfl⟩
  have HQ := Lib.hid hq
  have hA : wrS s owner at_ bs = if q = 0 then { s with F := wrP s.many s.D (partsL at_ bs.length) s.F bs } else s := by unfold wrS; rw [hq]
  rw [hq, hA]
  have HV := Lib.hid ((hv.below k1 hB).mono hB)
  clear hq hA hv
  rw [hn]
  clear hn
  go_enter Tryz.func50, Tryz.ntmps50
  go_wp2_with fail
  clear hw1
  refine (asked_okV m1 owner at_ n 2 h0 h1).mono ?_; rintro e w2 ⟨rfl, k2⟩
  rw [show rchE s.D owner at_ n 2 = q by rw [← HN.out]; exact HQ.out]
  have g2 := hG.below k2 hG.lt
  have m2 := m1.step k2
  have z2 := k2.size
  have kk := k1.trans (k2.mono z1)
  have HV2 := Lib.hid ((HV.out.below k2 z1).mono (Nat.le_trans z1 z2))
  clear k1 k2 hG m1 c0 HV
  have c0 : w2.cell? ⟨w.heap.size, 0, none⟩ = some (.pointer (some ⟨k.b, 0, none⟩)) := g2.cell 0 rfl
  by_cases h9 : q = 0
  · subst h9
    obtain ⟨b0, b1, b2⟩ := rchE_many2 HQ.out
    have HH := Lib.hid (write_each m2 gd g2 at_ h0 bs)
    have hnn : ((bs.length : Nat) : Int) = (n : Int) := by rw [HN.out]
    rw [hnn] at HH b0 b1 b2
    clear hnn
    go_wp2_with fail
    refine (each_ok HH (Lib.hid (fun W hW hz => ⟨m2.step hW, by have := HV2.out.below hW (Nat.le_refl _); simp only [sumP, List.map_nil, List.sum_nil, List.drop_zero]; rw [show (Value.slice va bs.length vc) = .slice va n vc by rw [HN.out]] at this; exact this, g2.below hW g2.lt, by omega⟩)) h0 h1 (by omega) b1).mono ?_; rintro e w3 ⟨v, rfl, ⟨j1, j2, _⟩, jc⟩
    obtain ⟨xa, xc, rfl, _⟩ := j2.len
    have HJ := Lib.hid j1
    have HJC := Lib.hid jc
    clear HH HV2 j1 jc j2
    go_wp2_with fail
    go_ret
    exact ⟨rfl, HJ.out, (ChgM.of_below kk).trans HJC.out⟩
  · go_wp2_with fail
    go_ret
    exact ⟨rfl, m2, .of_below kk⟩
theorem Store_ok {w : World} {k : Mb} {s : Ms} (h : MemAt w k s) (gd : Good s.many s.F s.R) (owner at_ : Int) (h0 : 0 ≤ at_) (h1 : at_ < 4294967296) {v : Value} (bs : List Int) {B : Nat} (hB : B ≤ w.heap.size) (hv : RowAt B w v bs.length (intVals .u8 bs)) :
    Calls Tryz.prog 23 #[.pointer (some ⟨k.b, 0, none⟩), .int .i64 owner, .int .u32 at_, v] w fun e w' => e = .returned (.int .i64 (rchE s.D (max owner (-1)) at_ bs.length 2)) ∧ MemAt w' k (wrS s (max owner (-1)) at_ bs) ∧ ChgM k w w' := by
  obtain ⟨va, vc, rfl, hvc⟩ := hv.len
  have HV := Lib.hid hv
  clear hv
  go_enter Tryz.func23, Tryz.ntmps23
  go_wp2_with fail
  refine (who_ok owner w).mono ?_; rintro e _ ⟨rfl, rfl⟩
  go_wp2_with fail
  refine (write_ok h gd (max owner (-1)) at_ h0 h1 bs hB HV.out).mono ?_; rintro e w1 ⟨rfl, o, j⟩
  go_wp2_with fail
  go_ret
  exact ⟨rfl, o, j⟩
theorem Poke_ok {w : World} {k : Mb} {s : Ms} (h : MemAt w k s) (gd : Good s.many s.F s.R) (at_ : Int) (h0 : 0 ≤ at_) (h1 : at_ < 4294967296) {v : Value} (bs : List Int) {B : Nat} (hB : B ≤ w.heap.size) (hv : RowAt B w v bs.length (intVals .u8 bs)) :
    Calls Tryz.prog 17 #[.pointer (some ⟨k.b, 0, none⟩), .int .u32 at_, v] w fun e w' => e = .returned (.int .i64 (rchE s.D (-2) at_ bs.length 2)) ∧ MemAt w' k (wrS s (-2) at_ bs) ∧ ChgM k w w' := by
  obtain ⟨va, vc, rfl, hvc⟩ := hv.len
  have HV := Lib.hid hv
  clear hv
  go_enter Tryz.func17, Tryz.ntmps17
  go_wp2_with fail
  refine (write_ok h gd (-2) at_ h0 h1 bs hB HV.out).mono ?_; rintro e w1 ⟨rfl, o, j⟩
  go_wp2_with fail
  go_ret
  exact ⟨rfl, o, j⟩
end Go.Proofs.YtlpchcdalfkfcaaGreat
