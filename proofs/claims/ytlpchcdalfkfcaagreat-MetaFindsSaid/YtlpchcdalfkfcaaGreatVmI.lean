/-
  Package vmem: Map. Conditions: books in order.
-/
import Derived.Test.YtlpchcdalfkfcaaGreatVmE
namespace Go.Proofs.YtlpchcdalfkfcaaGreat
open Go.RowKit
attribute [local go_sem] Oper.semAt_some
set_option maxHeartbeats 4000000
set_option maxRecDepth 4000

def vmpE (s : Ms) (n owner payer may : Int) : Int :=
  if badOwner payer = true then 2 else if mapE s.D n ⟨owner, may, 16384⟩ = 0 then (if takErr s.F s.R payer = 0 then mapE s.D n ⟨owner, may, takAt s.many s.F s.R payer⟩ else takErr s.F s.R payer) else mapE s.D n ⟨owner, may, 16384⟩
def vmpF (s : Ms) (n owner payer may : Int) : Ms :=
  if badOwner payer = true then s else if mapE s.D n ⟨owner, may, 16384⟩ = 0 then (if takErr s.F s.R payer = 0 then { s with F := takAfter s.many s.F s.R payer, D := mapD s.D n ⟨owner, may, takAt s.many s.F s.R payer⟩ } else s) else s
theorem unm_map {D : Tb} {n : Int} {x : Ent} (h : mapE D n x = 0) : unmD (mapD D n x) n = D := by
  obtain ⟨_, _, h3, h4, _⟩ := mapE_ok h
  have e1 : mapD D n x = insR n x D := by unfold mapD; rw [if_pos h]
  have e2 : unmE (insR n x D) n = 0 := by
    unfold unmE
    rw [if_neg (by unfold badP; simp; omega), if_neg (by rw [hasR_ins]; simp)]
  rw [e1]
  unfold unmD
  rw [if_pos e2, delR_ins h4]
theorem map1_okV {w : World} {p : Nat} {n : Int} (hp : w.cell? ⟨p, 0, none⟩ = some (.int .i64 n)) : Calls Tryz.prog 92 #[.pointer (some ⟨p, 0, none⟩)] w fun e w' => e = .returned (.bool (!badOwner n)) ∧ Below w.heap.size w w' := by
  obtain ⟨r, hr⟩ : ∃ r, (!badOwner n) = r := ⟨_, rfl⟩
  rw [hr]
  have HR := Lib.hid hr
  clear hr
  unfold badOwner at HR
  by_cases h1 : 0 ≤ n
  · by_cases h2 : n < 64
    · go_enter Tryz.func92, Tryz.ntmps92
      go_wp2_with fail
      go_ret
      exact ⟨by rw [← HR.out]; simp; omega, Below.refl _ _⟩
    · go_enter Tryz.func92, Tryz.ntmps92
      go_wp2_with fail
      go_ret
      exact ⟨by rw [← HR.out]; simp; omega, Below.refl _ _⟩
  · go_enter Tryz.func92, Tryz.ntmps92
    go_wp2_with fail
    go_ret
    exact ⟨by rw [← HR.out]; simp; omega, Below.refl _ _⟩
structure Mp2S (p5 p6 p7 p9 kb kt : Nat) (n owner may : Int) (Y : World) : Prop where
  e0 : Y.cell? ⟨p5, 0, none⟩ = some (.pointer (some ⟨kb, 0, none⟩))
  e1 : Y.cell? ⟨kb, 0, none⟩ = some (.pointer (some ⟨kt, 0, none⟩))
  e2 : Y.cell? ⟨p6, 0, none⟩ = some (.int .i64 n)
  e3 : Y.cell? ⟨p7, 0, none⟩ = some (.int .i64 owner)
  e4 : Y.cell? ⟨p9, 0, none⟩ = some (.int .i64 may)
structure Mp2B (W : World) (k : Mb) (s : Ms) (p5 p6 p7 p9 : Nat) (n owner may : Int) : Prop where
  m : MemAt W k s
  c5 : Blk W p5 #[.pointer (some ⟨k.b, 0, none⟩)] 38
  c6 : Blk W p6 #[.int .i64 n] 3
  c7 : Blk W p7 #[.int .i64 owner] 3
  c9 : Blk W p9 #[.int .i64 may] 95
theorem Mp2B.step {W W' : World} {k : Mb} {s : Ms} {p5 p6 p7 p9 : Nat} {n owner may : Int} (h : Mp2B W k s p5 p6 p7 p9 n owner may) (j : Below W.heap.size W W') : Mp2B W' k s p5 p6 p7 p9 n owner may :=
  ⟨h.m.step j, h.c5.below j h.c5.lt, h.c6.below j h.c6.lt, h.c7.below j h.c7.lt, h.c9.below j h.c9.lt⟩
theorem Mp2B.chg {W W' : World} {k : Mb} {s s' : Ms} {p5 p6 p7 p9 : Nat} {n owner may : Int} (h : Mp2B W k s p5 p6 p7 p9 n owner may) (hm : MemAt W' k s') (j : ChgM k W W') : Mp2B W' k s' p5 p6 p7 p9 n owner may :=
  ⟨hm, j.cells h.m h.c5, j.cells h.m h.c6, j.cells h.m h.c7, j.cells h.m h.c9⟩
theorem Mp2B.s {W : World} {k : Mb} {s : Ms} {p5 p6 p7 p9 : Nat} {n owner may : Int} (h : Mp2B W k s p5 p6 p7 p9 n owner may) : Mp2S p5 p6 p7 p9 k.b k.t n owner may W := ⟨h.c5.cell 0 rfl, h.m.cells.1, h.c6.cell 0 rfl, h.c7.cell 0 rfl, h.c9.cell 0 rfl⟩
theorem map2_okV {w : World} {k : Mb} {s : Ms} {p5 p6 p7 p9 : Nat} {n owner may : Int} (h : Mp2B w k s p5 p6 p7 p9 n owner may) (hlen : s.D.length ≤ 1000000) (hs : SrtR s.D) :
    Calls Tryz.prog 93 #[.pointer (some ⟨p5, 0, none⟩), .pointer (some ⟨p6, 0, none⟩), .pointer (some ⟨p7, 0, none⟩), .pointer (some ⟨p9, 0, none⟩)] w fun e w' => e = .returned (.int .i64 (mapE s.D n ⟨owner, may, 16384⟩)) ∧ MemAt w' k s ∧ ChgM k w w' := by
  obtain ⟨q, hq⟩ : ∃ q, mapE s.D n ⟨owner, may, 16384⟩ = q := ⟨_, rfl⟩
  have HQ := Lib.hid hq
  rw [hq]
  clear hq
  go_enter Tryz.func93, Tryz.ntmps93
  go_wp2_with fail
  refine wp_onlyN ?_
  have h1 := h.step (Below.refl _ w).drew
  refine wp_region_held_drew (S := Mp2S p5 p6 p7 p9 k.b k.t n owner may) (by kernel_rfl) h1.s (fun hHeld => ?_)
  change wpAnyH _ _ _ _ _ _ _ _ w.drew
  have k1 : ChgM k w w.drew := .of_below (Below.refl _ w).drew
  generalize w.drew = Y at h1 k1 hHeld ⊢
  refine wpAnyH_take (i := 0) (v := ?_) rfl (by kernel_rfl) (by kernel_rfl) (by kernel_rfl) (fun _ _ _ h => h) (Or.inl ⟨by rfl, ?_⟩) (by assumption) ?_
  rotate_left
  · (intro Y hSw; (try dsimp only at hSw); obtain ⟨hS0, hS1, hS2, hS3, hS4⟩ := hSw; go_simp; try with_reducible rfl)
  try simp only [Act.put, List.getElem_toArray, List.getElem_cons_zero, List.getElem_cons_succ, List.setIfInBounds_toArray, List.set_cons_zero, List.set_cons_succ]
  refine wpAnyH_take (i := 1) (v := ?_) rfl (by kernel_rfl) (by kernel_rfl) (by kernel_rfl) (fun _ _ _ h => h) (Or.inl ⟨by rfl, ?_⟩) (by assumption) ?_
  rotate_left
  · (intro Y hSw; (try dsimp only at hSw); obtain ⟨hS0, hS1, hS2, hS3, hS4⟩ := hSw; go_simp; try with_reducible rfl)
  try simp only [Act.put, List.getElem_toArray, List.getElem_cons_zero, List.getElem_cons_succ, List.setIfInBounds_toArray, List.set_cons_zero, List.set_cons_succ]
  refine wpAnyH_take (i := 2) (v := ?_) rfl (by kernel_rfl) (by kernel_rfl) (by kernel_rfl) (fun _ _ _ h => h) (Or.inl ⟨by rfl, ?_⟩) (by assumption) ?_
  rotate_left
  · (intro Y hSw; (try dsimp only at hSw); obtain ⟨hS0, hS1, hS2, hS3, hS4⟩ := hSw; go_simp; try with_reducible rfl)
  try simp only [Act.put, List.getElem_toArray, List.getElem_cons_zero, List.getElem_cons_succ, List.setIfInBounds_toArray, List.set_cons_zero, List.set_cons_succ]
  refine wpAnyH_take (i := 3) (v := ?_) rfl (by kernel_rfl) (by kernel_rfl) (by kernel_rfl) (fun _ _ _ h => h) (Or.inl ⟨by rfl, ?_⟩) (by assumption) ?_
  rotate_left
  · (intro Y hSw; (try dsimp only at hSw); obtain ⟨hS0, hS1, hS2, hS3, hS4⟩ := hSw; go_simp; try with_reducible rfl)
  try simp only [Act.put, List.getElem_toArray, List.getElem_cons_zero, List.getElem_cons_succ, List.setIfInBounds_toArray, List.set_cons_zero, List.set_cons_succ]
  refine wpAnyH_take (i := 4) (v := ?_) rfl (by kernel_rfl) (by kernel_rfl) (by kernel_rfl) (fun _ _ _ h => h) (Or.inl ⟨by rfl, ?_⟩) (by assumption) ?_
  rotate_left
  · (intro Y hSw; (try dsimp only at hSw); obtain ⟨hS0, hS1, hS2, hS3, hS4⟩ := hSw; go_simp; try with_reducible rfl)
  try simp only [Act.put, List.getElem_toArray, List.getElem_cons_zero, List.getElem_cons_succ, List.setIfInBounds_toArray, List.set_cons_zero, List.set_cons_succ]
  refine wpAnyH_take (i := 5) (v := ?_) rfl (by kernel_rfl) (by kernel_rfl) (by kernel_rfl) (fun _ _ _ h => h) (Or.inl ⟨by rfl, ?_⟩) (by assumption) ?_
  rotate_left
  · (intro Y hSw; (try dsimp only at hSw); obtain ⟨hS0, hS1, hS2, hS3, hS4⟩ := hSw; go_simp; try with_reducible rfl)
  try simp only [Act.put, List.getElem_toArray, List.getElem_cons_zero, List.getElem_cons_succ, List.setIfInBounds_toArray, List.set_cons_zero, List.set_cons_succ]
  refine wpAnyH_take (i := 6) (v := ?_) rfl (by kernel_rfl) (by kernel_rfl) (by kernel_rfl) (fun _ _ _ h => h) (Or.inl ⟨by rfl, ?_⟩) (by assumption) ?_
  rotate_left
  · (intro Y hSw; (try dsimp only at hSw); obtain ⟨hS0, hS1, hS2, hS3, hS4⟩ := hSw; go_simp; try with_reducible rfl)
  try simp only [Act.put, List.getElem_toArray, List.getElem_cons_zero, List.getElem_cons_succ, List.setIfInBounds_toArray, List.set_cons_zero, List.set_cons_succ]
  refine wpAnyH_take (i := 7) (v := ?_) rfl (by kernel_rfl) (by kernel_rfl) (by kernel_rfl) (fun _ _ _ h => h) (Or.inl ⟨by rfl, ?_⟩) (by assumption) ?_
  rotate_left
  · (intro Y hSw; (try dsimp only at hSw); obtain ⟨hS0, hS1, hS2, hS3, hS4⟩ := hSw; go_simp; try with_reducible rfl)
  try simp only [Act.put, List.getElem_toArray, List.getElem_cons_zero, List.getElem_cons_succ, List.setIfInBounds_toArray, List.set_cons_zero, List.set_cons_succ]
  refine wpAnyH_take (i := 8) (v := ?_) rfl (by kernel_rfl) (by kernel_rfl) (by kernel_rfl) (fun _ _ _ h => h) (Or.inl ⟨by rfl, ?_⟩) (by assumption) ?_
  rotate_left
  · (intro Y hSw; (try dsimp only at hSw); obtain ⟨hS0, hS1, hS2, hS3, hS4⟩ := hSw; go_simp; try with_reducible rfl)
  try simp only [Act.put, List.getElem_toArray, List.getElem_cons_zero, List.getElem_cons_succ, List.setIfInBounds_toArray, List.set_cons_zero, List.set_cons_succ]
  refine wpAnyH_ready (rs := [9]) (by kernel_rfl) (by simp) ?_
  refine AllReadyH.cons rfl (fun K hK => ?_) AllReadyH.nil
  go_simp
  refine (Map_ok h1.m.tb hlen n ⟨owner, may, 16384⟩).mono ?_; rintro e Z ⟨rfl, ht, hc⟩
  rw [HQ.out]
  have h2 := h1.chg (h1.m.table ht hc) (.of_tm hc)
  have k2 := k1.trans (.of_tm hc)
  clear h1 k1 ht hc
  go_simp
  refine hK.out _ _ (h2.s) (fun hHeld => ?_)
  clear hK K
  try simp only [Act.put, List.getElem_toArray, List.getElem_cons_zero, List.getElem_cons_succ, List.setIfInBounds_toArray, List.set_cons_zero, List.set_cons_succ]
  refine wpAnyH_take (i := 10) (v := ?_) rfl (by kernel_rfl) (by kernel_rfl) (by kernel_rfl) (fun _ _ _ h => h) (Or.inl ⟨by rfl, ?_⟩) (by assumption) ?_
  rotate_left
  · (intro Y hSw; (try dsimp only at hSw); obtain ⟨hS0, hS1, hS2, hS3, hS4⟩ := hSw; go_simp; try with_reducible rfl)
  try simp only [Act.put, List.getElem_toArray, List.getElem_cons_zero, List.getElem_cons_succ, List.setIfInBounds_toArray, List.set_cons_zero, List.set_cons_succ]
  refine wpAnyH_done (by kernel_rfl) ?_ _
  rw [onlyN_normal]
  clear hHeld
  by_cases h0 : q = 0
  · subst h0
    have hu := unm_map HQ.out
    have HU := Lib.hid hu
    have hgs : SrtR (mapD s.D n ⟨owner, may, 16384⟩) := by
      unfold mapD
      rw [if_pos HQ.out]
      exact hs.ins (mapE_ok HQ.out).2.2.2.1
    have HGS := Lib.hid hgs
    clear hu hgs
    go_wp2_with fail
    refine wp_onlyN ?_
    have h3 := h2.step (Below.refl _ Z).drew
    refine wp_region_held_drew (S := Mp2S p5 p6 p7 p9 k.b k.t n owner may) (by kernel_rfl) h3.s (fun hHeld => ?_)
    change wpAnyH _ _ _ _ _ _ _ _ Z.drew
    have k3 : ChgM k w Z.drew := k2.trans (.of_below (Below.refl _ Z).drew)
    generalize Z.drew = Y2 at h3 k3 hHeld ⊢
    clear h2 k2
    refine wpAnyH_take (i := 0) (v := ?_) rfl (by kernel_rfl) (by kernel_rfl) (by kernel_rfl) (fun _ _ _ h => h) (Or.inl ⟨by rfl, ?_⟩) (by assumption) ?_
    rotate_left
    · (intro Y hSw; (try dsimp only at hSw); obtain ⟨hS0, hS1, hS2, hS3, hS4⟩ := hSw; go_simp; try with_reducible rfl)
    try simp only [Act.put, List.getElem_toArray, List.getElem_cons_zero, List.getElem_cons_succ, List.setIfInBounds_toArray, List.set_cons_zero, List.set_cons_succ]
    refine wpAnyH_take (i := 1) (v := ?_) rfl (by kernel_rfl) (by kernel_rfl) (by kernel_rfl) (fun _ _ _ h => h) (Or.inl ⟨by rfl, ?_⟩) (by assumption) ?_
    rotate_left
    · (intro Y hSw; (try dsimp only at hSw); obtain ⟨hS0, hS1, hS2, hS3, hS4⟩ := hSw; go_simp; try with_reducible rfl)
    try simp only [Act.put, List.getElem_toArray, List.getElem_cons_zero, List.getElem_cons_succ, List.setIfInBounds_toArray, List.set_cons_zero, List.set_cons_succ]
    refine wpAnyH_take (i := 2) (v := ?_) rfl (by kernel_rfl) (by kernel_rfl) (by kernel_rfl) (fun _ _ _ h => h) (Or.inl ⟨by rfl, ?_⟩) (by assumption) ?_
    rotate_left
    · (intro Y hSw; (try dsimp only at hSw); obtain ⟨hS0, hS1, hS2, hS3, hS4⟩ := hSw; go_simp; try with_reducible rfl)
    try simp only [Act.put, List.getElem_toArray, List.getElem_cons_zero, List.getElem_cons_succ, List.setIfInBounds_toArray, List.set_cons_zero, List.set_cons_succ]
    refine wpAnyH_take (i := 3) (v := ?_) rfl (by kernel_rfl) (by kernel_rfl) (by kernel_rfl) (fun _ _ _ h => h) (Or.inl ⟨by rfl, ?_⟩) (by assumption) ?_
    rotate_left
    · (intro Y hSw; (try dsimp only at hSw); obtain ⟨hS0, hS1, hS2, hS3, hS4⟩ := hSw; go_simp; try with_reducible rfl)
    try simp only [Act.put, List.getElem_toArray, List.getElem_cons_zero, List.getElem_cons_succ, List.setIfInBounds_toArray, List.set_cons_zero, List.set_cons_succ]
    refine wpAnyH_take (i := 4) (v := ?_) rfl (by kernel_rfl) (by kernel_rfl) (by kernel_rfl) (fun _ _ _ h => h) (Or.inl ⟨by rfl, ?_⟩) (by assumption) ?_
    rotate_left
    · (intro Y hSw; (try dsimp only at hSw); obtain ⟨hS0, hS1, hS2, hS3, hS4⟩ := hSw; go_simp; try with_reducible rfl)
    try simp only [Act.put, List.getElem_toArray, List.getElem_cons_zero, List.getElem_cons_succ, List.setIfInBounds_toArray, List.set_cons_zero, List.set_cons_succ]
    refine wpAnyH_take (i := 5) (v := ?_) rfl (by kernel_rfl) (by kernel_rfl) (by kernel_rfl) (fun _ _ _ h => h) (Or.inl ⟨by rfl, ?_⟩) (by assumption) ?_
    rotate_left
    · (intro Y hSw; (try dsimp only at hSw); obtain ⟨hS0, hS1, hS2, hS3, hS4⟩ := hSw; go_simp; try with_reducible rfl)
    try simp only [Act.put, List.getElem_toArray, List.getElem_cons_zero, List.getElem_cons_succ, List.setIfInBounds_toArray, List.set_cons_zero, List.set_cons_succ]
    refine wpAnyH_ready (rs := [6]) (by kernel_rfl) (by simp) ?_
    refine AllReadyH.cons rfl (fun K hK => ?_) AllReadyH.nil
    go_simp
    refine (Unmap_ok h3.m.tb HGS.out n).mono ?_; rintro e Z2 ⟨rfl, ht, hc⟩
    dsimp only at ht
    rw [HU.out] at ht
    have h4 := h3.chg (h3.m.table ht hc) (.of_tm hc)
    have k4 := k3.trans (.of_tm hc)
    clear h3 k3 ht hc
    unfold encE
    go_simp
    refine hK.out _ _ (h4.s) (fun hHeld => ?_)
    clear hK K
    try simp only [Act.put, List.getElem_toArray, List.getElem_cons_zero, List.getElem_cons_succ, List.setIfInBounds_toArray, List.set_cons_zero, List.set_cons_succ]
    refine wpAnyH_done (by kernel_rfl) ?_ _
    rw [onlyN_normal]
    go_wp2_with fail
    go_ret
    exact ⟨rfl, h4.m, k4⟩
  · have hd : mapD s.D n ⟨owner, may, 16384⟩ = s.D := by unfold mapD; rw [if_neg (by rw [HQ.out]; exact h0)]
    rw [hd] at h2
    go_wp2_with fail
    go_ret
    exact ⟨rfl, h2.m, k2⟩
end Go.Proofs.YtlpchcdalfkfcaaGreat
