/-
  Package frame: Reserve. Conditions: a pool whose books are in order.
-/
import Derived.Test.YtlpchcdalfkfcaaGreatBFrE
namespace Go.Proofs.YtlpchcdalfkfcaaGreat
open Go.RowKit
attribute [local go_sem] Oper.semAt_some
set_option maxHeartbeats 2000000
set_option maxRecDepth 4000

def askList (l : List Ask) : List Value := l.flatMap fun a => [.func (.func a.fn) a.recv a.caps, .int .i64 a.err]
theorem askList_at : ∀ (l : List Ask) (i : Nat) (h : i < l.length), (askList l)[i * 2]? = some (.func (.func l[i].fn) l[i].recv l[i].caps) ∧ (askList l)[i * 2 + 1]? = some (.int .i64 l[i].err)
  | a :: r, 0, _ => ⟨rfl, rfl⟩
  | a :: r, i + 1, h => by
    have ih := askList_at r i (by simpa using h)
    have e1 : (i + 1) * 2 = i * 2 + 1 + 1 := by omega
    refine ⟨?_, ?_⟩
    · rw [e1]; exact ih.1
    · rw [e1]; exact ih.2
theorem askRow_of {W : World} {bb : Nat} {l : List Ask} {t : TypeId} (h : Blk W bb (askList l).toArray t) : AskRow W bb l :=
  ⟨fun i hi => h.cell _ (by simpa using (askList_at l i hi).1), fun i hi => h.cell _ (by simpa using (askList_at l i hi).2), h.lt⟩
def resAsks (b bo pm pp pw : Nat) (many : Int) (F : List Fr) (R : List (Int × Int)) (who n : Int) : List Ask :=
  [⟨153, #[.pointer (some ⟨b, 0, none⟩)], #[], 1, false⟩, ⟨185, #[], #[.pointer (some ⟨bo, 0, none⟩)], 2, badOwner who⟩, ⟨144, #[], #[.pointer (some ⟨pm, 0, none⟩)], 2, decide (n < 0)⟩,
   ⟨145, #[], #[.pointer (some ⟨pm, 0, none⟩), .pointer (some ⟨pp, 0, none⟩), .pointer (some ⟨pw, 0, none⟩)], 172, decide (n < hasF F who)⟩,
   ⟨147, #[], #[.pointer (some ⟨pm, 0, none⟩), .pointer (some ⟨pp, 0, none⟩), .pointer (some ⟨pw, 0, none⟩)], 170, decide (many - sumR R + resvI R who < n)⟩]
def resErr (many : Int) (F : List Fr) (R : List (Int × Int)) (who n : Int) : Int :=
  if badOwner who = true then 2 else if n < 0 then 2 else if n < hasF F who then 172 else if many - sumR R + resvI R who < n then 170 else 0
theorem resErr_eq (b bo pm pp pw : Nat) (many : Int) (F : List Fr) (R : List (Int × Int)) (who n : Int) : firstErr (resAsks b bo pm pp pw many F R who n) = resErr many F R who n := by
  simp [firstErr, resAsks, resErr]
theorem res_answers {w : World} {bo pm pp pw b bf br : Nat} {n who many : Int} {F : List Fr} {R : List (Int × Int)} (hpo : PoolAt w b bf br many F R) (hs : Sound many F R) (hrb : 0 ≤ resvI R who ∧ resvI R who ≤ sumR R) (ho : w.cell? ⟨bo, 0, none⟩ = some (.int .i64 who))
    (hm : w.cell? ⟨pm, 0, none⟩ = some (.int .i64 n)) (hp : w.cell? ⟨pp, 0, none⟩ = some (.pointer (some ⟨b, 0, none⟩))) (hw : w.cell? ⟨pw, 0, none⟩ = some (.int .i64 who)) : Answers w (resAsks b bo pm pp pw many F R who n) := by
  constructor
  · intro i h args W
    match i, h with
    | 0, _ => exact enters_of Tryz.func153 (by kernel_rfl) rfl args W
    | 1, _ => exact enters_of Tryz.func185 (by kernel_rfl) rfl args W
    | 2, _ => exact enters_of Tryz.func144 (by kernel_rfl) rfl args W
    | 3, _ => exact enters_of Tryz.func145 (by kernel_rfl) rfl args W
    | 4, _ => exact enters_of Tryz.func147 (by kernel_rfl) rfl args W
  · intro i h W k
    have tm := (k.cell (p := ⟨pm, 0, none⟩) (World.block_lt_of_cell? w _ hm)).trans hm
    have tp := (k.cell (p := ⟨pp, 0, none⟩) (World.block_lt_of_cell? w _ hp)).trans hp
    have tw := (k.cell (p := ⟨pw, 0, none⟩) (World.block_lt_of_cell? w _ hw)).trans hw
    have to := (k.cell (p := ⟨bo, 0, none⟩) (World.block_lt_of_cell? w _ ho)).trans ho
    match i, h with
    | 0, _ => exact none_live (hpo.step k)
    | 1, _ => exact owner1_calls who bo W to
    | 2, _ => exact res1_calls n pm W tm
    | 3, _ => exact res2_calls (hpo.step k) hs tm tp tw
    | 4, _ => exact res3_calls (hpo.step k) hs hrb tm tp tw
theorem resv_le : ∀ (R : List (Int × Int)) (who : Int), (∀ x ∈ R, 0 ≤ x.2) → 0 ≤ resvI R who ∧ resvI R who ≤ sumR R := by
  intro R
  induction R with
  | nil => intro who _; simp [resvI, sumR]
  | cons x R ih =>
    intro who h
    have h1 := ih who fun y hy => h y (List.mem_cons_of_mem _ hy)
    have h2 := h x List.mem_cons_self
    have h3 := sum_nonneg R fun y hy => h y (List.mem_cons_of_mem _ hy)
    unfold resvI sumR at *
    rw [List.find?_cons]
    simp only [List.map_cons, List.sum_cons]
    by_cases e : x.1 = who
    · simp [e]; omega
    · have e' : (x.1 == who) = false := by simpa using e
      rw [e']
      dsimp only
      omega
theorem PoolAt.apart {w : World} {b bf br : Nat} {many : Int} {F : List Fr} {R : List (Int × Int)} (h : PoolAt w b bf br many F R) : b ≠ bf ∧ b ≠ br := by
  have hb := h.blk
  unfold Blk at hb
  constructor
  · rintro rfl
    obtain ⟨es, cl, h1, _⟩ := h.fr
    rw [hb] at h1; cases h1
  · rintro rfl
    obtain ⟨es, cl, h1, _⟩ := h.re
    rw [hb] at h1; cases h1
structure CellS (pm pp pw b bf br : Nat) (n who : Int) (Y : World) : Prop where
  cm : Y.cell? ⟨pm, 0, none⟩ = some (.int .i64 n)
  cp : Y.cell? ⟨pp, 0, none⟩ = some (.pointer (some ⟨b, 0, none⟩))
  cw : Y.cell? ⟨pw, 0, none⟩ = some (.int .i64 who)
  c0 : Y.cell? ⟨b, 0, none⟩ = some (.map (some bf))
  c1 : Y.cell? ⟨b, 1, none⟩ = some (.map (some br))
theorem cell_turn {c : Nat} {W W' : World} {a : Addr} {v : Value} (h : Turn c W W') (hc : W.cell? a = some v) (hne : a.block ≠ c) : W'.cell? a = some v := (World.cell?_of_block (h.block _ hne)).trans hc
theorem CellS.turn {pm pp pw b bf br c : Nat} {n who : Int} {Y Y' : World} (h : CellS pm pp pw b bf br n who Y) (t : Turn c Y Y') (h1 : pm ≠ c) (h2 : pp ≠ c) (h3 : pw ≠ c) (h4 : b ≠ c) : CellS pm pp pw b bf br n who Y' :=
  ⟨cell_turn t h.cm h1, cell_turn t h.cp h2, cell_turn t h.cw h3, cell_turn t h.c0 h4, cell_turn t h.c1 h4⟩
def resNew (R : List (Int × Int)) (who n : Int) : List (Int × Int) := if n = 0 then delRF (setR R who n) who else setR R who n
def resAfter (many : Int) (F : List Fr) (R : List (Int × Int)) (who n : Int) : List (Int × Int) := if resErr many F R who n = 0 then resNew R who n else R
theorem delR_encR (R : List (Int × Int)) (who : Int) : delA (encRF R) who = encRF (delRF R who) := delA_encR R who
theorem Reserve_ok {w : World} {b bf br : Nat} {many : Int} {F : List Fr} {R : List (Int × Int)} (hpo : PoolAt w b bf br many F R) (hs : Sound many F R) (who n : Int) :
    Calls Tryz.prog 81 #[.pointer (some ⟨b, 0, none⟩), .int .i64 who, .int .i64 n] w fun e w' => e = .returned (.int .i64 (resErr many F R who n)) ∧
      PoolAt w' b bf br many F (resAfter many F R who n) ∧ Chg br w w' := by
  obtain ⟨w0, hw0⟩ : ∃ w0, ((w.alloc (.cells #[.pointer (some ⟨b, 0, none⟩)] 137)).alloc (.cells #[.int .i64 who] 3)).alloc (.cells #[.int .i64 n] 3) = w0 := ⟨_, rfl⟩
  have hA : Blk w0 w.heap.size #[.pointer (some ⟨b, 0, none⟩)] 137 := by rw [← hw0]; exact ((Blk.new w _ _).alloc _).alloc _
  have hB : Blk w0 (w.heap.size + 1) #[.int .i64 who] 3 := by rw [← hw0]; exact (Blk.newAt _ _ _ (by simp)).alloc _
  have hC : Blk w0 (w.heap.size + 1 + 1) #[.int .i64 n] 3 := by rw [← hw0]; exact Blk.newAt _ _ _ (by simp)
  have h0 : PoolAt w0 b bf br many F R := by rw [← hw0]; exact ((hpo.alloc _).alloc _).alloc _
  have hb0 : Below w.heap.size w w0 := by rw [← hw0]; exact (((Below.refl _ w).alloc (Nat.le_refl _) _).alloc (by simp) _).alloc (by simp; omega) _
  have z0 := hb0.size
  have a0 : w0.cell? ⟨w.heap.size, 0, none⟩ = some (.pointer (some ⟨b, 0, none⟩)) := hA.cell 0 rfl
  have a1 : w0.cell? ⟨w.heap.size + 1, 0, none⟩ = some (.int .i64 who) := hB.cell 0 rfl
  have a2 : w0.cell? ⟨w.heap.size + 1 + 1, 0, none⟩ = some (.int .i64 n) := hC.cell 0 rfl
  go_enter Tryz.func81, Tryz.ntmps81
  go_wp2_with fail
  clear hw0
  refine wp_region_held_drew (S := ResS w0 (w.heap.size + 1 + 1) w.heap.size (w.heap.size + 1) b bf br n who many F R) (by kernel_rfl) (ResS.of h0 a2 a0 a1 (Below.refl _ w0).drew) (fun hHeld => ?_)
  refine wpAnyH_take (i := 0) (v := ?_) rfl (by kernel_rfl) (by kernel_rfl) (by kernel_rfl) (fun _ _ _ h => h) (Or.inl ⟨by rfl, ?_⟩) (by assumption) ?_
  rotate_left
  · (intro Y hSw; (try dsimp only at hSw); obtain ⟨hS0, hS1, hS2, hS3, hS4, hS5, hS6⟩ := hSw; go_simp; try with_reducible rfl)
  try simp only [Act.put, pu1, pu2, pu3, pu4, pu5, pu6]
  refine wpAnyH_take (i := 2) (v := ?_) rfl (by kernel_rfl) (by kernel_rfl) (by kernel_rfl) (fun _ _ _ h => h) (Or.inl ⟨by rfl, ?_⟩) (by assumption) ?_
  rotate_left
  · (intro Y hSw; (try dsimp only at hSw); obtain ⟨hS0, hS1, hS2, hS3, hS4, hS5, hS6⟩ := hSw; go_simp; try with_reducible rfl)
  try simp only [Act.put, pu1, pu2, pu3, pu4, pu5, pu6]
  refine wpAnyH_take (i := 4) (v := ?_) rfl (by kernel_rfl) (by kernel_rfl) (by kernel_rfl) (fun _ _ _ h => h) (Or.inl ⟨by rfl, ?_⟩) (by assumption) ?_
  rotate_left
  · (intro Y hSw; (try dsimp only at hSw); obtain ⟨hS0, hS1, hS2, hS3, hS4, hS5, hS6⟩ := hSw; go_simp; try with_reducible rfl)
  try simp only [Act.put, pu1, pu2, pu3, pu4, pu5, pu6]
  refine wpAnyH_take (i := 5) (v := ?_) rfl (by kernel_rfl) (by kernel_rfl) (by kernel_rfl) (fun _ _ _ h => h) (Or.inl ⟨by rfl, ?_⟩) (by assumption) ?_
  rotate_left
  · (intro Y hSw; (try dsimp only at hSw); obtain ⟨hS0, hS1, hS2, hS3, hS4, hS5, hS6⟩ := hSw; go_simp; try with_reducible rfl)
  try simp only [Act.put, pu1, pu2, pu3, pu4, pu5, pu6]
  refine wpAnyH_take (i := 6) (v := ?_) rfl (by kernel_rfl) (by kernel_rfl) (by kernel_rfl) (fun _ _ _ h => h) (Or.inl ⟨by rfl, ?_⟩) (by assumption) ?_
  rotate_left
  · (intro Y hSw; (try dsimp only at hSw); obtain ⟨hS0, hS1, hS2, hS3, hS4, hS5, hS6⟩ := hSw; go_simp; try with_reducible rfl)
  try simp only [Act.put, pu1, pu2, pu3, pu4, pu5, pu6]
  refine wpAnyH_take (i := 7) (v := ?_) rfl (by kernel_rfl) (by kernel_rfl) (by kernel_rfl) (fun _ _ _ h => h) (Or.inl ⟨by rfl, ?_⟩) (by assumption) ?_
  rotate_left
  · (intro Y hSw; (try dsimp only at hSw); obtain ⟨hS0, hS1, hS2, hS3, hS4, hS5, hS6⟩ := hSw; go_simp; try with_reducible rfl)
  try simp only [Act.put, pu1, pu2, pu3, pu4, pu5, pu6]
  refine wpAnyH_take (i := 8) (v := ?_) rfl (by kernel_rfl) (by kernel_rfl) (by kernel_rfl) (fun _ _ _ h => h) (Or.inl ⟨by rfl, ?_⟩) (by assumption) ?_
  rotate_left
  · (intro Y hSw; (try dsimp only at hSw); obtain ⟨hS0, hS1, hS2, hS3, hS4, hS5, hS6⟩ := hSw; go_simp; try with_reducible rfl)
  try simp only [Act.put, pu1, pu2, pu3, pu4, pu5, pu6]
  refine wpAnyH_take (i := 9) (v := ?_) rfl (by kernel_rfl) (by kernel_rfl) (by kernel_rfl) (fun _ _ _ h => h) (Or.inl ⟨by rfl, ?_⟩) (by assumption) ?_
  rotate_left
  · (intro Y hSw; (try dsimp only at hSw); obtain ⟨hS0, hS1, hS2, hS3, hS4, hS5, hS6⟩ := hSw; go_simp; try with_reducible rfl)
  try simp only [Act.put, pu1, pu2, pu3, pu4, pu5, pu6]
  refine wpAnyH_ready (rs := [1]) (by kernel_rfl) (by simp) ?_
  refine AllReadyH.cons rfl (fun K hK => ?_) AllReadyH.nil
  go_simp
  refine (is_calls _ _).mono ?_; rintro e w1 ⟨rfl, h1⟩
  have k1 := (Below.refl w0.heap.size w0).drew.trans (h1.mono (Nat.le_refl _))
  go_wp2_with fail
  refine hK.out _ _ (ResS.of h0 a2 a0 a1 k1) (fun hHeld => ?_)
  clear hK K
  try simp only [Act.put, pu1, pu2, pu3, pu4, pu5, pu6]
  refine wpAnyH_ready (rs := [3]) (by kernel_rfl) (by simp) ?_
  refine AllReadyH.cons rfl (fun K hK => ?_) AllReadyH.nil
  go_simp
  refine (owner_calls _ _).mono ?_; rintro e w2 ⟨rfl, hO, h2⟩
  have k2 := k1.trans (h2.mono k1.size)
  have z2 := k2.size
  go_wp2_with fail
  refine hK.out _ _ (ResS.of h0 a2 a0 a1 k2) (fun hHeld => ?_)
  clear hK K
  try simp only [Act.put, pu1, pu2, pu3, pu4, pu5, pu6]
  refine wpAnyH_ready (rs := [10]) (by kernel_rfl) (by simp) ?_
  refine AllReadyH.cons rfl (fun K hK => ?_) AllReadyH.nil
  go_simp
  have k3 := k2.alloc z2 (.cells (askList (resAsks b w1.heap.size (w.heap.size + 1 + 1) w.heap.size (w.heap.size + 1) many F R who n)).toArray 196)
  have hrow : AskRow (w2.alloc (.cells (askList (resAsks b w1.heap.size (w.heap.size + 1 + 1) w.heap.size (w.heap.size + 1) many F R who n)).toArray 196)) w2.heap.size (resAsks b w1.heap.size (w.heap.size + 1 + 1) w.heap.size (w.heap.size + 1) many F R who n) := askRow_of (Blk.new w2 _ _)
  have hO3 := hO.alloc (.cells (askList (resAsks b w1.heap.size (w.heap.size + 1 + 1) w.heap.size (w.heap.size + 1) many F R who n)).toArray 196)
  refine hK.out _ _ (ResS.of h0 a2 a0 a1 k3) (fun hHeld => ?_)
  clear hK K
  try simp only [Act.put, pu1, pu2, pu3, pu4, pu5, pu6]
  change wpAnyH _ _ _ _ _ _ _ _ (w2.alloc (.cells (askList (resAsks b w1.heap.size (w.heap.size + 1 + 1) w.heap.size (w.heap.size + 1) many F R who n)).toArray 196))
  generalize (w2.alloc (.cells (askList (resAsks b w1.heap.size (w.heap.size + 1 + 1) w.heap.size (w.heap.size + 1) many F R who n)).toArray 196)) = w3 at k3 hrow hO3 hHeld ⊢
  have hans : Answers w3 (resAsks b w1.heap.size (w.heap.size + 1 + 1) w.heap.size (w.heap.size + 1) many F R who n) :=
    res_answers (h0.step k3) hs (resv_le R who hs.r0) (hO3.cell 0 rfl) ((hC.below k3 hC.lt).cell 0 rfl) ((hA.below k3 hA.lt).cell 0 rfl) ((hB.below k3 hB.lt).cell 0 rfl)
  refine wpAnyH_ready (rs := [11]) (by kernel_rfl) (by simp) ?_
  refine AllReadyH.cons rfl (fun K hK => ?_) AllReadyH.nil
  go_simp
  refine (asked_ok w3 w2.heap.size 5 5 _ rfl (by simp [resAsks]) (Lib.hid hrow) (Lib.hid hans)).mono ?_; rintro e w4 ⟨rfl, h4⟩
  rw [resErr_eq]
  have k4 := k3.trans (h4.mono k3.size)
  have z4 := k4.size
  go_wp2_with fail
  refine hK.out _ _ (ResS.of h0 a2 a0 a1 k4) (fun hHeld => ?_)
  clear hK K
  try simp only [Act.put, pu1, pu2, pu3, pu4, pu5, pu6]
  refine wpAnyH_take (i := 12) (v := ?_) rfl (by kernel_rfl) (by kernel_rfl) (by kernel_rfl) (fun _ _ _ h => h) (Or.inl ⟨by rfl, ?_⟩) (by assumption) ?_
  rotate_left
  · (intro Y hSw; (try dsimp only at hSw); obtain ⟨hS0, hS1, hS2, hS3, hS4, hS5, hS6⟩ := hSw; go_simp; try with_reducible rfl)
  try simp only [Act.put, pu1, pu2, pu3, pu4, pu5, pu6]
  refine wpAnyH_done (by kernel_rfl) ?_ _
  clear hrow hans hO3 hO h4 k3 k2 k1 h1 h2 hHeld
  have hP4 := h0.step k4
  have hch : Chg br w w4 := .of_below (hb0.trans (k4.mono z0))
  obtain ⟨q, hq⟩ : ∃ q, resErr many F R who n = q := ⟨_, rfl⟩
  have HQ := Lib.hid hq
  rw [hq]
  clear hq
  by_cases h9 : q = 0
  · subst h9
    have hA4 := hA.below k4 hA.lt
    have hB4 := hB.below k4 hB.lt
    have hC4 := hC.below k4 hC.lt
    obtain ⟨c0, c1, c2⟩ := hP4.cells
    have hbl := hpo.blk.lt
    have hbrl := hpo.re.lt
    have hap := hpo.apart
    have hS4 : CellS (w.heap.size + 1 + 1) w.heap.size (w.heap.size + 1) b bf br n who w4.drew := ⟨hC4.cell 0 rfl, hA4.cell 0 rfl, hB4.cell 0 rfl, c0, c1⟩
    obtain ⟨wu, hrun, hMu, hTu⟩ := (show MapI w4.drew br (encRF R) from hP4.re).store (P := Tryz.prog) Tryz.underlying185 Tryz.underlying3 who (.int .i64 n)
    rw [setA_encR] at hMu
    have hSu := hS4.turn hTu (by omega) (by omega) (by omega) hap.2
    have hchu : Chg br w wu := hch.trans ((Chg.of_below (Below.refl _ w4).drew).trans (.of_turn hTu))
    go_wp2_with fail
    refine wp_region_held_drew (S := CellS (w.heap.size + 1 + 1) w.heap.size (w.heap.size + 1) b bf br n who) (by kernel_rfl) hS4 (fun hHeld => ?_)
    refine wpAnyH_take (i := 0) (v := ?_) rfl (by kernel_rfl) (by kernel_rfl) (by kernel_rfl) (fun _ _ _ h => h) (Or.inl ⟨by rfl, ?_⟩) (by assumption) ?_
    rotate_left
    · (intro Y hSw; (try dsimp only at hSw); obtain ⟨hS0, hS1, hS2, hS3, hS5⟩ := hSw; go_simp; try with_reducible rfl)
    try simp only [Act.put, pu1, pu2, pu3, pu4, pu5, pu6]
    refine wpAnyH_take (i := 1) (v := ?_) rfl (by kernel_rfl) (by kernel_rfl) (by kernel_rfl) (fun _ _ _ h => h) (Or.inl ⟨by rfl, ?_⟩) (by assumption) ?_
    rotate_left
    · (intro Y hSw; (try dsimp only at hSw); obtain ⟨hS0, hS1, hS2, hS3, hS5⟩ := hSw; go_simp; try with_reducible rfl)
    try simp only [Act.put, pu1, pu2, pu3, pu4, pu5, pu6]
    refine wpAnyH_take (i := 2) (v := ?_) rfl (by kernel_rfl) (by kernel_rfl) (by kernel_rfl) (fun _ _ _ h => h) (Or.inl ⟨by rfl, ?_⟩) (by assumption) ?_
    rotate_left
    · (intro Y hSw; (try dsimp only at hSw); obtain ⟨hS0, hS1, hS2, hS3, hS5⟩ := hSw; go_simp; try with_reducible rfl)
    try simp only [Act.put, pu1, pu2, pu3, pu4, pu5, pu6]
    refine wpAnyH_take (i := 3) (v := ?_) rfl (by kernel_rfl) (by kernel_rfl) (by kernel_rfl) (fun _ _ _ h => h) (Or.inl ⟨by rfl, ?_⟩) (by assumption) ?_
    rotate_left
    · (intro Y hSw; (try dsimp only at hSw); obtain ⟨hS0, hS1, hS2, hS3, hS5⟩ := hSw; go_simp; try with_reducible rfl)
    try simp only [Act.put, pu1, pu2, pu3, pu4, pu5, pu6]
    refine wpAnyH_take (i := 4) (v := ?_) rfl (by kernel_rfl) (by kernel_rfl) (by kernel_rfl) (fun _ _ _ h => h) (Or.inl ⟨by rfl, ?_⟩) (by assumption) ?_
    rotate_left
    · (intro Y hSw; (try dsimp only at hSw); obtain ⟨hS0, hS1, hS2, hS3, hS5⟩ := hSw; go_simp; try with_reducible rfl)
    try simp only [Act.put, pu1, pu2, pu3, pu4, pu5, pu6]
    refine wpAnyH_take (i := 5) (v := ?_) rfl (by kernel_rfl) (by kernel_rfl) (by kernel_rfl) (fun _ _ _ h => h) (Or.inl ⟨by rfl, ?_⟩) (by assumption) ?_
    rotate_left
    · (intro Y hSw; (try dsimp only at hSw); obtain ⟨hS0, hS1, hS2, hS3, hS5⟩ := hSw; go_simp; try with_reducible rfl)
    try simp only [Act.put, pu1, pu2, pu3, pu4, pu5, pu6]
    refine wpAnyH_take (i := 6) (v := ?_) rfl (by kernel_rfl) (by kernel_rfl) (by kernel_rfl) (fun _ _ _ h => h) (Or.inl ⟨by rfl, ?_⟩) (by assumption) ?_
    rotate_left
    · (intro Y hSw; (try dsimp only at hSw); obtain ⟨hS0, hS1, hS2, hS3, hS5⟩ := hSw; go_simp; try with_reducible rfl)
    try simp only [Act.put, pu1, pu2, pu3, pu4, pu5, pu6]
    refine wpAnyH_ready (rs := [7]) (by kernel_rfl) (by simp) ?_
    refine AllReadyH.cons rfl (fun K hK => ?_) AllReadyH.nil
    go_simp
    refine hK.out _ _ (hSu) (fun hHeld => ?_)
    clear hK K
    try simp only [Act.put, pu1, pu2, pu3, pu4, pu5, pu6]
    refine wpAnyH_done (by kernel_rfl) ?_ _
    have c5 := hSu.cm
    have hPu : PoolAt wu b bf br many F (setR R who n) := ⟨(hTu.block b hap.2).trans hP4.blk, (show MapI w4.drew bf (encF F) from hP4.fr).turn hTu hpo.ne, hMu, hpo.ne⟩
    clear hrun c0 c1 c2
    by_cases hn0 : n = 0
    · subst hn0
      obtain ⟨wv, hrun, hMv, hTv⟩ := (show MapI wu.drew br (encRF (setR R who 0)) from hMu).drop (P := Tryz.prog) Tryz.underlying185 Tryz.underlying3 who 3 0
      rw [delR_encR] at hMv
      have hSd : CellS (w.heap.size + 1 + 1) w.heap.size (w.heap.size + 1) b bf br 0 who wu.drew := ⟨hSu.cm, hSu.cp, hSu.cw, hSu.c0, hSu.c1⟩
      have hSv := hSd.turn hTv (by omega) (by omega) (by omega) hap.2
      have hchv : Chg br w wv := hchu.trans ((Chg.of_below (Below.refl _ wu).drew).trans (.of_turn hTv))
      have hPv : PoolAt wv b bf br many F (delRF (setR R who 0) who) := ⟨(hTv.block b hap.2).trans hPu.blk, (show MapI wu.drew bf (encF F) from hPu.fr).turn hTv hpo.ne, hMv, hpo.ne⟩
      go_wp2_with fail
      refine wp_region_held_drew (S := CellS (w.heap.size + 1 + 1) w.heap.size (w.heap.size + 1) b bf br 0 who) (by kernel_rfl) hSd (fun hHeld => ?_)
      refine wpAnyH_take (i := 0) (v := ?_) rfl (by kernel_rfl) (by kernel_rfl) (by kernel_rfl) (fun _ _ _ h => h) (Or.inl ⟨by rfl, ?_⟩) (by assumption) ?_
      rotate_left
      · (intro Y hSw; (try dsimp only at hSw); obtain ⟨hS0, hS1, hS2, hS3, hS5⟩ := hSw; go_simp; try with_reducible rfl)
      try simp only [Act.put, pu1, pu2, pu3, pu4, pu5, pu6]
      refine wpAnyH_take (i := 1) (v := ?_) rfl (by kernel_rfl) (by kernel_rfl) (by kernel_rfl) (fun _ _ _ h => h) (Or.inl ⟨by rfl, ?_⟩) (by assumption) ?_
      rotate_left
      · (intro Y hSw; (try dsimp only at hSw); obtain ⟨hS0, hS1, hS2, hS3, hS5⟩ := hSw; go_simp; try with_reducible rfl)
      try simp only [Act.put, pu1, pu2, pu3, pu4, pu5, pu6]
      refine wpAnyH_take (i := 2) (v := ?_) rfl (by kernel_rfl) (by kernel_rfl) (by kernel_rfl) (fun _ _ _ h => h) (Or.inl ⟨by rfl, ?_⟩) (by assumption) ?_
      rotate_left
      · (intro Y hSw; (try dsimp only at hSw); obtain ⟨hS0, hS1, hS2, hS3, hS5⟩ := hSw; go_simp; try with_reducible rfl)
      try simp only [Act.put, pu1, pu2, pu3, pu4, pu5, pu6]
      refine wpAnyH_take (i := 3) (v := ?_) rfl (by kernel_rfl) (by kernel_rfl) (by kernel_rfl) (fun _ _ _ h => h) (Or.inl ⟨by rfl, ?_⟩) (by assumption) ?_
      rotate_left
      · (intro Y hSw; (try dsimp only at hSw); obtain ⟨hS0, hS1, hS2, hS3, hS5⟩ := hSw; go_simp; try with_reducible rfl)
      try simp only [Act.put, pu1, pu2, pu3, pu4, pu5, pu6]
      refine wpAnyH_take (i := 4) (v := ?_) rfl (by kernel_rfl) (by kernel_rfl) (by kernel_rfl) (fun _ _ _ h => h) (Or.inl ⟨by rfl, ?_⟩) (by assumption) ?_
      rotate_left
      · (intro Y hSw; (try dsimp only at hSw); obtain ⟨hS0, hS1, hS2, hS3, hS5⟩ := hSw; go_simp; try with_reducible rfl)
      try simp only [Act.put, pu1, pu2, pu3, pu4, pu5, pu6]
      refine wpAnyH_take (i := 5) (v := ?_) rfl (by kernel_rfl) (by kernel_rfl) (by kernel_rfl) (fun _ _ _ h => h) (Or.inl ⟨by rfl, ?_⟩) (by assumption) ?_
      rotate_left
      · (intro Y hSw; (try dsimp only at hSw); obtain ⟨hS0, hS1, hS2, hS3, hS5⟩ := hSw; go_simp; try with_reducible rfl)
      try simp only [Act.put, pu1, pu2, pu3, pu4, pu5, pu6]
      refine wpAnyH_ready (rs := [6]) (by kernel_rfl) (by simp) ?_
      refine AllReadyH.cons rfl (fun K hK => ?_) AllReadyH.nil
      go_simp
      refine hK.out _ _ (hSv) (fun hHeld => ?_)
      clear hK K
      try simp only [Act.put, pu1, pu2, pu3, pu4, pu5, pu6]
      refine wpAnyH_done (by kernel_rfl) ?_ _
      go_wp2_with fail
      go_ret
      exact ⟨by rw [HQ.out]; rfl, by rw [show resAfter many F R who 0 = delRF (setR R who 0) who by unfold resAfter resNew; rw [HQ.out, if_pos rfl, if_pos rfl]]; exact hPv, hchv⟩
    · have hn1 : (n == 0) = false := by simpa using hn0
      go_wp2_with fail
      go_ret
      exact ⟨by rw [HQ.out]; rfl, by rw [show resAfter many F R who n = setR R who n by unfold resAfter resNew; rw [HQ.out, if_pos rfl, if_neg hn0]]; exact hPu, hchu⟩
  · go_wp2_with fail
    go_ret
    exact ⟨by rw [HQ.out]; rfl, by rw [show resAfter many F R who n = R by unfold resAfter; rw [HQ.out, if_neg h9]]; exact hP4, hch⟩
end Go.Proofs.YtlpchcdalfkfcaaGreat


/-
 Package frame: the frames that are nobody's, one by one. Conditions: a pool whose books are in order.
-/
namespace Go.Proofs.YtlpchcdalfkfcaaGreat
open Go.RowKit
attribute [local go_sem] Oper.semAt_some
set_option maxHeartbeats 2000000
set_option maxRecDepth 4000

def inF (F : List Fr) (k : Int) : Bool := F.any fun x => x.1 == k
def freeK (F : List Fr) (k : Nat) : List Int := ((List.range k).map fun (n : Nat) => (n : Int)).filter fun k => !inF F k
def freeI (many : Int) (F : List Fr) : List Int := freeK F many.toNat
theorem freeK_succ (F : List Fr) (k : Nat) : freeK F (k + 1) = freeK F k ++ (if inF F k = true then [] else [(k : Int)]) := by
 unfold freeK
 rw [List.range_succ, List.map_append, List.filter_append]
 congr 1
 cases h : inF F k <;> simp [h]
theorem freeK_le (F : List Fr) (k : Nat) : ∀ d : Nat, ∃ suf, freeK F (k + d) = freeK F k ++ suf
 | 0 => ⟨[], by simp⟩
 | d + 1 => by
  obtain ⟨suf, h⟩ := freeK_le F k d
  exact ⟨suf ++ _, by rw [show k + (d + 1) = k + d + 1 by omega, freeK_succ, h, List.append_assoc]⟩
theorem free_split (many : Int) (F : List Fr) (k : Nat) (hk : (k : Int) < many) (hin : inF F k = false) : ∃ suf, freeI many F = freeK F k ++ (k : Int) :: suf := by
 obtain ⟨suf, h⟩ := freeK_le F (k + 1) (many.toNat - (k + 1))
 rw [show k + 1 + (many.toNat - (k + 1)) = many.toNat by omega, freeK_succ, hin] at h
 exact ⟨suf, by unfold freeI; rw [h]; simp⟩
theorem hasA_encF (F : List Fr) (k : Int) : hasA (encF F) k = inF F k := by simp [hasA, encF, inF, Function.comp_def]
def zeros256 : List Int := List.replicate 256 0
theorem zero_taken (w : World) : (zeroValue 214).run Tryz.prog w = .ok (.agg (takenA 0 zeros256)) w := by kernel_rfl
/-- What is looked up, be it there or not. -/
theorem look_taken (F : List Fr) (h256 : ∀ x ∈ F, x.2.2.length = 256) (k : Int) : ∃ o bs, (getA (encF F) k).getD (.agg (takenA 0 zeros256)) = .agg (takenA o bs) ∧ bs.length = 256 := by
 unfold getA
 cases h : (encF F).find? fun p => p.1 == k with
 | none => exact ⟨0, zeros256, rfl, rfl⟩
 | some q =>
  have hq := List.mem_of_find?_eq_some h
  obtain ⟨x, hx, rfl⟩ := List.mem_map.1 hq
  exact ⟨x.2.1, x.2.2, rfl, h256 x hx⟩
theorem free_calls (b : Nat) (w : World) : Calls Tryz.prog 167 #[.pointer (some ⟨b, 0, none⟩)] w fun e w' => e = .returned (.func (.func 196) #[] #[.pointer (some ⟨w.heap.size, 0, none⟩)]) ∧ w' = w.alloc (.cells #[.pointer (some ⟨b, 0, none⟩)] 137) := by
 go_enter Tryz.func167, Tryz.ntmps167
 go_wp2
 go_ret
 exact ⟨rfl, rfl⟩
theorem free_iter (bs b bf br : Nat) (many : Int) (F : List Fr) (R : List (Int × Int)) (hs : Sound many F R) :
  IterK Tryz.prog 196 #[.pointer (some ⟨bs, 0, none⟩)] (fun k : Int => #[.int .i64 k]) (freeI many F)
   (fun W => W.cell? ⟨bs, 0, none⟩ = some (.pointer (some ⟨b, 0, none⟩)) ∧ PoolAt W b bf br many F R) := by
 intro l J Jx W hJ hJx hA hY h0
 obtain ⟨hc0, hp0⟩ := hA _ _ h0
 obtain ⟨c0, c1, c2⟩ := hp0.cells
 have hm1 := hs.m1
 have hm0 := hs.m0
 refine calls_in Tryz.func196 rfl ?_; simp only [Tryz.ntmps196, List.size_toArray, List.length_cons, List.length_nil, Nat.reduceAdd, Nat.reduceSub, Array.replicate_succ, Array.replicate_zero, List.push_toArray, List.append_toArray, List.nil_append, List.cons_append]
 gi_wp2
 gi_loopw [10] (fun i wr => ∃ k : Nat, (k : Int) ≤ many ∧ i = .int .i64 k ∧ J (freeK F k) wr ∧ W.heap.size ≤ wr.heap.size) (fun i _ => many.toNat - (intOf i).toNat)
 case atStart => exact ⟨0, by omega, rfl, h0, Nat.le_refl _⟩
 case round =>
  clear hc0 hp0 c0 c1 c2
  obtain ⟨k, hk, rfl, hJk, hsz⟩ := hrel
  obtain ⟨hc1, hp1⟩ := hA _ _ hJk
  obtain ⟨c0, c1, c2⟩ := hp1.cells
  by_cases hlt : (k : Int) < many
  ·have i0 : (0 : Int) ≤ k := by omega
   obtain ⟨o9, bs9, hcs, h25⟩ := look_taken F hs.b256 k
   have hcz := takenA_size o9 bs9 h25
   have hlk := (hp1.fr.lookup (P := Tryz.prog) Tryz.underlying184 Tryz.underlying3 (zero_taken wr) k).2
   rw [hcs, hasA_encF] at hlk
   have hfill := fill_taken wr o9 bs9 h25
   have hJ1 := hJ _ _ _ hJk ((Keeps.refl _ wr).alloc hsz (.cells (takenA o9 bs9) 214))
   cases hin : inF F k
   ·rw [hin] at hlk
    obtain ⟨suf, hsp⟩ := free_split many F k hlt hin
    have hss : freeK F (k + 1) = freeK F k ++ [(k : Int)] := by rw [freeK_succ, hin]; simp
    obtain ⟨fn, tmps, assign, body, hy, hR⟩ := hY _ _ _ _ hsp hJ1 (by simp; omega)
    clear hY
    gi_wp2_with fail
    refine (hR _).mono ?_; rintro e W3 (⟨rfl, hJ3, hs3⟩ | ⟨rfl, hJx3, hs3⟩)
    ·gi_wp2
     go_roundw
     case rel => exact ⟨k + 1, by omega, by go_num, by rw [hss]; exact hJ3, by simp at hs3; omega⟩
     case measure => simp [intOf]; omega
    ·gi_wp2
     refine bodyPost_ret (results_none rfl _ _ _) rfl ?_
     exact ⟨⟨_, rfl⟩, .inr hJx3⟩
   ·rw [hin] at hlk
    have hss : freeK F (k + 1) = freeK F k := by rw [freeK_succ, hin]; simp
    gi_wp2_with fail
    exact ⟨⟨k + 1, by omega, by go_num, by rw [hss]; exact hJ1, by simp; omega⟩, by simp [intOf]; omega⟩
  ·obtain rfl : (k : Int) = many := by omega
   gi_wp2
   go_end0
   exact ⟨⟨_, rfl⟩, .inl hJk⟩
end Go.Proofs.YtlpchcdalfkfcaaGreat

