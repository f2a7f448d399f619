/-
 Package frame: Reserve. Conditions: a pool whose books are in order.
-/
import Derived.Test.YtlpchcdalfkfcaaGreatBFrB
namespace Go.Proofs.YtlpchcdalfkfcaaGreat
open Go.RowKit
attribute [local go_sem] Oper.semAt_some
set_option maxHeartbeats 1000000
set_option maxRecDepth 4000

def resvI (R : List (Int × Int)) (who : Int) : Int := ((R.find? fun p => p.1 == who).map (·.2)).getD 0
theorem getA_encR (R : List (Int × Int)) (who : Int) : (getA (encRF R) who).getD (.int .i64 0) = .int .i64 (resvI R who) := by
 unfold getA encRF resvI
 induction R with
 | nil => rfl
 | cons x R ih =>
  by_cases e : x.1 = who
  ·simp [List.find?_cons, e]
  ·simpa [List.find?_cons, e] using ih
def setR (R : List (Int × Int)) (who n : Int) : List (Int × Int) := if R.any (fun p => p.1 == who) = true then R.map (fun p => if p.1 == who then (who, n) else p) else R ++ [(who, n)]
def delRF (R : List (Int × Int)) (who : Int) : List (Int × Int) := R.filter fun x => !(x.1 == who)
theorem setA_encR (R : List (Int × Int)) (who n : Int) : setA (encRF R) who (.int .i64 n) = encRF (setR R who n) := by
 have hh : hasA (encRF R) who = R.any (fun p => p.1 == who) := by simp [hasA, encRF, Function.comp_def]
 unfold setA setR
 rw [hh]
 split
 ·simp only [encRF, List.map_map]
  refine List.map_congr_left fun x _ => ?_
  by_cases e : x.1 = who
  ·simp [e]
  ·simp [e]
 ·simp [encRF]
theorem zero_int (w : World) : (zeroValue 3).run Tryz.prog w = .ok (.int .i64 0) w := by kernel_rfl
/-- What a question of Reserve looks at. -/
structure ResS (w0 : World) (pm pp pw b bf br : Nat) (n who many : Int) (F : List Fr) (R : List (Int × Int)) (Y : World) : Prop where
 bel : Below w0.heap.size w0 Y
 cm : Y.cell? ⟨pm, 0, none⟩ = some (.int .i64 n)
 cp : Y.cell? ⟨pp, 0, none⟩ = some (.pointer (some ⟨b, 0, none⟩))
 cw : Y.cell? ⟨pw, 0, none⟩ = some (.int .i64 who)
 c0 : Y.cell? ⟨b, 0, none⟩ = some (.map (some bf))
 c1 : Y.cell? ⟨b, 1, none⟩ = some (.map (some br))
 lk : (Instr.lookup 185 (.map (some br)) (.int .i64 who) false).run Tryz.prog Y = .ok (.int .i64 (resvI R who)) Y
theorem ResS.of {w0 Y : World} {pm pp pw b bf br : Nat} {n who many : Int} {F : List Fr} {R : List (Int × Int)} (hpo : PoolAt w0 b bf br many F R) (hm : w0.cell? ⟨pm, 0, none⟩ = some (.int .i64 n)) (hp : w0.cell? ⟨pp, 0, none⟩ = some (.pointer (some ⟨b, 0, none⟩)))
  (hw : w0.cell? ⟨pw, 0, none⟩ = some (.int .i64 who)) (h : Below w0.heap.size w0 Y) : ResS w0 pm pp pw b bf br n who many F R Y := by
 have hc := (hpo.step h).cells
 have hlk := ((hpo.step h).re.lookup (P := Tryz.prog) Tryz.underlying185 Tryz.underlying3 (zero_int Y) who).1
 rw [getA_encR] at hlk
 exact ⟨h, (h.cell (p := ⟨pm, 0, none⟩) (World.block_lt_of_cell? w0 _ hm)).trans hm, (h.cell (p := ⟨pp, 0, none⟩) (World.block_lt_of_cell? w0 _ hp)).trans hp, (h.cell (p := ⟨pw, 0, none⟩) (World.block_lt_of_cell? w0 _ hw)).trans hw, hc.1, hc.2.1, hlk⟩
theorem res1_calls (n : Int) (p : Nat) (w : World) (hp : w.cell? ⟨p, 0, none⟩ = some (.int .i64 n)) : Calls Tryz.prog 144 #[.pointer (some ⟨p, 0, none⟩)] w fun e w' => e = .returned (.bool (decide (n < 0))) ∧ Below w.heap.size w w' := by
 go_enter Tryz.func144, Tryz.ntmps144
 go_wp2_with fail
 go_ret
 exact ⟨rfl, Below.refl _ _⟩
theorem res2_calls {w : World} {pm pp pw b bf br : Nat} {n who many : Int} {F : List Fr} {R : List (Int × Int)} (hpo : PoolAt w b bf br many F R) (hs : Sound many F R) (hm : w.cell? ⟨pm, 0, none⟩ = some (.int .i64 n)) (hp : w.cell? ⟨pp, 0, none⟩ = some (.pointer (some ⟨b, 0, none⟩)))
  (hw : w.cell? ⟨pw, 0, none⟩ = some (.int .i64 who)) : Calls Tryz.prog 145 #[.pointer (some ⟨pm, 0, none⟩), .pointer (some ⟨pp, 0, none⟩), .pointer (some ⟨pw, 0, none⟩)] w fun e w' => e = .returned (.bool (decide (n < hasF F who))) ∧ Below w.heap.size w w' := by
 go_enter Tryz.func145, Tryz.ntmps145
 go_wp2_with fail
 refine wp_region_held_drew (S := ResS w pm pp pw b bf br n who many F R) (by kernel_rfl) (ResS.of hpo hm hp hw (Below.refl _ w).drew) (fun hHeld => ?_)
 refine wpAnyH_take (i := 0) (v := ?_) rfl (by kernel_rfl) (by kernel_rfl) (by kernel_rfl) (fun _ _ _ h => h) (Or.inl ⟨by rfl, ?_⟩) (by assumption) ?_
 rotate_left
 ·(intro Y hSw; (try dsimp only at hSw); obtain ⟨hS0, hS1, hS2, hS3, hS4, hS5, hS6⟩ := hSw; go_simp; try with_reducible rfl)
 try simp only [Act.put, pu1, pu2, pu3, pu4, pu5, pu6]
 refine wpAnyH_take (i := 1) (v := ?_) rfl (by kernel_rfl) (by kernel_rfl) (by kernel_rfl) (fun _ _ _ h => h) (Or.inl ⟨by rfl, ?_⟩) (by assumption) ?_
 rotate_left
 ·(intro Y hSw; (try dsimp only at hSw); obtain ⟨hS0, hS1, hS2, hS3, hS4, hS5, hS6⟩ := hSw; go_simp; try with_reducible rfl)
 try simp only [Act.put, pu1, pu2, pu3, pu4, pu5, pu6]
 refine wpAnyH_take (i := 2) (v := ?_) rfl (by kernel_rfl) (by kernel_rfl) (by kernel_rfl) (fun _ _ _ h => h) (Or.inl ⟨by rfl, ?_⟩) (by assumption) ?_
 rotate_left
 ·(intro Y hSw; (try dsimp only at hSw); obtain ⟨hS0, hS1, hS2, hS3, hS4, hS5, hS6⟩ := hSw; go_simp; try with_reducible rfl)
 try simp only [Act.put, pu1, pu2, pu3, pu4, pu5, pu6]
 refine wpAnyH_ready (rs := [3]) (by kernel_rfl) (by simp) ?_
 refine AllReadyH.cons rfl (fun K hK => ?_) AllReadyH.nil
 go_simp
 refine (has_calls (hpo.step (Below.refl _ w).drew) hs who).mono ?_; rintro e w1 ⟨rfl, h1⟩
 have k1 := (Below.refl w.heap.size w).drew.trans (h1.mono (Nat.le_refl _))
 go_wp2_with fail
 refine hK.out _ _ (ResS.of hpo hm hp hw k1) (fun hHeld => ?_)
 clear hK K
 try simp only [Act.put, pu1, pu2, pu3, pu4, pu5, pu6]
 refine wpAnyH_take (i := 4) (v := ?_) rfl (by kernel_rfl) (by kernel_rfl) (by kernel_rfl) (fun _ _ _ h => h) (Or.inl ⟨by rfl, ?_⟩) (by assumption) ?_
 rotate_left
 ·(intro Y hSw; (try dsimp only at hSw); obtain ⟨hS0, hS1, hS2, hS3, hS4, hS5, hS6⟩ := hSw; go_simp; try with_reducible rfl)
 try simp only [Act.put, pu1, pu2, pu3, pu4, pu5, pu6]
 refine wpAnyH_take (i := 5) (v := ?_) rfl (by kernel_rfl) (by kernel_rfl) (by kernel_rfl) (fun _ _ _ h => h) (Or.inl ⟨by rfl, ?_⟩) (by assumption) ?_
 rotate_left
 ·(intro Y hSw; (try dsimp only at hSw); obtain ⟨hS0, hS1, hS2, hS3, hS4, hS5, hS6⟩ := hSw; go_simp; try with_reducible rfl)
 try simp only [Act.put, pu1, pu2, pu3, pu4, pu5, pu6]
 refine wpAnyH_done (by kernel_rfl) ?_ _
 go_wp2_with fail
 go_ret
 exact ⟨rfl, k1⟩
theorem res3_calls {w : World} {pm pp pw b bf br : Nat} {n who many : Int} {F : List Fr} {R : List (Int × Int)} (hpo : PoolAt w b bf br many F R) (hs : Sound many F R) (hrb : 0 ≤ resvI R who ∧ resvI R who ≤ sumR R) (hm : w.cell? ⟨pm, 0, none⟩ = some (.int .i64 n)) (hp : w.cell? ⟨pp, 0, none⟩ = some (.pointer (some ⟨b, 0, none⟩)))
  (hw : w.cell? ⟨pw, 0, none⟩ = some (.int .i64 who)) : Calls Tryz.prog 147 #[.pointer (some ⟨pm, 0, none⟩), .pointer (some ⟨pp, 0, none⟩), .pointer (some ⟨pw, 0, none⟩)] w fun e w' => e = .returned (.bool (decide (many - sumR R + resvI R who < n))) ∧ Below w.heap.size w w' := by
 have hrs : sumR R ≤ many := hs.rs
 have hm1 := hs.m1
 have hadd : IntKind.i64.wrap (many - sumR R + resvI R who) = many - sumR R + resvI R who := IntWalk.i64_in _ (by omega)
 go_enter Tryz.func147, Tryz.ntmps147
 go_wp2_with fail
 refine wp_region_held_drew (S := ResS w pm pp pw b bf br n who many F R) (by kernel_rfl) (ResS.of hpo hm hp hw (Below.refl _ w).drew) (fun hHeld => ?_)
 refine wpAnyH_take (i := 0) (v := ?_) rfl (by kernel_rfl) (by kernel_rfl) (by kernel_rfl) (fun _ _ _ h => h) (Or.inl ⟨by rfl, ?_⟩) (by assumption) ?_
 rotate_left
 ·(intro Y hSw; (try dsimp only at hSw); obtain ⟨hS0, hS1, hS2, hS3, hS4, hS5, hS6⟩ := hSw; go_simp; try with_reducible rfl)
 try simp only [Act.put, pu1, pu2, pu3, pu4, pu5, pu6]
 refine wpAnyH_take (i := 1) (v := ?_) rfl (by kernel_rfl) (by kernel_rfl) (by kernel_rfl) (fun _ _ _ h => h) (Or.inl ⟨by rfl, ?_⟩) (by assumption) ?_
 rotate_left
 ·(intro Y hSw; (try dsimp only at hSw); obtain ⟨hS0, hS1, hS2, hS3, hS4, hS5, hS6⟩ := hSw; go_simp; try with_reducible rfl)
 try simp only [Act.put, pu1, pu2, pu3, pu4, pu5, pu6]
 refine wpAnyH_take (i := 3) (v := ?_) rfl (by kernel_rfl) (by kernel_rfl) (by kernel_rfl) (fun _ _ _ h => h) (Or.inl ⟨by rfl, ?_⟩) (by assumption) ?_
 rotate_left
 ·(intro Y hSw; (try dsimp only at hSw); obtain ⟨hS0, hS1, hS2, hS3, hS4, hS5, hS6⟩ := hSw; go_simp; try with_reducible rfl)
 try simp only [Act.put, pu1, pu2, pu3, pu4, pu5, pu6]
 refine wpAnyH_take (i := 4) (v := ?_) rfl (by kernel_rfl) (by kernel_rfl) (by kernel_rfl) (fun _ _ _ h => h) (Or.inl ⟨by rfl, ?_⟩) (by assumption) ?_
 rotate_left
 ·(intro Y hSw; (try dsimp only at hSw); obtain ⟨hS0, hS1, hS2, hS3, hS4, hS5, hS6⟩ := hSw; go_simp; try with_reducible rfl)
 try simp only [Act.put, pu1, pu2, pu3, pu4, pu5, pu6]
 refine wpAnyH_take (i := 5) (v := ?_) rfl (by kernel_rfl) (by kernel_rfl) (by kernel_rfl) (fun _ _ _ h => h) (Or.inl ⟨by rfl, ?_⟩) (by assumption) ?_
 rotate_left
 ·(intro Y hSw; (try dsimp only at hSw); obtain ⟨hS0, hS1, hS2, hS3, hS4, hS5, hS6⟩ := hSw; go_simp; try with_reducible rfl)
 try simp only [Act.put, pu1, pu2, pu3, pu4, pu5, pu6]
 refine wpAnyH_take (i := 6) (v := ?_) rfl (by kernel_rfl) (by kernel_rfl) (by kernel_rfl) (fun _ _ _ h => h) (Or.inl ⟨by rfl, ?_⟩) (by assumption) ?_
 rotate_left
 ·(intro Y hSw; (try dsimp only at hSw); obtain ⟨hS0, hS1, hS2, hS3, hS4, hS5, hS6⟩ := hSw; go_simp; try with_reducible rfl)
 try simp only [Act.put, pu1, pu2, pu3, pu4, pu5, pu6]
 refine wpAnyH_take (i := 7) (v := ?_) rfl (by kernel_rfl) (by kernel_rfl) (by kernel_rfl) (fun _ _ _ h => h) (Or.inl ⟨by rfl, ?_⟩) (by assumption) ?_
 rotate_left
 ·(intro Y hSw; (try dsimp only at hSw); obtain ⟨hS0, hS1, hS2, hS3, hS4, hS5, hS6⟩ := hSw; go_simp; try with_reducible rfl)
 try simp only [Act.put, pu1, pu2, pu3, pu4, pu5, pu6]
 refine wpAnyH_take (i := 8) (v := ?_) rfl (by kernel_rfl) (by kernel_rfl) (by kernel_rfl) (fun _ _ _ h => h) (Or.inl ⟨by rfl, ?_⟩) (by assumption) ?_
 rotate_left
 ·(intro Y hSw; (try dsimp only at hSw); obtain ⟨hS0, hS1, hS2, hS3, hS4, hS5, hS6⟩ := hSw; go_simp; try with_reducible rfl)
 try simp only [Act.put, pu1, pu2, pu3, pu4, pu5, pu6]
 refine wpAnyH_take (i := 9) (v := ?_) rfl (by kernel_rfl) (by kernel_rfl) (by kernel_rfl) (fun _ _ _ h => h) (Or.inl ⟨by rfl, ?_⟩) (by assumption) ?_
 rotate_left
 ·(intro Y hSw; (try dsimp only at hSw); obtain ⟨hS0, hS1, hS2, hS3, hS4, hS5, hS6⟩ := hSw; go_simp; try with_reducible rfl)
 try simp only [Act.put, pu1, pu2, pu3, pu4, pu5, pu6]
 refine wpAnyH_ready (rs := [2]) (by kernel_rfl) (by simp) ?_
 refine AllReadyH.cons rfl (fun K hK => ?_) AllReadyH.nil
 go_simp
 refine (Room_calls (hpo.step (Below.refl _ w).drew) hs).mono ?_; rintro e w1 ⟨rfl, h1⟩
 have k1 := (Below.refl w.heap.size w).drew.trans (h1.mono (Nat.le_refl _))
 go_wp2_with fail
 refine hK.out _ _ (ResS.of hpo hm hp hw k1) (fun hHeld => ?_)
 clear hK K
 try simp only [Act.put, pu1, pu2, pu3, pu4, pu5, pu6]
 refine wpAnyH_take (i := 10) (v := ?_) rfl (by kernel_rfl) (by kernel_rfl) (by kernel_rfl) (fun _ _ _ h => h) (Or.inl ⟨by rfl, ?_⟩) (by assumption) ?_
 rotate_left
 ·(intro Y hSw; (try dsimp only at hSw); obtain ⟨hS0, hS1, hS2, hS3, hS4, hS5, hS6⟩ := hSw; go_simp; try with_reducible rfl)
 try simp only [Act.put, pu1, pu2, pu3, pu4, pu5, pu6]
 refine wpAnyH_take (i := 11) (v := ?_) rfl (by kernel_rfl) (by kernel_rfl) (by kernel_rfl) (fun _ _ _ h => h) (Or.inl ⟨by rfl, ?_⟩) (by assumption) ?_
 rotate_left
 ·(intro Y hSw; (try dsimp only at hSw); obtain ⟨hS0, hS1, hS2, hS3, hS4, hS5, hS6⟩ := hSw; go_simp; try with_reducible rfl)
 try simp only [Act.put, pu1, pu2, pu3, pu4, pu5, pu6]
 refine wpAnyH_take (i := 12) (v := ?_) rfl (by kernel_rfl) (by kernel_rfl) (by kernel_rfl) (fun _ _ _ h => h) (Or.inl ⟨by rfl, ?_⟩) (by assumption) ?_
 rotate_left
 ·(intro Y hSw; (try dsimp only at hSw); obtain ⟨hS0, hS1, hS2, hS3, hS4, hS5, hS6⟩ := hSw; go_simp; try with_reducible rfl)
 try simp only [Act.put, pu1, pu2, pu3, pu4, pu5, pu6]
 refine wpAnyH_done (by kernel_rfl) ?_ _
 go_wp2_with fail
 go_ret
 exact ⟨rfl, k1⟩
end Go.Proofs.YtlpchcdalfkfcaaGreat

