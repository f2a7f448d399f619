/-
  Package page: Map. Conditions: a table, its rows in order.
-/
import Derived.Test.YtlpchcdalfkfcaaGreatBMapP
namespace Go.Proofs.YtlpchcdalfkfcaaGreat
open Go.RowKit
attribute [local go_sem] Oper.semAt_some
set_option maxHeartbeats 2000000
set_option maxRecDepth 4000

theorem map1_calls (x : Ent) (p : Nat) (w : World) (hp : Blk w p #[.int .i64 x.o, .int .i64 x.m, .int .i64 x.f] 97) : Calls Tryz.prog 159 #[.pointer (some ⟨p, 0, none⟩)] w fun e w' => e = .returned (.bool (badO x)) ∧ Below w.heap.size w w' := by
  have c0 : w.cell? ⟨p, 0, none⟩ = some (.int .i64 x.o) := hp.cell 0 rfl
  have c2 : w.cell? ⟨p, 2, none⟩ = some (.int .i64 x.f) := hp.cell 2 rfl
  by_cases h1 : x.o < -1
  · have hb : badO x = true := by simp [badO, h1]
    go_enter Tryz.func159, Tryz.ntmps159
    go_wp2_with fail
    go_ret
    exact ⟨by first | rfl | (rw [hb]; rfl), Below.refl _ _⟩
  by_cases h2 : 64 ≤ x.o
  · have hb : badO x = true := by simp [badO, h2]
    go_enter Tryz.func159, Tryz.ntmps159
    go_wp2_with fail
    go_ret
    exact ⟨by first | rfl | (rw [hb]; rfl), Below.refl _ _⟩
  by_cases h3 : x.f < 0
  · have hb : badO x = true := by simp [badO, h3]
    go_enter Tryz.func159, Tryz.ntmps159
    go_wp2_with fail
    go_ret
    exact ⟨by first | rfl | (rw [hb]; rfl), Below.refl _ _⟩
  · have hb : badO x = false := by simp [badO]; omega
    go_enter Tryz.func159, Tryz.ntmps159
    go_wp2_with fail
    go_ret
    exact ⟨by first | rfl | (rw [hb]; rfl), Below.refl _ _⟩
theorem map2_calls {w : World} {b m : Nat} {D : Tb} (h : TblAt w b m D) (p : Int) (pt pp : Nat) (ht : w.cell? ⟨pt, 0, none⟩ = some (.pointer (some ⟨b, 0, none⟩))) (hp : w.cell? ⟨pp, 0, none⟩ = some (.int .i64 p)) :
    Calls Tryz.prog 161 #[.pointer (some ⟨pt, 0, none⟩), .pointer (some ⟨pp, 0, none⟩)] w fun e w' => e = .returned (.bool (hasR D p)) ∧ Below w.heap.size w w' := by
  go_enter Tryz.func161, Tryz.ntmps161
  go_wp2_with fail
  refine (mapped_calls h p).mono ?_; rintro e w1 ⟨rfl, k1⟩
  go_wp2_with fail
  go_ret
  exact ⟨rfl, k1⟩
theorem frame_calls {w : World} {m : Nat} {D : Tb} (hlen : D.length ≤ 1000000) (h : MapP encE w m D) (f : Int) : Calls Tryz.prog 164 #[.map (some m), .int .i64 f] w fun e w' => e = .returned (.bool (frmR D f)) ∧ Below w.heap.size w w' := by
  obtain ⟨w0, hw0⟩ : ∃ w0, w.alloc (.cells #[.int .i64 f] 3) = w0 := ⟨_, rfl⟩
  have hX : Blk w0 w.heap.size #[.int .i64 f] 3 := by rw [← hw0]; exact Blk.new w _ _
  have hb0 : Below w.heap.size w w0 := by rw [← hw0]; exact (Below.refl _ w).alloc (Nat.le_refl _) _
  have h0 := h.step hb0
  go_enter Tryz.func164, Tryz.ntmps164
  go_wp2_with fail
  clear hw0
  refine (some_ok f w.heap.size hlen h0 (hX.cell 0 rfl)).mono ?_; rintro e w1 ⟨rfl, k1⟩
  go_wp2_with fail
  go_ret
  exact ⟨rfl, hb0.trans (k1.mono hb0.size)⟩
structure M3S (pt pe b m : Nat) (x : Ent) (Y : World) : Prop where
  ct : Y.cell? ⟨pt, 0, none⟩ = some (.pointer (some ⟨b, 0, none⟩))
  cf : Y.cell? ⟨pe, 2, none⟩ = some (.int .i64 x.f)
  c0 : Y.cell? ⟨b, 0, none⟩ = some (.map (some m))
theorem M3S.below {pt pe b m n : Nat} {x : Ent} {Y Z : World} (h : M3S pt pe b m x Y) (k : Below n Y Z) (h1 : pt < n) (h2 : pe < n) (h3 : b < n) : M3S pt pe b m x Z :=
  ⟨(k.cell (p := ⟨pt, 0, none⟩) h1).trans h.ct, (k.cell (p := ⟨pe, 2, none⟩) h2).trans h.cf, (k.cell (p := ⟨b, 0, none⟩) h3).trans h.c0⟩
theorem map3_calls {w : World} {b m : Nat} {D : Tb} (h : TblAt w b m D) (hlen : D.length ≤ 1000000) (x : Ent) (pt pe : Nat) (ht : w.cell? ⟨pt, 0, none⟩ = some (.pointer (some ⟨b, 0, none⟩))) (hp : Blk w pe #[.int .i64 x.o, .int .i64 x.m, .int .i64 x.f] 97) :
    Calls Tryz.prog 163 #[.pointer (some ⟨pt, 0, none⟩), .pointer (some ⟨pe, 0, none⟩)] w fun e w' => e = .returned (.bool (frmR D x.f)) ∧ Below w.heap.size w w' := by
  have hS : M3S pt pe b m x w.drew := ⟨ht, hp.cell 2 rfl, h.cell⟩
  have lt := World.block_lt_of_cell? w _ ht
  go_enter Tryz.func163, Tryz.ntmps163
  go_wp2_with fail
  refine wp_region_held_drew (S := M3S pt pe b m x) (by kernel_rfl) hS (fun hHeld => ?_)
  refine wpAnyH_take (i := 0) (v := ?_) rfl (by kernel_rfl) (by kernel_rfl) (by kernel_rfl) (fun _ _ _ h => h) (Or.inl ⟨by rfl, ?_⟩) (by assumption) ?_
  rotate_left
  · (intro Y hSw; (try dsimp only at hSw); obtain ⟨hS0, hS1, hS2⟩ := hSw; go_simp; try with_reducible rfl)
  try simp only [Act.put, pu1, pu2, pu3, pu4, pu5, pu6]
  refine wpAnyH_take (i := 1) (v := ?_) rfl (by kernel_rfl) (by kernel_rfl) (by kernel_rfl) (fun _ _ _ h => h) (Or.inl ⟨by rfl, ?_⟩) (by assumption) ?_
  rotate_left
  · (intro Y hSw; (try dsimp only at hSw); obtain ⟨hS0, hS1, hS2⟩ := hSw; go_simp; try with_reducible rfl)
  try simp only [Act.put, pu1, pu2, pu3, pu4, pu5, pu6]
  refine wpAnyH_take (i := 2) (v := ?_) rfl (by kernel_rfl) (by kernel_rfl) (by kernel_rfl) (fun _ _ _ h => h) (Or.inl ⟨by rfl, ?_⟩) (by assumption) ?_
  rotate_left
  · (intro Y hSw; (try dsimp only at hSw); obtain ⟨hS0, hS1, hS2⟩ := hSw; go_simp; try with_reducible rfl)
  try simp only [Act.put, pu1, pu2, pu3, pu4, pu5, pu6]
  refine wpAnyH_take (i := 3) (v := ?_) rfl (by kernel_rfl) (by kernel_rfl) (by kernel_rfl) (fun _ _ _ h => h) (Or.inl ⟨by rfl, ?_⟩) (by assumption) ?_
  rotate_left
  · (intro Y hSw; (try dsimp only at hSw); obtain ⟨hS0, hS1, hS2⟩ := hSw; go_simp; try with_reducible rfl)
  try simp only [Act.put, pu1, pu2, pu3, pu4, pu5, pu6]
  refine wpAnyH_take (i := 4) (v := ?_) rfl (by kernel_rfl) (by kernel_rfl) (by kernel_rfl) (fun _ _ _ h => h) (Or.inl ⟨by rfl, ?_⟩) (by assumption) ?_
  rotate_left
  · (intro Y hSw; (try dsimp only at hSw); obtain ⟨hS0, hS1, hS2⟩ := hSw; go_simp; try with_reducible rfl)
  try simp only [Act.put, pu1, pu2, pu3, pu4, pu5, pu6]
  refine wpAnyH_take (i := 5) (v := ?_) rfl (by kernel_rfl) (by kernel_rfl) (by kernel_rfl) (fun _ _ _ h => h) (Or.inl ⟨by rfl, ?_⟩) (by assumption) ?_
  rotate_left
  · (intro Y hSw; (try dsimp only at hSw); obtain ⟨hS0, hS1, hS2⟩ := hSw; go_simp; try with_reducible rfl)
  try simp only [Act.put, pu1, pu2, pu3, pu4, pu5, pu6]
  refine wpAnyH_ready (rs := [6]) (by kernel_rfl) (by simp) ?_
  refine AllReadyH.cons rfl (fun K hK => ?_) AllReadyH.nil
  go_simp
  refine (frame_calls hlen (show MapP encE w.drew m D from h.mp) x.f).mono ?_; rintro e w1 ⟨rfl, k1⟩
  go_simp
  refine hK.out _ _ (hS.below k1 lt hp.lt h.blk.lt) (fun hHeld => ?_)
  clear hK K
  try simp only [Act.put, pu1, pu2, pu3, pu4, pu5, pu6]
  refine wpAnyH_take (i := 7) (v := ?_) rfl (by kernel_rfl) (by kernel_rfl) (by kernel_rfl) (fun _ _ _ h => h) (Or.inl ⟨by rfl, ?_⟩) (by assumption) ?_
  rotate_left
  · (intro Y hSw; (try dsimp only at hSw); obtain ⟨hS0, hS1, hS2⟩ := hSw; go_simp; try with_reducible rfl)
  try simp only [Act.put, pu1, pu2, pu3, pu4, pu5, pu6]
  refine wpAnyH_done (by kernel_rfl) ?_ _
  go_wp2_with fail
  go_ret
  exact ⟨rfl, (Below.refl _ w).drew.trans k1⟩
def mapAsks (b pt pp pe bm bi : Nat) (D : Tb) (p : Int) (x : Ent) : List AskP :=
  [⟨150, #[.pointer (some ⟨b, 0, none⟩)], #[], 1, false⟩, ⟨191, #[], #[.pointer (some ⟨bm, 0, none⟩)], 2, badM x.m⟩, ⟨159, #[], #[.pointer (some ⟨pe, 0, none⟩)], 2, badO x⟩,
   ⟨192, #[], #[.pointer (some ⟨bi, 0, none⟩)], 4, badP p⟩, ⟨161, #[], #[.pointer (some ⟨pt, 0, none⟩), .pointer (some ⟨pp, 0, none⟩)], 180, hasR D p⟩,
   ⟨163, #[], #[.pointer (some ⟨pt, 0, none⟩), .pointer (some ⟨pe, 0, none⟩)], 181, frmR D x.f⟩]
theorem mapAsks_eq (b pt pp pe bm bi : Nat) (D : Tb) (p : Int) (x : Ent) : firstErrP (mapAsks b pt pp pe bm bi D p x) = mapE D p x := by simp [firstErrP, mapAsks, mapE]
/-- What Map has laid. -/
structure MapS (pt pp pe b m : Nat) (p : Int) (x : Ent) (Y : World) : Prop where
  ct : Y.cell? ⟨pt, 0, none⟩ = some (.pointer (some ⟨b, 0, none⟩))
  cp : Y.cell? ⟨pp, 0, none⟩ = some (.int .i64 p)
  e0 : Y.cell? ⟨pe, 0, none⟩ = some (.int .i64 x.o)
  e1 : Y.cell? ⟨pe, 1, none⟩ = some (.int .i64 x.m)
  e2 : Y.cell? ⟨pe, 2, none⟩ = some (.int .i64 x.f)
  c0 : Y.cell? ⟨b, 0, none⟩ = some (.map (some m))
theorem cell_turnP {c : Nat} {W W' : World} {a : Addr} {v : Value} (h : Turn c W W') (hc : W.cell? a = some v) (hne : a.block ≠ c) : W'.cell? a = some v := (World.cell?_of_block (h.block _ hne)).trans hc
theorem MapS.turn {pt pp pe b m c : Nat} {p : Int} {x : Ent} {Y Y' : World} (h : MapS pt pp pe b m p x Y) (t : Turn c Y Y') (h1 : pt ≠ c) (h2 : pp ≠ c) (h3 : pe ≠ c) (h4 : b ≠ c) : MapS pt pp pe b m p x Y' :=
  ⟨cell_turnP t h.ct h1, cell_turnP t h.cp h2, cell_turnP t h.e0 h3, cell_turnP t h.e1 h3, cell_turnP t h.e2 h3, cell_turnP t h.c0 h4⟩
structure MapB (w0 : World) (pt pp pe b m : Nat) (D : Tb) (p : Int) (x : Ent) : Prop where
  t : Blk w0 pt #[.pointer (some ⟨b, 0, none⟩)] 140
  p : Blk w0 pp #[.int .i64 p] 3
  e : Blk w0 pe #[.int .i64 x.o, .int .i64 x.m, .int .i64 x.f] 97
  b : TblAt w0 b m D
theorem MapB.s {w0 : World} {pt pp pe b m : Nat} {D : Tb} {p : Int} {x : Ent} (h : MapB w0 pt pp pe b m D p x) {Y : World} (k : Below w0.heap.size w0 Y) : MapS pt pp pe b m p x Y :=
  have e := h.e.below k h.e.lt
  ⟨(h.t.below k h.t.lt).cell 0 rfl, (h.p.below k h.p.lt).cell 0 rfl, e.cell 0 rfl, e.cell 1 rfl, e.cell 2 rfl, (h.b.step k).cell⟩
theorem map_answers {w0 W : World} {pt pp pe b m bm bi : Nat} {D : Tb} {p : Int} {x : Ent} (h : MapB w0 pt pp pe b m D p x) (hlen : D.length ≤ 1000000) (k : Below w0.heap.size w0 W) (hm : Blk W bm #[.int .i64 x.m] 95) (hi : Blk W bi #[.int .i64 p] 3) :
    AnswersP W (mapAsks b pt pp pe bm bi D p x) := by
  constructor
  · intro i h args W
    match i, h with
    | 0, _ => exact enters_of Tryz.func150 (by kernel_rfl) rfl args W
    | 1, _ => exact enters_of Tryz.func191 (by kernel_rfl) rfl args W
    | 2, _ => exact enters_of Tryz.func159 (by kernel_rfl) rfl args W
    | 3, _ => exact enters_of Tryz.func192 (by kernel_rfl) rfl args W
    | 4, _ => exact enters_of Tryz.func161 (by kernel_rfl) rfl args W
    | 5, _ => exact enters_of Tryz.func163 (by kernel_rfl) rfl args W
  · intro i hi' X _ kx
    have K := k.trans (kx.mono k.size)
    match i, hi' with
    | 0, _ => exact none_liveP (h.b.step K)
    | 1, _ => exact may1_calls x.m bm X ((hm.below kx hm.lt).cell 0 rfl)
    | 2, _ => exact map1_calls x pe X (h.e.below K h.e.lt)
    | 3, _ => exact in1_calls p bi X ((hi.below kx hi.lt).cell 0 rfl)
    | 4, _ => exact map2_calls (h.b.step K) p pt pp ((h.t.below K h.t.lt).cell 0 rfl) ((h.p.below K h.p.lt).cell 0 rfl)
    | 5, _ => exact map3_calls (h.b.step K) hlen x pt pe ((h.t.below K h.t.lt).cell 0 rfl) (h.e.below K h.e.lt)
theorem Map_ok {w : World} {b m : Nat} {D : Tb} (h : TblAt w b m D) (hlen : D.length ≤ 1000000) (p : Int) (x : Ent) :
    Calls Tryz.prog 94 #[.pointer (some ⟨b, 0, none⟩), .int .i64 p, encE x] w fun e w' => e = .returned (.int .i64 (mapE D p x)) ∧ TblAt w' b m (mapD D p x) ∧ Chg m w w' := by
  obtain ⟨w0, hw0⟩ : ∃ w0, ((w.alloc (.cells #[.pointer (some ⟨b, 0, none⟩)] 140)).alloc (.cells #[.int .i64 p] 3)).alloc (.cells #[.int .i64 x.o, .int .i64 x.m, .int .i64 x.f] 97) = w0 := ⟨_, rfl⟩
  have hB : MapB w0 w.heap.size (w.heap.size + 1) (w.heap.size + 1 + 1) b m D p x := by
    rw [← hw0]
    exact ⟨((Blk.new w _ _).alloc _).alloc _, (Blk.newAt _ _ _ (by simp)).alloc _, Blk.newAt _ _ _ (by simp), ((h.alloc _).alloc _).alloc _⟩
  have hb0 : Below w.heap.size w w0 := by rw [← hw0]; exact (((Below.refl _ w).alloc (Nat.le_refl _) _).alloc (by simp) _).alloc (by simp; omega) _
  have z0 := hb0.size
  have HB := Lib.hid hB
  clear hB
  obtain ⟨a0, a1, a2, a3, a4, a5⟩ := HB.out.s (Below.refl _ w0)
  have f0 := HB.out.t.frozen 0
  unfold encE
  go_enter Tryz.func94, Tryz.ntmps94
  go_wp2_with fail
  clear hw0 a0 a1 a2 a3 a4 a5 f0
  refine wp_onlyN ?_
  refine wp_region_held_drew (S := MapS w.heap.size (w.heap.size + 1) (w.heap.size + 1 + 1) b m p x) (by kernel_rfl) (HB.out.s (Below.refl _ w0).drew) (fun hHeld => ?_)
  refine wpAnyH_take (i := 0) (v := ?_) rfl (by kernel_rfl) (by kernel_rfl) (by kernel_rfl) (fun _ _ _ h => h) (Or.inl ⟨by rfl, ?_⟩) (by assumption) ?_
  rotate_left
  · (intro Y hSw; (try dsimp only at hSw); obtain ⟨hS0, hS1, hS2, hS3, hS4, hS5⟩ := hSw; go_simp; try with_reducible rfl)
  try simp only [Act.put, pu1, pu2, pu3, pu4, pu5, pu6]
  refine wpAnyH_take (i := 2) (v := ?_) rfl (by kernel_rfl) (by kernel_rfl) (by kernel_rfl) (fun _ _ _ h => h) (Or.inl ⟨by rfl, ?_⟩) (by assumption) ?_
  rotate_left
  · (intro Y hSw; (try dsimp only at hSw); obtain ⟨hS0, hS1, hS2, hS3, hS4, hS5⟩ := hSw; go_simp; try with_reducible rfl)
  try simp only [Act.put, pu1, pu2, pu3, pu4, pu5, pu6]
  refine wpAnyH_take (i := 3) (v := ?_) rfl (by kernel_rfl) (by kernel_rfl) (by kernel_rfl) (fun _ _ _ h => h) (Or.inl ⟨by rfl, ?_⟩) (by assumption) ?_
  rotate_left
  · (intro Y hSw; (try dsimp only at hSw); obtain ⟨hS0, hS1, hS2, hS3, hS4, hS5⟩ := hSw; go_simp; try with_reducible rfl)
  try simp only [Act.put, pu1, pu2, pu3, pu4, pu5, pu6]
  refine wpAnyH_take (i := 5) (v := ?_) rfl (by kernel_rfl) (by kernel_rfl) (by kernel_rfl) (fun _ _ _ h => h) (Or.inl ⟨by rfl, ?_⟩) (by assumption) ?_
  rotate_left
  · (intro Y hSw; (try dsimp only at hSw); obtain ⟨hS0, hS1, hS2, hS3, hS4, hS5⟩ := hSw; go_simp; try with_reducible rfl)
  try simp only [Act.put, pu1, pu2, pu3, pu4, pu5, pu6]
  refine wpAnyH_take (i := 6) (v := ?_) rfl (by kernel_rfl) (by kernel_rfl) (by kernel_rfl) (fun _ _ _ h => h) (Or.inl ⟨by rfl, ?_⟩) (by assumption) ?_
  rotate_left
  · (intro Y hSw; (try dsimp only at hSw); obtain ⟨hS0, hS1, hS2, hS3, hS4, hS5⟩ := hSw; go_simp; try with_reducible rfl)
  try simp only [Act.put, pu1, pu2, pu3, pu4, pu5, pu6]
  refine wpAnyH_take (i := 7) (v := ?_) rfl (by kernel_rfl) (by kernel_rfl) (by kernel_rfl) (fun _ _ _ h => h) (Or.inl ⟨by rfl, ?_⟩) (by assumption) ?_
  rotate_left
  · (intro Y hSw; (try dsimp only at hSw); obtain ⟨hS0, hS1, hS2, hS3, hS4, hS5⟩ := hSw; go_simp; try with_reducible rfl)
  try simp only [Act.put, pu1, pu2, pu3, pu4, pu5, pu6]
  refine wpAnyH_take (i := 9) (v := ?_) rfl (by kernel_rfl) (by kernel_rfl) (by kernel_rfl) (fun _ _ _ h => h) (Or.inl ⟨by rfl, ?_⟩) (by assumption) ?_
  rotate_left
  · (intro Y hSw; (try dsimp only at hSw); obtain ⟨hS0, hS1, hS2, hS3, hS4, hS5⟩ := hSw; go_simp; try with_reducible rfl)
  try simp only [Act.put, pu1, pu2, pu3, pu4, pu5, pu6]
  refine wpAnyH_take (i := 10) (v := ?_) rfl (by kernel_rfl) (by kernel_rfl) (by kernel_rfl) (fun _ _ _ h => h) (Or.inl ⟨by rfl, ?_⟩) (by assumption) ?_
  rotate_left
  · (intro Y hSw; (try dsimp only at hSw); obtain ⟨hS0, hS1, hS2, hS3, hS4, hS5⟩ := hSw; go_simp; try with_reducible rfl)
  try simp only [Act.put, pu1, pu2, pu3, pu4, pu5, pu6]
  refine wpAnyH_take (i := 11) (v := ?_) rfl (by kernel_rfl) (by kernel_rfl) (by kernel_rfl) (fun _ _ _ h => h) (Or.inl ⟨by rfl, ?_⟩) (by assumption) ?_
  rotate_left
  · (intro Y hSw; (try dsimp only at hSw); obtain ⟨hS0, hS1, hS2, hS3, hS4, hS5⟩ := hSw; go_simp; try with_reducible rfl)
  try simp only [Act.put, pu1, pu2, pu3, pu4, pu5, pu6]
  refine wpAnyH_take (i := 12) (v := ?_) rfl (by kernel_rfl) (by kernel_rfl) (by kernel_rfl) (fun _ _ _ h => h) (Or.inl ⟨by rfl, ?_⟩) (by assumption) ?_
  rotate_left
  · (intro Y hSw; (try dsimp only at hSw); obtain ⟨hS0, hS1, hS2, hS3, hS4, hS5⟩ := hSw; go_simp; try with_reducible rfl)
  try simp only [Act.put, pu1, pu2, pu3, pu4, pu5, pu6]
  refine wpAnyH_ready (rs := [1]) (by kernel_rfl) (by simp) ?_
  refine AllReadyH.cons rfl (fun K hK => ?_) AllReadyH.nil
  go_simp
  refine (is_callsP _ _).mono ?_; rintro e w1 ⟨rfl, h1⟩
  have k1 := (Below.refl w0.heap.size w0).drew.trans (h1.mono (Nat.le_refl _))
  go_simp
  refine hK.out _ _ (HB.out.s k1) (fun hHeld => ?_)
  clear hK K
  try simp only [Act.put, pu1, pu2, pu3, pu4, pu5, pu6]
  refine wpAnyH_ready (rs := [4]) (by kernel_rfl) (by simp) ?_
  refine AllReadyH.cons rfl (fun K hK => ?_) AllReadyH.nil
  go_simp
  refine (may_calls _ _).mono ?_; rintro e w2 ⟨rfl, hM, h2⟩
  have k2 := k1.trans (h2.mono k1.size)
  have z2 := k2.size
  go_simp
  refine hK.out _ _ (HB.out.s k2) (fun hHeld => ?_)
  clear hK K
  try simp only [Act.put, pu1, pu2, pu3, pu4, pu5, pu6]
  refine wpAnyH_ready (rs := [8]) (by kernel_rfl) (by simp) ?_
  refine AllReadyH.cons rfl (fun K hK => ?_) AllReadyH.nil
  go_simp
  refine (in_calls _ _).mono ?_; rintro e w3 ⟨rfl, hI, h3⟩
  have k3 := k2.trans (h3.mono k2.size)
  have z3 := k3.size
  have hM3 := hM.below h3 hM.lt
  go_simp
  refine hK.out _ _ (HB.out.s k3) (fun hHeld => ?_)
  clear hK K
  try simp only [Act.put, pu1, pu2, pu3, pu4, pu5, pu6]
  refine wpAnyH_ready (rs := [13]) (by kernel_rfl) (by simp) ?_
  refine AllReadyH.cons rfl (fun K hK => ?_) AllReadyH.nil
  go_simp
  have k4 := k3.alloc z3 (.cells (askListP (mapAsks b w.heap.size (w.heap.size + 1) (w.heap.size + 1 + 1) w1.heap.size w2.heap.size D p x)).toArray 204)
  have hrow : AskRowP (w3.alloc (.cells (askListP (mapAsks b w.heap.size (w.heap.size + 1) (w.heap.size + 1 + 1) w1.heap.size w2.heap.size D p x)).toArray 204)) w3.heap.size (mapAsks b w.heap.size (w.heap.size + 1) (w.heap.size + 1 + 1) w1.heap.size w2.heap.size D p x) := askRow_ofP (Blk.new w3 _ _)
  have hM4 := hM3.alloc (.cells (askListP (mapAsks b w.heap.size (w.heap.size + 1) (w.heap.size + 1 + 1) w1.heap.size w2.heap.size D p x)).toArray 204)
  have hI4 := hI.alloc (.cells (askListP (mapAsks b w.heap.size (w.heap.size + 1) (w.heap.size + 1 + 1) w1.heap.size w2.heap.size D p x)).toArray 204)
  refine hK.out _ _ (HB.out.s k4) (fun hHeld => ?_)
  clear hK K
  try simp only [Act.put, pu1, pu2, pu3, pu4, pu5, pu6]
  change wpAnyH _ _ _ _ _ _ _ _ (w3.alloc (.cells (askListP (mapAsks b w.heap.size (w.heap.size + 1) (w.heap.size + 1 + 1) w1.heap.size w2.heap.size D p x)).toArray 204))
  generalize (w3.alloc (.cells (askListP (mapAsks b w.heap.size (w.heap.size + 1) (w.heap.size + 1 + 1) w1.heap.size w2.heap.size D p x)).toArray 204)) = w4 at k4 hrow hM4 hI4 hHeld ⊢
  have hans := map_answers HB.out hlen k4 hM4 hI4
  refine wpAnyH_ready (rs := [14]) (by kernel_rfl) (by simp) ?_
  refine AllReadyH.cons rfl (fun K hK => ?_) AllReadyH.nil
  go_simp
  refine (asked_okP w4 w3.heap.size 6 6 _ rfl (by simp [mapAsks]) (Lib.hid hrow) (Lib.hid hans)).mono ?_; rintro e w5 ⟨rfl, h5⟩
  rw [mapAsks_eq]
  have k5 := k4.trans (h5.mono k4.size)
  have z5 := k5.size
  go_simp
  refine hK.out _ _ (HB.out.s k5) (fun hHeld => ?_)
  clear hK K
  try simp only [Act.put, pu1, pu2, pu3, pu4, pu5, pu6]
  refine wpAnyH_take (i := 15) (v := ?_) rfl (by kernel_rfl) (by kernel_rfl) (by kernel_rfl) (fun _ _ _ h => h) (Or.inl ⟨by rfl, ?_⟩) (by assumption) ?_
  rotate_left
  · (intro Y hSw; (try dsimp only at hSw); obtain ⟨hS0, hS1, hS2, hS3, hS4, hS5⟩ := hSw; go_simp; try with_reducible rfl)
  try simp only [Act.put, pu1, pu2, pu3, pu4, pu5, pu6]
  refine wpAnyH_done (by kernel_rfl) ?_ _
  rw [onlyN_normal]
  clear hrow hans hM4 hI4 hM3 hM hI h5 k4 k3 k2 k1 h1 h2 h3 hHeld
  have hT5 := HB.out.b.step k5
  have hch : Chg m w w5 := .of_below (hb0.trans (k5.mono z0))
  obtain ⟨q, hq⟩ : ∃ q, mapE D p x = q := ⟨_, rfl⟩
  have HQ := Lib.hid hq
  rw [hq]
  clear hq
  by_cases h9 : q = 0
  · subst h9
    have hno := (mapE_ok HQ.out).2.2.2.1
    have hml := h.mp.lt
    have hne := h.ne
    have hbl := h.blk.lt
    have hS5 : MapS w.heap.size (w.heap.size + 1) (w.heap.size + 1 + 1) b m p x w5.drew := HB.out.s k5.drew
    obtain ⟨wu, hrun, hMu, hTu⟩ := (show MapP encE w5.drew m D from hT5.mp).store (P := Tryz.prog) Tryz.underlying191 Tryz.underlying3 p x
    rw [show putR D p x = insR p x D by unfold putR; rw [if_neg (by rw [hno]; decide)]] at hMu
    have hchu : Chg m w wu := hch.trans ((Chg.of_below (Below.refl _ w5).drew).trans (.of_turn hTu))
    have hTb : TblAt wu b m (insR p x D) := ⟨(hTu.block b hne).trans hT5.blk, hMu⟩
    have hcu : MapS w.heap.size (w.heap.size + 1) (w.heap.size + 1 + 1) b m p x wu := hS5.turn hTu (by omega) (by omega) (by omega) hne
    unfold encE at hrun
    go_wp2_with fail
    refine wp_onlyN ?_
    refine wp_region_held_drew (S := MapS w.heap.size (w.heap.size + 1) (w.heap.size + 1 + 1) b m p x) (by kernel_rfl) hS5 (fun hHeld => ?_)
    refine wpAnyH_take (i := 0) (v := ?_) rfl (by kernel_rfl) (by kernel_rfl) (by kernel_rfl) (fun _ _ _ h => h) (Or.inl ⟨by rfl, ?_⟩) (by assumption) ?_
    rotate_left
    · (intro Y hSw; (try dsimp only at hSw); obtain ⟨hS0, hS1, hS2, hS3, hS4, hS6⟩ := hSw; go_simp; try with_reducible rfl)
    try simp only [Act.put, pu1, pu2, pu3, pu4, pu5, pu6]
    refine wpAnyH_take (i := 1) (v := ?_) rfl (by kernel_rfl) (by kernel_rfl) (by kernel_rfl) (fun _ _ _ h => h) (Or.inl ⟨by rfl, ?_⟩) (by assumption) ?_
    rotate_left
    · (intro Y hSw; (try dsimp only at hSw); obtain ⟨hS0, hS1, hS2, hS3, hS4, hS6⟩ := hSw; go_simp; try with_reducible rfl)
    try simp only [Act.put, pu1, pu2, pu3, pu4, pu5, pu6]
    refine wpAnyH_take (i := 2) (v := ?_) rfl (by kernel_rfl) (by kernel_rfl) (by kernel_rfl) (fun _ _ _ h => h) (Or.inl ⟨by rfl, ?_⟩) (by assumption) ?_
    rotate_left
    · (intro Y hSw; (try dsimp only at hSw); obtain ⟨hS0, hS1, hS2, hS3, hS4, hS6⟩ := hSw; go_simp; try with_reducible rfl)
    try simp only [Act.put, pu1, pu2, pu3, pu4, pu5, pu6]
    refine wpAnyH_take (i := 3) (v := ?_) rfl (by kernel_rfl) (by kernel_rfl) (by kernel_rfl) (fun _ _ _ h => h) (Or.inl ⟨by rfl, ?_⟩) (by assumption) ?_
    rotate_left
    · (intro Y hSw; (try dsimp only at hSw); obtain ⟨hS0, hS1, hS2, hS3, hS4, hS6⟩ := hSw; go_simp; try with_reducible rfl)
    try simp only [Act.put, pu1, pu2, pu3, pu4, pu5, pu6]
    refine wpAnyH_take (i := 4) (v := ?_) rfl (by kernel_rfl) (by kernel_rfl) (by kernel_rfl) (fun _ _ _ h => h) (Or.inl ⟨by rfl, ?_⟩) (by assumption) ?_
    rotate_left
    · (intro Y hSw; (try dsimp only at hSw); obtain ⟨hS0, hS1, hS2, hS3, hS4, hS6⟩ := hSw; go_simp; try with_reducible rfl)
    try simp only [Act.put, pu1, pu2, pu3, pu4, pu5, pu6]
    refine wpAnyH_take (i := 5) (v := ?_) rfl (by kernel_rfl) (by kernel_rfl) (by kernel_rfl) (fun _ _ _ h => h) (Or.inl ⟨by rfl, ?_⟩) (by assumption) ?_
    rotate_left
    · (intro Y hSw; (try dsimp only at hSw); obtain ⟨hS0, hS1, hS2, hS3, hS4, hS6⟩ := hSw; go_simp; try with_reducible rfl)
    try simp only [Act.put, pu1, pu2, pu3, pu4, pu5, pu6]
    refine wpAnyH_ready (rs := [6]) (by kernel_rfl) (by simp) ?_
    refine AllReadyH.cons rfl (fun K hK => ?_) AllReadyH.nil
    go_simp
    refine hK.out _ _ (hcu) (fun hHeld => ?_)
    clear hK K
    try simp only [Act.put, pu1, pu2, pu3, pu4, pu5, pu6]
    refine wpAnyH_done (by kernel_rfl) ?_ _
    rw [onlyN_normal]
    go_wp2_with fail
    go_ret
    exact ⟨by rw [HQ.out]; rfl, by rw [show mapD D p x = insR p x D by unfold mapD; rw [if_pos HQ.out]]; exact hTb, hchu⟩
  · go_wp2_with fail
    go_ret
    exact ⟨by rw [HQ.out]; rfl, by rw [show mapD D p x = D by unfold mapD; rw [if_neg (by rw [HQ.out]; exact h9)]]; exact hT5, hch⟩
end Go.Proofs.YtlpchcdalfkfcaaGreat

