/-
  Package pinfoldlaw07: act, Read. Conditions: a pool whose books are in order, the document's beside it.
-/
import Derived.Test.YtfmkjckckekliaaFrDl
namespace Go.Proofs.Ytfmkjckckekliaa
open Go.RowKit
attribute [local go_sem] Oper.semAt_some
set_option maxHeartbeats 1000000
set_option maxRecDepth 8000

/-- The same, the bytes that were copied left aside. -/
structure AcK (w0 w wr : World) (b bf br s : Nat) (many : Int) (F : List Fr) (R : List (Int × Int)) (v : Value) (V : List Int) (L : List Df) (x : ActV) : Prop where
  live : Live w0 wr b bf br many F R
  t : Blk wr s (poolV v V) 54
  ax : Blk wr (s + 1) #[.int .i64 x.what, .int .i64 x.who, .int .i64 x.n, .int .i64 x.at_, x.v] 38
  r : Blk wr (s + 1 + 1) (poolV (.slice none 0 0) zeros64) 54
  row : RowAt s wr v L.length (frV L)
  bx : RowAt s wr x.v x.bs.length (intVals .u8 x.bs)
  c : Chg2 bf br w wr
  ws : w.heap.size = s
  sz : s + 3 ≤ wr.heap.size
  lt : b < s ∧ bf < s ∧ br < s
section
variable {w0 w wr w' : World} {b bf br s : Nat} {many : Int} {F F' : List Fr} {R R' : List (Int × Int)} {v : Value} {V : List Int} {L : List Df} {x : ActV}
theorem AcK.step (h : AcK w0 w wr b bf br s many F R v V L x) (k : Below wr.heap.size wr w') : AcK w0 w w' b bf br s many F R v V L x := by
  have hz := h.sz
  exact ⟨h.live.step k, h.t.below k h.t.lt, h.ax.below k h.ax.lt, h.r.below k h.r.lt, h.row.below k (by omega), h.bx.below k (by omega), h.c.trans (.of_below k), h.ws, Nat.le_trans hz k.size, h.lt⟩
theorem AcK.frames (h : AcK w0 w wr b bf br s many F R v V L x) (hp : PoolAt w' b bf br many F' R) (k : Chg bf wr w') : AcK w0 w w' b bf br s many F' R v V L x := by
  have hz := h.sz
  obtain ⟨l1, l2, l3⟩ := h.lt
  exact ⟨h.live.frames hp k, k.blk h.t (by omega), k.blk h.ax (by omega), k.blk h.r (by omega), h.row.chgm h.live.pool.fr k, h.bx.chgm h.live.pool.fr k, h.c.trans (k.l br), h.ws, Nat.le_trans hz k.size, h.lt⟩
theorem AcK.owners (h : AcK w0 w wr b bf br s many F R v V L x) (hp : PoolAt w' b bf br many F R') (k : Chg br wr w') : AcK w0 w w' b bf br s many F R' v V L x := by
  have hz := h.sz
  obtain ⟨l1, l2, l3⟩ := h.lt
  exact ⟨h.live.owners hp k, k.blk h.t (by omega), k.blk h.ax (by omega), k.blk h.r (by omega), h.row.chgm h.live.pool.re k, h.bx.chgm h.live.pool.re k, h.c.trans (k.r bf), h.ws, Nat.le_trans hz k.size, h.lt⟩
/-- The end: the document's pool lies in the result's box. -/
theorem AcK.fin (h : AcK w0 w wr b bf br s many F R v V L x) (g : Good many F R) {B : Nat} {v2 : Value} {V2 : List Int} (hB : B ≤ wr.heap.size) (hr : RowAt B wr v2 (docL many.toNat F).length (frV (docL many.toNat F))) (hV2 : V2.length = 64) (hw : Hid (wr.setCells (s + 1 + 1) 0 (poolV v2 V2).toList = w')) :
    Blk w' (s + 1 + 1) (poolV v2 V2) 54 ∧ Pl w0 w' b bf br many F R v2 ∧ Chg2 bf br w w' := by
  have e := hw.out
  obtain ⟨l1, l2, l3⟩ := h.lt
  have h1 := h.r.whole (poolV v2 V2) ((poolV_size _ hV2).trans (poolV_size _ rfl).symm)
  have hb := bel_setCells (Below.refl s wr) (show s ≤ s + 1 + 1 by omega) (poolV v2 V2).toList 0
  have h2 := hr.setPool h.r (poolV v2 V2).toList 0
  have hc : Chg2 bf br w (wr.setCells (s + 1 + 1) 0 (poolV v2 V2).toList) :=
    ⟨hb.os.trans h.c.os, hb.tape.trans h.c.tape, hb.output.trans h.c.output, Nat.le_trans h.c.size hb.size, fun i hi n1 n2 => (hb.block i (by have := h.ws; omega)).trans (h.c.block i hi n1 n2)⟩
  rw [e] at h1 hb h2 hc
  have hlv : Live w0 w' b bf br many F R := ⟨h.live.pool.below hb l1 l2 l3, h.live.bel.trans (hb.mono (by have := h.ws; have := h.live.lf; omega)), h.live.lf, h.live.lr⟩
  exact ⟨h1, ⟨hlv, g, h2.mono (Nat.le_trans hB hb.size)⟩, hc⟩
theorem AcI.k {u : Value} (h : AcI w0 w wr b bf br s many F R v V L x u) : AcK w0 w wr b bf br s many F R v V L x := ⟨h.live, h.t, h.ax, h.r, h.row, h.bx, h.c, h.ws, h.sz, h.lt⟩
theorem AcK.setO (h : AcK w0 w wr b bf br s many F R v V L x) {a : Addr} (ha : s + 3 ≤ a.block) (u : Value) : AcK w0 w (wr.setCell a u) b bf br s many F R v V L x := by
  obtain ⟨l1, l2, l3⟩ := h.lt
  have hb : Below s wr (wr.setCell a u) := (Below.refl s wr).setCell (p := a) (by omega) _
  exact ⟨⟨h.live.pool.below hb l1 l2 l3, h.live.bel.trans (hb.mono (by have := h.ws; have := h.live.lf; omega)), h.live.lf, h.live.lr⟩, h.t.setOther a u (by omega), h.ax.setOther a u (by omega), h.r.setOther a u (by omega), h.row.below hb (Nat.le_refl _), h.bx.below hb (Nat.le_refl _),
    ⟨hb.os.trans h.c.os, hb.tape.trans h.c.tape, hb.output.trans h.c.output, by simpa using h.c.size, fun i hi n1 n2 => (hb.block i (by have := h.ws; omega)).trans (h.c.block i hi n1 n2)⟩, h.ws, by simpa using h.sz, l1, l2, l3⟩
end
theorem bytes_at {W : World} {base g cap : Nat} {ys : List Int} {m : Nat} (h : W.ownsRow base 5 1 (.slice (some ⟨g, 0, none⟩) m cap) m (intVals .u8 ys)) (hm : m = ys.length) (k : Nat) (hk : k < m) (z : Int) :
    ∃ y, W.cell? ⟨g, k, none⟩ = some (.int .u8 y) ∧ W.frozen? ⟨g, k, none⟩ = false ∧ (W.setCell ⟨g, k, none⟩ (.int .u8 z)).ownsRow base 5 1 (.slice (some ⟨g, 0, none⟩) m cap) m (intVals .u8 (ys.set k z)) := by
  subst hm
  obtain ⟨h1, h2⟩ := owns_setN (k := k) h (.int .u8 z)
  have hl : k < (intVals .u8 ys).length := by rw [intVals_len]; exact hk
  refine ⟨ys[k], ?_, h1, ?_⟩
  · rw [World.ownsRow.cellAt h k (by omega), List.getElem?_eq_getElem hl]
    simp [intVals]
  · have e : intVals .u8 (ys.set k z) = (intVals .u8 ys).set k (.int .u8 z) := by unfold intVals; rw [List.map_set]
    rw [e]; exact h2
theorem act4_ok {w0 W : World} {b bf br : Nat} {many : Int} {F : List Fr} {R : List (Int × Int)} {v : Value} (h : Pl w0 W b bf br many F R v) (x : ActV) (hx0 : x.what = 4) (hxv : RowAt W.heap.size W x.v x.bs.length (intVals .u8 x.bs)) (hbl : x.bs.length ≤ 300) (hbw : ∀ y ∈ x.bs, 0 ≤ y ∧ y < 256) :
    Calls Try.prog 21 #[.pointer (some ⟨b, 0, none⟩), .agg (poolV v (docR R)), .agg #[.int .i64 x.what, .int .i64 x.who, .int .i64 x.n, .int .i64 x.at_, x.v]] W fun e w' =>
      ∃ b' bf' br' F' R' v', e = .returned (.tuple #[.pointer (some ⟨b', 0, none⟩), .agg (poolV v' (docR R')), .bool true]) ∧ ActE w0 W w' b bf br many F R b' bf' br' F' R' v' := by
  obtain ⟨what, who, n, at_, xv, bs⟩ := x
  dsimp only at hx0 hxv hbl hbw ⊢
  have HBW := Lib.hid hbw
  clear hbw
  have HW0 := Lib.hid hx0
  clear hx0
  obtain ⟨a1, c1, rfl, _⟩ := h.r.len
  obtain ⟨a2, c2, rfl, _⟩ := hxv.len
  obtain ⟨w1, hw1⟩ : ∃ w1, ((W.alloc (.cells (poolV (.slice a1 (docL many.toNat F).length c1) (docR R)) 54)).alloc (.cells #[.int .i64 what, .int .i64 who, .int .i64 n, .int .i64 at_, .slice a2 bs.length c2] 38)).alloc (.cells Try.zeroCells54 54) = w1 := ⟨_, rfl⟩
  have hNew := fun w2 u => AcI.new (w2 := w2) (u := u) h hxv hw1
  have HNEW := Lib.hid hNew
  have k0 : Below W.heap.size W w1 := by rw [← hw1]; exact (((Below.refl _ W).alloc (Nat.le_refl _) _).alloc (by simp) _).alloc (by simp; omega) _
  have hx1 := hxv.below k0 (Nat.le_refl _)
  have HXR := Lib.hid hx1
  have hX : Blk w1 (W.heap.size + 1) #[.int .i64 what, .int .i64 who, .int .i64 n, .int .i64 at_, .slice a2 bs.length c2] 38 := by rw [← hw1]; exact (Blk.newAt _ _ _ (by simp)).alloc _
  have x4 : w1.cell? ⟨W.heap.size + 1, 4, none⟩ = some (.slice a2 bs.length c2) := hX.cell 4 rfl
  have ls := hX.lt
  have HK0 := Lib.hid k0
  have HP := Lib.hid h
  clear hNew k0 hx1 hX hxv h
  go_enter Try.func21, Try.ntmps21
  go_wp2_with (at_builtin; refine wpList_append_row rfl _ _ 36 rfl w1.heap.size Try.underlying36 info8 0 [] rfl ?c1 W.heap.size bs.length (intVals .u8 bs) rfl ?c2 ?c3 ?c4 ?c5 ?c6 ?c7 ?_)
  case c1 => exact World.ownsRow_made w1 #[] 0 (Nat.le_refl _) (by decide) rfl
  case c2 => exact HXR.out.below ((Below.refl _ w1).alloc (Nat.le_refl _) _) (by omega)
  case c3 => simp [intVals]
  case c4 => exact intVals_one _ _
  case c5 => unfold maxLen; omega
  case c6 => omega
  case c7 => simp
  intro u w2 ho2 hg2
  have hb2 : Below w1.heap.size w1 w2 := ((Below.refl _ w1).alloc (Nat.le_refl _) _).grown hg2 (by simp) (fun k e => by cases e; exact Nat.le_refl _)
  have hM := HNEW.out w2 u ho2 hb2
  clear hg2 hb2 ho2 HNEW HXR x4 ls hw1
  obtain ⟨s, hs⟩ : ∃ s, W.heap.size = s := ⟨_, rfl⟩
  rw [hs] at hM ⊢
  have hm0 := HP.out.g.snd.m0
  have hm1 := HP.out.g.snd.m1
  have hLl : (docL many.toNat F).length < 1000000 := by rw [docL_len]; omega
  have x0 : w2.cell? ⟨s + 1, 0, none⟩ = some (.int .i64 what) := hM.ax.cell 0 rfl
  have x1 : w2.cell? ⟨s + 1, 1, none⟩ = some (.int .i64 who) := hM.ax.cell 1 rfl
  have x2 : w2.cell? ⟨s + 1, 2, none⟩ = some (.int .i64 n) := hM.ax.cell 2 rfl
  have x3 : w2.cell? ⟨s + 1, 3, none⟩ = some (.int .i64 at_) := hM.ax.cell 3 rfl
  have x4 : w2.cell? ⟨s + 1, 4, none⟩ = some (.slice a2 bs.length c2) := hM.ax.cell 4 rfl
  have HVL := Lib.hid (docR_len R)
  rw [HW0.out] at x0
  go_wp2_with (refine wpList_loadB ty65 rfl _ rfl s rfl hM.t (poolV_size _ HVL.out) ?_)
  have h256 := docL_256 HP.out.g
  refine (rRead_ok (.slice a1 (docL many.toNat F).length c1) (docL many.toNat F) s n at_ bs.length w2 (by have := hM.sz; omega) hLl HVL.out h256 hM.row).mono ?_; rintro e w3 ⟨rfl, k3⟩
  rw [HP.out.g.rdL_eq n at_ bs.length, asE_eq HP.out.g n at_ bs.length]
  have hK := hM.k.step k3
  obtain ⟨er, her⟩ : ∃ er, thrErr many F n at_ bs.length = er := ⟨_, rfl⟩
  obtain ⟨T, hT⟩ : ∃ T, redL many F n at_ bs.length = T := ⟨_, rfl⟩
  have HER := Lib.hid her
  have HT := Lib.hid hT
  rw [her, hT]
  clear k3 her hT x0 x1 x2 x3 x4 h256 hM
  have x2 : w3.cell? ⟨s + 1, 2, none⟩ = some (.int .i64 n) := hK.ax.cell 2 rfl
  have x3 : w3.cell? ⟨s + 1, 3, none⟩ = some (.int .i64 at_) := hK.ax.cell 3 rfl
  have x4 : w3.cell? ⟨s + 1, 4, none⟩ = some (.slice a2 bs.length c2) := hK.ax.cell 4 rfl
  obtain ⟨S, hS⟩ : ∃ S, strOfNums T = S := ⟨_, rfl⟩
  have HS := Lib.hid hS
  rw [hS]
  clear hS
  go_wp2_with fail
  refine (Read_ok hK.live.pool HP.out.g.snd.b256 n at_ bs.length).mono ?_; rintro e w4 ⟨u4, rfl, ho4, k4⟩
  rw [show redErr many F n at_ bs.length = er from HER.out]
  rw [HT.out] at ho4
  have hsz3 := hK.sz
  replace hK := hK.step k4
  have hTl : T.length ≤ 300 := by
    rw [← HT.out]; unfold redL
    split
    · rw [List.length_take]; simp; omega
    · simp
  obtain ⟨a4, c4, rfl, _⟩ := (RowAt.of_owns ho4 (Nat.le_refl _)).len
  have cv : (convert 36 9 (.slice a4 T.length c4)).run Try.prog w4 = .ok (.string S) w4 := by rw [← HS.out]; exact run_convert_row T (RowAt.of_owns ho4 (Nat.le_refl _)) Try.underlying36 Try.underlying5 Try.underlying9
  clear k4 x2 x3 x4
  go_wp2_with fail
  refine (num_calls _ _).mono ?_; rintro e _ ⟨rfl, rfl⟩
  clear cv
  obtain ⟨m, hm⟩ : ∃ m, T.length = m := ⟨_, rfl⟩
  have HML := Lib.hid hm
  rw [hm] at ho4 hTl ⊢
  obtain ⟨base, hbase⟩ : ∃ base, w3.heap.size = base := ⟨_, rfl⟩
  rw [hbase] at ho4 hsz3
  clear hm hbase
  have HK0 := Lib.hid hK
  have HO4 := Lib.hid ho4
  clear hK ho4
  go_wp2_with fail
  go_loopw [28] (fun i wr => ∃ (k : Nat) (ys : List Int), k ≤ m ∧ i = .int .i64 k ∧ m = ys.length ∧ wr.ownsRow base 5 1 (.slice a4 m c4) m (intVals .u8 ys) ∧ AcK w0 W wr b bf br s many F R (.slice a1 (docL many.toNat F).length c1) (docR R) (docL many.toNat F) ⟨what, who, n, at_, .slice a2 bs.length c2, bs⟩) (fun i _ => m - (intOf i).toNat)
  case atStart => exact ⟨0, T, by omega, rfl, HML.out.symm, HO4.out, HK0.out⟩
  case round =>
    obtain ⟨k, ys, hk, rfl, hy, ho, hK⟩ := hrel
    clear HK0 HO4
    by_cases hlt : k < m
    · obtain ⟨g4, cap4, e4, hg4, _⟩ := World.ownsRow.form ho (by omega)
      simp only [Value.slice.injEq, true_and] at e4
      obtain ⟨rfl, rfl⟩ := e4
      obtain ⟨y, q0, qf, _⟩ := bytes_at ho hy k hlt 0
      obtain ⟨z, hz⟩ : ∃ z, IntKind.u8.wrap (y + 1) = z := ⟨_, rfl⟩
      obtain ⟨_, _, _, ho2⟩ := bytes_at ho hy k hlt z
      have HO2 := Lib.hid ho2
      have HK2 := Lib.hid (hK.setO (a := ⟨g4, k, none⟩) (by dsimp only; omega) (.int .u8 z))
      have HY := Lib.hid (show m = (ys.set k z).length by rw [List.length_set]; exact hy)
      have i0 : (0 : Int) ≤ k := by omega
      have i1 : (k : Int) < m := by omega
      clear ho2 ho hK hy
      go_wp2_with fail
      exact ⟨⟨k + 1, _, by omega, by go_num, HY.out, HO2.out, HK2.out⟩, by simp [intOf]; omega⟩
    · obtain rfl : k = m := by omega
      have HK2 := Lib.hid hK
      clear hK ho hy
      go_wp2_with fail
      have hM := HK2.out
      refine wp_onlyN ?_
      refine wp_region_held_drew (S := AcS s s (.slice a1 (docL many.toNat F).length c1) (docR R) #[.int .i64 what, .int .i64 who, .int .i64 n, .int .i64 at_, .slice a2 bs.length c2]) (by kernel_rfl) ⟨hM.t.drew, hM.ax.drew⟩ (fun hHeld => ?_)
      replace hM := hM.step (Below.refl _ wr).drew
      change wpAnyH _ _ _ _ _ _ _ _ wr.drew
      generalize wr.drew = w5 at hM hHeld ⊢
      refine wpAnyH_take (i := 0) (v := ?_) rfl (by kernel_rfl) (by kernel_rfl) (by kernel_rfl) (fun _ _ _ h => h) (Or.inl ⟨by rfl, ?_⟩) (by assumption) ?_
      rotate_left
      · (intro Y hSw; (try dsimp only at hSw); obtain ⟨hS0, hS1⟩ := hSw; go_simp; try with_reducible rfl)
      try simp only [Act.put, List.getElem_toArray, List.getElem_cons_zero, List.getElem_cons_succ, List.setIfInBounds_toArray, List.set_cons_zero, List.set_cons_succ]
      refine wpAnyH_take (i := 1) (v := .agg (poolV (.slice a1 (docL many.toNat F).length c1) (docR R))) rfl (by kernel_rfl) (by kernel_rfl) (by kernel_rfl) (fun _ _ _ h => h) (Or.inl ⟨by rfl, fun Y hSw => exec_loadB ty65 _ rfl s rfl hSw.b (poolV_size _ HVL.out)⟩) (by assumption) ?_
      try simp only [Act.put, List.getElem_toArray, List.getElem_cons_zero, List.getElem_cons_succ, List.setIfInBounds_toArray, List.set_cons_zero, List.set_cons_succ]
      refine wpAnyH_take (i := 2) (v := ?_) rfl (by kernel_rfl) (by kernel_rfl) (by kernel_rfl) (fun _ _ _ h => h) (Or.inl ⟨by rfl, ?_⟩) (by assumption) ?_
      rotate_left
      · (intro Y hSw; (try dsimp only at hSw); obtain ⟨hS0, hS1⟩ := hSw; go_simp; try with_reducible rfl)
      try simp only [Act.put, List.getElem_toArray, List.getElem_cons_zero, List.getElem_cons_succ, List.setIfInBounds_toArray, List.set_cons_zero, List.set_cons_succ]
      refine wpAnyH_take (i := 3) (v := ?_) rfl (by kernel_rfl) (by kernel_rfl) (by kernel_rfl) (fun _ _ _ h => h) (Or.inl ⟨by rfl, ?_⟩) (by assumption) ?_
      rotate_left
      · (intro Y hSw; (try dsimp only at hSw); obtain ⟨hS0, hS1⟩ := hSw; go_simp; try with_reducible rfl)
      try simp only [Act.put, List.getElem_toArray, List.getElem_cons_zero, List.getElem_cons_succ, List.setIfInBounds_toArray, List.set_cons_zero, List.set_cons_succ]
      refine wpAnyH_ready (rs := [4]) (by kernel_rfl) (by simp) ?_
      refine AllReadyH.cons rfl (fun K hK => ?_) AllReadyH.nil
      rw [if_pos (by rfl)]
      refine wp_storeB ty65 _ _ rfl (s + 1 + 1) (poolV (.slice a1 (docL many.toNat F).length c1) (docR R)) rfl rfl hM.r (poolV_size _ rfl) (poolV_size _ HVL.out) (poolV_one rfl _) ?_
      obtain ⟨w9, hw9⟩ : ∃ w9, Hid (w5.setCells (s + 1 + 1) 0 (poolV (.slice a1 (docL many.toNat F).length c1) (docR R)).toList = w9) := ⟨_, Lib.hid rfl⟩
      have hT9 := hM.t.setCellsO (poolV (.slice a1 (docL many.toNat F).length c1) (docR R)).toList 0 (show s ≠ s + 1 + 1 by omega)
      have hX9 := hM.ax.setCellsO (poolV (.slice a1 (docL many.toNat F).length c1) (docR R)).toList 0 (show s + 1 ≠ s + 1 + 1 by omega)
      obtain ⟨hO9, hP9, hC9⟩ := hM.fin HP.out.g (Nat.le_of_lt hM.t.lt) hM.row HVL.out hw9
      rw [hw9.out] at hT9 hX9 ⊢
      clear hw9 hM
      refine hK.out _ _ (⟨hT9, hX9⟩) (fun hHeld => ?_)
      clear hK K
      try simp only [Act.put, List.getElem_toArray, List.getElem_cons_zero, List.getElem_cons_succ, List.setIfInBounds_toArray, List.set_cons_zero, List.set_cons_succ]
      refine wpAnyH_take (i := 5) (v := ?_) rfl (by kernel_rfl) (by kernel_rfl) (by kernel_rfl) (fun _ _ _ h => h) (Or.inl ⟨by rfl, ?_⟩) (by assumption) ?_
      rotate_left
      · (intro Y hSw; (try dsimp only at hSw); obtain ⟨hS0, hS1⟩ := hSw; go_simp; try with_reducible rfl)
      try simp only [Act.put, List.getElem_toArray, List.getElem_cons_zero, List.getElem_cons_succ, List.setIfInBounds_toArray, List.set_cons_zero, List.set_cons_succ]
      refine wpAnyH_done (by kernel_rfl) ?_ _
      rw [onlyN_normal]
      clear hHeld hT9 hX9
      go_wp2_with fail
      refine ret_pa rfl (s + 1 + 1) rfl hO9 (poolV_size _ HVL.out) rfl ?_
      exact ⟨b, bf, br, F, R, _, rfl, hP9, hC9, .inl ⟨rfl, rfl, rfl⟩, id⟩
end Go.Proofs.Ytfmkjckckekliaa
