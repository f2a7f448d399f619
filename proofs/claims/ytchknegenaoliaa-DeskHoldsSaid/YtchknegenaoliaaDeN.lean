/-
  Package desk: Threads, Destroy. Conditions: a desk whose threads are in order.
-/
import Derived.Test.YtchknegenaoliaaDeM
import Derived.Test.YtchknegenaoliaaMid
namespace Go.Proofs.Ytchknegenaoliaa
open Go.RowKit
attribute [local go_sem] Oper.semAt_some
set_option maxHeartbeats 1000000
set_option maxRecDepth 4000

def thO (P : List Ten) (T : Thr) (h : Hnd) : Thr := if chkE P h = 0 then ofH T h else []
theorem Threads_ok {w : World} {b m : Nat} {P : List Ten} {T : Thr} (hD : DkAt w b m P T) (hs : SrtR T) (hk : ∀ x ∈ T, 0 ≤ x.1 ∧ x.1 ≤ 3) (h : Hnd) :
    Calls Try.prog 15 #[.pointer (some ⟨b, 0, none⟩), .agg #[.int .i64 h.s, .int .i64 h.g]] w fun e w' => ∃ v, e = .returned v ∧ w'.ownsRow w.heap.size 3 1 v (thO P T h).length (keyV (thO P T h)) ∧ Below w.heap.size w w' := by
  obtain ⟨w0, hw0⟩ : ∃ w0, w.alloc (.cells #[.int .i64 h.s, .int .i64 h.g] 28) = w0 := ⟨_, rfl⟩
  have hH : Blk w0 w.heap.size #[.int .i64 h.s, .int .i64 h.g] 28 := by rw [← hw0]; exact Blk.new w _ _
  have k0 : Below w.heap.size w w0 := by rw [← hw0]; exact (Below.refl _ w).alloc (Nat.le_refl _) _
  have h0 := hD.step k0
  have z0 := k0.size
  have c0 : w0.cell? ⟨w.heap.size, 0, none⟩ = some (.int .i64 h.s) := hH.cell 0 rfl
  have c1 : w0.cell? ⟨w.heap.size, 1, none⟩ = some (.int .i64 h.g) := hH.cell 1 rfl
  go_enter Try.func15, Try.ntmps15
  go_wp2_with fail
  clear hw0 c0 c1
  refine (Check_ok h0 h).mono ?_; rintro e w1 ⟨rfl, h1⟩
  have hT1 := h0.step h1
  have hH1 := hH.below h1 hH.lt
  have kk := k0.trans (h1.mono z0)
  obtain ⟨q, hq⟩ : ∃ q, chkE P h = q := ⟨_, rfl⟩
  have HQ := Lib.hid hq
  rw [hq]
  clear hq
  by_cases h9 : q = 0
  · subst h9
    have hA : thO P T h = ofH T h := by unfold thO; rw [if_pos HQ.out]
    have HA := Lib.hid hA
    clear hA
    have c16 := hT1.cellm
    go_wp2_with fail
    refine (keys_ok hT1.mp hs hk hH1).mono ?_; rintro e w2 ⟨v, rfl, ho, k2⟩
    obtain ⟨a2, c2, rfl, _⟩ := (RowAt.of_owns ho (Nat.le_refl _)).len
    have HO := Lib.hid (owns_weaken ho kk.size)
    clear ho
    go_wp2_with fail
    go_ret
    exact ⟨_, rfl, by rw [HA.out]; exact HO.out, kk.trans (k2.mono kk.size)⟩
  · have hA : thO P T h = [] := by unfold thO; rw [if_neg (by rw [HQ.out]; exact h9)]
    have HA := Lib.hid hA
    clear hA
    go_wp2_with fail
    go_ret
    exact ⟨_, rfl, by rw [HA.out]; exact ⟨rfl, .inl ⟨rfl, rfl⟩⟩, kk⟩
/-! ### Destroy -/
def delL (T : Thr) (l : List Int) : Thr := T.filter fun x => !l.contains x.1
theorem delL_nil (T : Thr) : delL T [] = T := by unfold delL; exact List.filter_eq_self.2 fun x _ => rfl
theorem delL_snoc (T : Thr) (l : List Int) (k : Int) : delL T (l ++ [k]) = delR (delL T l) k := by
  unfold delL delR
  rw [List.filter_filter]
  refine List.filter_congr fun x _ => ?_
  have : (l ++ [k]).contains x.1 = (l.contains x.1 || x.1 == k) := by
    rw [List.contains_eq_mem, List.contains_eq_mem]
    rw [Bool.eq_iff_iff]
    simp
  rw [this, Bool.not_or, Bool.and_comm]
theorem delL_of {T : Thr} (hs : SrtR T) (h : Hnd) : delL T ((ofH T h).map (·.1)) = notH T h := by
  unfold delL notH
  refine List.filter_congr fun x hx => ?_
  congr 1
  rw [Bool.eq_iff_iff, List.contains_iff_mem, decide_eq_true_iff, List.mem_map]
  constructor
  · rintro ⟨y, hy, e⟩
    obtain ⟨hy1, hy2⟩ := List.mem_filter.1 hy
    have h1 := getR_some hs.nodup hx
    rw [← e, getR_some hs.nodup hy1] at h1
    rw [← Option.some.inj h1]
    simpa using hy2
  · intro e
    exact ⟨x, List.mem_filter.2 ⟨hx, by simpa using e⟩, rfl⟩
/-- Nothing turns but the blocks c and d. -/
structure Chg2 (c d : Nat) (W W' : World) : Prop where
  os : W'.os = W.os
  tape : W'.tape = W.tape
  output : W'.output = W.output
  size : W.heap.size ≤ W'.heap.size
  block : ∀ i, i < W.heap.size → i ≠ c → i ≠ d → W'.heap[i]? = W.heap[i]?
theorem Chg.l {c : Nat} {W W' : World} (h : Chg c W W') (d : Nat) : Chg2 c d W W' := ⟨h.os, h.tape, h.output, h.size, fun i hi hc _ => h.block i hi hc⟩
theorem Chg.r {c : Nat} {W W' : World} (h : Chg c W W') (d : Nat) : Chg2 d c W W' := ⟨h.os, h.tape, h.output, h.size, fun i hi _ hc => h.block i hi hc⟩
theorem Chg2.trans {c d : Nat} {X Y Z : World} (h : Chg2 c d X Y) (k : Chg2 c d Y Z) : Chg2 c d X Z :=
  ⟨k.os.trans h.os, k.tape.trans h.tape, k.output.trans h.output, Nat.le_trans h.size k.size, fun i hi hc hd => (k.block i (Nat.lt_of_lt_of_le hi h.size) hc hd).trans (h.block i hi hc hd)⟩
theorem Chg2.of_below {c d : Nat} {W W' : World} (h : Below W.heap.size W W') : Chg2 c d W W' := (Chg.of_below (c := c) h).l d
theorem Chg2.below {c d B : Nat} {W W' : World} (h : Chg2 c d W W') (hc : B ≤ c) (hd : B ≤ d) (hB : B ≤ W.heap.size) : Below B W W' := ⟨h.os, h.tape, h.output, h.size, fun i hi => h.block i (by omega) (by omega) (by omega)⟩
theorem Chg2.blk {c d : Nat} {W W' : World} (h : Chg2 c d W W') {b : Nat} {cs : Array Value} {t : TypeId} (hB : Blk W b cs t) (h1 : b ≠ c) (h2 : b ≠ d) : Blk W' b cs t := (h.block b hB.lt h1 h2).trans hB
theorem Chg2.dk {c d : Nat} {W W' : World} (h : Chg2 c d W W') {b m : Nat} {P : List Ten} {T : Thr} (hD : DkAt W b m P T) (h1 : b ≠ c) (h2 : b ≠ d) (h3 : m ≠ c) (h4 : m ≠ d) : DkAt W' b m P T :=
  ⟨h.blk hD.blk h1 h2, hD.mp.of_block (h.block m hD.mp.lt h3 h4), hD.len⟩
structure DsS (g : Nat) (h : Hnd) (Y : World) : Prop where
  s : Y.cell? ⟨g, 0, none⟩ = some (.int .i64 h.s)
  g : Y.cell? ⟨g, 1, none⟩ = some (.int .i64 h.g)
theorem Destroy_ok {w : World} {b m : Nat} {P : List Ten} {T : Thr} (hD : DkAt w b m P T) (hs : SrtR T) (hk : ∀ x ∈ T, 0 ≤ x.1 ∧ x.1 ≤ 3) (h : Hnd) :
    Calls Try.prog 10 #[.pointer (some ⟨b, 0, none⟩), .agg #[.int .i64 h.s, .int .i64 h.g]] w fun e w' => ∃ v, e = .returned (.tuple #[v, .int .i64 (chkE P h)]) ∧ w'.ownsRow w.heap.size 3 1 v (thO P T h).length (keyV (thO P T h)) ∧ DkAt w' b m (desP P h) (desT P T h) ∧ Chg2 b m w w' := by
  obtain ⟨w0, hw0⟩ : ∃ w0, w.alloc (.cells #[.int .i64 h.s, .int .i64 h.g] 28) = w0 := ⟨_, rfl⟩
  have hH : Blk w0 w.heap.size #[.int .i64 h.s, .int .i64 h.g] 28 := by rw [← hw0]; exact Blk.new w _ _
  have k0 : Below w.heap.size w w0 := by rw [← hw0]; exact (Below.refl _ w).alloc (Nat.le_refl _) _
  have h0 := hD.step k0
  have z0 := k0.size
  have hbl := hD.blk.lt
  have hml := hD.mp.lt
  have hbm := hD.ne
  have c0 : w0.cell? ⟨w.heap.size, 0, none⟩ = some (.int .i64 h.s) := hH.cell 0 rfl
  have c1 : w0.cell? ⟨w.heap.size, 1, none⟩ = some (.int .i64 h.g) := hH.cell 1 rfl
  go_enter Try.func10, Try.ntmps10
  go_wp2_with fail
  clear hw0 c0 c1
  refine (Check_ok h0 h).mono ?_; rintro e w1 ⟨rfl, h1⟩
  have hT1 := h0.step h1
  have hH1 := hH.below h1 hH.lt
  have kk := k0.trans (h1.mono z0)
  have z1 := kk.size
  obtain ⟨q, hq⟩ : ∃ q, chkE P h = q := ⟨_, rfl⟩
  have HQ := Lib.hid hq
  rw [hq]
  clear hq
  by_cases h9 : q = 0
  · subst h9
    have hA : thO P T h = ofH T h := by unfold thO; rw [if_pos HQ.out]
    have HA := Lib.hid hA
    clear hA
    have c0 : w1.cell? ⟨w.heap.size, 0, none⟩ = some (.int .i64 h.s) := hH1.cell 0 rfl
    have c1 : w1.cell? ⟨w.heap.size, 1, none⟩ = some (.int .i64 h.g) := hH1.cell 1 rfl
    go_wp2_with fail
    clear c0 c1
    refine (Threads_ok hT1 hs hk h).mono ?_; rintro e w2 ⟨v, rfl, ho, k2⟩
    obtain ⟨a2, c2, rfl, _⟩ := (RowAt.of_owns ho (Nat.le_refl _)).len
    have ho2 := owns_weaken ho z1
    rw [HA.out] at ho2 ⊢
    have hT2 := hT1.step k2
    have hH2 := hH1.below k2 hH1.lt
    have kk2 := kk.trans (k2.mono z1)
    have hll : (ofH T h).length ≤ 4 := by
      have h5 := thr_len hs hk
      have := List.length_filter_le (fun x : Int × Hnd => decide (x.2 = h)) T
      unfold ofH; omega
    have hdl := delL_of hs h
    have HDL := Lib.hid hdl
    have HO2 := Lib.hid ho2
    have z2 := kk2.size
    generalize ofH T h = ys at HO2 hll HDL HA ⊢
    clear ho k2 ho2 hdl hT1 hH1 kk h1 h0 hH k0 hD hs hk
    go_wp2_with fail
    go_loopw [21] (fun i wr => ∃ k : Nat, k ≤ ys.length ∧ i = .int .i64 k ∧ DkAt wr b m P (delL T ((ys.take k).map (·.1))) ∧ Chg m w2 wr) (fun i _ => ys.length - (intOf i).toNat)
    case atStart => exact ⟨0, by omega, rfl, by simpa [delL_nil] using hT2, Chg.of_below (Below.refl _ _)⟩
    case round =>
      obtain ⟨k, hk9, rfl, hDr, hch⟩ := hrel
      have hor := hch.owns HO2.out (by omega)
      by_cases hlt : k < ys.length
      · obtain ⟨b1, o1, rfl, _, q⟩ := (RowAt.of_owns hor (Nat.le_refl _)).geti k (by simpa using hlt)
        rw [List.getElem_map] at q
        have i0 : (0 : Int) ≤ k := by omega
        have i1 : (k : Int) < ys.length := by omega
        have cm := hDr.cellm
        have hsn : delL T ((ys.take (k + 1)).map (·.1)) = delR (delL T ((ys.take k).map (·.1))) ys[k].1 := by
          rw [take_next _ _ hlt, List.map_append, List.map_singleton, delL_snoc]
        have HSN := Lib.hid hsn
        obtain ⟨w7, hrun, hM7, hTn⟩ := hDr.mp.drop (P := Try.prog) Try.underlying67 Try.underlying3 ys[k].1 3 0
        have hD7 := hDr.mapTo hTn hM7
        generalize ys[k].1 = xk at q hrun hD7 HSN
        have HD7 := Lib.hid hD7
        clear hor hsn hM7 hD7
        go_wp2_with fail
        exact ⟨⟨k + 1, by omega, by go_num, by rw [HSN.out]; exact HD7.out, hch.trans (Chg.of_turn hTn)⟩, by simp [intOf]; omega⟩
      · obtain rfl : k = ys.length := by omega
        rw [List.take_length, HDL.out] at hDr
        have hH3 : Blk _ w.heap.size #[.int .i64 h.s, .int .i64 h.g] 28 := (hch.block w.heap.size hH2.lt (by omega)).trans hH2
        have hA2 : desT P T h = notH T h := by unfold desT; rw [if_pos HQ.out]
        have hA3 : desP P h = P.set h.s.toNat ⟨h.g, false, 0, 0⟩ := by unfold desP; rw [if_pos HQ.out]
        rename_i wr
        obtain ⟨hs9, hs8, hs7⟩ := chkE_ok.1 HQ.out
        clear hs8 hs7
        have HA2 := Lib.hid hA2
        have HA3 := Lib.hid hA3
        have HOR := Lib.hid hor
        clear hor hA2 hA3
        obtain ⟨s, g⟩ := h
        dsimp only at hs9 hH3 HA3
        obtain ⟨k, rfl⟩ : ∃ k : Nat, s = k := ⟨s.toNat, by omega⟩
        rw [Int.toNat_natCast] at HA3
        have hk4 : k < 4 := by omega
        have i0 : (0 : Int) ≤ k := by omega
        have i1 : (k : Int) < 4 := by omega
        go_wp2_with fail
        refine wp_onlyN ?_
        have kd := (Below.refl wr.heap.size wr).drew
        have hD8 := hDr.step kd
        have hH8 := hH3.below kd hH3.lt
        have hch8 := hch.trans (.of_below kd)
        have hor8 : World.ownsRow wr.drew _ _ _ _ _ _ := owns_below HOR.out kd (Nat.le_refl _)
        have HOR8 := Lib.hid hor8
        refine wp_region_held_drew (S := DsS w.heap.size ⟨k, g⟩) (by kernel_rfl) ⟨hH8.cell 0 rfl, hH8.cell 1 rfl⟩ (fun hHeld => ?_)
        clear hDr hH3 hch kd HOR hor8
        change wpAnyH _ _ _ _ _ _ _ _ wr.drew
        generalize wr.drew = w8 at hD8 hH8 hch8 HOR8 hHeld ⊢
        obtain ⟨e0, e1, e2, e3⟩ := hD8.ten k hk4
        have f0 := hD8.blk.frozen (k * 4)
        have f1 := hD8.blk.frozen (k * 4 + 1)
        have f2 := hD8.blk.frozen (k * 4 + 2)
        have f3 := hD8.blk.frozen (k * 4 + 3)
        refine wpAnyH_take (i := 0) (v := ?_) rfl (by kernel_rfl) (by kernel_rfl) (by kernel_rfl) (fun _ _ _ h => h) (Or.inl ⟨by rfl, ?_⟩) (by assumption) ?_
        rotate_left
        · (intro Y hSw; (try dsimp only at hSw); obtain ⟨hS0, hS1⟩ := hSw; go_simp; try with_reducible rfl)
        try simp only [Act.put, List.getElem_toArray, List.getElem_cons_zero, List.getElem_cons_succ, List.setIfInBounds_toArray, List.set_cons_zero, List.set_cons_succ]
        refine wpAnyH_take (i := 1) (v := ?_) rfl (by kernel_rfl) (by kernel_rfl) (by kernel_rfl) (fun _ _ _ h => h) (Or.inl ⟨by rfl, ?_⟩) (by assumption) ?_
        rotate_left
        · (intro Y hSw; (try dsimp only at hSw); obtain ⟨hS0, hS1⟩ := hSw; go_simp; try with_reducible rfl)
        try simp only [Act.put, List.getElem_toArray, List.getElem_cons_zero, List.getElem_cons_succ, List.setIfInBounds_toArray, List.set_cons_zero, List.set_cons_succ]
        refine wpAnyH_take (i := 2) (v := ?_) rfl (by kernel_rfl) (by kernel_rfl) (by kernel_rfl) (fun _ _ _ h => h) (Or.inl ⟨by rfl, ?_⟩) (by assumption) ?_
        rotate_left
        · (intro Y hSw; (try dsimp only at hSw); obtain ⟨hS0, hS1⟩ := hSw; go_simp; try with_reducible rfl)
        try simp only [Act.put, List.getElem_toArray, List.getElem_cons_zero, List.getElem_cons_succ, List.setIfInBounds_toArray, List.set_cons_zero, List.set_cons_succ]
        refine wpAnyH_take (i := 3) (v := ?_) rfl (by kernel_rfl) (by kernel_rfl) (by kernel_rfl) (fun _ _ _ h => h) (Or.inl ⟨by rfl, ?_⟩) (by assumption) ?_
        rotate_left
        · (intro Y hSw; (try dsimp only at hSw); obtain ⟨hS0, hS1⟩ := hSw; go_simp; try with_reducible rfl)
        try simp only [Act.put, List.getElem_toArray, List.getElem_cons_zero, List.getElem_cons_succ, List.setIfInBounds_toArray, List.set_cons_zero, List.set_cons_succ]
        refine wpAnyH_take (i := 4) (v := ?_) rfl (by kernel_rfl) (by kernel_rfl) (by kernel_rfl) (fun _ _ _ h => h) (Or.inl ⟨by rfl, ?_⟩) (by assumption) ?_
        rotate_left
        · (intro Y hSw; (try dsimp only at hSw); obtain ⟨hS0, hS1⟩ := hSw; go_simp; try with_reducible rfl)
        try simp only [Act.put, List.getElem_toArray, List.getElem_cons_zero, List.getElem_cons_succ, List.setIfInBounds_toArray, List.set_cons_zero, List.set_cons_succ]
        refine wpAnyH_take (i := 5) (v := ?_) rfl (by kernel_rfl) (by kernel_rfl) (by kernel_rfl) (fun _ _ _ h => h) (Or.inl ⟨by rfl, ?_⟩) (by assumption) ?_
        rotate_left
        · (intro Y hSw; (try dsimp only at hSw); obtain ⟨hS0, hS1⟩ := hSw; go_simp; try with_reducible rfl)
        try simp only [Act.put, List.getElem_toArray, List.getElem_cons_zero, List.getElem_cons_succ, List.setIfInBounds_toArray, List.set_cons_zero, List.set_cons_succ]
        refine wpAnyH_take (i := 6) (v := ?_) rfl (by kernel_rfl) (by kernel_rfl) (by kernel_rfl) (fun _ _ _ h => h) (Or.inl ⟨by rfl, ?_⟩) (by assumption) ?_
        rotate_left
        · (intro Y hSw; (try dsimp only at hSw); obtain ⟨hS0, hS1⟩ := hSw; go_simp; try with_reducible rfl)
        try simp only [Act.put, List.getElem_toArray, List.getElem_cons_zero, List.getElem_cons_succ, List.setIfInBounds_toArray, List.set_cons_zero, List.set_cons_succ]
        refine wpAnyH_take (i := 7) (v := ?_) rfl (by kernel_rfl) (by kernel_rfl) (by kernel_rfl) (fun _ _ _ h => h) (Or.inl ⟨by rfl, ?_⟩) (by assumption) ?_
        rotate_left
        · (intro Y hSw; (try dsimp only at hSw); obtain ⟨hS0, hS1⟩ := hSw; go_simp; try with_reducible rfl)
        try simp only [Act.put, List.getElem_toArray, List.getElem_cons_zero, List.getElem_cons_succ, List.setIfInBounds_toArray, List.set_cons_zero, List.set_cons_succ]
        refine wpAnyH_take (i := 8) (v := ?_) rfl (by kernel_rfl) (by kernel_rfl) (by kernel_rfl) (fun _ _ _ h => h) (Or.inl ⟨by rfl, ?_⟩) (by assumption) ?_
        rotate_left
        · (intro Y hSw; (try dsimp only at hSw); obtain ⟨hS0, hS1⟩ := hSw; go_simp; try with_reducible rfl)
        try simp only [Act.put, List.getElem_toArray, List.getElem_cons_zero, List.getElem_cons_succ, List.setIfInBounds_toArray, List.set_cons_zero, List.set_cons_succ]
        refine wpAnyH_ready (rs := [9]) (by kernel_rfl) (by simp) ?_
        refine AllReadyH.cons rfl (fun K hK => ?_) AllReadyH.nil
        go_simp
        have h9 := hD8.put k hk4 ⟨g, false, 0, 0⟩
        have hne : w.heap.size ≠ b := by omega
        have hH9 := (((hH8.setOther ⟨b, k * 4, none⟩ (.int .i64 g) hne).setOther ⟨b, k * 4 + 1, none⟩ (.bool false) hne).setOther ⟨b, k * 4 + 2, none⟩ (.int .i64 0) hne).setOther ⟨b, k * 4 + 3, none⟩ (.int .i64 0) hne
        have hc9 : Chg b w8 _ := (Chg.of_below (Below.refl _ w8)).put4 k (.int .i64 g) (.bool false) (.int .i64 0) (.int .i64 0)
        have ho9 := hc9.owns HOR8.out (by omega)
        have HO9 := Lib.hid ho9
        clear ho9
        dsimp only at h9
        refine hK.out _ _ (⟨hH9.cell 0 rfl, hH9.cell 1 rfl⟩) (fun hHeld => ?_)
        clear hK K
        try simp only [Act.put, List.getElem_toArray, List.getElem_cons_zero, List.getElem_cons_succ, List.setIfInBounds_toArray, List.set_cons_zero, List.set_cons_succ]
        generalize World.setCell (World.setCell (World.setCell (World.setCell w8 _ _) _ _) _ _) _ _ = w9 at h9 hH9 hc9 HO9 ⊢
        refine wpAnyH_done (by kernel_rfl) ?_ _
        rw [onlyN_normal]
        go_wp2_with fail
        go_ret2
        exact ⟨_, by rw [HQ.out]; rfl, by rw [HA.out]; exact HO9.out, by rw [HA3.out, HA2.out]; exact h9, ((Chg2.of_below kk2).trans (hch8.r b)).trans (hc9.l m)⟩
  · have hA : thO P T h = [] := by unfold thO; rw [if_neg (by rw [HQ.out]; exact h9)]
    have hA2 : desT P T h = T := by unfold desT; rw [if_neg (by rw [HQ.out]; exact h9)]
    have hA3 : desP P h = P := by unfold desP; rw [if_neg (by rw [HQ.out]; exact h9)]
    have HA := Lib.hid hA
    have HA2 := Lib.hid hA2
    have HA3 := Lib.hid hA3
    clear hA hA2 hA3
    go_wp2_with fail
    go_ret2
    exact ⟨_, by rw [HQ.out]; rfl, by rw [HA.out]; exact ⟨rfl, .inl ⟨rfl, rfl⟩⟩, by rw [HA3.out, HA2.out]; exact hT1, Chg2.of_below kk⟩
end Go.Proofs.Ytchknegenaoliaa
