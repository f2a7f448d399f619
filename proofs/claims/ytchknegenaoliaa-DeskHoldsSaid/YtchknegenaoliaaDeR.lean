/-
  Package desk: two tenants, places compared; Copy. No condition.
-/
import Derived.Test.YtchknegenaoliaaDeQ
import Derived.ChangeKeysEq
import Derived.Laws.StructEq
import Derived.Shelf.SlMaps.Clone
import Derived.Ground.SlmcProg
namespace Go.Proofs
open Go.RowKit Go.Maps Go.Sort Go.Shelf
def Try.cloneE_ren : Go.Shelf.Ren := ⟨fun | 5 => 42 | 7 => 54 | n => n, fun | 23 => 67 | 25 => 3 | 3 => 28 | 4 => 4 | 20 => 20 | n => n, fun | n => n⟩
theorem Try.cloneE : Go.Proofs.SlLaysW.n5 Try.prog Try.cloneE_ren := {
  mixed := by kernel_rfl
  f5 := ⟨Try.f42.name, by decide, Try.func42.trans (congrArg some (by kernel_rfl))⟩
  f7 := Try.func54.trans (congrArg some (by kernel_rfl))
  t4 := Try.underlying4
  a4 := Try.isAgg4
  z4 := Try.sizeOf4
  v4 := Try.zeroValue4
  t20 := Try.underlying20
  a20 := Try.isAgg20
  z20 := Try.sizeOf20
  v20 := Try.zeroValue20
  t23 := Try.underlying67
  a23 := Try.isAgg67
  z23 := Try.sizeOf67
  v23 := Try.zeroValue67 }
end Go.Proofs
namespace Go.Proofs.Ytchknegenaoliaa
open Go.RowKit
attribute [local go_sem] Oper.semAt_some
set_option maxHeartbeats 1000000
set_option maxRecDepth 4000

theorem eq_ten (x y : Ten) (W : World) : (Op.equalIn 9999 69 (.agg #[.int .i64 x.g, .bool x.t, .int .i64 x.q, .int .i64 x.f]) (.agg #[.int .i64 y.g, .bool y.t, .int .i64 y.q, .int .i64 y.f])).run Try.prog W = .ok (decide (x = y)) W := by
  obtain ⟨xg, xt, xq, xf⟩ := x
  obtain ⟨yg, yt, yq, yf⟩ := y
  dsimp only
  by_cases e0 : xg = yg
  · subst e0
    by_cases e1 : xt = yt
    · subst e1
      by_cases e2 : xq = yq
      · subst e2
        by_cases e3 : xf = yf
        · subst e3
          rw [decide_eq_true rfl]
          go_simp
        · rw [decide_eq_false (fun e => e3 (congrArg Ten.f e))]
          go_simp
      · rw [decide_eq_false (fun e => e2 (congrArg Ten.q e))]
        go_simp
    · rw [decide_eq_false (fun e => e1 (congrArg Ten.t e))]
      go_simp
  · rw [decide_eq_false (fun e => e0 (congrArg Ten.g e))]
    go_simp
theorem part_ten {W : World} {xs : Array Value} {o : Nat} {x : Ten} (h : xs.extract o (o + 4) = #[.int .i64 x.g, .bool x.t, .int .i64 x.q, .int .i64 x.f]) : (part 69 xs o).run Try.prog W = .ok (.agg #[.int .i64 x.g, .bool x.t, .int .i64 x.q, .int .i64 x.f]) W := by
  have h1 : (isAgg 69).run Try.prog W = .ok true W := by unfold isAgg; rw [Sem.run_bind, run_underlying Try.underlying69 W]; rfl
  have h2 : (sizeOf 69).run Try.prog W = .ok 4 W := by kernel_rfl
  simp [part, h1, h2, h]
theorem eq_items {P Q : List Ten} {xs ys : Array Value} (W : World) (is : List Nat) (hx : ∀ i ∈ is, xs.extract (i * 4) (i * 4 + 4) = #[.int .i64 (tenD P i).g, .bool (tenD P i).t, .int .i64 (tenD P i).q, .int .i64 (tenD P i).f])
    (hy : ∀ i ∈ is, ys.extract (i * 4) (i * 4 + 4) = #[.int .i64 (tenD Q i).g, .bool (tenD Q i).t, .int .i64 (tenD Q i).q, .int .i64 (tenD Q i).f]) :
    (Op.eqItems 9999 69 4 xs ys is).run Try.prog W = .ok (is.all fun i : Nat => decide (tenD P i = tenD Q i)) W := by
  induction is with
  | nil => rfl
  | cons i is ih =>
    have h1 := ih (fun j hj => hx j (List.mem_cons_of_mem _ hj)) (fun j hj => hy j (List.mem_cons_of_mem _ hj))
    simp only [Op.eqItems, Sem.run_bind, part_ten (hx i List.mem_cons_self), part_ten (hy i List.mem_cons_self), Result.andThen_ok, eq_ten]
    by_cases e : tenD P i = tenD Q i
    · rw [decide_eq_true e]
      simp only [Bool.not_true, Bool.false_eq_true, if_false]
      rw [h1, List.all_cons, decide_eq_true e, Bool.true_and]
    · rw [decide_eq_false e]
      simp only [Bool.not_false, if_true]
      rw [List.all_cons, decide_eq_false e, Bool.false_and]; rfl
theorem tens_ext {P Q : List Ten} (hP : P.length = 4) (hQ : Q.length = 4) : ((List.range 4).all fun i : Nat => decide (tenD P i = tenD Q i)) = decide (P = Q) := by
  rw [Bool.eq_iff_iff, List.all_eq_true, decide_eq_true_iff]
  constructor
  · intro h
    refine List.ext_getElem (hP.trans hQ.symm) fun i h1 h2 => ?_
    have := h i (by simp; omega)
    simp only [decide_eq_true_iff] at this
    unfold tenD at this
    rw [Int.toNat_natCast, List.getD_eq_getElem?_getD, List.getD_eq_getElem?_getD, List.getElem?_eq_getElem h1, List.getElem?_eq_getElem h2] at this
    exact this
  · rintro rfl i _
    simp
theorem tens_extract {P : List Ten} (hP : P.length = 4) (ws : List Value) : ∀ i ∈ List.range 4, ((tensV P ++ ws).toArray).extract (i * 4) (i * 4 + 4) = #[.int .i64 (tenD P i).g, .bool (tenD P i).t, .int .i64 (tenD P i).q, .int .i64 (tenD P i).f] := by
  obtain ⟨a, b, c, d, rfl⟩ := four hP
  intro i hi
  have : i < 4 := by simpa using hi
  match i, this with
  | 0, _ => apply Array.ext' <;> simp [tensV, tenV, tenD, List.extract]
  | 1, _ => apply Array.ext' <;> simp [tensV, tenV, tenD, List.extract]
  | 2, _ => apply Array.ext' <;> simp [tensV, tenV, tenD, List.extract]
  | 3, _ => apply Array.ext' <;> simp [tensV, tenV, tenD, List.extract]
theorem eq_places {P Q : List Ten} (hP : P.length = 4) (hQ : Q.length = 4) (W : World) : (Op.equalIn 10000 71 (.agg (tensV P).toArray) (.agg (tensV Q).toArray)).run Try.prog W = .ok (decide (P = Q)) W := by
  obtain ⟨i, hi⟩ := info_of_underlying Try.underlying69
  have hc : Try.prog.cellsOf 69 = 4 := by kernel_rfl
  have hx := tens_extract hP []
  have hy := tens_extract hQ []
  rw [List.append_nil] at hx hy
  rw [run_equalIn_array (w := W) 9999 _ _ Try.underlying71 hi, hc, eq_items W _ hx hy, tens_ext hP hQ]
structure CpS (b m : Nat) (P : List Ten) (T : Thr) (Y : World) : Prop where
  d : DkAt Y b m P T
theorem clone_map {w : World} {f b : Nat} {D : Thr} (h : MapP encH w b D) (hc : ∀ es clock, w.heap[b]? = some (.map es clock) → Calls Try.prog f #[.map (some b)] w fun e w' => e = .returned (.map (some w.heap.size)) ∧ w' = w.alloc (.map es clock)) :
    Calls Try.prog f #[.map (some b)] w fun e w' => e = .returned (.map (some w.heap.size)) ∧ MapP encH w' w.heap.size D ∧ ∃ o, w' = w.alloc o := by
  obtain ⟨l, hp, es, clock, hb, hs, he⟩ := h
  refine (hc es clock hb).mono ?_
  rintro e w' ⟨rfl, rfl⟩
  exact ⟨rfl, ⟨l, hp, es, clock, World.alloc_heap_new w _, hs, he⟩, _, rfl⟩
theorem clone_calls {w : World} {b : Nat} {D : Thr} (h : MapP encH w b D) : Calls Try.prog 42 #[.map (some b)] w fun e w' => e = .returned (.map (some w.heap.size)) ∧ MapP encH w' w.heap.size D ∧ ∃ o, w' = w.alloc o :=
  clone_map h fun es clock hb => Go.Proofs.AnyW.maps_Clone Try.cloneE b es clock w hb
theorem Copy_ok {w : World} {b m : Nat} {P : List Ten} {T : Thr} (hD : DkAt w b m P T) : Calls Try.prog 21 #[.pointer (some ⟨b, 0, none⟩)] w fun e w' => ∃ c mc, e = .returned (.pointer (some ⟨c, 0, none⟩)) ∧ DkAt w' c mc P T ∧ w.heap.size ≤ c ∧ w.heap.size ≤ mc ∧ Below w.heap.size w w' := by
  go_enter Try.func21, Try.ntmps21
  go_wp2_with fail
  refine (none_live hD).mono ?_; rintro e w1 ⟨rfl, k1⟩
  have h1 := hD.step k1
  have z1 := k1.size
  obtain ⟨p0, p1, p2, p3, rfl⟩ := four hD.len
  clear hD
  go_wp2_with fail
  refine wp_onlyN ?_
  have kd := (Below.refl w1.heap.size w1).drew
  refine wp_region_held_drew (S := CpS b m [p0, p1, p2, p3] T) (by kernel_rfl) ⟨h1.step kd⟩ (fun hHeld => ?_)
  have h2 := h1.step kd
  have kk := k1.trans (kd.mono z1)
  change wpAnyH _ _ _ _ _ _ _ _ w1.drew
  generalize w1.drew = w2 at h2 kk hHeld ⊢
  clear kd h1 k1 z1
  refine wpAnyH_take (i := 0) (v := ?_) rfl (by kernel_rfl) (by kernel_rfl) (by kernel_rfl) (fun _ _ _ h => h) (Or.inl ⟨by rfl, ?_⟩) (by assumption) ?_
  rotate_left
  · (intro Y hSw; (try dsimp only at hSw); obtain ⟨hS0⟩ := hSw; go_simp; try with_reducible rfl)
  try simp only [Act.put, List.getElem_toArray, List.getElem_cons_zero, List.getElem_cons_succ, List.setIfInBounds_toArray, List.set_cons_zero, List.set_cons_succ]
  refine wpAnyH_take (i := 1) (v := ?_) rfl (by kernel_rfl) (by kernel_rfl) (by kernel_rfl) (fun _ _ _ h => h) (Or.inl ⟨by rfl, ?_⟩) (by assumption) ?_
  rotate_left
  · (intro Y hSw; (try dsimp only at hSw); obtain ⟨hS0⟩ := hSw; go_simp; try with_reducible rfl)
  try simp only [Act.put, List.getElem_toArray, List.getElem_cons_zero, List.getElem_cons_succ, List.setIfInBounds_toArray, List.set_cons_zero, List.set_cons_succ]
  refine wpAnyH_take (i := 2) (v := ?_) rfl (by kernel_rfl) (by kernel_rfl) (by kernel_rfl) (fun _ _ _ h => h) (Or.inl ⟨by rfl, ?_⟩) (by assumption) ?_
  rotate_left
  · (intro Y hSw; (try dsimp only at hSw); obtain ⟨hS0⟩ := hSw; go_simp; try with_reducible rfl)
  try simp only [Act.put, List.getElem_toArray, List.getElem_cons_zero, List.getElem_cons_succ, List.setIfInBounds_toArray, List.set_cons_zero, List.set_cons_succ]
  refine wpAnyH_take (i := 3) (v := .agg #[.int .i64 p0.g, .bool p0.t, .int .i64 p0.q, .int .i64 p0.f, .int .i64 p1.g, .bool p1.t, .int .i64 p1.q, .int .i64 p1.f, .int .i64 p2.g, .bool p2.t, .int .i64 p2.q, .int .i64 p2.f, .int .i64 p3.g, .bool p3.t, .int .i64 p3.q, .int .i64 p3.f]) rfl (by kernel_rfl) (by kernel_rfl) (by kernel_rfl) (fun _ _ _ h => h) (Or.inl ⟨by rfl, fun Y hSw => exec_loadM ty71 _ rfl b 0 rfl (tensV [p0, p1, p2, p3]) (dkV_rng rfl _ hSw.d.blk) rfl⟩) (by assumption) ?_
  try simp only [Act.put, List.getElem_toArray, List.getElem_cons_zero, List.getElem_cons_succ, List.setIfInBounds_toArray, List.set_cons_zero, List.set_cons_succ]
  refine wpAnyH_take (i := 4) (v := ?_) rfl (by kernel_rfl) (by kernel_rfl) (by kernel_rfl) (fun _ _ _ h => h) (Or.inl ⟨by rfl, ?_⟩) (by assumption) ?_
  rotate_left
  · (intro Y hSw; (try dsimp only at hSw); obtain ⟨hS0⟩ := hSw; go_simp; try with_reducible rfl)
  try simp only [Act.put, List.getElem_toArray, List.getElem_cons_zero, List.getElem_cons_succ, List.setIfInBounds_toArray, List.set_cons_zero, List.set_cons_succ]
  refine wpAnyH_take (i := 5) (v := ?_) rfl (by kernel_rfl) (by kernel_rfl) (by kernel_rfl) (fun _ _ _ h => h) (Or.inl ⟨by rfl, ?_⟩) (by assumption) ?_
  rotate_left
  · (intro Y hSw; (try dsimp only at hSw); obtain ⟨hS0⟩ := hSw; go_simp; try with_reducible rfl)
  try simp only [Act.put, List.getElem_toArray, List.getElem_cons_zero, List.getElem_cons_succ, List.setIfInBounds_toArray, List.set_cons_zero, List.set_cons_succ]
  refine wpAnyH_take (i := 6) (v := ?_) rfl (by kernel_rfl) (by kernel_rfl) (by kernel_rfl) (fun _ _ _ h => h) (Or.inl ⟨by rfl, ?_⟩) (by assumption) ?_
  rotate_left
  · (intro Y hSw; (try dsimp only at hSw); obtain ⟨hS0⟩ := hSw; go_simp; try with_reducible rfl)
  try simp only [Act.put, List.getElem_toArray, List.getElem_cons_zero, List.getElem_cons_succ, List.setIfInBounds_toArray, List.set_cons_zero, List.set_cons_succ]
  refine wpAnyH_take (i := 7) (v := .map (some m)) rfl (by kernel_rfl) (by kernel_rfl) (by kernel_rfl) (fun _ _ _ h => h) (Or.inl ⟨by rfl, by intro Y hSw; have c16 := hSw.d.cellm; go_simp⟩) (by assumption) ?_
  try simp only [Act.put, List.getElem_toArray, List.getElem_cons_zero, List.getElem_cons_succ, List.setIfInBounds_toArray, List.set_cons_zero, List.set_cons_succ]
  refine wpAnyH_ready (rs := [8]) (by kernel_rfl) (by simp) ?_
  refine AllReadyH.cons rfl (fun K hK => ?_) AllReadyH.nil
  go_simp
  refine (clone_calls h2.mp).mono ?_; rintro e w3 ⟨rfl, hM, o, rfl⟩
  have k3 : Below w2.heap.size w2 (w2.alloc o) := (Below.refl _ w2).alloc (Nat.le_refl _) _
  have h3 := h2.step k3
  have kk3 := kk.trans (k3.mono kk.size)
  have hml := hM.lt
  go_simp
  refine hK.out _ _ (⟨h3⟩) (fun hHeld => ?_)
  clear hK K
  try simp only [Act.put, List.getElem_toArray, List.getElem_cons_zero, List.getElem_cons_succ, List.setIfInBounds_toArray, List.set_cons_zero, List.set_cons_succ]
  clear k3
  generalize w2.alloc o = w3 at hM h3 kk3 hml hHeld ⊢
  refine wpAnyH_take (i := 9) (v := ?_) rfl (by kernel_rfl) (by kernel_rfl) (by kernel_rfl) (fun _ _ _ h => h) (Or.inl ⟨by rfl, ?_⟩) (by assumption) ?_
  rotate_left
  · (intro Y hSw; (try dsimp only at hSw); obtain ⟨hS0⟩ := hSw; go_simp; try with_reducible rfl)
  try simp only [Act.put, List.getElem_toArray, List.getElem_cons_zero, List.getElem_cons_succ, List.setIfInBounds_toArray, List.set_cons_zero, List.set_cons_succ]
  refine wpAnyH_ready (rs := [10]) (by kernel_rfl) (by simp) ?_
  refine AllReadyH.cons rfl (fun K hK => ?_) AllReadyH.nil
  go_simp
  have k4 : Below w3.heap.size w3 (w3.alloc (.cells (dkV [p0, p1, p2, p3] (some w2.heap.size)) 73)) := (Below.refl _ w3).alloc (Nat.le_refl _) _
  have hB := Blk.new w3 (dkV [p0, p1, p2, p3] (some w2.heap.size)) 73
  refine hK.out _ _ (⟨h3.step k4⟩) (fun hHeld => ?_)
  clear hK K
  try simp only [Act.put, List.getElem_toArray, List.getElem_cons_zero, List.getElem_cons_succ, List.setIfInBounds_toArray, List.set_cons_zero, List.set_cons_succ]
  refine wpAnyH_take (i := 11) (v := ?_) rfl (by kernel_rfl) (by kernel_rfl) (by kernel_rfl) (fun _ _ _ h => h) (Or.inl ⟨by rfl, ?_⟩) (by assumption) ?_
  rotate_left
  · (intro Y hSw; (try dsimp only at hSw); obtain ⟨hS0⟩ := hSw; go_simp; try with_reducible rfl)
  try simp only [Act.put, List.getElem_toArray, List.getElem_cons_zero, List.getElem_cons_succ, List.setIfInBounds_toArray, List.set_cons_zero, List.set_cons_succ]
  refine wpAnyH_done (by kernel_rfl) ?_ _
  rw [onlyN_normal]
  go_wp2_with fail
  go_ret
  exact ⟨_, _, rfl, ⟨hB, hM.step k4, rfl⟩, kk3.size, kk.size, kk3.trans (k4.mono kk3.size)⟩
theorem Copy_no {w : World} {p : Option Addr} (h : NoDk w p) : Calls Try.prog 21 #[.pointer p] w fun e w' => e = .returned (.pointer none) ∧ Below w.heap.size w w' := by
  go_enter Try.func21, Try.ntmps21
  go_wp2_with fail
  refine (none_no h).mono ?_; rintro e w1 ⟨rfl, k1⟩
  go_wp2_with fail
  go_ret
  exact ⟨rfl, k1⟩
end Go.Proofs.Ytchknegenaoliaa
