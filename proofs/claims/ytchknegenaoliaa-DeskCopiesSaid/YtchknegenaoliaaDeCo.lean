/-
  Package pinfoldlaw21: DeskCopies. No condition.
-/
import Derived.Test.YtchknegenaoliaaDeAo
namespace Go.Proofs.Ytchknegenaoliaa
open Go.RowKit
attribute [local go_sem] Oper.semAt_some
set_option maxHeartbeats 2000000
set_option maxRecDepth 8000

theorem hndsV_take : ∀ (D : List Hnd) (k : Nat), (hndsV D).take (k * 2) = hndsV (D.take k)
  | D, 0 => by simp [hndsV]
  | [], k + 1 => by simp [hndsV]
  | x :: D, k + 1 => by
    have h1 : hndsV (x :: D) = .int .i64 x.s :: .int .i64 x.g :: hndsV D := rfl
    have h2 : hndsV (x :: D.take k) = .int .i64 x.s :: .int .i64 x.g :: hndsV (D.take k) := rfl
    rw [h1, List.take_succ_cons, h2, show (k + 1) * 2 = k * 2 + 1 + 1 by omega, List.take_succ_cons, List.take_succ_cons, hndsV_take D k]
structure PlyC (ba off : Nat) (x : ActV) (Y : World) : Prop where
  c0 : Y.cell? ⟨ba, off, none⟩ = some (.int .i64 x.f0)
  c1 : Y.cell? ⟨ba, off + 1, none⟩ = some (.int .i64 x.f1)
  c2 : Y.cell? ⟨ba, off + 2, none⟩ = some (.int .i64 x.f2)
  c3 : Y.cell? ⟨ba, off + 3, none⟩ = some (.int .i64 x.f3)
  c4 : Y.cell? ⟨ba, off + 4, none⟩ = some (.int .i64 x.f4)
  c5 : Y.cell? ⟨ba, off + 5, none⟩ = some (.int .i64 x.f5)
theorem PlyC.mk' {B ba off : Nat} {x : ActV} {Y : World} (h : ActAt B Y ba off x) : PlyC ba off x Y := ⟨h.c0, h.c1, h.c2, h.c3, h.c4, h.c5⟩
/-- What stands when both calls are done. -/
structure Cp (w W : World) (b1 m1 b2 m2 : Nat) (P1 P2 P : List Ten) (T1 T2 T : Thr) (n : Int) (g o1 o2 sx : Nat) : Prop where
  a : DkAt W b1 m1 P1 T1
  ga : Good n P1 T1
  b : DkAt W b2 m2 P2 T2
  gb : Good n P2 T2
  x : Blk W g (refV P (hsT T)) 52
  xa : Blk W o1 (refV P1 (hsT T1)) 52
  xb : Blk W o2 (refV P2 (hsT T2)) 52
  s : Blk W sx (tensV P).toArray 71
  k : Below w.heap.size w W
theorem Cp.step {w W W' : World} {b1 m1 b2 m2 : Nat} {P1 P2 P : List Ten} {T1 T2 T : Thr} {n : Int} {g o1 o2 x : Nat} (h : Cp w W b1 m1 b2 m2 P1 P2 P T1 T2 T n g o1 o2 x) (k : Below W.heap.size W W') : Cp w W' b1 m1 b2 m2 P1 P2 P T1 T2 T n g o1 o2 x :=
  ⟨h.a.step k, h.ga, h.b.step k, h.gb, h.x.below k h.x.lt, h.xa.below k h.xa.lt, h.xb.below k h.xb.lt, h.s.below k h.s.lt, h.k.trans (k.mono h.k.size)⟩
structure CoS (o1 o2 : Nat) (R1 R2 : Array Value) (Y : World) : Prop where
  a : Blk Y o1 R1 52
  b : Blk Y o2 R2 52
theorem exec_eqR {o : Oper} {a : Act} {w : World} {t ty : TypeId} (x y : Operand) (ho : o.op = .binOp .eql t x y ty) {xs ys : Array Value} {d : Bool} (hx : a.eval x = .agg xs) (hy : a.eval y = .agg ys) (hm : Try.prog.eqGuardType Try.prog.depth t = false)
    (he : (Op.equalIn 10000 t (.agg xs) (.agg ys)).run Try.prog w = .ok d w) : (execOp a.eval o).run Try.prog w = .ok (.value (.bool d)) w := by
  unfold execOp
  simp only [ho, hx, hy, Sem.run_bind, run_eqGuard_agg _ _ _ _ _ _ _ hm, Result.andThen_ok, run_eql_struct, he, Sem.run_pure]
theorem same_dec {n m : Int} {P Q : List Ten} {T U : Thr} (hg : Good n P T) (hk : Good m Q U) : (decide (P = Q) && decide (hsT T = hsT U)) = (decide (P = Q) && decide (T = U)) := by
  congr 1
  exact decide_eq_decide.2 ⟨fun h => thr_ext hg hk h, fun h => by rw [h]⟩
theorem copies_body (v0 : Value) (l : List ActV) (x y : ActV) (w : World) (hv : ActsAt w.heap.size w v0 l) :
    Calls Try.prog 5 #[v0, .agg #[.int .i64 x.f0, .int .i64 x.f1, .int .i64 x.f2, .int .i64 x.f3, .int .i64 x.f4, .int .i64 x.f5, .int .i64 y.f0, .int .i64 y.f1, .int .i64 y.f2, .int .i64 y.f3, .int .i64 y.f4, .int .i64 y.f5]] w fun e w' => e = .returned (.bool true) ∧ Below w.heap.size w w' := by
  have hfn := fun (fn : Fn) (x y : Array Value) (w : World) => run_eql_func_nil (P := Try.prog) Try.underlying60 fn x y w
  have HFN := Lib.hid hfn
  clear hfn
  have HV := Lib.hid hv
  obtain ⟨ad, cap, rfl, hcap, hmx, _⟩ := hv
  have hml : l.length ≤ 9223372036854775807 := by unfold maxLen at hmx; omega
  clear hmx
  obtain ⟨w0, hw0⟩ : ∃ w0, w.alloc (.cells #[.int .i64 x.f0, .int .i64 x.f1, .int .i64 x.f2, .int .i64 x.f3, .int .i64 x.f4, .int .i64 x.f5, .int .i64 y.f0, .int .i64 y.f1, .int .i64 y.f2, .int .i64 y.f3, .int .i64 y.f4, .int .i64 y.f5] 58) = w0 := ⟨_, rfl⟩
  have k0 : Below w.heap.size w w0 := by rw [← hw0]; exact (Below.refl _ w).alloc (Nat.le_refl _) _
  have hT : Blk w0 w.heap.size #[.int .i64 x.f0, .int .i64 x.f1, .int .i64 x.f2, .int .i64 x.f3, .int .i64 x.f4, .int .i64 x.f5, .int .i64 y.f0, .int .i64 y.f1, .int .i64 y.f2, .int .i64 y.f3, .int .i64 y.f4, .int .i64 y.f5] 58 := by rw [← hw0]; exact Blk.new w _ _
  have HTW := Lib.hid (fun (Y : World) (k : Below w0.heap.size w0 Y) => hT.below k hT.lt)
  clear hT
  have hwz : w.heap.size ≤ w0.heap.size := k0.size
  by_cases h1 : 40 < l.length
  · refine calls_of_wp_marks Try.func5 rfl ?_; simp only [Try.ntmps5, List.size_toArray, List.length_cons, List.length_nil, Nat.reduceAdd, Nat.reduceSub, Array.replicate_succ, Array.replicate_zero, List.push_toArray, List.append_toArray, List.nil_append, List.cons_append]
    go_wp2_with fail
    refine (works_ok _).mono ?_; rintro e w1 ⟨rfl, k⟩
    go_wp2_with fail
    exact postM_ret0 (results_tmp rfl _ _ _) ⟨rfl, k0.trans (k.mono k0.size)⟩
  refine calls_of_wp_marks Try.func5 rfl ?_; simp only [Try.ntmps5, List.size_toArray, List.length_cons, List.length_nil, Nat.reduceAdd, Nat.reduceSub, Array.replicate_succ, Array.replicate_zero, List.push_toArray, List.append_toArray, List.nil_append, List.cons_append]
  go_wp2_with fail
  clear hw0
  refine (New_calls _).mono ?_; rintro e W ⟨b0, m0, rfl, ht, hlo, hlob, kk⟩
  go_wp2_with fail
  generalize hW0 : World.alloc W _ = W0
  have h0 : Lp w0 W0 b0 m0 W.heap.size (refV P0 (hsT [])) P0 [] := by
    have hb := ht.blk.lt
    have hm := ht.mp.lt
    have k3 : Below W.heap.size W W0 := by rw [← hW0]; exact (Below.refl _ W).alloc (Nat.le_refl _) _
    exact ⟨ht.step k3, kk.trans (k3.mono kk.size), hlob, hlo, by rw [← hW0]; exact Blk.new W _ _, kk.size, by omega, by omega⟩
  obtain ⟨g, hg⟩ : ∃ g, W.heap.size = g := ⟨_, rfl⟩
  rw [hg] at h0 ⊢
  clear hW0 kk ht hlo hlob hg
  go_loopw [5, 7] (fun t i wr => ∃ (k b m : Nat) (P : List Ten) (T : Thr), k ≤ l.length ∧ i = .int .i64 k ∧ t = .pointer (some ⟨b, 0, none⟩) ∧ Good k P T ∧ Lp w0 wr b m g (refV P (hsT T)) P T) (fun _ i _ => l.length - (intOf i).toNat)
  case atStart => exact ⟨0, _, _, _, _, by omega, rfl, rfl, Good.new, h0⟩
  case round =>
    obtain ⟨k, b, m, P, T, hk, rfl, rfl, hG, hL⟩ := hrel
    rename_i wr
    clear h0
    have HL := Lib.hid (hsT_L hL.t.len T)
    have HSZ := Lib.hid (hsT_L hL.t.len T).size
    by_cases hlt : k < l.length
    · obtain ⟨ba, off, rfl, hA⟩ : ∃ b off, ad = some ⟨b, off, none⟩ ∧ ∀ i (h : i < l.length), ActAt w.heap.size w b (off + i * 6) l[i] := by
        obtain ⟨_, _, hv, _, _, h⟩ := HV.out
        simp only [Value.slice.injEq] at hv
        obtain ⟨rfl, _⟩ := hv
        rcases h with h | h
        · rw [h] at hlt; simp at hlt
        · exact h
      have hAk := (hA k hlt).below k0 (Nat.le_refl _)
      clear hA
      obtain ⟨z, hz⟩ : ∃ z, l[k] = z := ⟨_, rfl⟩
      rw [hz] at hAk
      have i0 : (0 : Int) ≤ k := by omega
      have i1 : (k : Int) < l.length := by omega
      have HACT := Lib.hid (fun (Y : World) (h : DkAt Y b m P T) => act_ok' h hG (by omega) z)
      have hG' := hG.act (toA z)
      obtain ⟨P', hP'⟩ : ∃ P', actP P T (toA z) = P' := ⟨_, rfl⟩
      obtain ⟨T', hT'⟩ : ∃ T', actT P T (toA z) = T' := ⟨_, rfl⟩
      rw [hP', hT'] at hG'
      rw [hP', hT'] at HACT
      have HG' := Lib.hid hG'
      have HSZ' := Lib.hid (hsT_L hG'.len T').size
      have HQ := Lib.hid (fun (Y : World) (j : Below w0.heap.size w0 Y) => PlyC.mk' (hAk.below j hwz))
      have hst := HQ.out _ hL.k.drew
      have hL2 := hL.step (Below.refl _ wr).drew
      have HL2 := Lib.hid hL2
      clear hz hL hL2 hAk hP' hT' hG hG'
      go_wp2_with fail
      refine wp_onlyN ?_
      refine wp_region_held_drew (S := PlyC ba (off + k * 6) z) (by kernel_rfl) hst (fun hHeld => ?_)
      have hL2 := HL2.out
      clear HL2 hst
      change wpAnyH _ _ _ _ _ _ _ _ wr.drew
      generalize wr.drew = Y at hL2 hHeld ⊢
      refine wpAnyH_take (i := 0) (v := ?_) rfl (by kernel_rfl) (by kernel_rfl) (by kernel_rfl) (fun _ _ _ h => h) (Or.inl ⟨by rfl, ?_⟩) (by assumption) ?_
      rotate_left
      · (intro Y hSw; (try dsimp only at hSw); obtain ⟨hS0, hS1, hS2, hS3, hS4, hS5⟩ := hSw; go_simp; try with_reducible rfl)
      try simp only [Act.put, List.getElem_toArray, List.getElem_cons_zero, List.getElem_cons_succ, List.setIfInBounds_toArray, List.set_cons_zero, List.set_cons_succ]
      refine wpAnyH_take (i := 2) (v := ?_) rfl (by kernel_rfl) (by kernel_rfl) (by kernel_rfl) (fun _ _ _ h => h) (Or.inl ⟨by rfl, ?_⟩) (by assumption) ?_
      rotate_left
      · (intro Y hSw; (try dsimp only at hSw); obtain ⟨hS0, hS1, hS2, hS3, hS4, hS5⟩ := hSw; go_simp; try with_reducible rfl)
      try simp only [Act.put, List.getElem_toArray, List.getElem_cons_zero, List.getElem_cons_succ, List.setIfInBounds_toArray, List.set_cons_zero, List.set_cons_succ]
      refine wpAnyH_take (i := 3) (v := ?_) rfl (by kernel_rfl) (by kernel_rfl) (by kernel_rfl) (fun _ _ _ h => h) (Or.inl ⟨by rfl, ?_⟩) (by assumption) ?_
      rotate_left
      · (intro Y hSw; (try dsimp only at hSw); obtain ⟨hS0, hS1, hS2, hS3, hS4, hS5⟩ := hSw; go_simp; try with_reducible rfl)
      try simp only [Act.put, List.getElem_toArray, List.getElem_cons_zero, List.getElem_cons_succ, List.setIfInBounds_toArray, List.set_cons_zero, List.set_cons_succ]
      refine wpAnyH_take (i := 4) (v := ?_) rfl (by kernel_rfl) (by kernel_rfl) (by kernel_rfl) (fun _ _ _ h => h) (Or.inl ⟨by rfl, ?_⟩) (by assumption) ?_
      rotate_left
      · (intro Y hSw; (try dsimp only at hSw); obtain ⟨hS0, hS1, hS2, hS3, hS4, hS5⟩ := hSw; go_simp; try with_reducible rfl)
      try simp only [Act.put, List.getElem_toArray, List.getElem_cons_zero, List.getElem_cons_succ, List.setIfInBounds_toArray, List.set_cons_zero, List.set_cons_succ]
      refine wpAnyH_take (i := 5) (v := ?_) rfl (by kernel_rfl) (by kernel_rfl) (by kernel_rfl) (fun _ _ _ h => h) (Or.inl ⟨by rfl, ?_⟩) (by assumption) ?_
      rotate_left
      · (intro Y hSw; (try dsimp only at hSw); obtain ⟨hS0, hS1, hS2, hS3, hS4, hS5⟩ := hSw; go_simp; try with_reducible rfl)
      try simp only [Act.put, List.getElem_toArray, List.getElem_cons_zero, List.getElem_cons_succ, List.setIfInBounds_toArray, List.set_cons_zero, List.set_cons_succ]
      refine wpAnyH_ready (rs := [1]) (by kernel_rfl) (by simp) ?_
      refine AllReadyH.cons rfl (fun K hK => ?_) AllReadyH.nil
      rw [if_pos (by rfl)]
      refine wp_loadB ty24 _ rfl g rfl hL2.x HSZ.out ?_
      refine hK.out _ _ (hHeld) (fun hHeld => ?_)
      clear hK K
      try simp only [Act.put, List.getElem_toArray, List.getElem_cons_zero, List.getElem_cons_succ, List.setIfInBounds_toArray, List.set_cons_zero, List.set_cons_succ]
      refine wpAnyH_ready (rs := [6]) (by kernel_rfl) (by simp) ?_
      refine AllReadyH.cons rfl (fun K hK => ?_) AllReadyH.nil
      go_simp
      refine (HACT.out Y hL2.t).mono ?_; rintro e Z ⟨b', m', hE2⟩
      have he := hE2.1.e
      subst he
      have hL3 := hL2.act hE2
      clear hE2 hL2
      go_simp
      refine hK.out _ _ (HQ.out _ hL3.k) (fun hHeld => ?_)
      clear hK K
      try simp only [Act.put, List.getElem_toArray, List.getElem_cons_zero, List.getElem_cons_succ, List.setIfInBounds_toArray, List.set_cons_zero, List.set_cons_succ]
      refine wpAnyH_take (i := 7) (v := ?_) rfl (by kernel_rfl) (by kernel_rfl) (by kernel_rfl) (fun _ _ _ h => h) (Or.inl ⟨by rfl, ?_⟩) (by assumption) ?_
      rotate_left
      · (intro Y hSw; (try dsimp only at hSw); obtain ⟨hS0, hS1, hS2, hS3, hS4, hS5⟩ := hSw; go_simp; try with_reducible rfl)
      try simp only [Act.put, List.getElem_toArray, List.getElem_cons_zero, List.getElem_cons_succ, List.setIfInBounds_toArray, List.set_cons_zero, List.set_cons_succ]
      refine wpAnyH_take (i := 8) (v := ?_) rfl (by kernel_rfl) (by kernel_rfl) (by kernel_rfl) (fun _ _ _ h => h) (Or.inl ⟨by rfl, ?_⟩) (by assumption) ?_
      rotate_left
      · (intro Y hSw; (try dsimp only at hSw); obtain ⟨hS0, hS1, hS2, hS3, hS4, hS5⟩ := hSw; go_simp; try with_reducible rfl)
      try simp only [Act.put, List.getElem_toArray, List.getElem_cons_zero, List.getElem_cons_succ, List.setIfInBounds_toArray, List.set_cons_zero, List.set_cons_succ]
      refine wpAnyH_take (i := 9) (v := ?_) rfl (by kernel_rfl) (by kernel_rfl) (by kernel_rfl) (fun _ _ _ h => h) (Or.inl ⟨by rfl, ?_⟩) (by assumption) ?_
      rotate_left
      · (intro Y hSw; (try dsimp only at hSw); obtain ⟨hS0, hS1, hS2, hS3, hS4, hS5⟩ := hSw; go_simp; try with_reducible rfl)
      try simp only [Act.put, List.getElem_toArray, List.getElem_cons_zero, List.getElem_cons_succ, List.setIfInBounds_toArray, List.set_cons_zero, List.set_cons_succ]
      refine wpAnyH_take (i := 10) (v := ?_) rfl (by kernel_rfl) (by kernel_rfl) (by kernel_rfl) (fun _ _ _ h => h) (Or.inl ⟨by rfl, ?_⟩) (by assumption) ?_
      rotate_left
      · (intro Y hSw; (try dsimp only at hSw); obtain ⟨hS0, hS1, hS2, hS3, hS4, hS5⟩ := hSw; go_simp; try with_reducible rfl)
      try simp only [Act.put, List.getElem_toArray, List.getElem_cons_zero, List.getElem_cons_succ, List.setIfInBounds_toArray, List.set_cons_zero, List.set_cons_succ]
      refine wpAnyH_take (i := 11) (v := ?_) rfl (by kernel_rfl) (by kernel_rfl) (by kernel_rfl) (fun _ _ _ h => h) (Or.inl ⟨by rfl, ?_⟩) (by assumption) ?_
      rotate_left
      · (intro Y hSw; (try dsimp only at hSw); obtain ⟨hS0, hS1, hS2, hS3, hS4, hS5⟩ := hSw; go_simp; try with_reducible rfl)
      try simp only [Act.put, List.getElem_toArray, List.getElem_cons_zero, List.getElem_cons_succ, List.setIfInBounds_toArray, List.set_cons_zero, List.set_cons_succ]
      refine wpAnyH_ready (rs := [12]) (by kernel_rfl) (by simp) ?_
      refine AllReadyH.cons rfl (fun K hK => ?_) AllReadyH.nil
      rw [if_pos (by rfl)]
      refine wp_storeB ty24 _ _ rfl g (refV P' (hsT T')) rfl rfl hL3.x HSZ.out HSZ'.out (refV_one _ _) ?_
      have hL4 := hL3.put (refV P' (hsT T')) (HSZ'.out.trans HSZ.out.symm)
      refine hK.out _ _ (HQ.out _ hL4.k) (fun hHeld => ?_)
      clear hK K
      try simp only [Act.put, List.getElem_toArray, List.getElem_cons_zero, List.getElem_cons_succ, List.setIfInBounds_toArray, List.set_cons_zero, List.set_cons_succ]
      refine wpAnyH_done (by kernel_rfl) ?_ _
      rw [onlyN_normal]
      clear hL3 hHeld
      go_wp2_with fail
      exact ⟨⟨k + 1, b', m', P', T', by omega, by go_num, rfl, by have := HG'.out; rw [show ((k + 1 : Nat) : Int) = (k : Int) + 1 by omega]; exact this, hL4⟩, by simp [intOf]; omega⟩
    · obtain rfl : k = l.length := by omega
      have hG41 : Good 41 P T := hG.up (by omega)
      have HG := Lib.hid hG41
      clear hlt hk HV hcap hml hG hG41
      go_wp2_with fail
      refine (Copy_ok hL.t).mono ?_; rintro e W1 ⟨c, mc, rfl, hC, l1, l2, k1⟩
      have hbl0 := hL.t.blk.lt
      have hml0 := hL.t.mp.lt
      have hgl0 := hL.x.lt
      have hwl0 := hL.k.size
      have hL1 := hL.step k1
      have hz1 := k1.size
      have hcl := hC.blk.lt
      have hmcl := hC.mp.lt
      clear hL k1
      go_wp2_with fail
      refine (All_live hL1.t).mono ?_; rintro e W2 ⟨sx, rfl, hS, lx, k2⟩
      have hL2 := hL1.step k2
      have hC2 := hC.step k2
      have hzB := k2.size
      have hsl := hS.lt
      have hbt := HTW.out _ hL2.k
      have t0 : W2.cell? ⟨w.heap.size, 0, none⟩ = some (.int .i64 x.f0) := hbt.cell 0 rfl
      have t1 : W2.cell? ⟨w.heap.size, 1, none⟩ = some (.int .i64 x.f1) := hbt.cell 1 rfl
      have t2 : W2.cell? ⟨w.heap.size, 2, none⟩ = some (.int .i64 x.f2) := hbt.cell 2 rfl
      have t3 : W2.cell? ⟨w.heap.size, 3, none⟩ = some (.int .i64 x.f3) := hbt.cell 3 rfl
      have t4 : W2.cell? ⟨w.heap.size, 4, none⟩ = some (.int .i64 x.f4) := hbt.cell 4 rfl
      have t5 : W2.cell? ⟨w.heap.size, 5, none⟩ = some (.int .i64 x.f5) := hbt.cell 5 rfl
      clear hL1 hC k2 hbt
      go_wp2_with (first | refine wpList_loadB ty24 rfl _ rfl g rfl hL2.x HSZ.out ?_)
      refine (act_ok' hL2.t HG.out (by decide) x).mono ?_; rintro e W3 ⟨b1, m1, hE⟩
      have he := hE.1.e
      subst he
      clear t0 t1 t2 t3 t4 t5
      have hg1 := HG.out.act (toA x)
      obtain ⟨P1, hP1⟩ : ∃ P1, actP P T (toA x) = P1 := ⟨_, rfl⟩
      obtain ⟨T1, hT1⟩ : ∃ T1, actT P T (toA x) = T1 := ⟨_, rfl⟩
      rw [hP1, hT1] at hE hg1 ⊢
      have HG1 := Lib.hid hg1
      have HSZ1 := Lib.hid (hsT_L hg1.len T1).size
      have hC3 : DkAt W3 c mc P T := hE.1.k.dk hC2 (by omega) (by omega) (by omega) (by omega)
      have hS3 := hE.1.k.blk hS (by omega) (by omega)
      have hP3 := hL2.act hE
      have hbc : b1 ≠ c ∧ b1 ≠ mc ∧ m1 ≠ c ∧ m1 ≠ mc := by
        rcases hE.2 with ⟨rfl, rfl⟩ | ⟨h1, h2, _⟩
        · exact ⟨by omega, by omega, by omega, by omega⟩
        · exact ⟨by omega, by omega, by omega, by omega⟩
      have hz3 := hE.1.k.size
      have hlw := hL2.k.size
      clear hE hL2 hC2 hS hP1 hT1 hg1
      obtain ⟨n1, n2, n3, n4⟩ := hbc
      have hx3 := hP3.x
      go_wp2_with (first | (refine wpList_storeB (old := zerV) (t' := 52) ty24 rfl _ _ rfl W3.heap.size (refV P1 (hsT T1)) rfl rfl ?q1 rfl HSZ1.out (refV_one _ _) ?_; exact Blk.new _ _ _; generalize hZ : World.setCells _ W3.heap.size 0 _ = W4; have k4 : Below W3.heap.size W3 W4 := (by rw [← hZ]; exact bel_setCells ((Below.refl _ W3).alloc (Nat.le_refl _) _) (Nat.le_refl _) _ _); have hxa : Blk W4 W3.heap.size (refV P1 (hsT T1)) 52 := (by rw [← hZ]; exact (Blk.new W3 _ _).whole _ (HSZ1.out.trans rfl)); clear hZ; have hP4 := hP3.step k4; have hbt := HTW.out _ hP4.k; have t0 : W4.cell? ⟨w.heap.size, 6, none⟩ = some (.int .i64 y.f0) := hbt.cell 6 rfl; have t1 : W4.cell? ⟨w.heap.size, 7, none⟩ = some (.int .i64 y.f1) := hbt.cell 7 rfl; have t2 : W4.cell? ⟨w.heap.size, 8, none⟩ = some (.int .i64 y.f2) := hbt.cell 8 rfl; have t3 : W4.cell? ⟨w.heap.size, 9, none⟩ = some (.int .i64 y.f3) := hbt.cell 9 rfl; have t4 : W4.cell? ⟨w.heap.size, 10, none⟩ = some (.int .i64 y.f4) := hbt.cell 10 rfl; have t5 : W4.cell? ⟨w.heap.size, 11, none⟩ = some (.int .i64 y.f5) := hbt.cell 11 rfl; clear hbt) | refine wpList_loadB ty24 rfl _ rfl g rfl hP4.x HSZ.out ?_)
      obtain ⟨o1, ho1⟩ : ∃ o1, W3.heap.size = o1 := ⟨_, rfl⟩
      have HO1 := Lib.hid ho1
      have hC4 := hC3.step k4
      have hS4 := hS3.below k4 hS3.lt
      have hz4 := k4.size
      rw [ho1] at hxa hz3 hz4
      clear hP3 hC3 hS3 hx3 k4 t0 t1 t2 t3 t4 t5 ho1
      refine (act_ok' hC4 HG.out (by decide) y).mono ?_; rintro e W5 ⟨b2, m2, hE⟩
      have he := hE.1.e
      subst he
      have hg2 := HG.out.act (toA y)
      obtain ⟨P2, hP2⟩ : ∃ P2, actP P T (toA y) = P2 := ⟨_, rfl⟩
      obtain ⟨T2, hT2⟩ : ∃ T2, actT P T (toA y) = T2 := ⟨_, rfl⟩
      rw [hP2, hT2] at hE hg2 ⊢
      have HG2 := Lib.hid hg2
      have HSZ2 := Lib.hid (hsT_L hg2.len T2).size
      have hA5 : DkAt W5 b1 m1 P1 T1 := hE.1.k.dk hP4.t n1 n2 n3 n4
      have hx5 := hE.1.k.blk hP4.x (by omega) (by omega)
      have hxa5 := hE.1.k.blk hxa (by omega) (by omega)
      have hS5 := hE.1.k.blk hS4 (by omega) (by omega)
      have hD5 := hE.1.d
      have kk5 := hP4.k.trans (hE.1.k.below (show w0.heap.size ≤ c by omega) (show w0.heap.size ≤ mc by omega) hP4.k.size)
      have hz5 := hE.1.k.size
      clear hE hP4 hC4 hS4 hxa hP2 hT2 hg2
      go_wp2_with (first | (refine wpList_storeB (old := zerV) (t' := 52) ty24 rfl _ _ rfl W5.heap.size (refV P2 (hsT T2)) rfl rfl ?q5 rfl HSZ2.out (refV_one _ _) ?_; exact Blk.new _ _ _; generalize hZ : World.setCells _ W5.heap.size 0 _ = W6; have k6 : Below W5.heap.size W5 W6 := (by rw [← hZ]; exact bel_setCells ((Below.refl _ W5).alloc (Nat.le_refl _) _) (Nat.le_refl _) _ _); have hxb : Blk W6 W5.heap.size (refV P2 (hsT T2)) 52 := (by rw [← hZ]; exact (Blk.new W5 _ _).whole _ (HSZ2.out.trans rfl)); clear hZ))
      rw [HO1.out]
      obtain ⟨o2, ho2⟩ : ∃ o2, W5.heap.size = o2 := ⟨_, rfl⟩
      rw [ho2] at hxb ⊢
      have HC6 : Cp w0 W6 b1 m1 b2 m2 P1 P2 P T1 T2 T 42 g o1 o2 sx :=
        ⟨hA5.step k6, HG1.out, hD5.step k6, HG2.out, hx5.below k6 hx5.lt, hxa5.below k6 hxa5.lt, hxb, hS5.below k6 hS5.lt, kk5.trans (k6.mono kk5.size)⟩
      clear hA5 hx5 hxa5 hS5 hD5 k6 hxb ho2 kk5
      obtain ⟨d, hd⟩ : ∃ d, (decide (P1 = P2) && decide (T1 = T2)) = d := ⟨_, rfl⟩
      have hd2 : (decide (P2 = P1) && decide (T2 = T1)) = d := by rw [← hd]; congr 1 <;> exact decide_eq_decide.2 eq_comm
      have hd3 : (decide (P1 = P2) && decide (hsT T1 = hsT T2)) = d := by rw [← hd]; exact same_dec HG1.out HG2.out
      have HD1 := Lib.hid hd
      have HD2 := Lib.hid hd2
      have eqr := fun Y => eq_ref (hsT_L HG1.out.len T1) (hsT_L HG2.out.len T2) Y
      simp only [hd3] at eqr
      have HEQ := Lib.hid eqr
      have hlT1 := thr_len HG1.out.srt HG1.out.key
      have hlT2 := thr_len HG2.out.srt HG2.out.key
      clear hd hd2 hd3 eqr
      refine wp_onlyN ?_
      have HC7 := HC6.step (Below.refl _ W6).drew
      refine wp_region_held_drew (S := CoS o1 o2 (refV P1 (hsT T1)) (refV P2 (hsT T2))) (by kernel_rfl) ⟨HC7.xa, HC7.xb⟩ (fun hHeld => ?_)
      clear HC6
      change wpAnyH _ _ _ _ _ _ _ _ W6.drew
      generalize W6.drew = Y at HC7 hHeld ⊢
      refine wpAnyH_take (i := 0) (v := ?_) rfl (by kernel_rfl) (by kernel_rfl) (by kernel_rfl) (fun _ _ _ h => h) (Or.inl ⟨by rfl, ?_⟩) (by assumption) ?_
      rotate_left
      · (intro Y hSw; (try dsimp only at hSw); obtain ⟨hS0, hS1⟩ := hSw; go_simp; try with_reducible rfl)
      try simp only [Act.put, List.getElem_toArray, List.getElem_cons_zero, List.getElem_cons_succ, List.setIfInBounds_toArray, List.set_cons_zero, List.set_cons_succ]
      refine wpAnyH_take (i := 1) (v := ?_) rfl (by kernel_rfl) (by kernel_rfl) (by kernel_rfl) (fun _ _ _ h => h) (Or.inl ⟨by rfl, ?_⟩) (by assumption) ?_
      rotate_left
      · (intro Y hSw; (try dsimp only at hSw); obtain ⟨hS0, hS1⟩ := hSw; go_simp; try with_reducible rfl)
      try simp only [Act.put, List.getElem_toArray, List.getElem_cons_zero, List.getElem_cons_succ, List.setIfInBounds_toArray, List.set_cons_zero, List.set_cons_succ]
      refine wpAnyH_take (i := 2) (v := ?_) rfl (by kernel_rfl) (by kernel_rfl) (by kernel_rfl) (fun _ _ _ h => h) (Or.inl ⟨by rfl, ?_⟩) (by assumption) ?_
      rotate_left
      · (intro Y hSw; (try dsimp only at hSw); obtain ⟨hS0, hS1⟩ := hSw; go_simp; try with_reducible rfl)
      try simp only [Act.put, List.getElem_toArray, List.getElem_cons_zero, List.getElem_cons_succ, List.setIfInBounds_toArray, List.set_cons_zero, List.set_cons_succ]
      refine wpAnyH_take (i := 3) (v := ?_) rfl (by kernel_rfl) (by kernel_rfl) (by kernel_rfl) (fun _ _ _ h => h) (Or.inl ⟨by rfl, ?_⟩) (by assumption) ?_
      rotate_left
      · (intro Y hSw; (try dsimp only at hSw); obtain ⟨hS0, hS1⟩ := hSw; go_simp; try with_reducible rfl)
      try simp only [Act.put, List.getElem_toArray, List.getElem_cons_zero, List.getElem_cons_succ, List.setIfInBounds_toArray, List.set_cons_zero, List.set_cons_succ]
      refine wpAnyH_take (i := 4) (v := ?_) rfl (by kernel_rfl) (by kernel_rfl) (by kernel_rfl) (fun _ _ _ h => h) (Or.inl ⟨by rfl, ?_⟩) (by assumption) ?_
      rotate_left
      · (intro Y hSw; (try dsimp only at hSw); obtain ⟨hS0, hS1⟩ := hSw; go_simp; try with_reducible rfl)
      try simp only [Act.put, List.getElem_toArray, List.getElem_cons_zero, List.getElem_cons_succ, List.setIfInBounds_toArray, List.set_cons_zero, List.set_cons_succ]
      refine wpAnyH_take (i := 5) (v := ?_) rfl (by kernel_rfl) (by kernel_rfl) (by kernel_rfl) (fun _ _ _ h => h) (Or.inl ⟨by rfl, ?_⟩) (by assumption) ?_
      rotate_left
      · (intro Y hSw; (try dsimp only at hSw); obtain ⟨hS0, hS1⟩ := hSw; go_simp; try with_reducible rfl)
      try simp only [Act.put, List.getElem_toArray, List.getElem_cons_zero, List.getElem_cons_succ, List.setIfInBounds_toArray, List.set_cons_zero, List.set_cons_succ]
      refine wpAnyH_take (i := 6) (v := ?_) rfl (by kernel_rfl) (by kernel_rfl) (by kernel_rfl) (fun _ _ _ h => h) (Or.inl ⟨by rfl, ?_⟩) (by assumption) ?_
      rotate_left
      · (intro Y hSw; (try dsimp only at hSw); obtain ⟨hS0, hS1⟩ := hSw; go_simp; try with_reducible rfl)
      try simp only [Act.put, List.getElem_toArray, List.getElem_cons_zero, List.getElem_cons_succ, List.setIfInBounds_toArray, List.set_cons_zero, List.set_cons_succ]
      refine wpAnyH_take (i := 7) (v := ?_) rfl (by kernel_rfl) (by kernel_rfl) (by kernel_rfl) (fun _ _ _ h => h) (Or.inl ⟨by rfl, ?_⟩) (by assumption) ?_
      rotate_left
      · (intro Y hSw; (try dsimp only at hSw); obtain ⟨hS0, hS1⟩ := hSw; go_simp; try with_reducible rfl)
      try simp only [Act.put, List.getElem_toArray, List.getElem_cons_zero, List.getElem_cons_succ, List.setIfInBounds_toArray, List.set_cons_zero, List.set_cons_succ]
      refine wpAnyH_take (i := 8) (v := .agg (refV P1 (hsT T1))) rfl (by kernel_rfl) (by kernel_rfl) (by kernel_rfl) (fun _ _ _ h => h) (Or.inl ⟨by rfl, fun Y hSw => exec_loadB ty24 _ rfl o1 rfl hSw.a HSZ1.out⟩) (by assumption) ?_
      try simp only [Act.put, List.getElem_toArray, List.getElem_cons_zero, List.getElem_cons_succ, List.setIfInBounds_toArray, List.set_cons_zero, List.set_cons_succ]
      refine wpAnyH_ready (rs := [9]) (by kernel_rfl) (by simp) ?_
      refine AllReadyH.cons rfl (fun K hK => ?_) AllReadyH.nil
      go_simp
      refine (is_all HC7.a HC7.ga).mono ?_; rintro e u1 ⟨rfl, j1⟩
      have HU1 := HC7.step j1
      clear HC7 j1
      go_simp
      refine hK.out _ _ (⟨HU1.xa, HU1.xb⟩) (fun hHeld => ?_)
      clear hK K
      try simp only [Act.put, List.getElem_toArray, List.getElem_cons_zero, List.getElem_cons_succ, List.setIfInBounds_toArray, List.set_cons_zero, List.set_cons_succ]
      refine wpAnyH_take (i := 10) (v := ?_) rfl (by kernel_rfl) (by kernel_rfl) (by kernel_rfl) (fun _ _ _ h => h) (Or.inl ⟨by rfl, ?_⟩) (by assumption) ?_
      rotate_left
      · (intro Y hSw; (try dsimp only at hSw); obtain ⟨hS0, hS1⟩ := hSw; go_simp; try with_reducible rfl)
      try simp only [Act.put, List.getElem_toArray, List.getElem_cons_zero, List.getElem_cons_succ, List.setIfInBounds_toArray, List.set_cons_zero, List.set_cons_succ]
      refine wpAnyH_take (i := 11) (v := ?_) rfl (by kernel_rfl) (by kernel_rfl) (by kernel_rfl) (fun _ _ _ h => h) (Or.inl ⟨by rfl, ?_⟩) (by assumption) ?_
      rotate_left
      · (intro Y hSw; (try dsimp only at hSw); obtain ⟨hS0, hS1⟩ := hSw; go_simp; try with_reducible rfl)
      try simp only [Act.put, List.getElem_toArray, List.getElem_cons_zero, List.getElem_cons_succ, List.setIfInBounds_toArray, List.set_cons_zero, List.set_cons_succ]
      refine wpAnyH_take (i := 12) (v := ?_) rfl (by kernel_rfl) (by kernel_rfl) (by kernel_rfl) (fun _ _ _ h => h) (Or.inl ⟨by rfl, ?_⟩) (by assumption) ?_
      rotate_left
      · (intro Y hSw; (try dsimp only at hSw); obtain ⟨hS0, hS1⟩ := hSw; go_simp; try with_reducible rfl)
      try simp only [Act.put, List.getElem_toArray, List.getElem_cons_zero, List.getElem_cons_succ, List.setIfInBounds_toArray, List.set_cons_zero, List.set_cons_succ]
      refine wpAnyH_take (i := 13) (v := ?_) rfl (by kernel_rfl) (by kernel_rfl) (by kernel_rfl) (fun _ _ _ h => h) (Or.inl ⟨by rfl, ?_⟩) (by assumption) ?_
      rotate_left
      · (intro Y hSw; (try dsimp only at hSw); obtain ⟨hS0, hS1⟩ := hSw; go_simp; try with_reducible rfl)
      try simp only [Act.put, List.getElem_toArray, List.getElem_cons_zero, List.getElem_cons_succ, List.setIfInBounds_toArray, List.set_cons_zero, List.set_cons_succ]
      refine wpAnyH_take (i := 14) (v := .agg (refV P2 (hsT T2))) rfl (by kernel_rfl) (by kernel_rfl) (by kernel_rfl) (fun _ _ _ h => h) (Or.inl ⟨by rfl, fun Y hSw => exec_loadB ty24 _ rfl o2 rfl hSw.b HSZ2.out⟩) (by assumption) ?_
      try simp only [Act.put, List.getElem_toArray, List.getElem_cons_zero, List.getElem_cons_succ, List.setIfInBounds_toArray, List.set_cons_zero, List.set_cons_succ]
      refine wpAnyH_ready (rs := [15]) (by kernel_rfl) (by simp) ?_
      refine AllReadyH.cons rfl (fun K hK => ?_) AllReadyH.nil
      go_simp
      refine (is_all HU1.b HU1.gb).mono ?_; rintro e u2 ⟨rfl, j2⟩
      have HU2 := HU1.step j2
      clear HU1 j2
      go_simp
      refine hK.out _ _ (⟨HU2.xa, HU2.xb⟩) (fun hHeld => ?_)
      clear hK K
      try simp only [Act.put, List.getElem_toArray, List.getElem_cons_zero, List.getElem_cons_succ, List.setIfInBounds_toArray, List.set_cons_zero, List.set_cons_succ]
      refine wpAnyH_take (i := 16) (v := ?_) rfl (by kernel_rfl) (by kernel_rfl) (by kernel_rfl) (fun _ _ _ h => h) (Or.inl ⟨by rfl, ?_⟩) (by assumption) ?_
      rotate_left
      · (intro Y hSw; (try dsimp only at hSw); obtain ⟨hS0, hS1⟩ := hSw; go_simp; try with_reducible rfl)
      try simp only [Act.put, List.getElem_toArray, List.getElem_cons_zero, List.getElem_cons_succ, List.setIfInBounds_toArray, List.set_cons_zero, List.set_cons_succ]
      refine wpAnyH_take (i := 17) (v := ?_) rfl (by kernel_rfl) (by kernel_rfl) (by kernel_rfl) (fun _ _ _ h => h) (Or.inl ⟨by rfl, ?_⟩) (by assumption) ?_
      rotate_left
      · (intro Y hSw; (try dsimp only at hSw); obtain ⟨hS0, hS1⟩ := hSw; go_simp; try with_reducible rfl)
      try simp only [Act.put, List.getElem_toArray, List.getElem_cons_zero, List.getElem_cons_succ, List.setIfInBounds_toArray, List.set_cons_zero, List.set_cons_succ]
      refine wpAnyH_take (i := 18) (v := ?_) rfl (by kernel_rfl) (by kernel_rfl) (by kernel_rfl) (fun _ _ _ h => h) (Or.inl ⟨by rfl, ?_⟩) (by assumption) ?_
      rotate_left
      · (intro Y hSw; (try dsimp only at hSw); obtain ⟨hS0, hS1⟩ := hSw; go_simp; try with_reducible rfl)
      try simp only [Act.put, List.getElem_toArray, List.getElem_cons_zero, List.getElem_cons_succ, List.setIfInBounds_toArray, List.set_cons_zero, List.set_cons_succ]
      refine wpAnyH_take (i := 19) (v := ?_) rfl (by kernel_rfl) (by kernel_rfl) (by kernel_rfl) (fun _ _ _ h => h) (Or.inl ⟨by rfl, ?_⟩) (by assumption) ?_
      rotate_left
      · (intro Y hSw; (try dsimp only at hSw); obtain ⟨hS0, hS1⟩ := hSw; go_simp; try with_reducible rfl)
      try simp only [Act.put, List.getElem_toArray, List.getElem_cons_zero, List.getElem_cons_succ, List.setIfInBounds_toArray, List.set_cons_zero, List.set_cons_succ]
      refine wpAnyH_take (i := 20) (v := ?_) rfl (by kernel_rfl) (by kernel_rfl) (by kernel_rfl) (fun _ _ _ h => h) (Or.inl ⟨by rfl, ?_⟩) (by assumption) ?_
      rotate_left
      · (intro Y hSw; (try dsimp only at hSw); obtain ⟨hS0, hS1⟩ := hSw; go_simp; try with_reducible rfl)
      try simp only [Act.put, List.getElem_toArray, List.getElem_cons_zero, List.getElem_cons_succ, List.setIfInBounds_toArray, List.set_cons_zero, List.set_cons_succ]
      refine wpAnyH_take (i := 22) (v := .agg (refV P1 (hsT T1))) rfl (by kernel_rfl) (by kernel_rfl) (by kernel_rfl) (fun _ _ _ h => h) (Or.inl ⟨by rfl, fun Y hSw => exec_loadB ty24 _ rfl o1 rfl hSw.a HSZ1.out⟩) (by assumption) ?_
      try simp only [Act.put, List.getElem_toArray, List.getElem_cons_zero, List.getElem_cons_succ, List.setIfInBounds_toArray, List.set_cons_zero, List.set_cons_succ]
      refine wpAnyH_take (i := 23) (v := .agg (refV P2 (hsT T2))) rfl (by kernel_rfl) (by kernel_rfl) (by kernel_rfl) (fun _ _ _ h => h) (Or.inl ⟨by rfl, fun Y hSw => exec_loadB ty24 _ rfl o2 rfl hSw.b HSZ2.out⟩) (by assumption) ?_
      try simp only [Act.put, List.getElem_toArray, List.getElem_cons_zero, List.getElem_cons_succ, List.setIfInBounds_toArray, List.set_cons_zero, List.set_cons_succ]
      refine wpAnyH_take (i := 24) (v := .bool d) rfl (by kernel_rfl) (by kernel_rfl) (by kernel_rfl) (fun _ _ _ h => h) (Or.inl ⟨by rfl, fun Y _ => exec_eqR _ _ rfl rfl rfl (by kernel_rfl) (HEQ.out Y)⟩) (by assumption) ?_
      try simp only [Act.put, List.getElem_toArray, List.getElem_cons_zero, List.getElem_cons_succ, List.setIfInBounds_toArray, List.set_cons_zero, List.set_cons_succ]
      refine wpAnyH_ready (rs := [21]) (by kernel_rfl) (by simp) ?_
      refine AllReadyH.cons rfl (fun K hK => ?_) AllReadyH.nil
      go_simp
      refine (Same_ok HU2.a HU2.b HU2.ga.srt HU2.gb.srt (by omega) (by omega)).mono ?_; rintro e u3 ⟨rfl, j3⟩
      have HU3 := HU2.step j3
      rw [HD1.out]
      clear HU2 j3
      go_simp
      refine hK.out _ _ (⟨HU3.xa, HU3.xb⟩) (fun hHeld => ?_)
      clear hK K
      try simp only [Act.put, List.getElem_toArray, List.getElem_cons_zero, List.getElem_cons_succ, List.setIfInBounds_toArray, List.set_cons_zero, List.set_cons_succ]
      refine wpAnyH_take (i := 25) (v := ?_) rfl (by kernel_rfl) (by kernel_rfl) (by kernel_rfl) (fun _ _ _ h => h) (Or.inl ⟨by rfl, ?_⟩) (by assumption) ?_
      rotate_left
      · (intro Y hSw; (try dsimp only at hSw); obtain ⟨hS0, hS1⟩ := hSw; go_simp; try with_reducible rfl)
      try simp only [Act.put, List.getElem_toArray, List.getElem_cons_zero, List.getElem_cons_succ, List.setIfInBounds_toArray, List.set_cons_zero, List.set_cons_succ]
      refine wpAnyH_take (i := 26) (v := ?_) rfl (by kernel_rfl) (by kernel_rfl) (by kernel_rfl) (fun _ _ _ h => h) (Or.inl ⟨by rfl, ?_⟩) (by assumption) ?_
      rotate_left
      · (intro Y hSw; (try dsimp only at hSw); obtain ⟨hS0, hS1⟩ := hSw; go_simp; try with_reducible rfl)
      try simp only [Act.put, List.getElem_toArray, List.getElem_cons_zero, List.getElem_cons_succ, List.setIfInBounds_toArray, List.set_cons_zero, List.set_cons_succ]
      refine wpAnyH_take (i := 27) (v := ?_) rfl (by kernel_rfl) (by kernel_rfl) (by kernel_rfl) (fun _ _ _ h => h) (Or.inl ⟨by rfl, ?_⟩) (by assumption) ?_
      rotate_left
      · (intro Y hSw; (try dsimp only at hSw); obtain ⟨hS0, hS1⟩ := hSw; go_simp; try with_reducible rfl)
      try simp only [Act.put, List.getElem_toArray, List.getElem_cons_zero, List.getElem_cons_succ, List.setIfInBounds_toArray, List.set_cons_zero, List.set_cons_succ]
      refine wpAnyH_take (i := 28) (v := ?_) rfl (by kernel_rfl) (by kernel_rfl) (by kernel_rfl) (fun _ _ _ h => h) (Or.inl ⟨by rfl, ?_⟩) (by assumption) ?_
      rotate_left
      · (intro Y hSw; (try dsimp only at hSw); obtain ⟨hS0, hS1⟩ := hSw; go_simp; try with_reducible rfl)
      try simp only [Act.put, List.getElem_toArray, List.getElem_cons_zero, List.getElem_cons_succ, List.setIfInBounds_toArray, List.set_cons_zero, List.set_cons_succ]
      refine wpAnyH_take (i := 29) (v := ?_) rfl (by kernel_rfl) (by kernel_rfl) (by kernel_rfl) (fun _ _ _ h => h) (Or.inl ⟨by rfl, ?_⟩) (by assumption) ?_
      rotate_left
      · (intro Y hSw; (try dsimp only at hSw); obtain ⟨hS0, hS1⟩ := hSw; go_simp; try with_reducible rfl)
      try simp only [Act.put, List.getElem_toArray, List.getElem_cons_zero, List.getElem_cons_succ, List.setIfInBounds_toArray, List.set_cons_zero, List.set_cons_succ]
      refine wpAnyH_take (i := 31) (v := .agg (refV P1 (hsT T1))) rfl (by kernel_rfl) (by kernel_rfl) (by kernel_rfl) (fun _ _ _ h => h) (Or.inl ⟨by rfl, fun Y hSw => exec_loadB ty24 _ rfl o1 rfl hSw.a HSZ1.out⟩) (by assumption) ?_
      try simp only [Act.put, List.getElem_toArray, List.getElem_cons_zero, List.getElem_cons_succ, List.setIfInBounds_toArray, List.set_cons_zero, List.set_cons_succ]
      refine wpAnyH_take (i := 32) (v := .agg (refV P2 (hsT T2))) rfl (by kernel_rfl) (by kernel_rfl) (by kernel_rfl) (fun _ _ _ h => h) (Or.inl ⟨by rfl, fun Y hSw => exec_loadB ty24 _ rfl o2 rfl hSw.b HSZ2.out⟩) (by assumption) ?_
      try simp only [Act.put, List.getElem_toArray, List.getElem_cons_zero, List.getElem_cons_succ, List.setIfInBounds_toArray, List.set_cons_zero, List.set_cons_succ]
      refine wpAnyH_take (i := 33) (v := .bool d) rfl (by kernel_rfl) (by kernel_rfl) (by kernel_rfl) (fun _ _ _ h => h) (Or.inl ⟨by rfl, fun Y _ => exec_eqR _ _ rfl rfl rfl (by kernel_rfl) (HEQ.out Y)⟩) (by assumption) ?_
      try simp only [Act.put, List.getElem_toArray, List.getElem_cons_zero, List.getElem_cons_succ, List.setIfInBounds_toArray, List.set_cons_zero, List.set_cons_succ]
      refine wpAnyH_ready (rs := [30]) (by kernel_rfl) (by simp) ?_
      refine AllReadyH.cons rfl (fun K hK => ?_) AllReadyH.nil
      go_simp
      refine (Same_ok HU3.b HU3.a HU3.gb.srt HU3.ga.srt (by omega) (by omega)).mono ?_; rintro e u6 ⟨rfl, j5⟩
      have HU6 := HU3.step j5
      rw [HD2.out]
      clear HU3 j5
      go_simp
      refine hK.out _ _ (⟨HU6.xa, HU6.xb⟩) (fun hHeld => ?_)
      clear hK K
      try simp only [Act.put, List.getElem_toArray, List.getElem_cons_zero, List.getElem_cons_succ, List.setIfInBounds_toArray, List.set_cons_zero, List.set_cons_succ]
      refine wpAnyH_take (i := 34) (v := ?_) rfl (by kernel_rfl) (by kernel_rfl) (by kernel_rfl) (fun _ _ _ h => h) (Or.inl ⟨by rfl, ?_⟩) (by assumption) ?_
      rotate_left
      · (intro Y hSw; (try dsimp only at hSw); obtain ⟨hS0, hS1⟩ := hSw; go_simp; try with_reducible rfl)
      try simp only [Act.put, List.getElem_toArray, List.getElem_cons_zero, List.getElem_cons_succ, List.setIfInBounds_toArray, List.set_cons_zero, List.set_cons_succ]
      refine wpAnyH_take (i := 35) (v := ?_) rfl (by kernel_rfl) (by kernel_rfl) (by kernel_rfl) (fun _ _ _ h => h) (Or.inl ⟨by rfl, ?_⟩) (by assumption) ?_
      rotate_left
      · (intro Y hSw; (try dsimp only at hSw); obtain ⟨hS0, hS1⟩ := hSw; go_simp; try with_reducible rfl)
      try simp only [Act.put, List.getElem_toArray, List.getElem_cons_zero, List.getElem_cons_succ, List.setIfInBounds_toArray, List.set_cons_zero, List.set_cons_succ]
      refine wpAnyH_done (by kernel_rfl) ?_ _
      rw [onlyN_normal]
      clear HD1 HD2 hHeld HEQ
      have hfn := HFN.out
      go_wp2_with fail
      clear hfn
      have HC := Lib.hid HU6
      obtain ⟨lb, hlb⟩ : ∃ lb, u6.heap.size = lb := ⟨_, rfl⟩
      have hlb' := hlb
      generalize hU : World.alloc u6 _ = U
      rw [hlb]
      have bU : Blk U lb #[.slice none 0 0] 41 := by rw [← hU, ← hlb]; exact Blk.new _ _ _
      have kU : Below lb u6 U := by rw [← hU, ← hlb]; exact (Below.refl _ _).alloc (Nat.le_refl _) _
      have zU : U.heap.size = lb + 1 := by rw [← hU]; simp [hlb]
      have hV1 : ∀ W, Below lb u6 W → Blk W sx (tensV P).toArray 71 := fun W k => HU6.s.below (hlb ▸ k) HU6.s.lt
      have HVA := Lib.hid hV1
      have hle : (tenL P).length ≤ 4 := tenTo_len P 4
      have zw0 : w0.heap.size ≤ lb := by rw [← hlb]; exact HU6.k.size
      clear hU hV1 HU6 hlb
      refine wp_rangeSA rfl (enters_of Try.func43 (by kernel_rfl) rfl) (All_iter HG.out.len sx) (fun _ => rfl)
        (fun hi pre W => ∃ v, Blk W lb #[v] 41 ∧ W.ownsRow hi 28 2 v pre.length (hndsV pre) ∧ Below lb u6 W ∧ lb + 1 ≤ W.heap.size ∧ lb + 1 ≤ hi ∧ (pre.length : Int) < 2)
        (fun c W => c = .exit 2 ∧ ∃ v pre suf, tenL P = pre ++ suf ∧ (pre.length : Int) = 2 ∧ Blk W lb #[v] 41 ∧ W.ownsRow (lb + 1) 28 2 v pre.length (hndsV pre) ∧ Below lb u6 W ∧ lb + 1 ≤ W.heap.size) ?a1 (fun h => #[.int .i64 h.s, .int .i64 h.g]) 28 ?ha ?hI ?hIx ?hA ?h0 ?hbody ?hdone ?hstop
      case ha => intro m l x W b K hb hK; gi_wp2; exact hK
      case hI => rintro hi pre X Y ⟨v, h1, h2, h3, h4, h5, h6⟩ hk; exact ⟨v, h1.keeps hk, owns_keeps h2 hk, h3.keeps hk (by omega), Nat.le_trans h4 hk.size, h5, h6⟩
      case hIx => rintro c X Y ⟨hc, v, pre, suf, h1, h2, h3, h4, h5, h6⟩ hk; exact ⟨hc, v, pre, suf, h1, h2, h3.keeps hk, owns_keeps h4 hk, h5.keeps hk (by omega), Nat.le_trans h6 hk.size⟩
      case hA => rintro hi pre W ⟨v, h1, h2, h3, h4, h5, h6⟩; exact HVA.out W h3
      case h0 => intro hi hh; exact ⟨_, bU, World.ownsRow_nil _ _ _ _, kU, by omega, by omega, by simp⟩
      case hbody =>
        rintro m lp hi pre ⟨xs, xg⟩ suf W g8 hxs hlp hrec hhi hhW hgb hX ⟨v, h1, h2, h3, h4, h5, h6⟩
        have hpl : pre.length < 2 := by omega
        have c1 : W.cell? ⟨lb, 0, none⟩ = some v := h1.cell 0 rfl
        have x0 : W.cell? ⟨g8, 0, none⟩ = some (.int .i64 xs) := hX.cell 0 rfl
        have x1 : W.cell? ⟨g8, 1, none⟩ = some (.int .i64 xg) := hX.cell 1 rfl
        have hrl := Lib.hid (hndsV_len pre)
        gi_wp2_with (gi_at_builtin; refine wpListIn_append_row rfl _ _ 41 rfl hi Try.underlying41 infoH pre.length (hndsV pre) rfl ?c1 (W.heap.size + 1) 1 [.int .i64 xs, .int .i64 xg] rfl ?c2 ?c3 ?c4 ?c5 ?c6 ?c7 ?_)
        case c1 => exact h2.alloc _
        case c2 => exact RowAt.lit W #[.int .i64 xs, .int .i64 xg] 28 1 _ (by omega)
        case c4 => first | exact ⟨rfl, rfl⟩ | (intro u hu; simp at hu; rcases hu with rfl | rfl <;> rfl)
        case c5 => unfold maxLen; omega
        case c6 => omega
        case c7 => first | omega | (simp; omega)
        intro v' W' ho hg'
        have hbh : Below hi W W' := ((Below.refl hi W).alloc hhW (.cells #[.int .i64 xs, .int .i64 xg] 28)).appended (h2.alloc _) hg' (Nat.le_refl _) (by simp; omega)
        have hb' : Below lb u6 W' := h3.trans (hbh.mono (by omega))
        have g1 := h1.below hbh (by omega)
        have hz' : lb + 1 ≤ W'.heap.size := by have := hbh.size; omega
        have hsm : Sm U.heap.size hi W W' := Sm.of_below hbh (Nat.le_refl _)
        have ho' : W'.ownsRow hi 28 2 v' (pre ++ [(⟨xs, xg⟩ : Hnd)]).length (hndsV (pre ++ [⟨xs, xg⟩])) := by
          rw [List.length_append, hndsV_snoc]; exact ho
        clear hg' c1 ho hbh
        obtain ⟨g9, cp, rfl, hgh, hgl⟩ := World.ownsRow.form ho' (by simp)
        rw [show (pre ++ [(⟨xs, xg⟩ : Hnd)]).length = pre.length + 1 by simp] at ho' ⊢
        have f1 := g1.frozen 0
        have c1 : W'.cell? ⟨lb, 0, none⟩ = some v := g1.cell 0 rfl
        have hso := ownsRow_setCell_below ho' (a := ⟨lb, 0, none⟩) (by dsimp only; omega) (.slice (some ⟨g9, 0, none⟩) (pre.length + 1) cp)
        have HSO := Lib.hid hso
        clear hso
        by_cases h22 : pre.length = 1
        · have hA2 : ((pre.length : Int) + 1) = 2 := by omega
          have hB2 : (((pre.length + 1 : Nat) : Int)) = 2 := by omega
          gi_wp2_with fail
          refine ⟨hsm.setCell _ (Or.inr (by dsimp only; omega)) _, rfl, _, pre ++ [⟨xs, xg⟩], suf, by rw [hxs]; simp, by simp; omega, g1.set 0 _, ?_, hb'.setCell (p := ⟨lb, 0, none⟩) (Nat.le_refl _) _, by simpa using hz'⟩
          have := HSO.out
          rw [show (pre ++ [(⟨xs, xg⟩ : Hnd)]).length = pre.length + 1 by simp]
          have e9 : pre.length + 1 = 2 := by omega
          rw [e9] at this ⊢
          exact owns_weaken this (by omega)
        · have hA2 : ¬ ((pre.length : Int) + 1) = 2 := by omega
          have hB2 : ¬ (((pre.length + 1 : Nat) : Int)) = 2 := by omega
          gi_wp2_with fail
          refine ⟨hsm.setCell _ (Or.inr (by dsimp only; omega)) _, _, g1.set 0 _, ?_, hb'.setCell (p := ⟨lb, 0, none⟩) (Nat.le_refl _) _, by simpa using hz', h5, by simp; omega⟩
          have := HSO.out
          rw [show (pre ++ [(⟨xs, xg⟩ : Hnd)]).length = pre.length + 1 by simp]
          exact this
      case hdone =>
        rintro D9 W hi hD ⟨v, h1, h2, h3, h4, h5, h6⟩ hK
        obtain ⟨U, hU⟩ : ∃ U, tenL P = U := ⟨_, rfl⟩
        rw [hU] at h2 h6
        have hTl : U.length = min 2 (tenL P).length := by rw [hU]; omega
        have htk : U = (tenL P).take U.length := by rw [hU, List.take_length]
        clear hU
        have c1 : W.cell? ⟨lb, 0, none⟩ = some v := h1.cell 0 rfl
        have hC1 := HC.out.step (h3.mono (Nat.le_of_eq hlb'))
        have rv : RowAt W.heap.size W v U.length (hndsV U) := RowAt.of_owns h2 (Nat.le_refl _)
        obtain ⟨oa, oc, rfl, _⟩ := rv.len
        have HRV := Lib.hid rv
        clear h2 rv
        go_wp2_with (first | refine wpList_loadB ty24 rfl _ rfl g rfl hC1.x HSZ.out ?_)
        refine (tenants_ok HL.out W).mono ?_; rintro e y1 ⟨v9, rfl, o9, k1⟩
        have rp := RowAt.of_owns o9 (Nat.le_refl _)
        obtain ⟨L, hL9⟩ : ∃ L, tenL P = L := ⟨_, rfl⟩
        rw [hL9] at rp hTl htk hle
        obtain ⟨pa', pc', rfl, hpc⟩ := rp.len'
        try rw [hL9]
        have HPC := Lib.hid hpc
        have HRP := Lib.hid rp
        have HRV1 := Lib.hid ((HRV.out.below k1 (Nat.le_refl _)).mono k1.size)
        have l1 := h1.below k1 h1.lt
        have c1' : y1.cell? ⟨lb, 0, none⟩ = some (.slice oa U.length oc) := l1.cell 0 rfl
        have HK1 := Lib.hid k1
        clear HRV k1 c1 rp hL9 o9 hpc
        go_wp2_with fail
        have hq1 : min 2 (L.length : Int) = (U.length : Int) := by omega
        obtain ⟨hrs, hrq⟩ := slice_head (P := Try.prog) (t := 41) (s := 2) Try.underlying41 (fun w => by kernel_rfl) HRP.out U.length (by omega)
        rw [hndsV_take, ← htk] at hrq
        have HRQ := Lib.hid hrq
        have HQ1 := Lib.hid hq1
        have HTl := Lib.hid hTl
        have hT9 : U.length < 1000000 := by omega
        clear hrq hrs hq1 hTl htk hle
        refine wp_onlyN ?_
        refine wp_region_held_drew (S := fun Y => Y.cell? ⟨lb, 0, none⟩ = some (.slice oa U.length oc)) (by kernel_rfl) c1' (fun hHeld => ?_)
        refine wpAnyH_take (i := 0) (v := ?_) rfl (by kernel_rfl) (by kernel_rfl) (by kernel_rfl) (fun _ _ _ h => h) (Or.inl ⟨by rfl, ?_⟩) (by assumption) ?_
        rotate_left
        · (intro Y hSw; (try dsimp only at hSw); obtain hS0 := hSw; go_simp; try with_reducible rfl)
        try simp only [Act.put, List.getElem_toArray, List.getElem_cons_zero, List.getElem_cons_succ, List.setIfInBounds_toArray, List.set_cons_zero, List.set_cons_succ]
        refine wpAnyH_take (i := 1) (v := ?_) rfl (by kernel_rfl) (by kernel_rfl) (by kernel_rfl) (fun _ _ _ h => h) (Or.inl ⟨by rfl, ?_⟩) (by assumption) ?_
        rotate_left
        · (intro Y hSw; (try dsimp only at hSw); obtain hS0 := hSw; go_simp; try with_reducible rfl)
        try simp only [Act.put, List.getElem_toArray, List.getElem_cons_zero, List.getElem_cons_succ, List.setIfInBounds_toArray, List.set_cons_zero, List.set_cons_succ]
        refine wpAnyH_take (i := 2) (v := ?_) rfl (by kernel_rfl) (by kernel_rfl) (by kernel_rfl) (fun _ _ _ h => h) (Or.inl ⟨by rfl, ?_⟩) (by assumption) ?_
        rotate_left
        · (intro Y hSw; (try dsimp only at hSw); obtain hS0 := hSw; go_simp; try with_reducible rfl)
        try simp only [Act.put, List.getElem_toArray, List.getElem_cons_zero, List.getElem_cons_succ, List.setIfInBounds_toArray, List.set_cons_zero, List.set_cons_succ]
        refine wpAnyH_take (i := 3) (v := ?_) rfl (by kernel_rfl) (by kernel_rfl) (by kernel_rfl) (fun _ _ _ h => h) (Or.inl ⟨by rfl, ?_⟩) (by assumption) ?_
        rotate_left
        · (intro Y hSw; (try dsimp only at hSw); obtain hS0 := hSw; go_simp; try with_reducible rfl)
        try simp only [Act.put, List.getElem_toArray, List.getElem_cons_zero, List.getElem_cons_succ, List.setIfInBounds_toArray, List.set_cons_zero, List.set_cons_succ]
        refine wpAnyH_take (i := 4) (v := .int .i64 (U.length : Int)) rfl (by kernel_rfl) (by kernel_rfl) (by kernel_rfl) (fun _ _ _ h => h) (Or.inl ⟨by rfl, by intro Y hSw; go_simp; exact HQ1.out⟩) (by assumption) ?_
        try simp only [Act.put, List.getElem_toArray, List.getElem_cons_zero, List.getElem_cons_succ, List.setIfInBounds_toArray, List.set_cons_zero, List.set_cons_succ]
        refine wpAnyH_take (i := 5) (v := .slice pa' U.length pc') rfl (by kernel_rfl) (by kernel_rfl) (by kernel_rfl) (fun _ _ _ h => h) (Or.inl ⟨by rfl, by intro Y hSw; go_simp; intro h9; exfalso; have := HTl.out; have := HPC.out; omega⟩) (by assumption) ?_
        try simp only [Act.put, List.getElem_toArray, List.getElem_cons_zero, List.getElem_cons_succ, List.setIfInBounds_toArray, List.set_cons_zero, List.set_cons_succ]
        refine wpAnyH_ready (rs := [6]) (by kernel_rfl) (by simp) ?_
        refine AllReadyH.cons rfl (fun K hK => ?_) AllReadyH.nil
        go_simp
        refine (same_ok _ _ U _ rfl y1.heap.size y1.drew (Nat.le_refl _) hT9 (HRV1.out.below (Below.refl _ y1).drew (Nat.le_refl _)) (HRQ.out.below (Below.refl _ y1).drew (Nat.le_refl _))).mono ?_; rintro e y2 ⟨rfl, k2⟩
        have K2 : Below y1.heap.size y1 y2 := (Below.refl _ y1).drew.trans k2
        have b2 := l1.below K2 l1.lt
        clear k2 HRQ HRV1
        go_simp
        refine hK.out _ _ (b2.cell 0 rfl) (fun hHeld => ?_)
        clear hK K
        try simp only [Act.put, List.getElem_toArray, List.getElem_cons_zero, List.getElem_cons_succ, List.setIfInBounds_toArray, List.set_cons_zero, List.set_cons_succ]
        refine wpAnyH_take (i := 7) (v := ?_) rfl (by kernel_rfl) (by kernel_rfl) (by kernel_rfl) (fun _ _ _ h => h) (Or.inl ⟨by rfl, ?_⟩) (by assumption) ?_
        rotate_left
        · (intro Y hSw; (try dsimp only at hSw); obtain hS0 := hSw; go_simp; try with_reducible rfl)
        try simp only [Act.put, List.getElem_toArray, List.getElem_cons_zero, List.getElem_cons_succ, List.setIfInBounds_toArray, List.set_cons_zero, List.set_cons_succ]
        refine wpAnyH_ready (rs := [8]) (by kernel_rfl) (by simp) ?_
        refine AllReadyH.cons rfl (fun K hK => ?_) AllReadyH.nil
        go_simp
        refine (works_ok y2).mono ?_; rintro e y3 ⟨rfl, k3⟩
        have K3 := K2.trans (k3.mono K2.size)
        have b3 := b2.below k3 b2.lt
        clear k3
        go_simp
        refine hK.out _ _ (b3.cell 0 rfl) (fun hHeld => ?_)
        clear hK K
        try simp only [Act.put, List.getElem_toArray, List.getElem_cons_zero, List.getElem_cons_succ, List.setIfInBounds_toArray, List.set_cons_zero, List.set_cons_succ]
        refine wpAnyH_take (i := 9) (v := ?_) rfl (by kernel_rfl) (by kernel_rfl) (by kernel_rfl) (fun _ _ _ h => h) (Or.inl ⟨by rfl, ?_⟩) (by assumption) ?_
        rotate_left
        · (intro Y hSw; (try dsimp only at hSw); obtain hS0 := hSw; go_simp; try with_reducible rfl)
        try simp only [Act.put, List.getElem_toArray, List.getElem_cons_zero, List.getElem_cons_succ, List.setIfInBounds_toArray, List.set_cons_zero, List.set_cons_succ]
        refine wpAnyH_take (i := 10) (v := ?_) rfl (by kernel_rfl) (by kernel_rfl) (by kernel_rfl) (fun _ _ _ h => h) (Or.inl ⟨by rfl, ?_⟩) (by assumption) ?_
        rotate_left
        · (intro Y hSw; (try dsimp only at hSw); obtain hS0 := hSw; go_simp; try with_reducible rfl)
        try simp only [Act.put, List.getElem_toArray, List.getElem_cons_zero, List.getElem_cons_succ, List.setIfInBounds_toArray, List.set_cons_zero, List.set_cons_succ]
        refine wpAnyH_done (by kernel_rfl) ?_ _
        rw [onlyN_normal]
        go_wp2_with fail
        have K4 := HK1.out.trans (K3.mono HK1.out.size)
        have hK3 : y3.heap[D9]? = some (.deferred (some [])) := (K4.block D9 (Array.getElem?_eq_some_iff.1 hK).1).trans hK
        have hall : Below w.heap.size w y3 := k0.trans ((hC1.k.trans (K4.mono hC1.k.size)).mono k0.size)
        exact postM_ret hK3 (results_tmp rfl _ _ _) ⟨rfl, below_putObj hall (by omega) _ (Array.getElem?_eq_some_iff.1 hK3).1⟩
      case hstop =>
        rintro D9 c W hD ⟨rfl, v, U, suf, h0, h6, h1, h2, h3, h4⟩ hK
        have hTl : U.length = min 2 (tenL P).length := by rw [h0, List.length_append]; omega
        have htk : U = (tenL P).take U.length := by rw [h0, List.take_left]
        clear h0 h6
        have c1 : W.cell? ⟨lb, 0, none⟩ = some v := h1.cell 0 rfl
        have hC1 := HC.out.step (h3.mono (Nat.le_of_eq hlb'))
        have rv : RowAt W.heap.size W v U.length (hndsV U) := RowAt.of_owns h2 (Nat.le_refl _)
        obtain ⟨oa, oc, rfl, _⟩ := rv.len
        have HRV := Lib.hid rv
        clear h2 rv
        go_wp2_with (first | refine wpList_loadB ty24 rfl _ rfl g rfl hC1.x HSZ.out ?_)
        refine (tenants_ok HL.out W).mono ?_; rintro e y1 ⟨v9, rfl, o9, k1⟩
        have rp := RowAt.of_owns o9 (Nat.le_refl _)
        obtain ⟨L, hL9⟩ : ∃ L, tenL P = L := ⟨_, rfl⟩
        rw [hL9] at rp hTl htk hle
        obtain ⟨pa', pc', rfl, hpc⟩ := rp.len'
        try rw [hL9]
        have HPC := Lib.hid hpc
        have HRP := Lib.hid rp
        have HRV1 := Lib.hid ((HRV.out.below k1 (Nat.le_refl _)).mono k1.size)
        have l1 := h1.below k1 h1.lt
        have c1' : y1.cell? ⟨lb, 0, none⟩ = some (.slice oa U.length oc) := l1.cell 0 rfl
        have HK1 := Lib.hid k1
        clear HRV k1 c1 rp hL9 o9 hpc
        go_wp2_with fail
        have hq1 : min 2 (L.length : Int) = (U.length : Int) := by omega
        obtain ⟨hrs, hrq⟩ := slice_head (P := Try.prog) (t := 41) (s := 2) Try.underlying41 (fun w => by kernel_rfl) HRP.out U.length (by omega)
        rw [hndsV_take, ← htk] at hrq
        have HRQ := Lib.hid hrq
        have HQ1 := Lib.hid hq1
        have HTl := Lib.hid hTl
        have hT9 : U.length < 1000000 := by omega
        clear hrq hrs hq1 hTl htk hle
        refine wp_onlyN ?_
        refine wp_region_held_drew (S := fun Y => Y.cell? ⟨lb, 0, none⟩ = some (.slice oa U.length oc)) (by kernel_rfl) c1' (fun hHeld => ?_)
        refine wpAnyH_take (i := 0) (v := ?_) rfl (by kernel_rfl) (by kernel_rfl) (by kernel_rfl) (fun _ _ _ h => h) (Or.inl ⟨by rfl, ?_⟩) (by assumption) ?_
        rotate_left
        · (intro Y hSw; (try dsimp only at hSw); obtain hS0 := hSw; go_simp; try with_reducible rfl)
        try simp only [Act.put, List.getElem_toArray, List.getElem_cons_zero, List.getElem_cons_succ, List.setIfInBounds_toArray, List.set_cons_zero, List.set_cons_succ]
        refine wpAnyH_take (i := 1) (v := ?_) rfl (by kernel_rfl) (by kernel_rfl) (by kernel_rfl) (fun _ _ _ h => h) (Or.inl ⟨by rfl, ?_⟩) (by assumption) ?_
        rotate_left
        · (intro Y hSw; (try dsimp only at hSw); obtain hS0 := hSw; go_simp; try with_reducible rfl)
        try simp only [Act.put, List.getElem_toArray, List.getElem_cons_zero, List.getElem_cons_succ, List.setIfInBounds_toArray, List.set_cons_zero, List.set_cons_succ]
        refine wpAnyH_take (i := 2) (v := ?_) rfl (by kernel_rfl) (by kernel_rfl) (by kernel_rfl) (fun _ _ _ h => h) (Or.inl ⟨by rfl, ?_⟩) (by assumption) ?_
        rotate_left
        · (intro Y hSw; (try dsimp only at hSw); obtain hS0 := hSw; go_simp; try with_reducible rfl)
        try simp only [Act.put, List.getElem_toArray, List.getElem_cons_zero, List.getElem_cons_succ, List.setIfInBounds_toArray, List.set_cons_zero, List.set_cons_succ]
        refine wpAnyH_take (i := 3) (v := ?_) rfl (by kernel_rfl) (by kernel_rfl) (by kernel_rfl) (fun _ _ _ h => h) (Or.inl ⟨by rfl, ?_⟩) (by assumption) ?_
        rotate_left
        · (intro Y hSw; (try dsimp only at hSw); obtain hS0 := hSw; go_simp; try with_reducible rfl)
        try simp only [Act.put, List.getElem_toArray, List.getElem_cons_zero, List.getElem_cons_succ, List.setIfInBounds_toArray, List.set_cons_zero, List.set_cons_succ]
        refine wpAnyH_take (i := 4) (v := .int .i64 (U.length : Int)) rfl (by kernel_rfl) (by kernel_rfl) (by kernel_rfl) (fun _ _ _ h => h) (Or.inl ⟨by rfl, by intro Y hSw; go_simp; exact HQ1.out⟩) (by assumption) ?_
        try simp only [Act.put, List.getElem_toArray, List.getElem_cons_zero, List.getElem_cons_succ, List.setIfInBounds_toArray, List.set_cons_zero, List.set_cons_succ]
        refine wpAnyH_take (i := 5) (v := .slice pa' U.length pc') rfl (by kernel_rfl) (by kernel_rfl) (by kernel_rfl) (fun _ _ _ h => h) (Or.inl ⟨by rfl, by intro Y hSw; go_simp; intro h9; exfalso; have := HTl.out; have := HPC.out; omega⟩) (by assumption) ?_
        try simp only [Act.put, List.getElem_toArray, List.getElem_cons_zero, List.getElem_cons_succ, List.setIfInBounds_toArray, List.set_cons_zero, List.set_cons_succ]
        refine wpAnyH_ready (rs := [6]) (by kernel_rfl) (by simp) ?_
        refine AllReadyH.cons rfl (fun K hK => ?_) AllReadyH.nil
        go_simp
        refine (same_ok _ _ U _ rfl y1.heap.size y1.drew (Nat.le_refl _) hT9 (HRV1.out.below (Below.refl _ y1).drew (Nat.le_refl _)) (HRQ.out.below (Below.refl _ y1).drew (Nat.le_refl _))).mono ?_; rintro e y2 ⟨rfl, k2⟩
        have K2 : Below y1.heap.size y1 y2 := (Below.refl _ y1).drew.trans k2
        have b2 := l1.below K2 l1.lt
        clear k2 HRQ HRV1
        go_simp
        refine hK.out _ _ (b2.cell 0 rfl) (fun hHeld => ?_)
        clear hK K
        try simp only [Act.put, List.getElem_toArray, List.getElem_cons_zero, List.getElem_cons_succ, List.setIfInBounds_toArray, List.set_cons_zero, List.set_cons_succ]
        refine wpAnyH_take (i := 7) (v := ?_) rfl (by kernel_rfl) (by kernel_rfl) (by kernel_rfl) (fun _ _ _ h => h) (Or.inl ⟨by rfl, ?_⟩) (by assumption) ?_
        rotate_left
        · (intro Y hSw; (try dsimp only at hSw); obtain hS0 := hSw; go_simp; try with_reducible rfl)
        try simp only [Act.put, List.getElem_toArray, List.getElem_cons_zero, List.getElem_cons_succ, List.setIfInBounds_toArray, List.set_cons_zero, List.set_cons_succ]
        refine wpAnyH_ready (rs := [8]) (by kernel_rfl) (by simp) ?_
        refine AllReadyH.cons rfl (fun K hK => ?_) AllReadyH.nil
        go_simp
        refine (works_ok y2).mono ?_; rintro e y3 ⟨rfl, k3⟩
        have K3 := K2.trans (k3.mono K2.size)
        have b3 := b2.below k3 b2.lt
        clear k3
        go_simp
        refine hK.out _ _ (b3.cell 0 rfl) (fun hHeld => ?_)
        clear hK K
        try simp only [Act.put, List.getElem_toArray, List.getElem_cons_zero, List.getElem_cons_succ, List.setIfInBounds_toArray, List.set_cons_zero, List.set_cons_succ]
        refine wpAnyH_take (i := 9) (v := ?_) rfl (by kernel_rfl) (by kernel_rfl) (by kernel_rfl) (fun _ _ _ h => h) (Or.inl ⟨by rfl, ?_⟩) (by assumption) ?_
        rotate_left
        · (intro Y hSw; (try dsimp only at hSw); obtain hS0 := hSw; go_simp; try with_reducible rfl)
        try simp only [Act.put, List.getElem_toArray, List.getElem_cons_zero, List.getElem_cons_succ, List.setIfInBounds_toArray, List.set_cons_zero, List.set_cons_succ]
        refine wpAnyH_take (i := 10) (v := ?_) rfl (by kernel_rfl) (by kernel_rfl) (by kernel_rfl) (fun _ _ _ h => h) (Or.inl ⟨by rfl, ?_⟩) (by assumption) ?_
        rotate_left
        · (intro Y hSw; (try dsimp only at hSw); obtain hS0 := hSw; go_simp; try with_reducible rfl)
        try simp only [Act.put, List.getElem_toArray, List.getElem_cons_zero, List.getElem_cons_succ, List.setIfInBounds_toArray, List.set_cons_zero, List.set_cons_succ]
        refine wpAnyH_done (by kernel_rfl) ?_ _
        rw [onlyN_normal]
        go_wp2_with fail
        have K4 := HK1.out.trans (K3.mono HK1.out.size)
        have hK3 : y3.heap[D9]? = some (.deferred (some [])) := (K4.block D9 (Array.getElem?_eq_some_iff.1 hK).1).trans hK
        have hall : Below w.heap.size w y3 := k0.trans ((hC1.k.trans (K4.mono hC1.k.size)).mono k0.size)
        exact postM_ret hK3 (results_tmp rfl _ _ _) ⟨rfl, below_putObj hall (by omega) _ (Array.getElem?_eq_some_iff.1 hK3).1⟩
end Go.Proofs.Ytchknegenaoliaa
