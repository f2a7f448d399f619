/-
  Package pinfoldlaw08: PageCopies. No condition.
-/
import Derived.Test.YtchepkihlnpfeaaPgZ
namespace Go.Proofs.Ytchepkihlnpfeaa
open Go.RowKit
attribute [local go_sem] Oper.semAt_some
set_option maxHeartbeats 4000000
set_option maxRecDepth 8000

theorem rowT_take4 : ∀ (D : Tb) (k : Nat), (rowT D).take (k * 4) = rowT (D.take k)
  | D, 0 => by simp [rowT]
  | [], k + 1 => by simp [rowT]
  | x :: D, k + 1 => by
    rw [rowT_cons, List.take_succ_cons, rowT_cons, show (k + 1) * 4 = k * 4 + 1 + 1 + 1 + 1 by omega]
    simp only [List.cons_append, List.nil_append, List.take_succ_cons]
    rw [rowT_take4 D k]
theorem AllV.chg {B m : Nat} {W W' : World} {gc go : Nat} {p : Option Addr} {D : Tb} {o : Int} (h : AllV B W gc go p D o) (k : Chg m W W') (hm : m < B) : AllV B W' gc go p D o := by
  have := h.lo
  refine ⟨k.blk h.box (by omega), k.blk h.own (by omega), ?_, h.lo⟩
  rcases h.tb with h1 | ⟨c, n, h1, h2, h3, h4⟩
  · exact .inl h1
  · exact .inr ⟨c, n, h1, ⟨k.blk h2.blk (by omega), h2.mp.chg k (by omega)⟩, h3, h4⟩
structure PlyC (ba off : Nat) (x : ActV) (Y : World) : Prop where
  c0 : Y.cell? ⟨ba, off, none⟩ = some (.int .i64 x.f0)
  c1 : Y.cell? ⟨ba, off + 1, none⟩ = some (.int .i64 x.f1)
  c2 : Y.cell? ⟨ba, off + 2, none⟩ = some (.int .i64 x.f2)
  c3 : Y.cell? ⟨ba, off + 3, none⟩ = some (.int .i64 x.f3)
  c4 : Y.cell? ⟨ba, off + 4, none⟩ = some (.int .i64 x.f4)
  c5 : Y.cell? ⟨ba, off + 5, none⟩ = some (.int .i64 x.f5)
theorem PlyC.mk' {B ba off : Nat} {x : ActV} {Y : World} (h : ActAt B Y ba off x) : PlyC ba off x Y := ⟨h.c0, h.c1, h.c2, h.c3, h.c4, h.c5⟩
/-- What stands when both calls are done. -/
structure Cp (w W : World) (b1 m1 b2 m2 : Nat) (v1 v2 v : Value) (D1 D2 D : Tb) (g o1 o2 B gc go : Nat) (q : Option Addr) (o : Int) : Prop where
  a : TblAt W b1 m1 D1
  ga : Good D1
  b : TblAt W b2 m2 D2
  gb : Good D2
  ra : RowAt W.heap.size W v1 D1.length (rowT D1)
  rb : RowAt W.heap.size W v2 D2.length (rowT D2)
  r : RowAt W.heap.size W v D.length (rowT D)
  x : Blk W g #[v] 28
  xa : Blk W o1 #[v1] 28
  xb : Blk W o2 #[v2] 28
  s : AllV B W gc go q D o
  k : Below w.heap.size w W
theorem Cp.step {w W W' : World} {b1 m1 b2 m2 : Nat} {v1 v2 v : Value} {D1 D2 D : Tb} {g o1 o2 B gc go : Nat} {q : Option Addr} {o : Int} (h : Cp w W b1 m1 b2 m2 v1 v2 v D1 D2 D g o1 o2 B gc go q o) (k : Below W.heap.size W W') : Cp w W' b1 m1 b2 m2 v1 v2 v D1 D2 D g o1 o2 B gc go q o :=
  ⟨h.a.step k, h.ga, h.b.step k, h.gb, (h.ra.below k (Nat.le_refl _)).mono k.size, (h.rb.below k (Nat.le_refl _)).mono k.size, (h.r.below k (Nat.le_refl _)).mono k.size, h.x.below k h.x.lt, h.xa.below k h.xa.lt, h.xb.below k h.xb.lt, h.s.step k, h.k.trans (k.mono h.k.size)⟩
structure CoS (o1 o2 : Nat) (v1 v2 : Value) (Y : World) : Prop where
  a : Y.cell? ⟨o1, 0, none⟩ = some v1
  b : Y.cell? ⟨o2, 0, none⟩ = some v2
theorem copies_body (v0 : Value) (l : List ActV) (x y : ActV) (o : Int) (w : World) (hv : ActsAt w.heap.size w v0 l) (hx1 : x.f1 ≤ 9223372036854775807) (hy1 : y.f1 ≤ 9223372036854775807) :
    Calls Try.prog 5 #[v0, .agg #[.int .i64 x.f0, .int .i64 x.f1, .int .i64 x.f2, .int .i64 x.f3, .int .i64 x.f4, .int .i64 x.f5, .int .i64 y.f0, .int .i64 y.f1, .int .i64 y.f2, .int .i64 y.f3, .int .i64 y.f4, .int .i64 y.f5], .int .i64 o] w fun e w' => e = .returned (.bool true) ∧ Below w.heap.size w w' := by
  have hfn := fun (fn : Fn) (x y : Array Value) (w : World) => run_eql_func_nil (P := Try.prog) Try.underlying51 fn x y w
  have HFN := Lib.hid hfn
  clear hfn
  have HV := Lib.hid hv
  obtain ⟨ad, cap, rfl, hcap, hmx, _⟩ := hv
  have hml : l.length ≤ 9223372036854775807 := by unfold maxLen at hmx; omega
  clear hmx
  obtain ⟨w0, hw0⟩ : ∃ w0, w.alloc (.cells #[.int .i64 x.f0, .int .i64 x.f1, .int .i64 x.f2, .int .i64 x.f3, .int .i64 x.f4, .int .i64 x.f5, .int .i64 y.f0, .int .i64 y.f1, .int .i64 y.f2, .int .i64 y.f3, .int .i64 y.f4, .int .i64 y.f5] 49) = w0 := ⟨_, rfl⟩
  have k0 : Below w.heap.size w w0 := by rw [← hw0]; exact (Below.refl _ w).alloc (Nat.le_refl _) _
  have hT : Blk w0 w.heap.size #[.int .i64 x.f0, .int .i64 x.f1, .int .i64 x.f2, .int .i64 x.f3, .int .i64 x.f4, .int .i64 x.f5, .int .i64 y.f0, .int .i64 y.f1, .int .i64 y.f2, .int .i64 y.f3, .int .i64 y.f4, .int .i64 y.f5] 49 := by rw [← hw0]; exact Blk.new w _ _
  have hTl := hT.lt
  have HTW := Lib.hid (fun (Y : World) (k : Below w0.heap.size w0 Y) => hT.below k hT.lt)
  clear hT
  have hwz : w.heap.size ≤ w0.heap.size := k0.size
  by_cases h1 : 30 < l.length
  · refine calls_of_wp_marks Try.func5 rfl ?_; simp only [Try.ntmps5, List.size_toArray, List.length_cons, List.length_nil, Nat.reduceAdd, Nat.reduceSub, Array.replicate_succ, Array.replicate_zero, List.push_toArray, List.append_toArray, List.nil_append, List.cons_append]
    go_wp2_with fail
    refine (works_ok _).mono ?_; rintro e w1 ⟨rfl, k⟩
    go_wp2_with fail
    exact postM_ret0 (results_tmp rfl _ _ _) ⟨rfl, k0.trans (k.mono k0.size)⟩
  refine calls_of_wp_marks Try.func5 rfl ?_; simp only [Try.ntmps5, List.size_toArray, List.length_cons, List.length_nil, Nat.reduceAdd, Nat.reduceSub, Array.replicate_succ, Array.replicate_zero, List.push_toArray, List.append_toArray, List.nil_append, List.cons_append]
  go_wp2_with fail
  clear hw0
  refine (New_calls _).mono ?_; rintro e W ⟨b0, m0, rfl, ht, hlo, _, kk⟩
  go_wp2_with fail
  obtain ⟨W0, hW0⟩ : ∃ W0, W0 = W.alloc (.cells #[.slice none 0 0] 28) := ⟨_, rfl⟩
  rw [← hW0]
  have k3 : Below W.heap.size W W0 := by rw [hW0]; exact (Below.refl _ W).alloc (Nat.le_refl _) _
  have h0 : Lp w0 W0 b0 m0 W.heap.size (.slice none 0 0) (.slice none 0 0) [] := ⟨⟨ht.step k3, Good.nil, RowAt.nil _ _, kk.trans (k3.mono kk.size), hlo⟩, by rw [hW0]; exact Blk.new _ _ _, kk.size⟩
  obtain ⟨g, hg⟩ : ∃ g, W.heap.size = g := ⟨_, rfl⟩
  rw [hg] at h0 ⊢
  clear hW0 k3 kk ht hlo hg
  go_loopw [7, 9] (fun t i wr => ∃ (k b m : Nat) (v : Value) (D : Tb), k ≤ l.length ∧ D.length ≤ k ∧ i = .int .i64 k ∧ t = .pointer (some ⟨b, 0, none⟩) ∧ Lp w0 wr b m g v v D) (fun _ i _ => l.length - (intOf i).toNat)
  case atStart => exact ⟨0, _, _, _, _, by omega, by simp, rfl, rfl, h0⟩
  case round =>
    obtain ⟨k, b, m, v, D, hk, hDk, rfl, rfl, hL⟩ := hrel
    rename_i wr
    obtain ⟨va, vc, rfl, hvc⟩ := hL.p.r.len
    clear h0 hvc
    have hlD : D.length ≤ 30 := by omega
    by_cases hlt : k < l.length
    · obtain ⟨ba, off, rfl, hA⟩ : ∃ b off, ad = some ⟨b, off, none⟩ ∧ ∀ i (h : i < l.length), ActAt w.heap.size w b (off + i * 6) l[i] := by
        obtain ⟨_, _, hv, _, _, h⟩ := HV.out
        simp only [Value.slice.injEq] at hv
        obtain ⟨rfl, _⟩ := hv
        rcases h with h | h
        · rw [h] at hlt; simp at hlt
        · exact h
      have hAk := (hA k hlt).below k0 (Nat.le_refl _)
      clear hA
      obtain ⟨z, hz⟩ : ∃ z, l[k] = z := ⟨_, rfl⟩
      rw [hz] at hAk
      have hz1 := (i64_bd hAk.w1).2
      have i0 : (0 : Int) ≤ k := by omega
      have i1 : (k : Int) < l.length := by omega
      obtain ⟨E, hE⟩ : ∃ E, actD D z = E := ⟨_, rfl⟩
      have hEl : E.length ≤ k + 1 := by rw [← hE]; have := actD_len D z; omega
      have HACT := Lib.hid (fun (Y : World) (h : Pl w0 Y b m (.slice va D.length vc) D) => act_ok h (by omega) z hz1)
      rw [hE] at HACT
      have HQ := Lib.hid (fun (Y : World) (j : Below w0.heap.size w0 Y) => PlyC.mk' (hAk.below j hwz))
      obtain ⟨q0, q1, q2, q3, q4, q5⟩ := HQ.out _ hL.p.k
      have hblt : ba < wr.heap.size := Nat.lt_of_lt_of_le hAk.lt (Nat.le_trans hwz hL.p.k.size)
      clear hz hE hAk
      go_wp2_with fail
      refine wp_onlyN ?_
      refine wp_region_held_drew (S := PlyC ba (off + k * 6) z) (by kernel_rfl) ⟨q0, q1, q2, q3, q4, q5⟩ (fun hHeld => ?_)
      have hL2 := hL.step (Below.refl _ wr).drew
      clear hL q0 q1 q2 q3 q4 q5 hblt
      change wpAnyH _ _ _ _ _ _ _ _ wr.drew
      generalize wr.drew = Y at hL2 hHeld ⊢
      have hg2 : Y.cell? ⟨g, 0, none⟩ = some (.slice va D.length vc) := hL2.x.cell 0 rfl
      refine wpAnyH_take (i := 0) (v := ?_) rfl (by kernel_rfl) (by kernel_rfl) (by kernel_rfl) (fun _ _ _ h => h) (Or.inl ⟨by rfl, ?_⟩) (by assumption) ?_
      rotate_left
      · (intro Y hSw; (try dsimp only at hSw); obtain ⟨hS0, hS1, hS2, hS3, hS4, hS5⟩ := hSw; go_simp; try with_reducible rfl)
      try simp only [Act.put, List.getElem_toArray, List.getElem_cons_zero, List.getElem_cons_succ, List.setIfInBounds_toArray, List.set_cons_zero, List.set_cons_succ]
      refine wpAnyH_take (i := 2) (v := ?_) rfl (by kernel_rfl) (by kernel_rfl) (by kernel_rfl) (fun _ _ _ h => h) (Or.inl ⟨by rfl, ?_⟩) (by assumption) ?_
      rotate_left
      · (intro Y hSw; (try dsimp only at hSw); obtain ⟨hS0, hS1, hS2, hS3, hS4, hS5⟩ := hSw; go_simp; try with_reducible rfl)
      try simp only [Act.put, List.getElem_toArray, List.getElem_cons_zero, List.getElem_cons_succ, List.setIfInBounds_toArray, List.set_cons_zero, List.set_cons_succ]
      refine wpAnyH_take (i := 3) (v := ?_) rfl (by kernel_rfl) (by kernel_rfl) (by kernel_rfl) (fun _ _ _ h => h) (Or.inl ⟨by rfl, ?_⟩) (by assumption) ?_
      rotate_left
      · (intro Y hSw; (try dsimp only at hSw); obtain ⟨hS0, hS1, hS2, hS3, hS4, hS5⟩ := hSw; go_simp; try with_reducible rfl)
      try simp only [Act.put, List.getElem_toArray, List.getElem_cons_zero, List.getElem_cons_succ, List.setIfInBounds_toArray, List.set_cons_zero, List.set_cons_succ]
      refine wpAnyH_take (i := 4) (v := ?_) rfl (by kernel_rfl) (by kernel_rfl) (by kernel_rfl) (fun _ _ _ h => h) (Or.inl ⟨by rfl, ?_⟩) (by assumption) ?_
      rotate_left
      · (intro Y hSw; (try dsimp only at hSw); obtain ⟨hS0, hS1, hS2, hS3, hS4, hS5⟩ := hSw; go_simp; try with_reducible rfl)
      try simp only [Act.put, List.getElem_toArray, List.getElem_cons_zero, List.getElem_cons_succ, List.setIfInBounds_toArray, List.set_cons_zero, List.set_cons_succ]
      refine wpAnyH_take (i := 5) (v := ?_) rfl (by kernel_rfl) (by kernel_rfl) (by kernel_rfl) (fun _ _ _ h => h) (Or.inl ⟨by rfl, ?_⟩) (by assumption) ?_
      rotate_left
      · (intro Y hSw; (try dsimp only at hSw); obtain ⟨hS0, hS1, hS2, hS3, hS4, hS5⟩ := hSw; go_simp; try with_reducible rfl)
      try simp only [Act.put, List.getElem_toArray, List.getElem_cons_zero, List.getElem_cons_succ, List.setIfInBounds_toArray, List.set_cons_zero, List.set_cons_succ]
      refine wpAnyH_ready (rs := [1]) (by kernel_rfl) (by simp) ?_
      refine AllReadyH.cons rfl (fun K hK => ?_) AllReadyH.nil
      go_simp
      refine hK.out _ _ (hHeld) (fun hHeld => ?_)
      clear hK K
      try simp only [Act.put, List.getElem_toArray, List.getElem_cons_zero, List.getElem_cons_succ, List.setIfInBounds_toArray, List.set_cons_zero, List.set_cons_succ]
      clear hg2
      refine wpAnyH_ready (rs := [6]) (by kernel_rfl) (by simp) ?_
      refine AllReadyH.cons rfl (fun K hK => ?_) AllReadyH.nil
      go_simp
      refine (HACT.out Y hL2.p).mono ?_; rintro e Z ⟨b', m', v', rfl, hE2⟩
      obtain ⟨va', vc', rfl, hvc⟩ := hE2.p.r.len
      have hL3 := hL2.act hE2
      have hg3 : Z.cell? ⟨g, 0, none⟩ = some (.slice va D.length vc) := hL3.x.cell 0 rfl
      have hfr := hL3.x.frozen 0
      clear hE2 hvc hL2
      go_simp
      refine hK.out _ _ (HQ.out _ hL3.p.k) (fun hHeld => ?_)
      clear hK K
      try simp only [Act.put, List.getElem_toArray, List.getElem_cons_zero, List.getElem_cons_succ, List.setIfInBounds_toArray, List.set_cons_zero, List.set_cons_succ]
      refine wpAnyH_take (i := 7) (v := ?_) rfl (by kernel_rfl) (by kernel_rfl) (by kernel_rfl) (fun _ _ _ h => h) (Or.inl ⟨by rfl, ?_⟩) (by assumption) ?_
      rotate_left
      · (intro Y hSw; (try dsimp only at hSw); obtain ⟨hS0, hS1, hS2, hS3, hS4, hS5⟩ := hSw; go_simp; try with_reducible rfl)
      try simp only [Act.put, List.getElem_toArray, List.getElem_cons_zero, List.getElem_cons_succ, List.setIfInBounds_toArray, List.set_cons_zero, List.set_cons_succ]
      refine wpAnyH_take (i := 8) (v := ?_) rfl (by kernel_rfl) (by kernel_rfl) (by kernel_rfl) (fun _ _ _ h => h) (Or.inl ⟨by rfl, ?_⟩) (by assumption) ?_
      rotate_left
      · (intro Y hSw; (try dsimp only at hSw); obtain ⟨hS0, hS1, hS2, hS3, hS4, hS5⟩ := hSw; go_simp; try with_reducible rfl)
      try simp only [Act.put, List.getElem_toArray, List.getElem_cons_zero, List.getElem_cons_succ, List.setIfInBounds_toArray, List.set_cons_zero, List.set_cons_succ]
      refine wpAnyH_take (i := 9) (v := ?_) rfl (by kernel_rfl) (by kernel_rfl) (by kernel_rfl) (fun _ _ _ h => h) (Or.inl ⟨by rfl, ?_⟩) (by assumption) ?_
      rotate_left
      · (intro Y hSw; (try dsimp only at hSw); obtain ⟨hS0, hS1, hS2, hS3, hS4, hS5⟩ := hSw; go_simp; try with_reducible rfl)
      try simp only [Act.put, List.getElem_toArray, List.getElem_cons_zero, List.getElem_cons_succ, List.setIfInBounds_toArray, List.set_cons_zero, List.set_cons_succ]
      refine wpAnyH_take (i := 10) (v := ?_) rfl (by kernel_rfl) (by kernel_rfl) (by kernel_rfl) (fun _ _ _ h => h) (Or.inl ⟨by rfl, ?_⟩) (by assumption) ?_
      rotate_left
      · (intro Y hSw; (try dsimp only at hSw); obtain ⟨hS0, hS1, hS2, hS3, hS4, hS5⟩ := hSw; go_simp; try with_reducible rfl)
      try simp only [Act.put, List.getElem_toArray, List.getElem_cons_zero, List.getElem_cons_succ, List.setIfInBounds_toArray, List.set_cons_zero, List.set_cons_succ]
      refine wpAnyH_take (i := 11) (v := ?_) rfl (by kernel_rfl) (by kernel_rfl) (by kernel_rfl) (fun _ _ _ h => h) (Or.inl ⟨by rfl, ?_⟩) (by assumption) ?_
      rotate_left
      · (intro Y hSw; (try dsimp only at hSw); obtain ⟨hS0, hS1, hS2, hS3, hS4, hS5⟩ := hSw; go_simp; try with_reducible rfl)
      try simp only [Act.put, List.getElem_toArray, List.getElem_cons_zero, List.getElem_cons_succ, List.setIfInBounds_toArray, List.set_cons_zero, List.set_cons_succ]
      refine wpAnyH_ready (rs := [12]) (by kernel_rfl) (by simp) ?_
      refine AllReadyH.cons rfl (fun K hK => ?_) AllReadyH.nil
      go_simp
      have hL4 := hL3.put (.slice va' E.length vc')
      refine hK.out _ _ (HQ.out _ hL4.p.k) (fun hHeld => ?_)
      clear hK K
      try simp only [Act.put, List.getElem_toArray, List.getElem_cons_zero, List.getElem_cons_succ, List.setIfInBounds_toArray, List.set_cons_zero, List.set_cons_succ]
      refine wpAnyH_done (by kernel_rfl) ?_ _
      rw [onlyN_normal]
      clear hL3 hg3 hfr hHeld
      go_wp2_with fail
      exact ⟨⟨k + 1, b', m', _, E, by omega, by omega, by go_num, rfl, hL4⟩, by simp [intOf]; omega⟩
    · obtain rfl : k = l.length := by omega
      clear hlt hk hDk HV hcap hml
      go_wp2_with fail
      refine (Copy_ok hL.p.t).mono ?_; rintro e W1 ⟨c, mc, rfl, hC, l1, l2, k1⟩
      have hml0 := hL.p.t.mp.lt
      have hcm : mc ≠ m := by omega
      have hcm2 : c ≠ m := by omega
      have hL1 := hL.step k1
      have hz1 := k1.size
      have hmcl := hC.mp.lt
      clear hL k1
      go_wp2_with fail
      refine (All_ok hL1.p.t.v o).mono ?_; rintro e W2 ⟨gc, go, q, rfl, hS, k2⟩
      have hL2 := hL1.step k2
      have hC2 := hC.step k2
      obtain ⟨B, hB⟩ : ∃ B, W1.heap.size = B := ⟨_, rfl⟩
      rw [hB] at hS hz1 hmcl
      have hzB := k2.size
      rw [hB] at hzB
      have hbt := HTW.out _ hL2.p.k
      have t0 := hbt.cell 0 rfl
      have t1 := hbt.cell 1 rfl
      have t2 := hbt.cell 2 rfl
      have t3 := hbt.cell 3 rfl
      have t4 := hbt.cell 4 rfl
      have t5 := hbt.cell 5 rfl
      have cg : W2.cell? ⟨g, 0, none⟩ = some (.slice va D.length vc) := hL2.x.cell 0 rfl
      clear hL1 hC k2 hB hbt
      go_wp2_with fail
      refine (act_ok hL2.p (by omega) x hx1).mono ?_; rintro e W3 ⟨b1, m1, v1, rfl, hE⟩
      clear t0 t1 t2 t3 t4 t5 cg
      have hl1 := actD_len D x
      obtain ⟨D1, hD1⟩ : ∃ D1, actD D x = D1 := ⟨_, rfl⟩
      rw [hD1] at hE hl1
      have hC3 : TblAt W3 c mc D := ⟨hE.c.blk hC2.blk hcm2, hC2.mp.chg hE.c hcm⟩
      have hS3 := hS.chg hE.c (by omega)
      have hr3 := (hL2.p.r.chgm hL2.p.t.mp hE.c).mono hE.c.size
      have hx3 := hE.c.blk hL2.x (hL2.p.t.mp.neI hL2.x).symm
      have hlo2 := hL2.lo
      have hn1 : m1 ≠ mc := by have := hE.n; omega
      have hgD := hL2.p.g
      have hP3 := hE.p
      have hlom := hL2.p.lo
      clear hE hL2 hC2 hS hD1
      obtain ⟨va1, vc1, rfl, hvc⟩ := hP3.r.len
      clear hvc
      obtain ⟨W4, hW4⟩ : ∃ W4, W3.alloc (.cells #[.slice va1 D1.length vc1] 28) = W4 := ⟨_, rfl⟩
      have k4 : Below W3.heap.size W3 W4 := by rw [← hW4]; exact (Below.refl _ W3).alloc (Nat.le_refl _) _
      have hxa : Blk W4 W3.heap.size #[.slice va1 D1.length vc1] 28 := by rw [← hW4]; exact Blk.new _ _ _
      obtain ⟨o1, ho1⟩ : ∃ o1, W3.heap.size = o1 := ⟨_, rfl⟩
      have HO1 := Lib.hid ho1
      have hP4 := hP3.step k4
      have hC4 := hC3.step k4
      have hS4 := hS3.step k4
      have hr4 := (hr3.below k4 (Nat.le_refl _)).mono k4.size
      have hx4 := hx3.below k4 hx3.lt
      have hbt := HTW.out _ hP4.k
      have t0 := hbt.cell 6 rfl
      have t1 := hbt.cell 7 rfl
      have t2 := hbt.cell 8 rfl
      have t3 := hbt.cell 9 rfl
      have t4 := hbt.cell 10 rfl
      have t5 := hbt.cell 11 rfl
      have cg : W4.cell? ⟨g, 0, none⟩ = some (.slice va D.length vc) := hx4.cell 0 rfl
      clear hP3 hC3 hS3 hr3 hx3 k4 hbt ho1
      go_wp2_with fail
      clear hW4
      rw [HO1.out] at hxa ⊢
      have hPc : Pl w0 W4 c mc (.slice va D.length vc) D := ⟨hC4, hgD, hr4, hP4.k, by omega⟩
      refine (act_ok hPc (by omega) y hy1).mono ?_; rintro e W5 ⟨b2, m2, v2, rfl, hE⟩
      clear t0 t1 t2 t3 t4 t5 cg
      have hl2 := actD_len D y
      obtain ⟨D2, hD2⟩ : ∃ D2, actD D y = D2 := ⟨_, rfl⟩
      rw [hD2] at hE hl2
      have hnb : b1 ≠ mc := fun h => hPc.t.mp.neI hP4.t.blk h.symm
      have hA5 : TblAt W5 b1 m1 D1 := ⟨hE.c.blk hP4.t.blk hnb, hP4.t.mp.chg hE.c hn1⟩
      have hra5 := (hP4.r.chgm hPc.t.mp hE.c).mono hE.c.size
      have hr5 := (hr4.chgm hPc.t.mp hE.c).mono hE.c.size
      have hx5 := hE.c.blk hx4 (hPc.t.mp.neI hx4).symm
      have hxa5 := hE.c.blk hxa (hPc.t.mp.neI hxa).symm
      have hS5 := hS4.chg hE.c (by omega)
      have hP5 := hE.p
      have hgA := hP4.g
      clear hE hP4 hC4 hS4 hr4 hx4 hxa hPc hD2 HO1
      obtain ⟨va2, vc2, rfl, hvc⟩ := hP5.r.len
      clear hvc
      obtain ⟨W6, hW6⟩ : ∃ W6, W5.alloc (.cells #[.slice va2 D2.length vc2] 28) = W6 := ⟨_, rfl⟩
      have k6 : Below W5.heap.size W5 W6 := by rw [← hW6]; exact (Below.refl _ W5).alloc (Nat.le_refl _) _
      have hxb : Blk W6 W5.heap.size #[.slice va2 D2.length vc2] 28 := by rw [← hW6]; exact Blk.new _ _ _
      obtain ⟨o2, ho2⟩ : ∃ o2, W5.heap.size = o2 := ⟨_, rfl⟩
      have HO2 := Lib.hid ho2
      rw [ho2] at hxb
      have HC6 : Cp w0 W6 b1 m1 b2 m2 (.slice va1 D1.length vc1) (.slice va2 D2.length vc2) (.slice va D.length vc) D1 D2 D g o1 o2 B gc go q o :=
        ⟨hA5.step k6, hgA, hP5.t.step k6, hP5.g, (hra5.below k6 (Nat.le_refl _)).mono k6.size, (hP5.r.below k6 (Nat.le_refl _)).mono k6.size, (hr5.below k6 (Nat.le_refl _)).mono k6.size, hx5.below k6 hx5.lt, hxa5.below k6 hxa5.lt, hxb, hS5.step k6, hP5.k.trans (k6.mono hP5.k.size)⟩
      clear hA5 hra5 hr5 hx5 hxa5 hS5 hP5 k6 hxb ho2
      go_wp2_with fail
      clear hW6
      rw [HO2.out]
      clear HO2
      obtain ⟨d, hd⟩ : ∃ d, decide (D1 = D2) = d := ⟨_, rfl⟩
      have hd2 : decide (D2 = D1) = d := by rw [← hd]; exact decide_eq_decide.2 eq_comm
      have HD1 := Lib.hid hd
      have HD2 := Lib.hid hd2
      have hlD1 : D1.length ≤ 99 := by omega
      have hlD2 : D2.length ≤ 99 := by omega
      clear hd hd2 hl1 hl2
      refine wp_onlyN ?_
      have HC7 := HC6.step (Below.refl _ W6).drew
      refine wp_region_held_drew (S := CoS o1 o2 (.slice va1 D1.length vc1) (.slice va2 D2.length vc2)) (by kernel_rfl) ⟨HC7.xa.cell 0 rfl, HC7.xb.cell 0 rfl⟩ (fun hHeld => ?_)
      clear HC6
      change wpAnyH _ _ _ _ _ _ _ _ W6.drew
      generalize W6.drew = Y at HC7 hHeld ⊢
      refine wpAnyH_take (i := 0) (v := ?_) rfl (by kernel_rfl) (by kernel_rfl) (by kernel_rfl) (fun _ _ _ h => h) (Or.inl ⟨by rfl, ?_⟩) (by assumption) ?_
      rotate_left
      · (intro Y hSw; (try dsimp only at hSw); obtain ⟨hS0, hS1⟩ := hSw; go_simp; try with_reducible rfl)
      try simp only [Act.put, List.getElem_toArray, List.getElem_cons_zero, List.getElem_cons_succ, List.setIfInBounds_toArray, List.set_cons_zero, List.set_cons_succ]
      refine wpAnyH_take (i := 1) (v := ?_) rfl (by kernel_rfl) (by kernel_rfl) (by kernel_rfl) (fun _ _ _ h => h) (Or.inl ⟨by rfl, ?_⟩) (by assumption) ?_
      rotate_left
      · (intro Y hSw; (try dsimp only at hSw); obtain ⟨hS0, hS1⟩ := hSw; go_simp; try with_reducible rfl)
      try simp only [Act.put, List.getElem_toArray, List.getElem_cons_zero, List.getElem_cons_succ, List.setIfInBounds_toArray, List.set_cons_zero, List.set_cons_succ]
      refine wpAnyH_take (i := 2) (v := ?_) rfl (by kernel_rfl) (by kernel_rfl) (by kernel_rfl) (fun _ _ _ h => h) (Or.inl ⟨by rfl, ?_⟩) (by assumption) ?_
      rotate_left
      · (intro Y hSw; (try dsimp only at hSw); obtain ⟨hS0, hS1⟩ := hSw; go_simp; try with_reducible rfl)
      try simp only [Act.put, List.getElem_toArray, List.getElem_cons_zero, List.getElem_cons_succ, List.setIfInBounds_toArray, List.set_cons_zero, List.set_cons_succ]
      refine wpAnyH_take (i := 3) (v := ?_) rfl (by kernel_rfl) (by kernel_rfl) (by kernel_rfl) (fun _ _ _ h => h) (Or.inl ⟨by rfl, ?_⟩) (by assumption) ?_
      rotate_left
      · (intro Y hSw; (try dsimp only at hSw); obtain ⟨hS0, hS1⟩ := hSw; go_simp; try with_reducible rfl)
      try simp only [Act.put, List.getElem_toArray, List.getElem_cons_zero, List.getElem_cons_succ, List.setIfInBounds_toArray, List.set_cons_zero, List.set_cons_succ]
      refine wpAnyH_take (i := 4) (v := ?_) rfl (by kernel_rfl) (by kernel_rfl) (by kernel_rfl) (fun _ _ _ h => h) (Or.inl ⟨by rfl, ?_⟩) (by assumption) ?_
      rotate_left
      · (intro Y hSw; (try dsimp only at hSw); obtain ⟨hS0, hS1⟩ := hSw; go_simp; try with_reducible rfl)
      try simp only [Act.put, List.getElem_toArray, List.getElem_cons_zero, List.getElem_cons_succ, List.setIfInBounds_toArray, List.set_cons_zero, List.set_cons_succ]
      refine wpAnyH_take (i := 5) (v := ?_) rfl (by kernel_rfl) (by kernel_rfl) (by kernel_rfl) (fun _ _ _ h => h) (Or.inl ⟨by rfl, ?_⟩) (by assumption) ?_
      rotate_left
      · (intro Y hSw; (try dsimp only at hSw); obtain ⟨hS0, hS1⟩ := hSw; go_simp; try with_reducible rfl)
      try simp only [Act.put, List.getElem_toArray, List.getElem_cons_zero, List.getElem_cons_succ, List.setIfInBounds_toArray, List.set_cons_zero, List.set_cons_succ]
      refine wpAnyH_take (i := 6) (v := ?_) rfl (by kernel_rfl) (by kernel_rfl) (by kernel_rfl) (fun _ _ _ h => h) (Or.inl ⟨by rfl, ?_⟩) (by assumption) ?_
      rotate_left
      · (intro Y hSw; (try dsimp only at hSw); obtain ⟨hS0, hS1⟩ := hSw; go_simp; try with_reducible rfl)
      try simp only [Act.put, List.getElem_toArray, List.getElem_cons_zero, List.getElem_cons_succ, List.setIfInBounds_toArray, List.set_cons_zero, List.set_cons_succ]
      refine wpAnyH_take (i := 7) (v := ?_) rfl (by kernel_rfl) (by kernel_rfl) (by kernel_rfl) (fun _ _ _ h => h) (Or.inl ⟨by rfl, ?_⟩) (by assumption) ?_
      rotate_left
      · (intro Y hSw; (try dsimp only at hSw); obtain ⟨hS0, hS1⟩ := hSw; go_simp; try with_reducible rfl)
      try simp only [Act.put, List.getElem_toArray, List.getElem_cons_zero, List.getElem_cons_succ, List.setIfInBounds_toArray, List.set_cons_zero, List.set_cons_succ]
      refine wpAnyH_take (i := 8) (v := ?_) rfl (by kernel_rfl) (by kernel_rfl) (by kernel_rfl) (fun _ _ _ h => h) (Or.inl ⟨by rfl, ?_⟩) (by assumption) ?_
      rotate_left
      · (intro Y hSw; (try dsimp only at hSw); obtain ⟨hS0, hS1⟩ := hSw; go_simp; try with_reducible rfl)
      try simp only [Act.put, List.getElem_toArray, List.getElem_cons_zero, List.getElem_cons_succ, List.setIfInBounds_toArray, List.set_cons_zero, List.set_cons_succ]
      refine wpAnyH_ready (rs := [9]) (by kernel_rfl) (by simp) ?_
      refine AllReadyH.cons rfl (fun K hK => ?_) AllReadyH.nil
      go_simp
      refine (is_ok HC7.a HC7.ga hlD1 HC7.ra).mono ?_; rintro e u1 ⟨rfl, j1⟩
      have HU1 := HC7.step j1
      clear HC7 j1
      go_simp
      refine hK.out _ _ (⟨HU1.xa.cell 0 rfl, HU1.xb.cell 0 rfl⟩) (fun hHeld => ?_)
      clear hK K
      try simp only [Act.put, List.getElem_toArray, List.getElem_cons_zero, List.getElem_cons_succ, List.setIfInBounds_toArray, List.set_cons_zero, List.set_cons_succ]
      refine wpAnyH_take (i := 10) (v := ?_) rfl (by kernel_rfl) (by kernel_rfl) (by kernel_rfl) (fun _ _ _ h => h) (Or.inl ⟨by rfl, ?_⟩) (by assumption) ?_
      rotate_left
      · (intro Y hSw; (try dsimp only at hSw); obtain ⟨hS0, hS1⟩ := hSw; go_simp; try with_reducible rfl)
      try simp only [Act.put, List.getElem_toArray, List.getElem_cons_zero, List.getElem_cons_succ, List.setIfInBounds_toArray, List.set_cons_zero, List.set_cons_succ]
      refine wpAnyH_take (i := 11) (v := ?_) rfl (by kernel_rfl) (by kernel_rfl) (by kernel_rfl) (fun _ _ _ h => h) (Or.inl ⟨by rfl, ?_⟩) (by assumption) ?_
      rotate_left
      · (intro Y hSw; (try dsimp only at hSw); obtain ⟨hS0, hS1⟩ := hSw; go_simp; try with_reducible rfl)
      try simp only [Act.put, List.getElem_toArray, List.getElem_cons_zero, List.getElem_cons_succ, List.setIfInBounds_toArray, List.set_cons_zero, List.set_cons_succ]
      refine wpAnyH_take (i := 12) (v := ?_) rfl (by kernel_rfl) (by kernel_rfl) (by kernel_rfl) (fun _ _ _ h => h) (Or.inl ⟨by rfl, ?_⟩) (by assumption) ?_
      rotate_left
      · (intro Y hSw; (try dsimp only at hSw); obtain ⟨hS0, hS1⟩ := hSw; go_simp; try with_reducible rfl)
      try simp only [Act.put, List.getElem_toArray, List.getElem_cons_zero, List.getElem_cons_succ, List.setIfInBounds_toArray, List.set_cons_zero, List.set_cons_succ]
      refine wpAnyH_take (i := 13) (v := ?_) rfl (by kernel_rfl) (by kernel_rfl) (by kernel_rfl) (fun _ _ _ h => h) (Or.inl ⟨by rfl, ?_⟩) (by assumption) ?_
      rotate_left
      · (intro Y hSw; (try dsimp only at hSw); obtain ⟨hS0, hS1⟩ := hSw; go_simp; try with_reducible rfl)
      try simp only [Act.put, List.getElem_toArray, List.getElem_cons_zero, List.getElem_cons_succ, List.setIfInBounds_toArray, List.set_cons_zero, List.set_cons_succ]
      refine wpAnyH_take (i := 14) (v := ?_) rfl (by kernel_rfl) (by kernel_rfl) (by kernel_rfl) (fun _ _ _ h => h) (Or.inl ⟨by rfl, ?_⟩) (by assumption) ?_
      rotate_left
      · (intro Y hSw; (try dsimp only at hSw); obtain ⟨hS0, hS1⟩ := hSw; go_simp; try with_reducible rfl)
      try simp only [Act.put, List.getElem_toArray, List.getElem_cons_zero, List.getElem_cons_succ, List.setIfInBounds_toArray, List.set_cons_zero, List.set_cons_succ]
      refine wpAnyH_ready (rs := [15]) (by kernel_rfl) (by simp) ?_
      refine AllReadyH.cons rfl (fun K hK => ?_) AllReadyH.nil
      go_simp
      refine (is_ok HU1.b HU1.gb hlD2 HU1.rb).mono ?_; rintro e u2 ⟨rfl, j2⟩
      have HU2 := HU1.step j2
      clear HU1 j2
      go_simp
      refine hK.out _ _ (⟨HU2.xa.cell 0 rfl, HU2.xb.cell 0 rfl⟩) (fun hHeld => ?_)
      clear hK K
      try simp only [Act.put, List.getElem_toArray, List.getElem_cons_zero, List.getElem_cons_succ, List.setIfInBounds_toArray, List.set_cons_zero, List.set_cons_succ]
      refine wpAnyH_take (i := 16) (v := ?_) rfl (by kernel_rfl) (by kernel_rfl) (by kernel_rfl) (fun _ _ _ h => h) (Or.inl ⟨by rfl, ?_⟩) (by assumption) ?_
      rotate_left
      · (intro Y hSw; (try dsimp only at hSw); obtain ⟨hS0, hS1⟩ := hSw; go_simp; try with_reducible rfl)
      try simp only [Act.put, List.getElem_toArray, List.getElem_cons_zero, List.getElem_cons_succ, List.setIfInBounds_toArray, List.set_cons_zero, List.set_cons_succ]
      refine wpAnyH_take (i := 17) (v := ?_) rfl (by kernel_rfl) (by kernel_rfl) (by kernel_rfl) (fun _ _ _ h => h) (Or.inl ⟨by rfl, ?_⟩) (by assumption) ?_
      rotate_left
      · (intro Y hSw; (try dsimp only at hSw); obtain ⟨hS0, hS1⟩ := hSw; go_simp; try with_reducible rfl)
      try simp only [Act.put, List.getElem_toArray, List.getElem_cons_zero, List.getElem_cons_succ, List.setIfInBounds_toArray, List.set_cons_zero, List.set_cons_succ]
      refine wpAnyH_take (i := 18) (v := ?_) rfl (by kernel_rfl) (by kernel_rfl) (by kernel_rfl) (fun _ _ _ h => h) (Or.inl ⟨by rfl, ?_⟩) (by assumption) ?_
      rotate_left
      · (intro Y hSw; (try dsimp only at hSw); obtain ⟨hS0, hS1⟩ := hSw; go_simp; try with_reducible rfl)
      try simp only [Act.put, List.getElem_toArray, List.getElem_cons_zero, List.getElem_cons_succ, List.setIfInBounds_toArray, List.set_cons_zero, List.set_cons_succ]
      refine wpAnyH_take (i := 19) (v := ?_) rfl (by kernel_rfl) (by kernel_rfl) (by kernel_rfl) (fun _ _ _ h => h) (Or.inl ⟨by rfl, ?_⟩) (by assumption) ?_
      rotate_left
      · (intro Y hSw; (try dsimp only at hSw); obtain ⟨hS0, hS1⟩ := hSw; go_simp; try with_reducible rfl)
      try simp only [Act.put, List.getElem_toArray, List.getElem_cons_zero, List.getElem_cons_succ, List.setIfInBounds_toArray, List.set_cons_zero, List.set_cons_succ]
      refine wpAnyH_take (i := 20) (v := ?_) rfl (by kernel_rfl) (by kernel_rfl) (by kernel_rfl) (fun _ _ _ h => h) (Or.inl ⟨by rfl, ?_⟩) (by assumption) ?_
      rotate_left
      · (intro Y hSw; (try dsimp only at hSw); obtain ⟨hS0, hS1⟩ := hSw; go_simp; try with_reducible rfl)
      try simp only [Act.put, List.getElem_toArray, List.getElem_cons_zero, List.getElem_cons_succ, List.setIfInBounds_toArray, List.set_cons_zero, List.set_cons_succ]
      refine wpAnyH_take (i := 22) (v := ?_) rfl (by kernel_rfl) (by kernel_rfl) (by kernel_rfl) (fun _ _ _ h => h) (Or.inl ⟨by rfl, ?_⟩) (by assumption) ?_
      rotate_left
      · (intro Y hSw; (try dsimp only at hSw); obtain ⟨hS0, hS1⟩ := hSw; go_simp; try with_reducible rfl)
      try simp only [Act.put, List.getElem_toArray, List.getElem_cons_zero, List.getElem_cons_succ, List.setIfInBounds_toArray, List.set_cons_zero, List.set_cons_succ]
      refine wpAnyH_take (i := 23) (v := ?_) rfl (by kernel_rfl) (by kernel_rfl) (by kernel_rfl) (fun _ _ _ h => h) (Or.inl ⟨by rfl, ?_⟩) (by assumption) ?_
      rotate_left
      · (intro Y hSw; (try dsimp only at hSw); obtain ⟨hS0, hS1⟩ := hSw; go_simp; try with_reducible rfl)
      try simp only [Act.put, List.getElem_toArray, List.getElem_cons_zero, List.getElem_cons_succ, List.setIfInBounds_toArray, List.set_cons_zero, List.set_cons_succ]
      refine wpAnyH_take (i := 24) (v := ?_) rfl (by kernel_rfl) (by kernel_rfl) (by kernel_rfl) (fun _ _ _ h => h) (Or.inl ⟨by rfl, ?_⟩) (by assumption) ?_
      rotate_left
      · (intro Y hSw; (try dsimp only at hSw); obtain ⟨hS0, hS1⟩ := hSw; go_simp; try with_reducible rfl)
      try simp only [Act.put, List.getElem_toArray, List.getElem_cons_zero, List.getElem_cons_succ, List.setIfInBounds_toArray, List.set_cons_zero, List.set_cons_succ]
      refine wpAnyH_take (i := 25) (v := ?_) rfl (by kernel_rfl) (by kernel_rfl) (by kernel_rfl) (fun _ _ _ h => h) (Or.inl ⟨by rfl, ?_⟩) (by assumption) ?_
      rotate_left
      · (intro Y hSw; (try dsimp only at hSw); obtain ⟨hS0, hS1⟩ := hSw; go_simp; try with_reducible rfl)
      try simp only [Act.put, List.getElem_toArray, List.getElem_cons_zero, List.getElem_cons_succ, List.setIfInBounds_toArray, List.set_cons_zero, List.set_cons_succ]
      refine wpAnyH_ready (rs := [21]) (by kernel_rfl) (by simp) ?_
      refine AllReadyH.cons rfl (fun K hK => ?_) AllReadyH.nil
      go_simp
      refine (Same_ok HU2.a HU2.b HU2.ga.srt HU2.gb.srt (by omega) (by omega)).mono ?_; rintro e u3 ⟨rfl, j3⟩
      have HU3 := HU2.step j3
      rw [HD1.out]
      clear HU2 j3
      go_simp
      refine hK.out _ _ (⟨HU3.xa.cell 0 rfl, HU3.xb.cell 0 rfl⟩) (fun hHeld => ?_)
      clear hK K
      try simp only [Act.put, List.getElem_toArray, List.getElem_cons_zero, List.getElem_cons_succ, List.setIfInBounds_toArray, List.set_cons_zero, List.set_cons_succ]
      refine wpAnyH_ready (rs := [26]) (by kernel_rfl) (by simp) ?_
      refine AllReadyH.cons rfl (fun K hK => ?_) AllReadyH.nil
      go_simp
      refine (rSame_ok _ _ D1 D2 u3.heap.size u3 (Nat.le_refl _) (by omega) HU3.ra HU3.rb).mono ?_; rintro e u4 ⟨rfl, j4⟩
      have HU4 := HU3.step j4
      rw [HD1.out]
      clear HU3 j4
      go_simp
      refine hK.out _ _ (⟨HU4.xa.cell 0 rfl, HU4.xb.cell 0 rfl⟩) (fun hHeld => ?_)
      clear hK K
      try simp only [Act.put, List.getElem_toArray, List.getElem_cons_zero, List.getElem_cons_succ, List.setIfInBounds_toArray, List.set_cons_zero, List.set_cons_succ]
      refine wpAnyH_take (i := 27) (v := ?_) rfl (by kernel_rfl) (by kernel_rfl) (by kernel_rfl) (fun _ _ _ h => h) (Or.inl ⟨by rfl, ?_⟩) (by assumption) ?_
      rotate_left
      · (intro Y hSw; (try dsimp only at hSw); obtain ⟨hS0, hS1⟩ := hSw; go_simp; try with_reducible rfl)
      try simp only [Act.put, List.getElem_toArray, List.getElem_cons_zero, List.getElem_cons_succ, List.setIfInBounds_toArray, List.set_cons_zero, List.set_cons_succ]
      refine wpAnyH_take (i := 28) (v := ?_) rfl (by kernel_rfl) (by kernel_rfl) (by kernel_rfl) (fun _ _ _ h => h) (Or.inl ⟨by rfl, ?_⟩) (by assumption) ?_
      rotate_left
      · (intro Y hSw; (try dsimp only at hSw); obtain ⟨hS0, hS1⟩ := hSw; go_simp; try with_reducible rfl)
      try simp only [Act.put, List.getElem_toArray, List.getElem_cons_zero, List.getElem_cons_succ, List.setIfInBounds_toArray, List.set_cons_zero, List.set_cons_succ]
      refine wpAnyH_take (i := 29) (v := ?_) rfl (by kernel_rfl) (by kernel_rfl) (by kernel_rfl) (fun _ _ _ h => h) (Or.inl ⟨by rfl, ?_⟩) (by assumption) ?_
      rotate_left
      · (intro Y hSw; (try dsimp only at hSw); obtain ⟨hS0, hS1⟩ := hSw; go_simp; try with_reducible rfl)
      try simp only [Act.put, List.getElem_toArray, List.getElem_cons_zero, List.getElem_cons_succ, List.setIfInBounds_toArray, List.set_cons_zero, List.set_cons_succ]
      refine wpAnyH_take (i := 30) (v := ?_) rfl (by kernel_rfl) (by kernel_rfl) (by kernel_rfl) (fun _ _ _ h => h) (Or.inl ⟨by rfl, ?_⟩) (by assumption) ?_
      rotate_left
      · (intro Y hSw; (try dsimp only at hSw); obtain ⟨hS0, hS1⟩ := hSw; go_simp; try with_reducible rfl)
      try simp only [Act.put, List.getElem_toArray, List.getElem_cons_zero, List.getElem_cons_succ, List.setIfInBounds_toArray, List.set_cons_zero, List.set_cons_succ]
      refine wpAnyH_take (i := 31) (v := ?_) rfl (by kernel_rfl) (by kernel_rfl) (by kernel_rfl) (fun _ _ _ h => h) (Or.inl ⟨by rfl, ?_⟩) (by assumption) ?_
      rotate_left
      · (intro Y hSw; (try dsimp only at hSw); obtain ⟨hS0, hS1⟩ := hSw; go_simp; try with_reducible rfl)
      try simp only [Act.put, List.getElem_toArray, List.getElem_cons_zero, List.getElem_cons_succ, List.setIfInBounds_toArray, List.set_cons_zero, List.set_cons_succ]
      refine wpAnyH_take (i := 33) (v := ?_) rfl (by kernel_rfl) (by kernel_rfl) (by kernel_rfl) (fun _ _ _ h => h) (Or.inl ⟨by rfl, ?_⟩) (by assumption) ?_
      rotate_left
      · (intro Y hSw; (try dsimp only at hSw); obtain ⟨hS0, hS1⟩ := hSw; go_simp; try with_reducible rfl)
      try simp only [Act.put, List.getElem_toArray, List.getElem_cons_zero, List.getElem_cons_succ, List.setIfInBounds_toArray, List.set_cons_zero, List.set_cons_succ]
      refine wpAnyH_take (i := 34) (v := ?_) rfl (by kernel_rfl) (by kernel_rfl) (by kernel_rfl) (fun _ _ _ h => h) (Or.inl ⟨by rfl, ?_⟩) (by assumption) ?_
      rotate_left
      · (intro Y hSw; (try dsimp only at hSw); obtain ⟨hS0, hS1⟩ := hSw; go_simp; try with_reducible rfl)
      try simp only [Act.put, List.getElem_toArray, List.getElem_cons_zero, List.getElem_cons_succ, List.setIfInBounds_toArray, List.set_cons_zero, List.set_cons_succ]
      refine wpAnyH_take (i := 35) (v := ?_) rfl (by kernel_rfl) (by kernel_rfl) (by kernel_rfl) (fun _ _ _ h => h) (Or.inl ⟨by rfl, ?_⟩) (by assumption) ?_
      rotate_left
      · (intro Y hSw; (try dsimp only at hSw); obtain ⟨hS0, hS1⟩ := hSw; go_simp; try with_reducible rfl)
      try simp only [Act.put, List.getElem_toArray, List.getElem_cons_zero, List.getElem_cons_succ, List.setIfInBounds_toArray, List.set_cons_zero, List.set_cons_succ]
      refine wpAnyH_take (i := 36) (v := ?_) rfl (by kernel_rfl) (by kernel_rfl) (by kernel_rfl) (fun _ _ _ h => h) (Or.inl ⟨by rfl, ?_⟩) (by assumption) ?_
      rotate_left
      · (intro Y hSw; (try dsimp only at hSw); obtain ⟨hS0, hS1⟩ := hSw; go_simp; try with_reducible rfl)
      try simp only [Act.put, List.getElem_toArray, List.getElem_cons_zero, List.getElem_cons_succ, List.setIfInBounds_toArray, List.set_cons_zero, List.set_cons_succ]
      refine wpAnyH_ready (rs := [32]) (by kernel_rfl) (by simp) ?_
      refine AllReadyH.cons rfl (fun K hK => ?_) AllReadyH.nil
      go_simp
      refine (Same_ok HU4.b HU4.a HU4.gb.srt HU4.ga.srt (by omega) (by omega)).mono ?_; rintro e u5 ⟨rfl, j5⟩
      have HU5 := HU4.step j5
      rw [HD2.out]
      clear HU4 j5
      go_simp
      refine hK.out _ _ (⟨HU5.xa.cell 0 rfl, HU5.xb.cell 0 rfl⟩) (fun hHeld => ?_)
      clear hK K
      try simp only [Act.put, List.getElem_toArray, List.getElem_cons_zero, List.getElem_cons_succ, List.setIfInBounds_toArray, List.set_cons_zero, List.set_cons_succ]
      refine wpAnyH_ready (rs := [37]) (by kernel_rfl) (by simp) ?_
      refine AllReadyH.cons rfl (fun K hK => ?_) AllReadyH.nil
      go_simp
      refine (rSame_ok _ _ D1 D2 u5.heap.size u5 (Nat.le_refl _) (by omega) HU5.ra HU5.rb).mono ?_; rintro e u6 ⟨rfl, j6⟩
      have HU6 := HU5.step j6
      rw [HD1.out]
      clear HU5 j6
      go_simp
      refine hK.out _ _ (⟨HU6.xa.cell 0 rfl, HU6.xb.cell 0 rfl⟩) (fun hHeld => ?_)
      clear hK K
      try simp only [Act.put, List.getElem_toArray, List.getElem_cons_zero, List.getElem_cons_succ, List.setIfInBounds_toArray, List.set_cons_zero, List.set_cons_succ]
      refine wpAnyH_take (i := 38) (v := ?_) rfl (by kernel_rfl) (by kernel_rfl) (by kernel_rfl) (fun _ _ _ h => h) (Or.inl ⟨by rfl, ?_⟩) (by assumption) ?_
      rotate_left
      · (intro Y hSw; (try dsimp only at hSw); obtain ⟨hS0, hS1⟩ := hSw; go_simp; try with_reducible rfl)
      try simp only [Act.put, List.getElem_toArray, List.getElem_cons_zero, List.getElem_cons_succ, List.setIfInBounds_toArray, List.set_cons_zero, List.set_cons_succ]
      refine wpAnyH_take (i := 39) (v := ?_) rfl (by kernel_rfl) (by kernel_rfl) (by kernel_rfl) (fun _ _ _ h => h) (Or.inl ⟨by rfl, ?_⟩) (by assumption) ?_
      rotate_left
      · (intro Y hSw; (try dsimp only at hSw); obtain ⟨hS0, hS1⟩ := hSw; go_simp; try with_reducible rfl)
      try simp only [Act.put, List.getElem_toArray, List.getElem_cons_zero, List.getElem_cons_succ, List.setIfInBounds_toArray, List.set_cons_zero, List.set_cons_succ]
      refine wpAnyH_done (by kernel_rfl) ?_ _
      rw [onlyN_normal]
      clear HD1 HD2 hHeld
      have hfn := HFN.out
      go_wp2_with fail
      clear hfn
      have HC := Lib.hid HU6
      obtain ⟨lb, hlb⟩ : ∃ lb, u6.heap.size = lb := ⟨_, rfl⟩
      have hlb' := hlb
      obtain ⟨U, hU⟩ : ∃ U, U = u6.alloc (.cells #[.slice none 0 0] 26) := ⟨_, rfl⟩
      rw [← hU, hlb]
      have bU : Blk U lb #[.slice none 0 0] 26 := by rw [hU, ← hlb]; exact Blk.new _ _ _
      have kU : Below lb u6 U := by rw [hU, ← hlb]; exact (Below.refl _ _).alloc (Nat.le_refl _) _
      have zU : U.heap.size = lb + 1 := by rw [hU]; simp [hlb]
      have hV1 : ∀ W, Below lb u6 W → AllV B W gc go q D o := fun W k => HU6.s.step (hlb ▸ k)
      have HVA := Lib.hid hV1
      have hle := of_len D o
      have zw0 : w0.heap.size ≤ lb := by rw [← hlb]; exact HU6.k.size
      clear hU hV1 HU6 hlb
      refine wp_rangeSA rfl (enters_of Try.func46 (by kernel_rfl) rfl) (All_iter gc go q D o hgD (by omega)) (fun _ => rfl)
        (fun hi pre W => ∃ v, Blk W lb #[v] 26 ∧ W.ownsRow hi 55 4 v pre.length (rowT pre) ∧ Below lb u6 W ∧ lb + 1 ≤ W.heap.size ∧ lb + 1 ≤ hi ∧ (pre.length : Int) < 3)
        (fun c W => c = .exit 2 ∧ ∃ v pre suf, ofR D o = pre ++ suf ∧ (pre.length : Int) = 3 ∧ Blk W lb #[v] 26 ∧ W.ownsRow (lb + 1) 55 4 v pre.length (rowT pre) ∧ Below lb u6 W ∧ lb + 1 ≤ W.heap.size) ?a1 (fun x => #[.int .i64 x.2.o, .int .i64 x.2.m, .int .i64 x.2.f]) 31 ?ha ?hI ?hIx ?hA ?h0 ?hbody ?hdone ?hstop
      case ha => intro m l x W b K hb hK; gi_wp2; exact hK
      case hI => rintro hi pre X Y ⟨v, h1, h2, h3, h4, h5, h6⟩ hk; exact ⟨v, h1.keeps hk, owns_keeps h2 hk, h3.keeps hk (by omega), Nat.le_trans h4 hk.size, h5, h6⟩
      case hIx => rintro c X Y ⟨hc, v, pre, suf, h1, h2, h3, h4, h5, h6⟩ hk; exact ⟨hc, v, pre, suf, h1, h2, h3.keeps hk, owns_keeps h4 hk, h5.keeps hk (by omega), Nat.le_trans h6 hk.size⟩
      case hA => rintro hi pre W ⟨v, h1, h2, h3, h4, h5, h6⟩; have hV2 := HVA.out W h3; exact ⟨hV2.box.cell 0 rfl, hV2.own.cell 0 rfl, hV2.tb.mono (Nat.zero_le _)⟩
      case h0 => intro hi hh; exact ⟨_, bU, World.ownsRow_nil _ _ _ _, kU, by omega, by omega, by simp⟩
      case hbody =>
        rintro m lp hi pre ⟨xk, xo, xm, xf⟩ suf W g8 hxs hlp hrec hhi hhW hgb hX ⟨v, h1, h2, h3, h4, h5, h6⟩
        have hpl : pre.length < 3 := by omega
        have c1 : W.cell? ⟨lb, 0, none⟩ = some v := h1.cell 0 rfl
        have x0 : W.cell? ⟨g8, 0, none⟩ = some (.int .i64 xo) := hX.cell 0 rfl
        have x1 : W.cell? ⟨g8, 1, none⟩ = some (.int .i64 xm) := hX.cell 1 rfl
        have x2 : W.cell? ⟨g8, 2, none⟩ = some (.int .i64 xf) := hX.cell 2 rfl
        have hrl := Lib.hid (rowT_len pre)
        gi_wp2_with (gi_at_builtin; refine wpListIn_append_row rfl _ _ 26 rfl hi Try.underlying26 infoRow pre.length (rowT pre) rfl ?c1 (W.heap.size + 1) 1 [.int .i64 xk, .int .i64 xo, .int .i64 xm, .int .i64 xf] rfl ?c2 ?c3 ?c4 ?c5 ?c6 ?c7 ?_)
        case c1 => exact h2.alloc _
        case c2 => exact RowAt.lit W #[.int .i64 xk, .int .i64 xo, .int .i64 xm, .int .i64 xf] 55 1 _ (by omega)
        case c4 => first | exact ⟨rfl, rfl, rfl, rfl⟩ | (intro u hu; simp at hu; rcases hu with rfl | rfl | rfl | rfl <;> rfl)
        case c5 => unfold maxLen; omega
        case c6 => omega
        case c7 => first | omega | (simp; omega)
        intro v' W' ho hg'
        have hbh : Below hi W W' := ((Below.refl hi W).alloc hhW (.cells #[.int .i64 xk, .int .i64 xo, .int .i64 xm, .int .i64 xf] 55)).appended (h2.alloc _) hg' (Nat.le_refl _) (by simp; omega)
        have hb' : Below lb u6 W' := h3.trans (hbh.mono (by omega))
        have g1 := h1.below hbh (by omega)
        have hz' : lb + 1 ≤ W'.heap.size := by have := hbh.size; omega
        have hsm : Sm U.heap.size hi W W' := Sm.of_below hbh (Nat.le_refl _)
        have ho' : W'.ownsRow hi 55 4 v' (pre ++ [(xk, (⟨xo, xm, xf⟩ : Ent))]).length (rowT (pre ++ [(xk, ⟨xo, xm, xf⟩)])) := by
          rw [List.length_append, rowT_snoc]; exact ho
        clear hg' c1 ho hbh
        obtain ⟨g9, cp, rfl, hgh, hgl⟩ := World.ownsRow.form ho' (by simp)
        rw [show (pre ++ [(xk, (⟨xo, xm, xf⟩ : Ent))]).length = pre.length + 1 by simp] at ho' ⊢
        have f1 := g1.frozen 0
        have c1 : W'.cell? ⟨lb, 0, none⟩ = some v := g1.cell 0 rfl
        have hso := ownsRow_setCell_below ho' (a := ⟨lb, 0, none⟩) (by dsimp only; omega) (.slice (some ⟨g9, 0, none⟩) (pre.length + 1) cp)
        have HSO := Lib.hid hso
        clear hso
        gi_wp2_with fail
        · refine ⟨hsm.setCell _ (Or.inr (by dsimp only; omega)) _, rfl, _, pre ++ [(xk, ⟨xo, xm, xf⟩)], suf, by rw [hxs]; simp, by simp; omega, g1.set 0 _, ?_, hb'.setCell (p := ⟨lb, 0, none⟩) (Nat.le_refl _) _, by simpa using hz'⟩
          have := HSO.out
          rw [show (pre ++ [(xk, (⟨xo, xm, xf⟩ : Ent))]).length = pre.length + 1 by simp]
          exact owns_weaken this (by omega)
        · refine ⟨hsm.setCell _ (Or.inr (by dsimp only; omega)) _, _, g1.set 0 _, ?_, hb'.setCell (p := ⟨lb, 0, none⟩) (Nat.le_refl _) _, by simpa using hz', h5, by simp; omega⟩
          have := HSO.out
          rw [show (pre ++ [(xk, (⟨xo, xm, xf⟩ : Ent))]).length = pre.length + 1 by simp]
          exact this
      case hdone =>
        rintro D9 W hi hD ⟨v, h1, h2, h3, h4, h5, h6⟩ hK
        obtain ⟨T, hT⟩ : ∃ T, ofR D o = T := ⟨_, rfl⟩
        rw [hT] at h2 h6
        have hTl : T.length = min 3 (ofR D o).length := by rw [hT]; omega
        have htk : T = (ofR D o).take T.length := by rw [hT, List.take_length]
        clear hT
        have c1 : W.cell? ⟨lb, 0, none⟩ = some v := h1.cell 0 rfl
        have hC1 := HC.out.step (h3.mono (Nat.le_of_eq hlb'))
        have cg : W.cell? ⟨g, 0, none⟩ = some (.slice va D.length vc) := hC1.x.cell 0 rfl
        have rv : RowAt W.heap.size W v T.length (rowT T) := RowAt.of_owns h2 (Nat.le_refl _)
        obtain ⟨oa, oc, rfl, _⟩ := rv.len
        have HRV := Lib.hid rv
        clear h2 rv
        go_wp2_with fail
        refine (Of_ok (.slice va D.length vc) D W.heap.size o W (Nat.le_refl _) (by omega) hC1.r).mono ?_; rintro e y1 ⟨v9, rfl, o9, k1⟩
        have rp := RowAt.of_owns o9 (Nat.le_refl _)
        obtain ⟨P, hP⟩ : ∃ P, ofR D o = P := ⟨_, rfl⟩
        rw [hP] at rp hTl htk hle
        obtain ⟨pa', pc', rfl, hpc⟩ := rp.len'
        have HPC := Lib.hid hpc
        have HRP := Lib.hid rp
        have HRV1 := Lib.hid ((HRV.out.below k1 (Nat.le_refl _)).mono k1.size)
        have l1 := h1.below k1 h1.lt
        have c1' : y1.cell? ⟨lb, 0, none⟩ = some (.slice oa T.length oc) := l1.cell 0 rfl
        have HK1 := Lib.hid k1
        clear HRV k1 c1 cg rp hP o9 hpc
        go_wp2_with fail
        have hq1 : min 3 (P.length : Int) = (T.length : Int) := by omega
        obtain ⟨hrs, hrq⟩ := slice_head (P := Try.prog) (t := 26) (s := 4) Try.underlying26 (fun w => by kernel_rfl) HRP.out T.length (by omega)
        rw [rowT_take4, ← htk] at hrq
        have HRQ := Lib.hid hrq
        have HQ1 := Lib.hid hq1
        have HTl := Lib.hid hTl
        have hT9 : T.length < 1000000 := by omega
        clear hrq hrs hq1 hTl htk hle
        refine wp_onlyN ?_
        refine wp_region_held_drew (S := fun Y => Y.cell? ⟨lb, 0, none⟩ = some (.slice oa T.length oc)) (by kernel_rfl) c1' (fun hHeld => ?_)
        refine wpAnyH_take (i := 0) (v := ?_) rfl (by kernel_rfl) (by kernel_rfl) (by kernel_rfl) (fun _ _ _ h => h) (Or.inl ⟨by rfl, ?_⟩) (by assumption) ?_
        rotate_left
        · (intro Y hSw; (try dsimp only at hSw); obtain hS0 := hSw; go_simp; try with_reducible rfl)
        try simp only [Act.put, List.getElem_toArray, List.getElem_cons_zero, List.getElem_cons_succ, List.setIfInBounds_toArray, List.set_cons_zero, List.set_cons_succ]
        refine wpAnyH_take (i := 1) (v := ?_) rfl (by kernel_rfl) (by kernel_rfl) (by kernel_rfl) (fun _ _ _ h => h) (Or.inl ⟨by rfl, ?_⟩) (by assumption) ?_
        rotate_left
        · (intro Y hSw; (try dsimp only at hSw); obtain hS0 := hSw; go_simp; try with_reducible rfl)
        try simp only [Act.put, List.getElem_toArray, List.getElem_cons_zero, List.getElem_cons_succ, List.setIfInBounds_toArray, List.set_cons_zero, List.set_cons_succ]
        refine wpAnyH_take (i := 2) (v := ?_) rfl (by kernel_rfl) (by kernel_rfl) (by kernel_rfl) (fun _ _ _ h => h) (Or.inl ⟨by rfl, ?_⟩) (by assumption) ?_
        rotate_left
        · (intro Y hSw; (try dsimp only at hSw); obtain hS0 := hSw; go_simp; try with_reducible rfl)
        try simp only [Act.put, List.getElem_toArray, List.getElem_cons_zero, List.getElem_cons_succ, List.setIfInBounds_toArray, List.set_cons_zero, List.set_cons_succ]
        refine wpAnyH_take (i := 3) (v := ?_) rfl (by kernel_rfl) (by kernel_rfl) (by kernel_rfl) (fun _ _ _ h => h) (Or.inl ⟨by rfl, ?_⟩) (by assumption) ?_
        rotate_left
        · (intro Y hSw; (try dsimp only at hSw); obtain hS0 := hSw; go_simp; try with_reducible rfl)
        try simp only [Act.put, List.getElem_toArray, List.getElem_cons_zero, List.getElem_cons_succ, List.setIfInBounds_toArray, List.set_cons_zero, List.set_cons_succ]
        refine wpAnyH_take (i := 4) (v := .int .i64 (T.length : Int)) rfl (by kernel_rfl) (by kernel_rfl) (by kernel_rfl) (fun _ _ _ h => h) (Or.inl ⟨by rfl, by intro Y hSw; go_simp; exact HQ1.out⟩) (by assumption) ?_
        try simp only [Act.put, List.getElem_toArray, List.getElem_cons_zero, List.getElem_cons_succ, List.setIfInBounds_toArray, List.set_cons_zero, List.set_cons_succ]
        refine wpAnyH_take (i := 5) (v := .slice pa' T.length pc') rfl (by kernel_rfl) (by kernel_rfl) (by kernel_rfl) (fun _ _ _ h => h) (Or.inl ⟨by rfl, by intro Y hSw; go_simp; intro h9; exfalso; have := HTl.out; have := HPC.out; omega⟩) (by assumption) ?_
        try simp only [Act.put, List.getElem_toArray, List.getElem_cons_zero, List.getElem_cons_succ, List.setIfInBounds_toArray, List.set_cons_zero, List.set_cons_succ]
        refine wpAnyH_ready (rs := [6]) (by kernel_rfl) (by simp) ?_
        refine AllReadyH.cons rfl (fun K hK => ?_) AllReadyH.nil
        go_simp
        refine (rSame_ok _ _ T T y1.heap.size y1.drew (Nat.le_refl _) hT9 (HRV1.out.below (Below.refl _ y1).drew (Nat.le_refl _)) (HRQ.out.below (Below.refl _ y1).drew (Nat.le_refl _))).mono ?_; rintro e y2 ⟨rfl, k2⟩
        rw [show decide (T = T) = true from decide_eq_true rfl]
        have K2 : Below y1.heap.size y1 y2 := (Below.refl _ y1).drew.trans k2
        have b2 := l1.below K2 l1.lt
        clear k2 HRQ HRV1
        go_simp
        refine hK.out _ _ (b2.cell 0 rfl) (fun hHeld => ?_)
        clear hK K
        try simp only [Act.put, List.getElem_toArray, List.getElem_cons_zero, List.getElem_cons_succ, List.setIfInBounds_toArray, List.set_cons_zero, List.set_cons_succ]
        refine wpAnyH_take (i := 7) (v := ?_) rfl (by kernel_rfl) (by kernel_rfl) (by kernel_rfl) (fun _ _ _ h => h) (Or.inl ⟨by rfl, ?_⟩) (by assumption) ?_
        rotate_left
        · (intro Y hSw; (try dsimp only at hSw); obtain hS0 := hSw; go_simp; try with_reducible rfl)
        try simp only [Act.put, List.getElem_toArray, List.getElem_cons_zero, List.getElem_cons_succ, List.setIfInBounds_toArray, List.set_cons_zero, List.set_cons_succ]
        refine wpAnyH_ready (rs := [8]) (by kernel_rfl) (by simp) ?_
        refine AllReadyH.cons rfl (fun K hK => ?_) AllReadyH.nil
        go_simp
        refine (works_ok y2).mono ?_; rintro e y3 ⟨rfl, k3⟩
        have K3 := K2.trans (k3.mono K2.size)
        have b3 := b2.below k3 b2.lt
        clear k3
        go_simp
        refine hK.out _ _ (b3.cell 0 rfl) (fun hHeld => ?_)
        clear hK K
        try simp only [Act.put, List.getElem_toArray, List.getElem_cons_zero, List.getElem_cons_succ, List.setIfInBounds_toArray, List.set_cons_zero, List.set_cons_succ]
        refine wpAnyH_take (i := 9) (v := ?_) rfl (by kernel_rfl) (by kernel_rfl) (by kernel_rfl) (fun _ _ _ h => h) (Or.inl ⟨by rfl, ?_⟩) (by assumption) ?_
        rotate_left
        · (intro Y hSw; (try dsimp only at hSw); obtain hS0 := hSw; go_simp; try with_reducible rfl)
        try simp only [Act.put, List.getElem_toArray, List.getElem_cons_zero, List.getElem_cons_succ, List.setIfInBounds_toArray, List.set_cons_zero, List.set_cons_succ]
        refine wpAnyH_take (i := 10) (v := ?_) rfl (by kernel_rfl) (by kernel_rfl) (by kernel_rfl) (fun _ _ _ h => h) (Or.inl ⟨by rfl, ?_⟩) (by assumption) ?_
        rotate_left
        · (intro Y hSw; (try dsimp only at hSw); obtain hS0 := hSw; go_simp; try with_reducible rfl)
        try simp only [Act.put, List.getElem_toArray, List.getElem_cons_zero, List.getElem_cons_succ, List.setIfInBounds_toArray, List.set_cons_zero, List.set_cons_succ]
        refine wpAnyH_done (by kernel_rfl) ?_ _
        rw [onlyN_normal]
        go_wp2_with fail
        have K4 := HK1.out.trans (K3.mono HK1.out.size)
        have hK3 : y3.heap[D9]? = some (.deferred (some [])) := (K4.block D9 (Array.getElem?_eq_some_iff.1 hK).1).trans hK
        have hall : Below w.heap.size w y3 := k0.trans ((hC1.k.trans (K4.mono hC1.k.size)).mono k0.size)
        exact postM_ret hK3 (results_tmp rfl _ _ _) ⟨rfl, below_putObj hall (by omega) _ (Array.getElem?_eq_some_iff.1 hK3).1⟩
      case hstop =>
        rintro D9 c W hD ⟨rfl, v, T, suf, h0, h6, h1, h2, h3, h4⟩ hK
        have hTl : T.length = min 3 (ofR D o).length := by rw [h0, List.length_append]; omega
        have htk : T = (ofR D o).take T.length := by rw [h0, List.take_left]
        clear h0 h6
        have c1 : W.cell? ⟨lb, 0, none⟩ = some v := h1.cell 0 rfl
        have hC1 := HC.out.step (h3.mono (Nat.le_of_eq hlb'))
        have cg : W.cell? ⟨g, 0, none⟩ = some (.slice va D.length vc) := hC1.x.cell 0 rfl
        have rv : RowAt W.heap.size W v T.length (rowT T) := RowAt.of_owns h2 (Nat.le_refl _)
        obtain ⟨oa, oc, rfl, _⟩ := rv.len
        have HRV := Lib.hid rv
        clear h2 rv
        go_wp2_with fail
        refine (Of_ok (.slice va D.length vc) D W.heap.size o W (Nat.le_refl _) (by omega) hC1.r).mono ?_; rintro e y1 ⟨v9, rfl, o9, k1⟩
        have rp := RowAt.of_owns o9 (Nat.le_refl _)
        obtain ⟨P, hP⟩ : ∃ P, ofR D o = P := ⟨_, rfl⟩
        rw [hP] at rp hTl htk hle
        obtain ⟨pa', pc', rfl, hpc⟩ := rp.len'
        have HPC := Lib.hid hpc
        have HRP := Lib.hid rp
        have HRV1 := Lib.hid ((HRV.out.below k1 (Nat.le_refl _)).mono k1.size)
        have l1 := h1.below k1 h1.lt
        have c1' : y1.cell? ⟨lb, 0, none⟩ = some (.slice oa T.length oc) := l1.cell 0 rfl
        have HK1 := Lib.hid k1
        clear HRV k1 c1 cg rp hP o9 hpc
        go_wp2_with fail
        have hq1 : min 3 (P.length : Int) = (T.length : Int) := by omega
        obtain ⟨hrs, hrq⟩ := slice_head (P := Try.prog) (t := 26) (s := 4) Try.underlying26 (fun w => by kernel_rfl) HRP.out T.length (by omega)
        rw [rowT_take4, ← htk] at hrq
        have HRQ := Lib.hid hrq
        have HQ1 := Lib.hid hq1
        have HTl := Lib.hid hTl
        have hT9 : T.length < 1000000 := by omega
        clear hrq hrs hq1 hTl htk hle
        refine wp_onlyN ?_
        refine wp_region_held_drew (S := fun Y => Y.cell? ⟨lb, 0, none⟩ = some (.slice oa T.length oc)) (by kernel_rfl) c1' (fun hHeld => ?_)
        refine wpAnyH_take (i := 0) (v := ?_) rfl (by kernel_rfl) (by kernel_rfl) (by kernel_rfl) (fun _ _ _ h => h) (Or.inl ⟨by rfl, ?_⟩) (by assumption) ?_
        rotate_left
        · (intro Y hSw; (try dsimp only at hSw); obtain hS0 := hSw; go_simp; try with_reducible rfl)
        try simp only [Act.put, List.getElem_toArray, List.getElem_cons_zero, List.getElem_cons_succ, List.setIfInBounds_toArray, List.set_cons_zero, List.set_cons_succ]
        refine wpAnyH_take (i := 1) (v := ?_) rfl (by kernel_rfl) (by kernel_rfl) (by kernel_rfl) (fun _ _ _ h => h) (Or.inl ⟨by rfl, ?_⟩) (by assumption) ?_
        rotate_left
        · (intro Y hSw; (try dsimp only at hSw); obtain hS0 := hSw; go_simp; try with_reducible rfl)
        try simp only [Act.put, List.getElem_toArray, List.getElem_cons_zero, List.getElem_cons_succ, List.setIfInBounds_toArray, List.set_cons_zero, List.set_cons_succ]
        refine wpAnyH_take (i := 2) (v := ?_) rfl (by kernel_rfl) (by kernel_rfl) (by kernel_rfl) (fun _ _ _ h => h) (Or.inl ⟨by rfl, ?_⟩) (by assumption) ?_
        rotate_left
        · (intro Y hSw; (try dsimp only at hSw); obtain hS0 := hSw; go_simp; try with_reducible rfl)
        try simp only [Act.put, List.getElem_toArray, List.getElem_cons_zero, List.getElem_cons_succ, List.setIfInBounds_toArray, List.set_cons_zero, List.set_cons_succ]
        refine wpAnyH_take (i := 3) (v := ?_) rfl (by kernel_rfl) (by kernel_rfl) (by kernel_rfl) (fun _ _ _ h => h) (Or.inl ⟨by rfl, ?_⟩) (by assumption) ?_
        rotate_left
        · (intro Y hSw; (try dsimp only at hSw); obtain hS0 := hSw; go_simp; try with_reducible rfl)
        try simp only [Act.put, List.getElem_toArray, List.getElem_cons_zero, List.getElem_cons_succ, List.setIfInBounds_toArray, List.set_cons_zero, List.set_cons_succ]
        refine wpAnyH_take (i := 4) (v := .int .i64 (T.length : Int)) rfl (by kernel_rfl) (by kernel_rfl) (by kernel_rfl) (fun _ _ _ h => h) (Or.inl ⟨by rfl, by intro Y hSw; go_simp; exact HQ1.out⟩) (by assumption) ?_
        try simp only [Act.put, List.getElem_toArray, List.getElem_cons_zero, List.getElem_cons_succ, List.setIfInBounds_toArray, List.set_cons_zero, List.set_cons_succ]
        refine wpAnyH_take (i := 5) (v := .slice pa' T.length pc') rfl (by kernel_rfl) (by kernel_rfl) (by kernel_rfl) (fun _ _ _ h => h) (Or.inl ⟨by rfl, by intro Y hSw; go_simp; intro h9; exfalso; have := HTl.out; have := HPC.out; omega⟩) (by assumption) ?_
        try simp only [Act.put, List.getElem_toArray, List.getElem_cons_zero, List.getElem_cons_succ, List.setIfInBounds_toArray, List.set_cons_zero, List.set_cons_succ]
        refine wpAnyH_ready (rs := [6]) (by kernel_rfl) (by simp) ?_
        refine AllReadyH.cons rfl (fun K hK => ?_) AllReadyH.nil
        go_simp
        refine (rSame_ok _ _ T T y1.heap.size y1.drew (Nat.le_refl _) hT9 (HRV1.out.below (Below.refl _ y1).drew (Nat.le_refl _)) (HRQ.out.below (Below.refl _ y1).drew (Nat.le_refl _))).mono ?_; rintro e y2 ⟨rfl, k2⟩
        rw [show decide (T = T) = true from decide_eq_true rfl]
        have K2 : Below y1.heap.size y1 y2 := (Below.refl _ y1).drew.trans k2
        have b2 := l1.below K2 l1.lt
        clear k2 HRQ HRV1
        go_simp
        refine hK.out _ _ (b2.cell 0 rfl) (fun hHeld => ?_)
        clear hK K
        try simp only [Act.put, List.getElem_toArray, List.getElem_cons_zero, List.getElem_cons_succ, List.setIfInBounds_toArray, List.set_cons_zero, List.set_cons_succ]
        refine wpAnyH_take (i := 7) (v := ?_) rfl (by kernel_rfl) (by kernel_rfl) (by kernel_rfl) (fun _ _ _ h => h) (Or.inl ⟨by rfl, ?_⟩) (by assumption) ?_
        rotate_left
        · (intro Y hSw; (try dsimp only at hSw); obtain hS0 := hSw; go_simp; try with_reducible rfl)
        try simp only [Act.put, List.getElem_toArray, List.getElem_cons_zero, List.getElem_cons_succ, List.setIfInBounds_toArray, List.set_cons_zero, List.set_cons_succ]
        refine wpAnyH_ready (rs := [8]) (by kernel_rfl) (by simp) ?_
        refine AllReadyH.cons rfl (fun K hK => ?_) AllReadyH.nil
        go_simp
        refine (works_ok y2).mono ?_; rintro e y3 ⟨rfl, k3⟩
        have K3 := K2.trans (k3.mono K2.size)
        have b3 := b2.below k3 b2.lt
        clear k3
        go_simp
        refine hK.out _ _ (b3.cell 0 rfl) (fun hHeld => ?_)
        clear hK K
        try simp only [Act.put, List.getElem_toArray, List.getElem_cons_zero, List.getElem_cons_succ, List.setIfInBounds_toArray, List.set_cons_zero, List.set_cons_succ]
        refine wpAnyH_take (i := 9) (v := ?_) rfl (by kernel_rfl) (by kernel_rfl) (by kernel_rfl) (fun _ _ _ h => h) (Or.inl ⟨by rfl, ?_⟩) (by assumption) ?_
        rotate_left
        · (intro Y hSw; (try dsimp only at hSw); obtain hS0 := hSw; go_simp; try with_reducible rfl)
        try simp only [Act.put, List.getElem_toArray, List.getElem_cons_zero, List.getElem_cons_succ, List.setIfInBounds_toArray, List.set_cons_zero, List.set_cons_succ]
        refine wpAnyH_take (i := 10) (v := ?_) rfl (by kernel_rfl) (by kernel_rfl) (by kernel_rfl) (fun _ _ _ h => h) (Or.inl ⟨by rfl, ?_⟩) (by assumption) ?_
        rotate_left
        · (intro Y hSw; (try dsimp only at hSw); obtain hS0 := hSw; go_simp; try with_reducible rfl)
        try simp only [Act.put, List.getElem_toArray, List.getElem_cons_zero, List.getElem_cons_succ, List.setIfInBounds_toArray, List.set_cons_zero, List.set_cons_succ]
        refine wpAnyH_done (by kernel_rfl) ?_ _
        rw [onlyN_normal]
        go_wp2_with fail
        have K4 := HK1.out.trans (K3.mono HK1.out.size)
        have hK3 : y3.heap[D9]? = some (.deferred (some [])) := (K4.block D9 (Array.getElem?_eq_some_iff.1 hK).1).trans hK
        have hall : Below w.heap.size w y3 := k0.trans ((hC1.k.trans (K4.mono hC1.k.size)).mono k0.size)
        exact postM_ret hK3 (results_tmp rfl _ _ _) ⟨rfl, below_putObj hall (by omega) _ (Array.getElem?_eq_some_iff.1 hK3).1⟩
end Go.Proofs.Ytchepkihlnpfeaa
