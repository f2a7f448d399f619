/-
  Package pinfoldlaw08: PageRuns. No condition.
-/
import Derived.Test.YtchepkihlnpfeaaPgZ
namespace Go.Proofs.Ytchepkihlnpfeaa
open Go.RowKit
attribute [local go_sem] Oper.semAt_some
set_option maxHeartbeats 400000
set_option maxRecDepth 8000

theorem RowAt.get8 {B : Nat} {w : World} {ad : Option Addr} {cap n : Nat} {l : List Int} {kd : IntKind} (h : RowAt B w (.slice ad n cap) n (intVals kd l)) (hn : l.length = n) (k : Nat) (hk : k < n) : ∃ b off, ad = some ⟨b, off, none⟩ ∧ b < B ∧ w.cell? ⟨b, off + k, none⟩ = some (.int kd (l.getD k 0)) := by
  obtain ⟨a, c, e, _, hx⟩ := h
  simp only [Value.slice.injEq] at e
  obtain ⟨rfl, _⟩ := e
  rcases hx with hx | ⟨b, off, rfl, hb, hx⟩
  · have : (intVals kd l).length = 0 := by rw [hx]; rfl
    rw [intVals_len] at this; omega
  · refine ⟨b, off, rfl, hb, ?_⟩
    rw [hx k (by rw [intVals_len]; omega), intVals_get _ _ _ (by omega)]
    simp [List.getD, List.getElem?_eq_getElem (show k < l.length by omega)]
/-- The document's table stands before the other's, an entry in a box. -/
structure Ra (w W : World) (b m g e : Nat) (u : Value) (D E : Tb) (f : Int) : Prop where
  t : TblAt W b m D
  gd : Good D
  x : Blk W g #[u] 28
  r : RowAt W.heap.size W u E.length (rowT E)
  n : Blk W e #[.int .i64 1, .int .i64 0, .int .i64 f] 31
  k : Below w.heap.size w W
  lo : w.heap.size ≤ m ∧ w.heap.size ≤ g
theorem Ra.step {w W W' : World} {b m g e : Nat} {u : Value} {D E : Tb} {f : Int} (h : Ra w W b m g e u D E f) (k : Below W.heap.size W W') : Ra w W' b m g e u D E f :=
  ⟨h.t.step k, h.gd, h.x.below k h.x.lt, (h.r.below k (Nat.le_refl _)).mono k.size, h.n.below k h.n.lt, h.k.trans (k.mono h.k.size), h.lo⟩
theorem Ra.put {w W : World} {b m g e : Nat} {v : Value} {D E : Tb} {f : Int} {a : Option Addr} {n c : Nat} (h : Lp w W b m g v (.slice a n c) D) (hn : Blk W e #[.int .i64 1, .int .i64 0, .int .i64 f] 31) (u : Value)
    (hr : RowAt W.heap.size W u E.length (rowT E)) : Ra w (W.setCell ⟨g, 0, none⟩ u) b m g e u D E f := by
  have h1 := h.put u
  have hne : e ≠ g := by
    rintro rfl
    have e1 : W.cell? ⟨e, 0, none⟩ = some (.int .i64 1) := hn.cell 0 rfl
    have e2 : W.cell? ⟨e, 0, none⟩ = some (.slice a n c) := h.x.cell 0 rfl
    rw [e1] at e2
    cases e2
  exact ⟨h1.p.t, h1.p.g, h1.x, (hr.setBox h.x (fun i e => by cases e) u).mono (by simp), hn.setOther _ _ hne, h1.p.k, h1.p.lo, h1.lo⟩
theorem Ra.map {w W W' : World} {b m g e : Nat} {u : Value} {D E : Tb} {f : Int} (h : Ra w W b m g e u D E f) (ht : TblAt W' b m E) (he : Good E) (k : Chg m W W') : Lp w W' b m g u u E :=
  ⟨⟨ht, he, (h.r.chgm h.t.mp k).mono k.size, h.k.trans (k.below h.lo.1 h.k.size), h.lo.1⟩, k.blk h.x (h.t.mp.neI h.x).symm, h.lo.2⟩
structure RnS (ba off g e : Nat) (a f : Int) (v : Value) (Y : World) : Prop where
  q : Y.cell? ⟨ba, off, none⟩ = some (.int .u8 a)
  row : Y.cell? ⟨g, 0, none⟩ = some v
  e0 : Y.cell? ⟨e, 0, none⟩ = some (.int .i64 1)
  e1 : Y.cell? ⟨e, 1, none⟩ = some (.int .i64 0)
  e2 : Y.cell? ⟨e, 2, none⟩ = some (.int .i64 f)
structure RmS' (ba off e : Nat) (a f : Int) (Y : World) : Prop where
  q : Y.cell? ⟨ba, off, none⟩ = some (.int .u8 a)
  e0 : Y.cell? ⟨e, 0, none⟩ = some (.int .i64 1)
  e1 : Y.cell? ⟨e, 1, none⟩ = some (.int .i64 0)
  e2 : Y.cell? ⟨e, 2, none⟩ = some (.int .i64 f)
theorem runs_body (v0 : Value) (l : List Int) (from_ many : Int) (w : World) (hv : RowAt w.heap.size w v0 l.length (intVals .u8 l)) (h8 : ∀ x ∈ l, (Lit.int .u8 x).wf = true) (hml : l.length ≤ maxLen) (hf : from_ ≤ 9223372036854775807) :
    Calls Try.prog 3 #[v0, .int .i64 from_, .int .i64 many] w fun e w' => e = .returned (.bool true) ∧ Below w.heap.size w w' := by
  obtain ⟨ad, cap, rfl, _⟩ := hv.len
  have HV := Lib.hid hv
  replace hml : l.length ≤ 9223372036854775807 := by unfold maxLen at hml; omega
  clear hv
  by_cases h1 : 40 < l.length
  · go_enter Try.func3, Try.ntmps3
    go_wp2_with fail
    refine (works_ok _).mono ?_; rintro e w1 ⟨rfl, k⟩
    go_wp2_with fail
    go_ret
    exact ⟨rfl, k⟩
  go_enter Try.func3, Try.ntmps3
  go_wp2_with fail
  refine (New_calls _).mono ?_; rintro e W ⟨b, m, rfl, ht, hlo, _, kk⟩
  go_wp2_with fail
  obtain ⟨W0, hW0⟩ : ∃ W0, W0 = W.alloc (.cells #[.slice none 0 0] 28) := ⟨_, rfl⟩
  rw [← hW0]
  have k3 : Below W.heap.size W W0 := by rw [hW0]; exact (Below.refl _ W).alloc (Nat.le_refl _) _
  have h0 : Lp w W0 b m W.heap.size (.slice none 0 0) (.slice none 0 0) [] := ⟨⟨ht.step k3, Good.nil, RowAt.nil _ _, kk.trans (k3.mono kk.size), hlo⟩, by rw [hW0]; exact Blk.new _ _ _, kk.size⟩
  obtain ⟨g, hg⟩ : ∃ g, W.heap.size = g := ⟨_, rfl⟩
  rw [hg] at h0 ⊢
  clear hW0 k3 kk ht hlo hg
  go_loopw [9] (fun i wr => ∃ (k : Nat) (v : Value) (D : Tb), k ≤ l.length ∧ D.length ≤ k ∧ i = .int .i64 k ∧ Lp w wr b m g v v D) (fun i _ => l.length - (intOf i).toNat)
  case atStart => exact ⟨0, _, _, by omega, by simp, rfl, h0⟩
  case round =>
    obtain ⟨k, v, D, hk, hDk, rfl, hL⟩ := hrel
    rename_i wr
    obtain ⟨va, vc, rfl, _⟩ := hL.p.r.len
    clear h0
    by_cases hlt : k < l.length
    · obtain ⟨ba, off, rfl, hba, q⟩ := HV.out.get8 rfl k hlt
      obtain ⟨a, ha⟩ : ∃ a, l.getD k 0 = a := ⟨_, rfl⟩
      rw [ha] at q
      have ha8 : 0 ≤ a ∧ a < 256 := by
        rw [← ha, List.getD_eq_getElem?_getD, List.getElem?_eq_getElem hlt]
        exact u8_bd (h8 _ (List.getElem_mem hlt))
      obtain ⟨a0, a1⟩ := ha8
      have i0 : (0 : Int) ≤ k := by omega
      have i1 : (k : Int) < l.length := by omega
      have hlD : D.length ≤ 1000 := by omega
      obtain ⟨E, hE⟩ : ∃ E, mapD D a ⟨1, 0, k⟩ = E := ⟨_, rfl⟩
      have hEl : E.length ≤ k + 1 := by rw [← hE]; have := mapD_len D a ⟨1, 0, k⟩; omega
      have hEg : Good E := by rw [← hE]; exact hL.p.g.map _ _
      have HM := Lib.hid (fun (Y : World) (h : RowAt Y.heap.size Y (.slice va D.length vc) D.length (rowT D)) => rMap_ok _ D Y.heap.size a ⟨1, 0, k⟩ Y (Nat.le_refl _) (by omega) h)
      have HT := Lib.hid (fun (Y : World) (h : TblAt Y b m D) => Map_ok h (by omega) a ⟨1, 0, k⟩)
      unfold encE at HT
      rw [hE] at HM HT
      obtain ⟨W2, hW2⟩ : ∃ W2, wr.alloc (.cells #[.int .i64 1, .int .i64 0, .int .i64 k] 31) = W2 := ⟨_, rfl⟩
      have k2 : Below wr.heap.size wr W2 := by rw [← hW2]; exact (Below.refl _ wr).alloc (Nat.le_refl _) _
      have hX : Blk W2 wr.heap.size #[.int .i64 1, .int .i64 0, .int .i64 k] 31 := by rw [← hW2]; exact Blk.new wr _ _
      have hL2 := hL.step k2
      obtain ⟨e0, he0⟩ : ∃ e0, wr.heap.size = e0 := ⟨_, rfl⟩
      have HE0 := Lib.hid he0
      clear hE ha
      have hwr : IntKind.i64.wrap a = a := IntWalk.i64_in _ (by omega)
      have hQ : ∀ Y, Below w.heap.size w Y → Y.cell? ⟨ba, off + k, none⟩ = some (.int .u8 a) := fun Y hk => (hk.cell (p := ⟨ba, off + k, none⟩) hba).trans q
      have HQ := Lib.hid hQ
      clear hQ q hL he0
      go_wp2_with fail
      clear hW2
      rw [HE0.out] at hX ⊢
      refine wp_onlyN ?_
      refine wp_region_held_drew (S := RmS' ba (off + k) e0 a k) (by kernel_rfl) ⟨HQ.out _ (hL2.step (Below.refl _ W2).drew).p.k, hX.cell 0 rfl, hX.cell 1 rfl, hX.cell 2 rfl⟩ (fun hHeld => ?_)
      have hL3 := hL2.step (Below.refl _ W2).drew
      have hX3 := hX.below (Below.refl _ W2).drew hX.lt
      clear hL2 hX HE0 k2
      change wpAnyH _ _ _ _ _ _ _ _ W2.drew
      generalize W2.drew = Y at hL3 hX3 hHeld ⊢
      refine wpAnyH_take (i := 1) (v := ?_) rfl (by kernel_rfl) (by kernel_rfl) (by kernel_rfl) (fun _ _ _ h => h) (Or.inl ⟨by rfl, ?_⟩) (by assumption) ?_
      rotate_left
      · (intro Y hSw; (try dsimp only at hSw); obtain ⟨hS0, hS1, hS2, hS3⟩ := hSw; go_simp; try with_reducible rfl)
      try simp only [Act.put, List.getElem_toArray, List.getElem_cons_zero, List.getElem_cons_succ, List.setIfInBounds_toArray, List.set_cons_zero, List.set_cons_succ]
      refine wpAnyH_take (i := 2) (v := ?_) rfl (by kernel_rfl) (by kernel_rfl) (by kernel_rfl) (fun _ _ _ h => h) (Or.inl ⟨by rfl, ?_⟩) (by assumption) ?_
      rotate_left
      · (intro Y hSw; (try dsimp only at hSw); obtain ⟨hS0, hS1, hS2, hS3⟩ := hSw; go_simp; try with_reducible rfl)
      try simp only [Act.put, List.getElem_toArray, List.getElem_cons_zero, List.getElem_cons_succ, List.setIfInBounds_toArray, List.set_cons_zero, List.set_cons_succ]
      refine wpAnyH_take (i := 3) (v := ?_) rfl (by kernel_rfl) (by kernel_rfl) (by kernel_rfl) (fun _ _ _ h => h) (Or.inl ⟨by rfl, ?_⟩) (by assumption) ?_
      rotate_left
      · (intro Y hSw; (try dsimp only at hSw); obtain ⟨hS0, hS1, hS2, hS3⟩ := hSw; go_simp; try with_reducible rfl)
      try simp only [Act.put, List.getElem_toArray, List.getElem_cons_zero, List.getElem_cons_succ, List.setIfInBounds_toArray, List.set_cons_zero, List.set_cons_succ]
      refine wpAnyH_take (i := 4) (v := ?_) rfl (by kernel_rfl) (by kernel_rfl) (by kernel_rfl) (fun _ _ _ h => h) (Or.inl ⟨by rfl, ?_⟩) (by assumption) ?_
      rotate_left
      · (intro Y hSw; (try dsimp only at hSw); obtain ⟨hS0, hS1, hS2, hS3⟩ := hSw; go_simp; try with_reducible rfl)
      try simp only [Act.put, List.getElem_toArray, List.getElem_cons_zero, List.getElem_cons_succ, List.setIfInBounds_toArray, List.set_cons_zero, List.set_cons_succ]
      refine wpAnyH_take (i := 5) (v := ?_) rfl (by kernel_rfl) (by kernel_rfl) (by kernel_rfl) (fun _ _ _ h => h) (Or.inl ⟨by rfl, ?_⟩) (by assumption) ?_
      rotate_left
      · (intro Y hSw; (try dsimp only at hSw); obtain ⟨hS0, hS1, hS2, hS3⟩ := hSw; go_simp; try with_reducible rfl)
      try simp only [Act.put, List.getElem_toArray, List.getElem_cons_zero, List.getElem_cons_succ, List.setIfInBounds_toArray, List.set_cons_zero, List.set_cons_succ]
      refine wpAnyH_take (i := 6) (v := ?_) rfl (by kernel_rfl) (by kernel_rfl) (by kernel_rfl) (fun _ _ _ h => h) (Or.inl ⟨by rfl, ?_⟩) (by assumption) ?_
      rotate_left
      · (intro Y hSw; (try dsimp only at hSw); obtain ⟨hS0, hS1, hS2, hS3⟩ := hSw; go_simp; try with_reducible rfl)
      try simp only [Act.put, List.getElem_toArray, List.getElem_cons_zero, List.getElem_cons_succ, List.setIfInBounds_toArray, List.set_cons_zero, List.set_cons_succ]
      have hg3 : Y.cell? ⟨g, 0, none⟩ = some (.slice va D.length vc) := hL3.x.cell 0 rfl
      refine wpAnyH_ready (rs := [0]) (by kernel_rfl) (by simp) ?_
      refine AllReadyH.cons rfl (fun K hK => ?_) AllReadyH.nil
      go_simp
      refine hK.out _ _ (hHeld) (fun hHeld => ?_)
      clear hK K
      try simp only [Act.put, List.getElem_toArray, List.getElem_cons_zero, List.getElem_cons_succ, List.setIfInBounds_toArray, List.set_cons_zero, List.set_cons_succ]
      clear hg3
      refine wpAnyH_ready (rs := [7]) (by kernel_rfl) (by simp) ?_
      refine AllReadyH.cons rfl (fun K hK => ?_) AllReadyH.nil
      go_simp
      refine (HM.out Y hL3.p.r).mono ?_; rintro e Z ⟨v', rfl, hr, kz⟩
      obtain ⟨va', vc', rfl, _⟩ := hr.len
      have hL4 := hL3.step kz
      have hX4 := hX3.below kz hX3.lt
      have hfr := hL4.x.frozen 0
      have hg4 : Z.cell? ⟨g, 0, none⟩ = some (.slice va D.length vc) := hL4.x.cell 0 rfl
      clear hL3 hX3 kz
      go_simp
      refine hK.out _ _ (⟨HQ.out _ hL4.p.k, hX4.cell 0 rfl, hX4.cell 1 rfl, hX4.cell 2 rfl⟩) (fun hHeld => ?_)
      clear hK K
      try simp only [Act.put, List.getElem_toArray, List.getElem_cons_zero, List.getElem_cons_succ, List.setIfInBounds_toArray, List.set_cons_zero, List.set_cons_succ]
      refine wpAnyH_take (i := 8) (v := ?_) rfl (by kernel_rfl) (by kernel_rfl) (by kernel_rfl) (fun _ _ _ h => h) (Or.inl ⟨by rfl, ?_⟩) (by assumption) ?_
      rotate_left
      · (intro Y hSw; (try dsimp only at hSw); obtain ⟨hS0, hS1, hS2, hS3⟩ := hSw; go_simp; try with_reducible rfl)
      try simp only [Act.put, List.getElem_toArray, List.getElem_cons_zero, List.getElem_cons_succ, List.setIfInBounds_toArray, List.set_cons_zero, List.set_cons_succ]
      refine wpAnyH_take (i := 9) (v := ?_) rfl (by kernel_rfl) (by kernel_rfl) (by kernel_rfl) (fun _ _ _ h => h) (Or.inl ⟨by rfl, ?_⟩) (by assumption) ?_
      rotate_left
      · (intro Y hSw; (try dsimp only at hSw); obtain ⟨hS0, hS1, hS2, hS3⟩ := hSw; go_simp; try with_reducible rfl)
      try simp only [Act.put, List.getElem_toArray, List.getElem_cons_zero, List.getElem_cons_succ, List.setIfInBounds_toArray, List.set_cons_zero, List.set_cons_succ]
      refine wpAnyH_take (i := 10) (v := ?_) rfl (by kernel_rfl) (by kernel_rfl) (by kernel_rfl) (fun _ _ _ h => h) (Or.inl ⟨by rfl, ?_⟩) (by assumption) ?_
      rotate_left
      · (intro Y hSw; (try dsimp only at hSw); obtain ⟨hS0, hS1, hS2, hS3⟩ := hSw; go_simp; try with_reducible rfl)
      try simp only [Act.put, List.getElem_toArray, List.getElem_cons_zero, List.getElem_cons_succ, List.setIfInBounds_toArray, List.set_cons_zero, List.set_cons_succ]
      refine wpAnyH_ready (rs := [11]) (by kernel_rfl) (by simp) ?_
      refine AllReadyH.cons rfl (fun K hK => ?_) AllReadyH.nil
      go_simp
      have hR := Ra.put hL4 hX4 (.slice va' E.length vc') hr
      clear hg4 hfr hr hL4 hX4
      refine hK.out _ _ (⟨HQ.out _ hR.k, hR.n.cell 0 rfl, hR.n.cell 1 rfl, hR.n.cell 2 rfl⟩) (fun hHeld => ?_)
      clear hK K
      try simp only [Act.put, List.getElem_toArray, List.getElem_cons_zero, List.getElem_cons_succ, List.setIfInBounds_toArray, List.set_cons_zero, List.set_cons_succ]
      refine wpAnyH_done (by kernel_rfl) ?_ _
      rw [onlyN_normal]
      clear hHeld
      generalize World.setCell Z _ _ = Z2 at hR ⊢
      go_wp2_with fail
      refine wp_onlyN ?_
      refine wp_region_held_drew (S := RmS' ba (off + k) e0 a k) (by kernel_rfl) ⟨HQ.out _ (hR.step (Below.refl _ Z2).drew).k, hR.n.cell 0 rfl, hR.n.cell 1 rfl, hR.n.cell 2 rfl⟩ (fun hHeld => ?_)
      have hR3 := hR.step (Below.refl _ Z2).drew
      clear hR
      change wpAnyH _ _ _ _ _ _ _ _ Z2.drew
      generalize Z2.drew = Z3 at hR3 hHeld ⊢
      refine wpAnyH_take (i := 0) (v := ?_) rfl (by kernel_rfl) (by kernel_rfl) (by kernel_rfl) (fun _ _ _ h => h) (Or.inl ⟨by rfl, ?_⟩) (by assumption) ?_
      rotate_left
      · (intro Y hSw; (try dsimp only at hSw); obtain ⟨hS0, hS1, hS2, hS3⟩ := hSw; go_simp; try with_reducible rfl)
      try simp only [Act.put, List.getElem_toArray, List.getElem_cons_zero, List.getElem_cons_succ, List.setIfInBounds_toArray, List.set_cons_zero, List.set_cons_succ]
      refine wpAnyH_take (i := 1) (v := ?_) rfl (by kernel_rfl) (by kernel_rfl) (by kernel_rfl) (fun _ _ _ h => h) (Or.inl ⟨by rfl, ?_⟩) (by assumption) ?_
      rotate_left
      · (intro Y hSw; (try dsimp only at hSw); obtain ⟨hS0, hS1, hS2, hS3⟩ := hSw; go_simp; try with_reducible rfl)
      try simp only [Act.put, List.getElem_toArray, List.getElem_cons_zero, List.getElem_cons_succ, List.setIfInBounds_toArray, List.set_cons_zero, List.set_cons_succ]
      refine wpAnyH_take (i := 2) (v := ?_) rfl (by kernel_rfl) (by kernel_rfl) (by kernel_rfl) (fun _ _ _ h => h) (Or.inl ⟨by rfl, ?_⟩) (by assumption) ?_
      rotate_left
      · (intro Y hSw; (try dsimp only at hSw); obtain ⟨hS0, hS1, hS2, hS3⟩ := hSw; go_simp; try with_reducible rfl)
      try simp only [Act.put, List.getElem_toArray, List.getElem_cons_zero, List.getElem_cons_succ, List.setIfInBounds_toArray, List.set_cons_zero, List.set_cons_succ]
      refine wpAnyH_take (i := 3) (v := ?_) rfl (by kernel_rfl) (by kernel_rfl) (by kernel_rfl) (fun _ _ _ h => h) (Or.inl ⟨by rfl, ?_⟩) (by assumption) ?_
      rotate_left
      · (intro Y hSw; (try dsimp only at hSw); obtain ⟨hS0, hS1, hS2, hS3⟩ := hSw; go_simp; try with_reducible rfl)
      try simp only [Act.put, List.getElem_toArray, List.getElem_cons_zero, List.getElem_cons_succ, List.setIfInBounds_toArray, List.set_cons_zero, List.set_cons_succ]
      refine wpAnyH_take (i := 4) (v := ?_) rfl (by kernel_rfl) (by kernel_rfl) (by kernel_rfl) (fun _ _ _ h => h) (Or.inl ⟨by rfl, ?_⟩) (by assumption) ?_
      rotate_left
      · (intro Y hSw; (try dsimp only at hSw); obtain ⟨hS0, hS1, hS2, hS3⟩ := hSw; go_simp; try with_reducible rfl)
      try simp only [Act.put, List.getElem_toArray, List.getElem_cons_zero, List.getElem_cons_succ, List.setIfInBounds_toArray, List.set_cons_zero, List.set_cons_succ]
      refine wpAnyH_take (i := 5) (v := ?_) rfl (by kernel_rfl) (by kernel_rfl) (by kernel_rfl) (fun _ _ _ h => h) (Or.inl ⟨by rfl, ?_⟩) (by assumption) ?_
      rotate_left
      · (intro Y hSw; (try dsimp only at hSw); obtain ⟨hS0, hS1, hS2, hS3⟩ := hSw; go_simp; try with_reducible rfl)
      try simp only [Act.put, List.getElem_toArray, List.getElem_cons_zero, List.getElem_cons_succ, List.setIfInBounds_toArray, List.set_cons_zero, List.set_cons_succ]
      refine wpAnyH_take (i := 6) (v := ?_) rfl (by kernel_rfl) (by kernel_rfl) (by kernel_rfl) (fun _ _ _ h => h) (Or.inl ⟨by rfl, ?_⟩) (by assumption) ?_
      rotate_left
      · (intro Y hSw; (try dsimp only at hSw); obtain ⟨hS0, hS1, hS2, hS3⟩ := hSw; go_simp; try with_reducible rfl)
      try simp only [Act.put, List.getElem_toArray, List.getElem_cons_zero, List.getElem_cons_succ, List.setIfInBounds_toArray, List.set_cons_zero, List.set_cons_succ]
      refine wpAnyH_ready (rs := [7]) (by kernel_rfl) (by simp) ?_
      refine AllReadyH.cons rfl (fun K hK => ?_) AllReadyH.nil
      go_simp
      refine (HT.out Z3 hR3.t).mono ?_; rintro e Z4 ⟨rfl, ht4, kc⟩
      have hL5 := hR3.map ht4 hEg kc
      have hne : e0 ≠ m := fun h => hR3.t.mp.neI hR3.n h.symm
      have hn5 := kc.blk hR3.n hne
      go_simp
      refine hK.out _ _ (⟨HQ.out _ hL5.p.k, hn5.cell 0 rfl, hn5.cell 1 rfl, hn5.cell 2 rfl⟩) (fun hHeld => ?_)
      clear hK K
      try simp only [Act.put, List.getElem_toArray, List.getElem_cons_zero, List.getElem_cons_succ, List.setIfInBounds_toArray, List.set_cons_zero, List.set_cons_succ]
      refine wpAnyH_done (by kernel_rfl) ?_ _
      rw [onlyN_normal]
      clear hHeld hR3 ht4 kc hne hn5
      go_wp2_with fail
      exact ⟨⟨k + 1, _, E, by omega, by omega, by go_num, hL5⟩, by simp [intOf]; omega⟩
    · obtain rfl : k = l.length := by omega
      go_wp2_with fail
      refine (Next_ok hL.p.t hL.p.g (by omega) from_ many hf).mono ?_; rintro e w1 ⟨rfl, j1⟩
      have hL1 := hL.step j1
      have ct := hL1.x.cell 0 rfl
      clear hL j1
      go_wp2_with fail
      refine (rNext_ok _ D w1.heap.size from_ many w1 (Nat.le_refl _) (by omega) hL1.p.g hf hL1.p.r).mono ?_; rintro e w2 ⟨rfl, j2⟩
      have hL2 := hL1.step j2
      clear hL1 j2 ct
      have hnb : nxB D from_ many = decide (0 ≤ nextI D from_ many) := rfl
      have hnv : nxV D from_ many = max 0 (nextI D from_ many) := rfl
      rw [hnb, hnv]
      generalize nextI D from_ many = nn
      clear hnb hnv
      go_wp2_with fail
      refine (works_ok _).mono ?_; rintro e w3 ⟨rfl, j3⟩
      have hL3 := hL2.step j3
      go_wp2_with fail
      go_ret
      exact ⟨rfl, hL3.p.k⟩
end Go.Proofs.Ytchepkihlnpfeaa
