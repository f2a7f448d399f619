/-
  Package pinfoldlaw08: PagePlays. No condition.
-/
import Derived.Test.YtchepkihlnpfeaaPgY
namespace Go.Proofs.Ytchepkihlnpfeaa
open Go.RowKit
attribute [local go_sem] Oper.semAt_some
set_option maxHeartbeats 4000000
set_option maxRecDepth 8000

theorem Blk.neI {W : World} {b g : Nat} {r : Value} {o : Option Nat} {t t' : TypeId} (h : Blk W b #[.map o] t) (k : Blk W g #[r] t') (hr : ∀ o, r ≠ .map o) : b ≠ g := by
  rintro rfl
  have e : W.cell? ⟨b, 0, none⟩ = some (.map o) := h.cell 0 rfl
  have e2 : W.cell? ⟨b, 0, none⟩ = some r := k.cell 0 rfl
  rw [e] at e2
  simp only [Option.some.injEq] at e2
  exact hr _ e2.symm
theorem MapP.neI {W : World} {m g : Nat} {D : Tb} {cs : Array Value} {t' : TypeId} (h : MapP encE W m D) (k : Blk W g cs t') : m ≠ g := by
  rintro rfl
  obtain ⟨l, _, es, clock, h1, _⟩ := h
  have := h1.symm.trans k
  simp at this
theorem Pl.box {w W : World} {b m g : Nat} {v : Value} {D : Tb} (h : Pl w W b m v D) {a : Option Addr} {n c : Nat} {t : TypeId} (hb : Blk W g #[.slice a n c] t) (lo : w.heap.size ≤ g) (u : Value) : Pl w (W.setCell ⟨g, 0, none⟩ u) b m v D :=
  ⟨⟨h.t.blk.setOther _ _ (h.t.blk.neI hb (fun o e => by cases e)), h.t.mp.setCell _ _ (h.t.mp.neI hb)⟩, h.g, (h.r.setBox hb (fun i e => by cases e) u).mono (by simp), h.k.setCell (p := ⟨g, 0, none⟩) lo _, h.lo⟩
/-- A table and the document's in a box. -/
structure Lp (w W : World) (b m g : Nat) (v u : Value) (D : Tb) : Prop where
  p : Pl w W b m v D
  x : Blk W g #[u] 28
  lo : w.heap.size ≤ g
theorem Lp.step {w W W' : World} {b m g : Nat} {v u : Value} {D : Tb} (h : Lp w W b m g v u D) (k : Below W.heap.size W W') : Lp w W' b m g v u D := ⟨h.p.step k, h.x.below k h.x.lt, h.lo⟩
theorem Lp.act {w W W' : World} {b m g : Nat} {v u : Value} {D : Tb} {b' m' : Nat} {v' : Value} {D' : Tb} (h : Lp w W b m g v u D) (k : ActE w W W' b m b' m' v' D') : Lp w W' b' m' g v' u D' :=
  ⟨k.p, k.c.blk h.x (h.p.t.mp.neI h.x).symm, h.lo⟩
theorem Lp.put {w W : World} {b m g : Nat} {v : Value} {D : Tb} {a : Option Addr} {n c : Nat} (h : Lp w W b m g v (.slice a n c) D) (u : Value) : Lp w (W.setCell ⟨g, 0, none⟩ u) b m g v u D :=
  ⟨h.p.box h.x h.lo u, h.x.set 0 u, h.lo⟩
theorem Lp.putO {w W : World} {b m g d : Nat} {v r : Value} {D : Tb} {a : Option Addr} {n c : Nat} {t : TypeId} (h : Lp w W b m g v r D) (hb : Blk W d #[.slice a n c] t) (lo : w.heap.size ≤ d) (hne : g ≠ d) (u : Value) : Lp w (W.setCell ⟨d, 0, none⟩ u) b m g v r D :=
  ⟨h.p.box hb lo u, h.x.setOther _ _ hne, h.lo⟩
structure PlyS (ba off g : Nat) (x : ActV) (v : Value) (Y : World) : Prop where
  c0 : Y.cell? ⟨ba, off, none⟩ = some (.int .i64 x.f0)
  c1 : Y.cell? ⟨ba, off + 1, none⟩ = some (.int .i64 x.f1)
  c2 : Y.cell? ⟨ba, off + 2, none⟩ = some (.int .i64 x.f2)
  c3 : Y.cell? ⟨ba, off + 3, none⟩ = some (.int .i64 x.f3)
  c4 : Y.cell? ⟨ba, off + 4, none⟩ = some (.int .i64 x.f4)
  c5 : Y.cell? ⟨ba, off + 5, none⟩ = some (.int .i64 x.f5)
  row : Y.cell? ⟨g, 0, none⟩ = some v
theorem PlyS.mk' {B ba off g : Nat} {x : ActV} {v : Value} {Y : World} {t : TypeId} (h : ActAt B Y ba off x) (k : Blk Y g #[v] t) : PlyS ba off g x v Y := ⟨h.c0, h.c1, h.c2, h.c3, h.c4, h.c5, k.cell 0 rfl⟩
/-- Besides, a box that is to be laid. -/
structure Ld (w W : World) (b m g d : Nat) (v u : Value) (D : Tb) : Prop where
  l : Lp w W b m g v u D
  n : Blk W d #[.slice none 0 0] 28
  ne : g ≠ d
  lo : w.heap.size ≤ d
theorem Ld.act {w W W' : World} {b m g d : Nat} {v u : Value} {D : Tb} {b' m' : Nat} {v' : Value} {D' : Tb} (h : Ld w W b m g d v u D) (k : ActE w W W' b m b' m' v' D') : Ld w W' b' m' g d v' u D' :=
  ⟨h.l.act k, k.c.blk h.n (h.l.p.t.mp.neI h.n).symm, h.ne, h.lo⟩
theorem Lp.al {w W : World} {b m g : Nat} {v u : Value} {D : Tb} (h : Lp w W b m g v u D) : Ld w (W.alloc (.cells #[.slice none 0 0] 28)) b m g W.heap.size v u D :=
  ⟨h.step ((Below.refl _ W).alloc (Nat.le_refl _) _), Blk.new W _ _, Nat.ne_of_lt h.x.lt, h.p.k.size⟩
theorem plays_body (v0 : Value) (l : List ActV) (w : World) (hv : ActsAt w.heap.size w v0 l) :
    Calls Try.prog 4 #[v0] w fun e w' => e = .returned (.bool true) ∧ Below w.heap.size w w' := by
  have HV := Lib.hid hv
  obtain ⟨ad, cap, rfl, hcap, hmx, _⟩ := hv
  have hml : l.length ≤ 9223372036854775807 := by unfold maxLen at hmx; omega
  clear hmx
  by_cases h1 : 50 < l.length
  · go_enter Try.func4, Try.ntmps4
    go_wp2_with fail
    refine (works_ok _).mono ?_; rintro e w1 ⟨rfl, k⟩
    go_wp2_with fail
    go_ret
    exact ⟨rfl, k⟩
  go_enter Try.func4, Try.ntmps4
  go_wp2_with fail
  refine (none_ok _ w).mono ?_; rintro e w1 ⟨rfl, k1⟩
  go_wp2_with fail
  refine (New_calls _).mono ?_; rintro e W ⟨b0, m0, rfl, ht, hlo, _, k2⟩
  go_wp2_with fail
  obtain ⟨W0, hW0⟩ : ∃ W0, W0 = W.alloc (.cells #[.slice none 0 0] 28) := ⟨_, rfl⟩
  rw [← hW0]
  have k3 : Below W.heap.size W W0 := by rw [hW0]; exact (Below.refl _ W).alloc (Nat.le_refl _) _
  have kk := (k1.trans (k2.mono k1.size))
  have h0 : Lp w W0 b0 m0 W.heap.size (.slice none 0 0) (.slice none 0 0) [] := ⟨⟨ht.step k3, Good.nil, RowAt.nil _ _, kk.trans (k3.mono kk.size), Nat.le_trans k1.size hlo⟩, by rw [hW0]; exact Blk.new _ _ _, kk.size⟩
  obtain ⟨g, hg⟩ : ∃ g, W.heap.size = g := ⟨_, rfl⟩
  rw [hg] at h0 ⊢
  clear hW0 k1 k2 k3 kk ht hlo hg
  go_loopw [3, 5] (fun t i wr => ∃ (k b m : Nat) (v : Value) (D : Tb), k ≤ l.length ∧ D.length ≤ k ∧ i = .int .i64 k ∧ t = .pointer (some ⟨b, 0, none⟩) ∧ Lp w wr b m g v v D) (fun _ i _ => l.length - (intOf i).toNat)
  case atStart => exact ⟨0, _, _, _, _, by omega, by simp, rfl, rfl, h0⟩
  case round =>
    obtain ⟨k, b, m, v, D, hk, hDk, rfl, rfl, hL⟩ := hrel
    rename_i wr
    obtain ⟨va, vc, rfl, _⟩ := hL.p.r.len
    clear h0
    have ct := hL.x.cell 0 rfl
    by_cases hlt : k < l.length
    · obtain ⟨ba, off, rfl, hA⟩ : ∃ b off, ad = some ⟨b, off, none⟩ ∧ ∀ i (h : i < l.length), ActAt w.heap.size w b (off + i * 6) l[i] := by
        obtain ⟨_, _, hv, _, _, h⟩ := HV.out
        simp only [Value.slice.injEq] at hv
        obtain ⟨rfl, _⟩ := hv
        rcases h with h | h
        · rw [h] at hlt; simp at hlt
        · exact h
      have hAk := hA k hlt
      clear hA
      obtain ⟨x, hx⟩ : ∃ x, l[k] = x := ⟨_, rfl⟩
      rw [hx] at hAk
      have hx1 := (i64_bd hAk.w1).2
      have i0 : (0 : Int) ≤ k := by omega
      have i1 : (k : Int) < l.length := by omega
      have hlD : D.length ≤ 1000 := by omega
      obtain ⟨E, hE⟩ : ∃ E, actD D x = E := ⟨_, rfl⟩
      have hEl : E.length ≤ k + 1 := by rw [← hE]; have := actD_len D x; omega
      have HACT := Lib.hid (fun (Y : World) (h : Pl w Y b m (.slice va D.length vc) D) => act_ok h hlD x hx1)
      rw [hE] at HACT
      have HAK := Lib.hid hAk
      have hAk0 := hAk.below hL.p.k (Nat.le_refl _)
      have HL := Lib.hid hL
      obtain ⟨q0, q1, q2, q3, q4, q5, _, _, _, _, _, _, hblt⟩ := hAk0
      clear hx hE hL hAk
      go_wp2_with fail
      refine wp_onlyN ?_
      refine wp_region_held_drew (S := PlyS ba (off + k * 6) g x (.slice va D.length vc)) (by kernel_rfl) ⟨q0, q1, q2, q3, q4, q5, ct⟩ (fun hHeld => ?_)
      have hL := HL.out.step (Below.refl _ wr).drew
      have hAk := HAK.out
      clear HL HAK q0 q1 q2 q3 q4 q5 ct
      change wpAnyH _ _ _ _ _ _ _ _ wr.drew
      generalize wr.drew = Y at hL hHeld ⊢
      refine wpAnyH_take (i := 0) (v := ?_) rfl (by kernel_rfl) (by kernel_rfl) (by kernel_rfl) (fun _ _ _ h => h) (Or.inl ⟨by rfl, ?_⟩) (by assumption) ?_
      rotate_left
      · (intro Y hSw; (try dsimp only at hSw); obtain ⟨hS0, hS1, hS2, hS3, hS4, hS5, hS6⟩ := hSw; go_simp; try with_reducible rfl)
      try simp only [Act.put, List.getElem_toArray, List.getElem_cons_zero, List.getElem_cons_succ, List.setIfInBounds_toArray, List.set_cons_zero, List.set_cons_succ]
      refine wpAnyH_take (i := 1) (v := ?_) rfl (by kernel_rfl) (by kernel_rfl) (by kernel_rfl) (fun _ _ _ h => h) (Or.inl ⟨by rfl, ?_⟩) (by assumption) ?_
      rotate_left
      · (intro Y hSw; (try dsimp only at hSw); obtain ⟨hS0, hS1, hS2, hS3, hS4, hS5, hS6⟩ := hSw; go_simp; try with_reducible rfl)
      try simp only [Act.put, List.getElem_toArray, List.getElem_cons_zero, List.getElem_cons_succ, List.setIfInBounds_toArray, List.set_cons_zero, List.set_cons_succ]
      refine wpAnyH_take (i := 2) (v := ?_) rfl (by kernel_rfl) (by kernel_rfl) (by kernel_rfl) (fun _ _ _ h => h) (Or.inl ⟨by rfl, ?_⟩) (by assumption) ?_
      rotate_left
      · (intro Y hSw; (try dsimp only at hSw); obtain ⟨hS0, hS1, hS2, hS3, hS4, hS5, hS6⟩ := hSw; go_simp; try with_reducible rfl)
      try simp only [Act.put, List.getElem_toArray, List.getElem_cons_zero, List.getElem_cons_succ, List.setIfInBounds_toArray, List.set_cons_zero, List.set_cons_succ]
      refine wpAnyH_take (i := 3) (v := ?_) rfl (by kernel_rfl) (by kernel_rfl) (by kernel_rfl) (fun _ _ _ h => h) (Or.inl ⟨by rfl, ?_⟩) (by assumption) ?_
      rotate_left
      · (intro Y hSw; (try dsimp only at hSw); obtain ⟨hS0, hS1, hS2, hS3, hS4, hS5, hS6⟩ := hSw; go_simp; try with_reducible rfl)
      try simp only [Act.put, List.getElem_toArray, List.getElem_cons_zero, List.getElem_cons_succ, List.setIfInBounds_toArray, List.set_cons_zero, List.set_cons_succ]
      refine wpAnyH_take (i := 4) (v := ?_) rfl (by kernel_rfl) (by kernel_rfl) (by kernel_rfl) (fun _ _ _ h => h) (Or.inl ⟨by rfl, ?_⟩) (by assumption) ?_
      rotate_left
      · (intro Y hSw; (try dsimp only at hSw); obtain ⟨hS0, hS1, hS2, hS3, hS4, hS5, hS6⟩ := hSw; go_simp; try with_reducible rfl)
      try simp only [Act.put, List.getElem_toArray, List.getElem_cons_zero, List.getElem_cons_succ, List.setIfInBounds_toArray, List.set_cons_zero, List.set_cons_succ]
      refine wpAnyH_take (i := 5) (v := ?_) rfl (by kernel_rfl) (by kernel_rfl) (by kernel_rfl) (fun _ _ _ h => h) (Or.inl ⟨by rfl, ?_⟩) (by assumption) ?_
      rotate_left
      · (intro Y hSw; (try dsimp only at hSw); obtain ⟨hS0, hS1, hS2, hS3, hS4, hS5, hS6⟩ := hSw; go_simp; try with_reducible rfl)
      try simp only [Act.put, List.getElem_toArray, List.getElem_cons_zero, List.getElem_cons_succ, List.setIfInBounds_toArray, List.set_cons_zero, List.set_cons_succ]
      refine wpAnyH_ready (rs := [6, 11]) (by kernel_rfl) (by simp) ?_
      refine AllReadyH.cons rfl (fun K hK => ?_) (AllReadyH.cons rfl (fun K hK => ?_) AllReadyH.nil)
      · go_simp
        refine (HACT.out Y hL.p).mono ?_; rintro e Y2 ⟨b', m', v', rfl, hE2⟩
        obtain ⟨va', vc', rfl, _⟩ := hE2.p.r.len
        replace hL := hL.act hE2
        clear hE2
        go_simp
        refine hK.out _ _ (PlyS.mk' (hAk.below hL.p.k (Nat.le_refl _)) hL.x) (fun hHeld => ?_)
        clear hK K
        try simp only [Act.put, List.getElem_toArray, List.getElem_cons_zero, List.getElem_cons_succ, List.setIfInBounds_toArray, List.set_cons_zero, List.set_cons_succ]
        refine wpAnyH_take (i := 7) (v := ?_) rfl (by kernel_rfl) (by kernel_rfl) (by kernel_rfl) (fun _ _ _ h => h) (Or.inl ⟨by rfl, ?_⟩) (by assumption) ?_
        rotate_left
        · (intro Y hSw; (try dsimp only at hSw); obtain ⟨hS0, hS1, hS2, hS3, hS4, hS5, hS6⟩ := hSw; go_simp; try with_reducible rfl)
        try simp only [Act.put, List.getElem_toArray, List.getElem_cons_zero, List.getElem_cons_succ, List.setIfInBounds_toArray, List.set_cons_zero, List.set_cons_succ]
        refine wpAnyH_take (i := 8) (v := ?_) rfl (by kernel_rfl) (by kernel_rfl) (by kernel_rfl) (fun _ _ _ h => h) (Or.inl ⟨by rfl, ?_⟩) (by assumption) ?_
        rotate_left
        · (intro Y hSw; (try dsimp only at hSw); obtain ⟨hS0, hS1, hS2, hS3, hS4, hS5, hS6⟩ := hSw; go_simp; try with_reducible rfl)
        try simp only [Act.put, List.getElem_toArray, List.getElem_cons_zero, List.getElem_cons_succ, List.setIfInBounds_toArray, List.set_cons_zero, List.set_cons_succ]
        refine wpAnyH_take (i := 9) (v := ?_) rfl (by kernel_rfl) (by kernel_rfl) (by kernel_rfl) (fun _ _ _ h => h) (Or.inl ⟨by rfl, ?_⟩) (by assumption) ?_
        rotate_left
        · (intro Y hSw; (try dsimp only at hSw); obtain ⟨hS0, hS1, hS2, hS3, hS4, hS5, hS6⟩ := hSw; go_simp; try with_reducible rfl)
        try simp only [Act.put, List.getElem_toArray, List.getElem_cons_zero, List.getElem_cons_succ, List.setIfInBounds_toArray, List.set_cons_zero, List.set_cons_succ]
        refine wpAnyH_take (i := 10) (v := ?_) rfl (by kernel_rfl) (by kernel_rfl) (by kernel_rfl) (fun _ _ _ h => h) (Or.inl ⟨by rfl, ?_⟩) (by assumption) ?_
        rotate_left
        · (intro Y hSw; (try dsimp only at hSw); obtain ⟨hS0, hS1, hS2, hS3, hS4, hS5, hS6⟩ := hSw; go_simp; try with_reducible rfl)
        try simp only [Act.put, List.getElem_toArray, List.getElem_cons_zero, List.getElem_cons_succ, List.setIfInBounds_toArray, List.set_cons_zero, List.set_cons_succ]
        refine wpAnyH_ready (rs := [11]) (by kernel_rfl) (by simp) ?_
        refine AllReadyH.cons rfl (fun K hK => ?_) AllReadyH.nil
        go_simp
        replace hL := hL.al
        obtain ⟨d, hd⟩ : ∃ d, Y2.heap.size = d := ⟨_, rfl⟩
        rw [hd] at hL ⊢
        generalize Y2.alloc (.cells #[.slice none 0 0] 28) = Z at hL ⊢
        refine hK.out _ _ (PlyS.mk' (hAk.below hL.l.p.k (Nat.le_refl _)) hL.l.x) (fun hHeld => ?_)
        clear hK K
        try simp only [Act.put, List.getElem_toArray, List.getElem_cons_zero, List.getElem_cons_succ, List.setIfInBounds_toArray, List.set_cons_zero, List.set_cons_succ]
        have hd0 : Z.cell? ⟨d, 0, none⟩ = some (.slice none 0 0) := hL.n.cell 0 rfl
        have hfr := hL.n.frozen 0
        refine wpAnyH_take (i := 12) (v := ?_) rfl (by kernel_rfl) (by kernel_rfl) (by kernel_rfl) (fun _ _ _ h => h) (Or.inl ⟨by rfl, ?_⟩) (by assumption) ?_
        rotate_left
        · (intro Y hSw; (try dsimp only at hSw); obtain ⟨hS0, hS1, hS2, hS3, hS4, hS5, hS6⟩ := hSw; go_simp; try with_reducible rfl)
        try simp only [Act.put, List.getElem_toArray, List.getElem_cons_zero, List.getElem_cons_succ, List.setIfInBounds_toArray, List.set_cons_zero, List.set_cons_succ]
        refine wpAnyH_ready (rs := [13]) (by kernel_rfl) (by simp) ?_
        refine AllReadyH.cons rfl (fun K hK => ?_) AllReadyH.nil
        go_simp
        have hL2 := hL.l.putO hL.n hL.lo hL.ne (.slice va' E.length vc')
        have hN2 := hL.n.set 0 (.slice va' E.length vc')
        have hne := hL.ne
        refine hK.out _ _ (PlyS.mk' (hAk.below hL2.p.k (Nat.le_refl _)) hL2.x) (fun hHeld => ?_)
        clear hK K
        try simp only [Act.put, List.getElem_toArray, List.getElem_cons_zero, List.getElem_cons_succ, List.setIfInBounds_toArray, List.set_cons_zero, List.set_cons_succ]
        refine wpAnyH_take (i := 14) (v := ?_) rfl (by kernel_rfl) (by kernel_rfl) (by kernel_rfl) (fun _ _ _ h => h) (Or.inl ⟨by rfl, ?_⟩) (by assumption) ?_
        rotate_left
        · (intro Y hSw; (try dsimp only at hSw); obtain ⟨hS0, hS1, hS2, hS3, hS4, hS5, hS6⟩ := hSw; go_simp; try with_reducible rfl)
        try simp only [Act.put, List.getElem_toArray, List.getElem_cons_zero, List.getElem_cons_succ, List.setIfInBounds_toArray, List.set_cons_zero, List.set_cons_succ]
        refine wpAnyH_done (by kernel_rfl) ?_ _
        rw [onlyN_normal]
        clear hL hd0 hfr hHeld
        generalize World.setCell Z _ _ = Z2 at hL2 hN2 ⊢
        have hd2 : Z2.cell? ⟨d, 0, none⟩ = some (.slice va' E.length vc') := hN2.cell 0 rfl
        have hg2 : Z2.cell? ⟨g, 0, none⟩ = some (.slice va D.length vc) := hL2.x.cell 0 rfl
        go_wp2_with fail
        refine wp_onlyN ?_
        refine wp_region_held_drew (S := fun Y => Y.cell? ⟨d, 0, none⟩ = some (.slice va' E.length vc')) (by kernel_rfl) hd2 (fun hHeld => ?_)
        have hL3 := hL2.step (Below.refl _ Z2).drew
        have hN3 := hN2.below (Below.refl _ Z2).drew hN2.lt
        clear hL2 hN2 hd2 hg2
        change wpAnyH _ _ _ _ _ _ _ _ Z2.drew
        generalize Z2.drew = Z3 at hL3 hN3 hHeld ⊢
        have hg3 : Z3.cell? ⟨g, 0, none⟩ = some (.slice va D.length vc) := hL3.x.cell 0 rfl
        have hfr := hL3.x.frozen 0
        refine wpAnyH_take (i := 0) (v := ?_) rfl (by kernel_rfl) (by kernel_rfl) (by kernel_rfl) (fun _ _ _ h => h) (Or.inl ⟨by rfl, ?_⟩) (by assumption) ?_
        rotate_left
        · (intro Y hSw; (try dsimp only at hSw); obtain hS0 := hSw; go_simp; try with_reducible rfl)
        try simp only [Act.put, List.getElem_toArray, List.getElem_cons_zero, List.getElem_cons_succ, List.setIfInBounds_toArray, List.set_cons_zero, List.set_cons_succ]
        refine wpAnyH_take (i := 1) (v := ?_) rfl (by kernel_rfl) (by kernel_rfl) (by kernel_rfl) (fun _ _ _ h => h) (Or.inl ⟨by rfl, ?_⟩) (by assumption) ?_
        rotate_left
        · (intro Y hSw; (try dsimp only at hSw); obtain hS0 := hSw; go_simp; try with_reducible rfl)
        try simp only [Act.put, List.getElem_toArray, List.getElem_cons_zero, List.getElem_cons_succ, List.setIfInBounds_toArray, List.set_cons_zero, List.set_cons_succ]
        refine wpAnyH_take (i := 2) (v := ?_) rfl (by kernel_rfl) (by kernel_rfl) (by kernel_rfl) (fun _ _ _ h => h) (Or.inl ⟨by rfl, ?_⟩) (by assumption) ?_
        rotate_left
        · (intro Y hSw; (try dsimp only at hSw); obtain hS0 := hSw; go_simp; try with_reducible rfl)
        try simp only [Act.put, List.getElem_toArray, List.getElem_cons_zero, List.getElem_cons_succ, List.setIfInBounds_toArray, List.set_cons_zero, List.set_cons_succ]
        refine wpAnyH_ready (rs := [3]) (by kernel_rfl) (by simp) ?_
        refine AllReadyH.cons rfl (fun K hK => ?_) AllReadyH.nil
        go_simp
        have hL4 := hL3.put (.slice va' E.length vc')
        refine hK.out _ _ ((hN3.setOther ⟨g, 0, none⟩ _ (Ne.symm hne)).cell 0 rfl) (fun hHeld => ?_)
        clear hK K
        try simp only [Act.put, List.getElem_toArray, List.getElem_cons_zero, List.getElem_cons_succ, List.setIfInBounds_toArray, List.set_cons_zero, List.set_cons_succ]
        refine wpAnyH_done (by kernel_rfl) ?_ _
        rw [onlyN_normal]
        go_wp2_with fail
        exact ⟨⟨k + 1, b', m', _, E, by omega, by omega, by go_num, rfl, hL4⟩, by simp [intOf]; omega⟩
      · go_simp
        replace hL := hL.al
        obtain ⟨d, hd⟩ : ∃ d, Y.heap.size = d := ⟨_, rfl⟩
        rw [hd] at hL ⊢
        generalize Y.alloc (.cells #[.slice none 0 0] 28) = Y1 at hL ⊢
        refine hK.out _ _ (PlyS.mk' (hAk.below hL.l.p.k (Nat.le_refl _)) hL.l.x) (fun hHeld => ?_)
        clear hK K
        try simp only [Act.put, List.getElem_toArray, List.getElem_cons_zero, List.getElem_cons_succ, List.setIfInBounds_toArray, List.set_cons_zero, List.set_cons_succ]
        refine wpAnyH_ready (rs := [6]) (by kernel_rfl) (by simp) ?_
        refine AllReadyH.cons rfl (fun K hK => ?_) AllReadyH.nil
        go_simp
        refine (HACT.out Y1 hL.l.p).mono ?_; rintro e Z ⟨b', m', v', rfl, hE2⟩
        obtain ⟨va', vc', rfl, _⟩ := hE2.p.r.len
        replace hL := hL.act hE2
        clear hE2
        go_simp
        refine hK.out _ _ (PlyS.mk' (hAk.below hL.l.p.k (Nat.le_refl _)) hL.l.x) (fun hHeld => ?_)
        clear hK K
        try simp only [Act.put, List.getElem_toArray, List.getElem_cons_zero, List.getElem_cons_succ, List.setIfInBounds_toArray, List.set_cons_zero, List.set_cons_succ]
        refine wpAnyH_take (i := 7) (v := ?_) rfl (by kernel_rfl) (by kernel_rfl) (by kernel_rfl) (fun _ _ _ h => h) (Or.inl ⟨by rfl, ?_⟩) (by assumption) ?_
        rotate_left
        · (intro Y hSw; (try dsimp only at hSw); obtain hS0 := hSw; go_simp; try with_reducible rfl)
        try simp only [Act.put, List.getElem_toArray, List.getElem_cons_zero, List.getElem_cons_succ, List.setIfInBounds_toArray, List.set_cons_zero, List.set_cons_succ]
        refine wpAnyH_take (i := 8) (v := ?_) rfl (by kernel_rfl) (by kernel_rfl) (by kernel_rfl) (fun _ _ _ h => h) (Or.inl ⟨by rfl, ?_⟩) (by assumption) ?_
        rotate_left
        · (intro Y hSw; (try dsimp only at hSw); obtain hS0 := hSw; go_simp; try with_reducible rfl)
        try simp only [Act.put, List.getElem_toArray, List.getElem_cons_zero, List.getElem_cons_succ, List.setIfInBounds_toArray, List.set_cons_zero, List.set_cons_succ]
        refine wpAnyH_take (i := 9) (v := ?_) rfl (by kernel_rfl) (by kernel_rfl) (by kernel_rfl) (fun _ _ _ h => h) (Or.inl ⟨by rfl, ?_⟩) (by assumption) ?_
        rotate_left
        · (intro Y hSw; (try dsimp only at hSw); obtain hS0 := hSw; go_simp; try with_reducible rfl)
        try simp only [Act.put, List.getElem_toArray, List.getElem_cons_zero, List.getElem_cons_succ, List.setIfInBounds_toArray, List.set_cons_zero, List.set_cons_succ]
        refine wpAnyH_take (i := 10) (v := ?_) rfl (by kernel_rfl) (by kernel_rfl) (by kernel_rfl) (fun _ _ _ h => h) (Or.inl ⟨by rfl, ?_⟩) (by assumption) ?_
        rotate_left
        · (intro Y hSw; (try dsimp only at hSw); obtain hS0 := hSw; go_simp; try with_reducible rfl)
        try simp only [Act.put, List.getElem_toArray, List.getElem_cons_zero, List.getElem_cons_succ, List.setIfInBounds_toArray, List.set_cons_zero, List.set_cons_succ]
        have hd0 : Z.cell? ⟨d, 0, none⟩ = some (.slice none 0 0) := hL.n.cell 0 rfl
        have hfr := hL.n.frozen 0
        refine wpAnyH_take (i := 12) (v := ?_) rfl (by kernel_rfl) (by kernel_rfl) (by kernel_rfl) (fun _ _ _ h => h) (Or.inl ⟨by rfl, ?_⟩) (by assumption) ?_
        rotate_left
        · (intro Y hSw; (try dsimp only at hSw); obtain hS0 := hSw; go_simp; try with_reducible rfl)
        try simp only [Act.put, List.getElem_toArray, List.getElem_cons_zero, List.getElem_cons_succ, List.setIfInBounds_toArray, List.set_cons_zero, List.set_cons_succ]
        refine wpAnyH_ready (rs := [13]) (by kernel_rfl) (by simp) ?_
        refine AllReadyH.cons rfl (fun K hK => ?_) AllReadyH.nil
        go_simp
        have hL2 := hL.l.putO hL.n hL.lo hL.ne (.slice va' E.length vc')
        have hN2 := hL.n.set 0 (.slice va' E.length vc')
        have hne := hL.ne
        refine hK.out _ _ (PlyS.mk' (hAk.below hL2.p.k (Nat.le_refl _)) hL2.x) (fun hHeld => ?_)
        clear hK K
        try simp only [Act.put, List.getElem_toArray, List.getElem_cons_zero, List.getElem_cons_succ, List.setIfInBounds_toArray, List.set_cons_zero, List.set_cons_succ]
        refine wpAnyH_take (i := 14) (v := ?_) rfl (by kernel_rfl) (by kernel_rfl) (by kernel_rfl) (fun _ _ _ h => h) (Or.inl ⟨by rfl, ?_⟩) (by assumption) ?_
        rotate_left
        · (intro Y hSw; (try dsimp only at hSw); obtain hS0 := hSw; go_simp; try with_reducible rfl)
        try simp only [Act.put, List.getElem_toArray, List.getElem_cons_zero, List.getElem_cons_succ, List.setIfInBounds_toArray, List.set_cons_zero, List.set_cons_succ]
        refine wpAnyH_done (by kernel_rfl) ?_ _
        rw [onlyN_normal]
        clear hL hd0 hfr hHeld
        generalize World.setCell Z _ _ = Z2 at hL2 hN2 ⊢
        have hd2 : Z2.cell? ⟨d, 0, none⟩ = some (.slice va' E.length vc') := hN2.cell 0 rfl
        have hg2 : Z2.cell? ⟨g, 0, none⟩ = some (.slice va D.length vc) := hL2.x.cell 0 rfl
        go_wp2_with fail
        refine wp_onlyN ?_
        refine wp_region_held_drew (S := fun Y => Y.cell? ⟨d, 0, none⟩ = some (.slice va' E.length vc')) (by kernel_rfl) hd2 (fun hHeld => ?_)
        have hL3 := hL2.step (Below.refl _ Z2).drew
        have hN3 := hN2.below (Below.refl _ Z2).drew hN2.lt
        clear hL2 hN2 hd2 hg2
        change wpAnyH _ _ _ _ _ _ _ _ Z2.drew
        generalize Z2.drew = Z3 at hL3 hN3 hHeld ⊢
        have hg3 : Z3.cell? ⟨g, 0, none⟩ = some (.slice va D.length vc) := hL3.x.cell 0 rfl
        have hfr := hL3.x.frozen 0
        refine wpAnyH_take (i := 0) (v := ?_) rfl (by kernel_rfl) (by kernel_rfl) (by kernel_rfl) (fun _ _ _ h => h) (Or.inl ⟨by rfl, ?_⟩) (by assumption) ?_
        rotate_left
        · (intro Y hSw; (try dsimp only at hSw); obtain hS0 := hSw; go_simp; try with_reducible rfl)
        try simp only [Act.put, List.getElem_toArray, List.getElem_cons_zero, List.getElem_cons_succ, List.setIfInBounds_toArray, List.set_cons_zero, List.set_cons_succ]
        refine wpAnyH_take (i := 1) (v := ?_) rfl (by kernel_rfl) (by kernel_rfl) (by kernel_rfl) (fun _ _ _ h => h) (Or.inl ⟨by rfl, ?_⟩) (by assumption) ?_
        rotate_left
        · (intro Y hSw; (try dsimp only at hSw); obtain hS0 := hSw; go_simp; try with_reducible rfl)
        try simp only [Act.put, List.getElem_toArray, List.getElem_cons_zero, List.getElem_cons_succ, List.setIfInBounds_toArray, List.set_cons_zero, List.set_cons_succ]
        refine wpAnyH_take (i := 2) (v := ?_) rfl (by kernel_rfl) (by kernel_rfl) (by kernel_rfl) (fun _ _ _ h => h) (Or.inl ⟨by rfl, ?_⟩) (by assumption) ?_
        rotate_left
        · (intro Y hSw; (try dsimp only at hSw); obtain hS0 := hSw; go_simp; try with_reducible rfl)
        try simp only [Act.put, List.getElem_toArray, List.getElem_cons_zero, List.getElem_cons_succ, List.setIfInBounds_toArray, List.set_cons_zero, List.set_cons_succ]
        refine wpAnyH_ready (rs := [3]) (by kernel_rfl) (by simp) ?_
        refine AllReadyH.cons rfl (fun K hK => ?_) AllReadyH.nil
        go_simp
        have hL4 := hL3.put (.slice va' E.length vc')
        refine hK.out _ _ ((hN3.setOther ⟨g, 0, none⟩ _ (Ne.symm hne)).cell 0 rfl) (fun hHeld => ?_)
        clear hK K
        try simp only [Act.put, List.getElem_toArray, List.getElem_cons_zero, List.getElem_cons_succ, List.setIfInBounds_toArray, List.set_cons_zero, List.set_cons_succ]
        refine wpAnyH_done (by kernel_rfl) ?_ _
        rw [onlyN_normal]
        go_wp2_with fail
        exact ⟨⟨k + 1, b', m', _, E, by omega, by omega, by go_num, rfl, hL4⟩, by simp [intOf]; omega⟩
    · obtain rfl : k = l.length := by omega
      go_wp2_with fail
      refine (is_ok hL.p.t hL.p.g (by omega) hL.p.r).mono ?_; rintro e u1 ⟨rfl, j1⟩
      have hL1 := hL.step j1
      clear ct
      go_wp2_with fail
      refine (Same_ln hL1.p.t (.inl rfl)).mono ?_; rintro e u2 ⟨rfl, j2⟩
      have hL2 := hL1.step j2
      go_wp2_with fail
      refine (Same_nl hL2.p.t (.inl rfl)).mono ?_; rintro e u3 ⟨rfl, j3⟩
      have hL3 := hL2.step j3
      go_wp2_with fail
      refine (works_ok _).mono ?_; rintro e u4 ⟨rfl, j4⟩
      have hL4 := hL3.step j4
      go_wp2_with fail
      go_ret
      exact ⟨rfl, hL4.p.k⟩
end Go.Proofs.Ytchepkihlnpfeaa
