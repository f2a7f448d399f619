/-
  Package pinfoldlaw21: DeskPlays. No condition.
-/
import Derived.Test.YtchknegenaoliaaDeAm
namespace Go.Proofs.Ytchknegenaoliaa
open Go.RowKit
attribute [local go_sem] Oper.semAt_some
set_option maxHeartbeats 2000000
set_option maxRecDepth 8000

def toA (x : ActV) : ActD := ⟨x.f0, x.f1, x.f2, x.f3, ⟨x.f4, x.f5⟩⟩
/-- A desk, and a box of the document's. -/
structure Lp (w W : World) (b m g : Nat) (R : Array Value) (P : List Ten) (T : Thr) : Prop where
  t : DkAt W b m P T
  k : Below w.heap.size w W
  lob : w.heap.size ≤ b
  lom : w.heap.size ≤ m
  x : Blk W g R 52
  lo : w.heap.size ≤ g
  n1 : b ≠ g
  n2 : m ≠ g
theorem Lp.step {w W W' : World} {b m g : Nat} {R : Array Value} {P : List Ten} {T : Thr} (h : Lp w W b m g R P T) (k : Below W.heap.size W W') : Lp w W' b m g R P T :=
  ⟨h.t.step k, h.k.trans (k.mono h.k.size), h.lob, h.lom, h.x.below k h.x.lt, h.lo, h.n1, h.n2⟩
/-- What a call may come to. -/
def ActT (W : World) (b m : Nat) (P : List Ten) (T : Thr) (e : Ending) (W' : World) (b' m' : Nat) : Prop := ActR W b m P T e W' b' m' ∧ ((b' = b ∧ m' = m) ∨ (W.heap.size ≤ b' ∧ W.heap.size ≤ m' ∧ Below W.heap.size W W'))
theorem Lp.act {w W W' : World} {b m g : Nat} {R : Array Value} {P P' : List Ten} {T T' : Thr} {e : Ending} {b' m' : Nat} (h : Lp w W b m g R P T) (k : ActT W b m P' T' e W' b' m') : Lp w W' b' m' g R P' T' := by
  have hg := h.x.lt
  have hb := h.lob
  have hm := h.lom
  have hn1 := h.n1
  have hn2 := h.n2
  refine ⟨k.1.d, h.k.trans (k.1.k.below h.lob h.lom h.k.size), ?_, ?_, k.1.k.blk h.x (Ne.symm h.n1) (Ne.symm h.n2), h.lo, ?_, ?_⟩
  · rcases k.2 with ⟨rfl, rfl⟩ | ⟨h1, h2, _⟩
    · exact hb
    · have := h.k.size; omega
  · rcases k.2 with ⟨rfl, rfl⟩ | ⟨h1, h2, _⟩
    · exact hm
    · have := h.k.size; omega
  · rcases k.2 with ⟨rfl, rfl⟩ | ⟨h1, h2, _⟩
    · exact hn1
    · omega
  · rcases k.2 with ⟨rfl, rfl⟩ | ⟨h1, h2, _⟩
    · exact hn2
    · omega
/-- Besides, a box that is to be laid. -/
structure Ld (w W : World) (b m g d : Nat) (R : Array Value) (P : List Ten) (T : Thr) : Prop where
  l : Lp w W b m g R P T
  n : Blk W d zerV 52
  ne : g ≠ d
  lo : w.heap.size ≤ d
  nb : b ≠ d
  nm : m ≠ d
theorem Ld.act {w W W' : World} {b m g d : Nat} {R : Array Value} {P P' : List Ten} {T T' : Thr} {e : Ending} {b' m' : Nat} (h : Ld w W b m g d R P T) (k : ActT W b m P' T' e W' b' m') : Ld w W' b' m' g d R P' T' := by
  have hd := h.n.lt
  have hn1 := h.nb
  have hn2 := h.nm
  refine ⟨h.l.act k, k.1.k.blk h.n (Ne.symm h.nb) (Ne.symm h.nm), h.ne, h.lo, ?_, ?_⟩
  · rcases k.2 with ⟨rfl, rfl⟩ | ⟨h1, h2, _⟩
    · exact hn1
    · omega
  · rcases k.2 with ⟨rfl, rfl⟩ | ⟨h1, h2, _⟩
    · exact hn2
    · omega
theorem Lp.al {w W W' : World} {b m g : Nat} {R : Array Value} {P : List Ten} {T : Thr} (h : Lp w W b m g R P T) (hW : W' = W.alloc (.cells zerV 52)) : Ld w W' b m g W.heap.size R P T := by
  subst hW
  exact ⟨h.step ((Below.refl _ W).alloc (Nat.le_refl _) _), Blk.new W _ _, Nat.ne_of_lt h.x.lt, h.k.size, Nat.ne_of_lt h.t.blk.lt, Nat.ne_of_lt h.t.mp.lt⟩
theorem Lp.set {w W : World} {b m g d : Nat} {R : Array Value} {P : List Ten} {T : Thr} (h : Lp w W b m g R P T) (hd : w.heap.size ≤ d) (h1 : b ≠ d) (h2 : m ≠ d) (h3 : g ≠ d) (vs : List Value) : Lp w (W.setCells d 0 vs) b m g R P T :=
  ⟨h.t.setO vs 0 h1 h2, bel_setCells h.k hd vs 0, h.lob, h.lom, h.x.setCellsO vs 0 h3, h.lo, h.n1, h.n2⟩
theorem Lp.put {w W : World} {b m g : Nat} {R : Array Value} {P : List Ten} {T : Thr} (h : Lp w W b m g R P T) (R' : Array Value) (hs : R'.size = R.size) : Lp w (W.setCells g 0 R'.toList) b m g R' P T :=
  ⟨h.t.setO _ 0 h.n1 h.n2, bel_setCells h.k h.lo _ 0, h.lob, h.lom, h.x.whole R' hs, h.lo, h.n1, h.n2⟩
structure PlyS (ba off g : Nat) (x : ActV) (R : Array Value) (Y : World) : Prop where
  c0 : Y.cell? ⟨ba, off, none⟩ = some (.int .i64 x.f0)
  c1 : Y.cell? ⟨ba, off + 1, none⟩ = some (.int .i64 x.f1)
  c2 : Y.cell? ⟨ba, off + 2, none⟩ = some (.int .i64 x.f2)
  c3 : Y.cell? ⟨ba, off + 3, none⟩ = some (.int .i64 x.f3)
  c4 : Y.cell? ⟨ba, off + 4, none⟩ = some (.int .i64 x.f4)
  c5 : Y.cell? ⟨ba, off + 5, none⟩ = some (.int .i64 x.f5)
  r : Blk Y g R 52
theorem PlyS.mk' {B ba off g : Nat} {x : ActV} {R : Array Value} {Y : World} (h : ActAt B Y ba off x) (k : Blk Y g R 52) : PlyS ba off g x R Y := ⟨h.c0, h.c1, h.c2, h.c3, h.c4, h.c5, k⟩
theorem act_ok' {w : World} {b m : Nat} {n : Int} {P : List Ten} {T : Thr} (hD : DkAt w b m P T) (hg : Good n P T) (hn : n ≤ 1000) (x : ActV) :
    Calls Try.prog 17 #[.pointer (some ⟨b, 0, none⟩), .agg (refV P (hsT T)), .agg #[.int .i64 x.f0, .int .i64 x.f1, .int .i64 x.f2, .int .i64 x.f3, .int .i64 x.f4, .int .i64 x.f5]] w fun e w' => ∃ b' m', ActT w b m (actP P T (toA x)) (actT P T (toA x)) e w' b' m' :=
  act_ok hD hg hn (toA x)
theorem plays_body (v0 : Value) (l : List ActV) (w : World) (hv : ActsAt w.heap.size w v0 l) :
    Calls Try.prog 4 #[v0] w fun e w' => e = .returned (.bool true) ∧ Below w.heap.size w w' := by
  have HV := Lib.hid hv
  obtain ⟨ad, cap, rfl, hcap, hmx, _⟩ := hv
  have hml : l.length ≤ 9223372036854775807 := by unfold maxLen at hmx; omega
  clear hmx
  by_cases h1 : 80 < l.length
  · go_enter Try.func4, Try.ntmps4
    go_wp2_with fail
    refine (works_ok _).mono ?_; rintro e w1 ⟨rfl, k⟩
    go_wp2_with fail
    go_ret
    exact ⟨rfl, k⟩
  go_enter Try.func4, Try.ntmps4
  go_wp2_with fail
  refine (New_calls _).mono ?_; rintro e W ⟨b0, m0, rfl, ht, hlo, hlob, k2⟩
  go_wp2_with fail
  generalize hW0 : World.alloc W _ = W0
  have h0 : Lp w W0 b0 m0 W.heap.size (refV P0 (hsT [])) P0 [] := by
    have hb := ht.blk.lt
    have hm := ht.mp.lt
    have k3 : Below W.heap.size W W0 := by rw [← hW0]; exact (Below.refl _ W).alloc (Nat.le_refl _) _
    exact ⟨ht.step k3, k2.trans (k3.mono k2.size), hlob, hlo, by rw [← hW0]; exact Blk.new W _ _, k2.size, by omega, by omega⟩
  obtain ⟨g, hg⟩ : ∃ g, W.heap.size = g := ⟨_, rfl⟩
  rw [hg] at h0 ⊢
  clear hW0 k2 ht hlo hlob hg
  go_loopw [3, 5] (fun t i wr => ∃ (k b m : Nat) (P : List Ten) (T : Thr), k ≤ l.length ∧ i = .int .i64 k ∧ t = .pointer (some ⟨b, 0, none⟩) ∧ Good k P T ∧ Lp w wr b m g (refV P (hsT T)) P T) (fun _ i _ => l.length - (intOf i).toNat)
  case atStart => exact ⟨0, _, _, _, _, by omega, rfl, rfl, Good.new, h0⟩
  case round =>
    obtain ⟨k, b, m, P, T, hk, rfl, rfl, hG, hL⟩ := hrel
    rename_i wr
    clear h0
    have HSZ := Lib.hid (hsT_L hL.t.len T).size
    by_cases hlt : k < l.length
    · obtain ⟨ba, off, rfl, hA⟩ : ∃ b off, ad = some ⟨b, off, none⟩ ∧ ∀ i (h : i < l.length), ActAt w.heap.size w b (off + i * 6) l[i] := by
        obtain ⟨_, _, hv, _, _, h⟩ := HV.out
        simp only [Value.slice.injEq] at hv
        obtain ⟨rfl, _⟩ := hv
        rcases h with h | h
        · rw [h] at hlt; simp at hlt
        · exact h
      have hAk := hA k hlt
      clear hA
      obtain ⟨x, hx⟩ : ∃ x, l[k] = x := ⟨_, rfl⟩
      rw [hx] at hAk
      have i0 : (0 : Int) ≤ k := by omega
      have i1 : (k : Int) < l.length := by omega
      have HACT := Lib.hid (fun (Y : World) (h : DkAt Y b m P T) => act_ok' h hG (by omega) x)
      have hG' := hG.act (toA x)
      obtain ⟨P', hP'⟩ : ∃ P', actP P T (toA x) = P' := ⟨_, rfl⟩
      obtain ⟨T', hT'⟩ : ∃ T', actT P T (toA x) = T' := ⟨_, rfl⟩
      rw [hP', hT'] at hG'
      rw [hP', hT'] at HACT
      have HG' := Lib.hid hG'
      have HSZ' := Lib.hid (hsT_L hG'.len T').size
      have HAK := Lib.hid hAk
      have hst : PlyS ba (off + k * 6) g x (refV P (hsT T)) wr.drew := PlyS.mk' (hAk.below hL.k.drew (Nat.le_refl _)) hL.x.drew
      have HL := Lib.hid hL
      clear hx hL hAk hP' hT' hG hG'
      go_wp2_with fail
      refine wp_onlyN ?_
      refine wp_region_held_drew (S := PlyS ba (off + k * 6) g x (refV P (hsT T))) (by kernel_rfl) hst (fun hHeld => ?_)
      have hL := HL.out.step (Below.refl _ wr).drew
      have hAk := HAK.out
      clear HL HAK hst
      change wpAnyH _ _ _ _ _ _ _ _ wr.drew
      generalize wr.drew = Y at hL hHeld ⊢
      refine wpAnyH_take (i := 0) (v := ?_) rfl (by kernel_rfl) (by kernel_rfl) (by kernel_rfl) (fun _ _ _ h => h) (Or.inl ⟨by rfl, ?_⟩) (by assumption) ?_
      rotate_left
      · (intro Y hSw; (try dsimp only at hSw); obtain ⟨hS0, hS1, hS2, hS3, hS4, hS5, hS6⟩ := hSw; go_simp; try with_reducible rfl)
      try simp only [Act.put, List.getElem_toArray, List.getElem_cons_zero, List.getElem_cons_succ, List.setIfInBounds_toArray, List.set_cons_zero, List.set_cons_succ]
      refine wpAnyH_take (i := 1) (v := .agg (refV P (hsT T))) rfl (by kernel_rfl) (by kernel_rfl) (by kernel_rfl) (fun _ _ _ h => h) (Or.inl ⟨by rfl, fun Y hSw => exec_loadB ty24 _ rfl g rfl hSw.r HSZ.out⟩) (by assumption) ?_
      try simp only [Act.put, List.getElem_toArray, List.getElem_cons_zero, List.getElem_cons_succ, List.setIfInBounds_toArray, List.set_cons_zero, List.set_cons_succ]
      refine wpAnyH_take (i := 2) (v := ?_) rfl (by kernel_rfl) (by kernel_rfl) (by kernel_rfl) (fun _ _ _ h => h) (Or.inl ⟨by rfl, ?_⟩) (by assumption) ?_
      rotate_left
      · (intro Y hSw; (try dsimp only at hSw); obtain ⟨hS0, hS1, hS2, hS3, hS4, hS5, hS6⟩ := hSw; go_simp; try with_reducible rfl)
      try simp only [Act.put, List.getElem_toArray, List.getElem_cons_zero, List.getElem_cons_succ, List.setIfInBounds_toArray, List.set_cons_zero, List.set_cons_succ]
      refine wpAnyH_take (i := 3) (v := ?_) rfl (by kernel_rfl) (by kernel_rfl) (by kernel_rfl) (fun _ _ _ h => h) (Or.inl ⟨by rfl, ?_⟩) (by assumption) ?_
      rotate_left
      · (intro Y hSw; (try dsimp only at hSw); obtain ⟨hS0, hS1, hS2, hS3, hS4, hS5, hS6⟩ := hSw; go_simp; try with_reducible rfl)
      try simp only [Act.put, List.getElem_toArray, List.getElem_cons_zero, List.getElem_cons_succ, List.setIfInBounds_toArray, List.set_cons_zero, List.set_cons_succ]
      refine wpAnyH_take (i := 4) (v := ?_) rfl (by kernel_rfl) (by kernel_rfl) (by kernel_rfl) (fun _ _ _ h => h) (Or.inl ⟨by rfl, ?_⟩) (by assumption) ?_
      rotate_left
      · (intro Y hSw; (try dsimp only at hSw); obtain ⟨hS0, hS1, hS2, hS3, hS4, hS5, hS6⟩ := hSw; go_simp; try with_reducible rfl)
      try simp only [Act.put, List.getElem_toArray, List.getElem_cons_zero, List.getElem_cons_succ, List.setIfInBounds_toArray, List.set_cons_zero, List.set_cons_succ]
      refine wpAnyH_take (i := 5) (v := ?_) rfl (by kernel_rfl) (by kernel_rfl) (by kernel_rfl) (fun _ _ _ h => h) (Or.inl ⟨by rfl, ?_⟩) (by assumption) ?_
      rotate_left
      · (intro Y hSw; (try dsimp only at hSw); obtain ⟨hS0, hS1, hS2, hS3, hS4, hS5, hS6⟩ := hSw; go_simp; try with_reducible rfl)
      try simp only [Act.put, List.getElem_toArray, List.getElem_cons_zero, List.getElem_cons_succ, List.setIfInBounds_toArray, List.set_cons_zero, List.set_cons_succ]
      refine wpAnyH_ready (rs := [6, 11]) (by kernel_rfl) (by simp) ?_
      refine AllReadyH.cons rfl (fun K hK => ?_) (AllReadyH.cons rfl (fun K hK => ?_) AllReadyH.nil)
      · go_simp
        refine (HACT.out Y hL.t).mono ?_; rintro e Y2 ⟨b', m', hE2⟩
        have he := hE2.1.e
        subst he
        replace hL := hL.act hE2
        clear hE2
        go_simp
        refine hK.out _ _ (PlyS.mk' (hAk.below hL.k (Nat.le_refl _)) hL.x) (fun hHeld => ?_)
        clear hK K
        try simp only [Act.put, List.getElem_toArray, List.getElem_cons_zero, List.getElem_cons_succ, List.setIfInBounds_toArray, List.set_cons_zero, List.set_cons_succ]
        refine wpAnyH_take (i := 7) (v := ?_) rfl (by kernel_rfl) (by kernel_rfl) (by kernel_rfl) (fun _ _ _ h => h) (Or.inl ⟨by rfl, ?_⟩) (by assumption) ?_
        rotate_left
        · (intro Y hSw; (try dsimp only at hSw); obtain ⟨hS0, hS1, hS2, hS3, hS4, hS5, hS6⟩ := hSw; go_simp; try with_reducible rfl)
        try simp only [Act.put, List.getElem_toArray, List.getElem_cons_zero, List.getElem_cons_succ, List.setIfInBounds_toArray, List.set_cons_zero, List.set_cons_succ]
        refine wpAnyH_take (i := 8) (v := ?_) rfl (by kernel_rfl) (by kernel_rfl) (by kernel_rfl) (fun _ _ _ h => h) (Or.inl ⟨by rfl, ?_⟩) (by assumption) ?_
        rotate_left
        · (intro Y hSw; (try dsimp only at hSw); obtain ⟨hS0, hS1, hS2, hS3, hS4, hS5, hS6⟩ := hSw; go_simp; try with_reducible rfl)
        try simp only [Act.put, List.getElem_toArray, List.getElem_cons_zero, List.getElem_cons_succ, List.setIfInBounds_toArray, List.set_cons_zero, List.set_cons_succ]
        refine wpAnyH_take (i := 9) (v := ?_) rfl (by kernel_rfl) (by kernel_rfl) (by kernel_rfl) (fun _ _ _ h => h) (Or.inl ⟨by rfl, ?_⟩) (by assumption) ?_
        rotate_left
        · (intro Y hSw; (try dsimp only at hSw); obtain ⟨hS0, hS1, hS2, hS3, hS4, hS5, hS6⟩ := hSw; go_simp; try with_reducible rfl)
        try simp only [Act.put, List.getElem_toArray, List.getElem_cons_zero, List.getElem_cons_succ, List.setIfInBounds_toArray, List.set_cons_zero, List.set_cons_succ]
        refine wpAnyH_take (i := 10) (v := ?_) rfl (by kernel_rfl) (by kernel_rfl) (by kernel_rfl) (fun _ _ _ h => h) (Or.inl ⟨by rfl, ?_⟩) (by assumption) ?_
        rotate_left
        · (intro Y hSw; (try dsimp only at hSw); obtain ⟨hS0, hS1, hS2, hS3, hS4, hS5, hS6⟩ := hSw; go_simp; try with_reducible rfl)
        try simp only [Act.put, List.getElem_toArray, List.getElem_cons_zero, List.getElem_cons_succ, List.setIfInBounds_toArray, List.set_cons_zero, List.set_cons_succ]
        refine wpAnyH_ready (rs := [11]) (by kernel_rfl) (by simp) ?_
        refine AllReadyH.cons rfl (fun K hK => ?_) AllReadyH.nil
        go_simp
        generalize hZ : World.alloc Y2 _ = Z
        replace hL := hL.al hZ.symm
        clear hZ
        obtain ⟨d, hd⟩ : ∃ d, Y2.heap.size = d := ⟨_, rfl⟩
        rw [hd] at hL ⊢
        refine hK.out _ _ (PlyS.mk' (hAk.below hL.l.k (Nat.le_refl _)) hL.l.x) (fun hHeld => ?_)
        clear hK K
        try simp only [Act.put, List.getElem_toArray, List.getElem_cons_zero, List.getElem_cons_succ, List.setIfInBounds_toArray, List.set_cons_zero, List.set_cons_succ]
        refine wpAnyH_take (i := 12) (v := ?_) rfl (by kernel_rfl) (by kernel_rfl) (by kernel_rfl) (fun _ _ _ h => h) (Or.inl ⟨by rfl, ?_⟩) (by assumption) ?_
        rotate_left
        · (intro Y hSw; (try dsimp only at hSw); obtain ⟨hS0, hS1, hS2, hS3, hS4, hS5, hS6⟩ := hSw; go_simp; try with_reducible rfl)
        try simp only [Act.put, List.getElem_toArray, List.getElem_cons_zero, List.getElem_cons_succ, List.setIfInBounds_toArray, List.set_cons_zero, List.set_cons_succ]
        refine wpAnyH_ready (rs := [13]) (by kernel_rfl) (by simp) ?_
        refine AllReadyH.cons rfl (fun K hK => ?_) AllReadyH.nil
        rw [if_pos (by rfl)]
        refine wp_storeB ty24 _ _ rfl d (refV P' (hsT T')) rfl rfl hL.n rfl HSZ'.out (refV_one _ _) ?_
        have hL2 := hL.l.set hL.lo hL.nb hL.nm hL.ne (refV P' (hsT T')).toList
        have hN2 := hL.n.whole (refV P' (hsT T')) (HSZ'.out.trans rfl)
        have hne := hL.ne
        refine hK.out _ _ (PlyS.mk' (hAk.below hL2.k (Nat.le_refl _)) hL2.x) (fun hHeld => ?_)
        clear hK K
        try simp only [Act.put, List.getElem_toArray, List.getElem_cons_zero, List.getElem_cons_succ, List.setIfInBounds_toArray, List.set_cons_zero, List.set_cons_succ]
        refine wpAnyH_take (i := 14) (v := ?_) rfl (by kernel_rfl) (by kernel_rfl) (by kernel_rfl) (fun _ _ _ h => h) (Or.inl ⟨by rfl, ?_⟩) (by assumption) ?_
        rotate_left
        · (intro Y hSw; (try dsimp only at hSw); obtain ⟨hS0, hS1, hS2, hS3, hS4, hS5, hS6⟩ := hSw; go_simp; try with_reducible rfl)
        try simp only [Act.put, List.getElem_toArray, List.getElem_cons_zero, List.getElem_cons_succ, List.setIfInBounds_toArray, List.set_cons_zero, List.set_cons_succ]
        refine wpAnyH_done (by kernel_rfl) ?_ _
        rw [onlyN_normal]
        clear hL hHeld
        generalize World.setCells Z d 0 _ = Z2 at hL2 hN2 ⊢
        go_wp2_with fail
        refine wp_onlyN ?_
        refine wp_region_held_drew (S := fun Y => Blk Y d (refV P' (hsT T')) 52) (by kernel_rfl) hN2.drew (fun hHeld => ?_)
        have hL3 := hL2.step (Below.refl _ Z2).drew
        have hN3 := hN2.drew
        clear hL2 hN2
        change wpAnyH _ _ _ _ _ _ _ _ Z2.drew
        generalize Z2.drew = Z3 at hL3 hN3 hHeld ⊢
        refine wpAnyH_take (i := 0) (v := ?_) rfl (by kernel_rfl) (by kernel_rfl) (by kernel_rfl) (fun _ _ _ h => h) (Or.inl ⟨by rfl, ?_⟩) (by assumption) ?_
        rotate_left
        · (intro Y hSw; (try dsimp only at hSw); obtain hS0 := hSw; go_simp; try with_reducible rfl)
        try simp only [Act.put, List.getElem_toArray, List.getElem_cons_zero, List.getElem_cons_succ, List.setIfInBounds_toArray, List.set_cons_zero, List.set_cons_succ]
        refine wpAnyH_take (i := 1) (v := .agg (refV P' (hsT T'))) rfl (by kernel_rfl) (by kernel_rfl) (by kernel_rfl) (fun _ _ _ h => h) (Or.inl ⟨by rfl, fun Y hSw => exec_loadB ty24 _ rfl d rfl hSw HSZ'.out⟩) (by assumption) ?_
        try simp only [Act.put, List.getElem_toArray, List.getElem_cons_zero, List.getElem_cons_succ, List.setIfInBounds_toArray, List.set_cons_zero, List.set_cons_succ]
        refine wpAnyH_take (i := 2) (v := ?_) rfl (by kernel_rfl) (by kernel_rfl) (by kernel_rfl) (fun _ _ _ h => h) (Or.inl ⟨by rfl, ?_⟩) (by assumption) ?_
        rotate_left
        · (intro Y hSw; (try dsimp only at hSw); obtain hS0 := hSw; go_simp; try with_reducible rfl)
        try simp only [Act.put, List.getElem_toArray, List.getElem_cons_zero, List.getElem_cons_succ, List.setIfInBounds_toArray, List.set_cons_zero, List.set_cons_succ]
        refine wpAnyH_ready (rs := [3]) (by kernel_rfl) (by simp) ?_
        refine AllReadyH.cons rfl (fun K hK => ?_) AllReadyH.nil
        rw [if_pos (by rfl)]
        refine wp_storeB ty24 _ _ rfl g (refV P' (hsT T')) rfl rfl hL3.x HSZ.out HSZ'.out (refV_one _ _) ?_
        have hL4 := hL3.put (refV P' (hsT T')) (HSZ'.out.trans HSZ.out.symm)
        have hN4 := hN3.setCellsO (refV P' (hsT T')).toList 0 (Ne.symm hne)
        refine hK.out _ _ (hN4) (fun hHeld => ?_)
        clear hK K
        try simp only [Act.put, List.getElem_toArray, List.getElem_cons_zero, List.getElem_cons_succ, List.setIfInBounds_toArray, List.set_cons_zero, List.set_cons_succ]
        refine wpAnyH_done (by kernel_rfl) ?_ _
        rw [onlyN_normal]
        clear hL3 hN3 hN4 hHeld
        generalize World.setCells Z3 g 0 _ = Z4 at hL4 ⊢
        go_wp2_with (first | refine wpList_loadW ty24 (by rfl) _ rfl g rfl hL4.x HSZ'.out ?_)
        refine (is_all hL4.t HG'.out).mono ?_; rintro e Z5 ⟨rfl, k5⟩
        have hL5 := hL4.step k5
        clear hL4 k5
        go_wp2_with fail
        exact ⟨⟨k + 1, b', m', P', T', by omega, by go_num, rfl, by have := HG'.out; rw [show ((k + 1 : Nat) : Int) = (k : Int) + 1 by omega]; exact this, hL5⟩, by simp [intOf]; omega⟩
      · go_simp
        generalize hZ : World.alloc Y _ = Y1
        replace hL := hL.al hZ.symm
        clear hZ
        obtain ⟨d, hd⟩ : ∃ d, Y.heap.size = d := ⟨_, rfl⟩
        rw [hd] at hL ⊢
        refine hK.out _ _ (PlyS.mk' (hAk.below hL.l.k (Nat.le_refl _)) hL.l.x) (fun hHeld => ?_)
        clear hK K
        try simp only [Act.put, List.getElem_toArray, List.getElem_cons_zero, List.getElem_cons_succ, List.setIfInBounds_toArray, List.set_cons_zero, List.set_cons_succ]
        refine wpAnyH_ready (rs := [6]) (by kernel_rfl) (by simp) ?_
        refine AllReadyH.cons rfl (fun K hK => ?_) AllReadyH.nil
        go_simp
        refine (HACT.out Y1 hL.l.t).mono ?_; rintro e Z ⟨b', m', hE2⟩
        have he := hE2.1.e
        subst he
        replace hL := hL.act hE2
        clear hE2
        go_simp
        refine hK.out _ _ (PlyS.mk' (hAk.below hL.l.k (Nat.le_refl _)) hL.l.x) (fun hHeld => ?_)
        clear hK K
        try simp only [Act.put, List.getElem_toArray, List.getElem_cons_zero, List.getElem_cons_succ, List.setIfInBounds_toArray, List.set_cons_zero, List.set_cons_succ]
        refine wpAnyH_take (i := 7) (v := ?_) rfl (by kernel_rfl) (by kernel_rfl) (by kernel_rfl) (fun _ _ _ h => h) (Or.inl ⟨by rfl, ?_⟩) (by assumption) ?_
        rotate_left
        · (intro Y hSw; (try dsimp only at hSw); obtain hS0 := hSw; go_simp; try with_reducible rfl)
        try simp only [Act.put, List.getElem_toArray, List.getElem_cons_zero, List.getElem_cons_succ, List.setIfInBounds_toArray, List.set_cons_zero, List.set_cons_succ]
        refine wpAnyH_take (i := 8) (v := ?_) rfl (by kernel_rfl) (by kernel_rfl) (by kernel_rfl) (fun _ _ _ h => h) (Or.inl ⟨by rfl, ?_⟩) (by assumption) ?_
        rotate_left
        · (intro Y hSw; (try dsimp only at hSw); obtain hS0 := hSw; go_simp; try with_reducible rfl)
        try simp only [Act.put, List.getElem_toArray, List.getElem_cons_zero, List.getElem_cons_succ, List.setIfInBounds_toArray, List.set_cons_zero, List.set_cons_succ]
        refine wpAnyH_take (i := 9) (v := ?_) rfl (by kernel_rfl) (by kernel_rfl) (by kernel_rfl) (fun _ _ _ h => h) (Or.inl ⟨by rfl, ?_⟩) (by assumption) ?_
        rotate_left
        · (intro Y hSw; (try dsimp only at hSw); obtain hS0 := hSw; go_simp; try with_reducible rfl)
        try simp only [Act.put, List.getElem_toArray, List.getElem_cons_zero, List.getElem_cons_succ, List.setIfInBounds_toArray, List.set_cons_zero, List.set_cons_succ]
        refine wpAnyH_take (i := 10) (v := ?_) rfl (by kernel_rfl) (by kernel_rfl) (by kernel_rfl) (fun _ _ _ h => h) (Or.inl ⟨by rfl, ?_⟩) (by assumption) ?_
        rotate_left
        · (intro Y hSw; (try dsimp only at hSw); obtain hS0 := hSw; go_simp; try with_reducible rfl)
        try simp only [Act.put, List.getElem_toArray, List.getElem_cons_zero, List.getElem_cons_succ, List.setIfInBounds_toArray, List.set_cons_zero, List.set_cons_succ]
        refine wpAnyH_take (i := 12) (v := ?_) rfl (by kernel_rfl) (by kernel_rfl) (by kernel_rfl) (fun _ _ _ h => h) (Or.inl ⟨by rfl, ?_⟩) (by assumption) ?_
        rotate_left
        · (intro Y hSw; (try dsimp only at hSw); obtain hS0 := hSw; go_simp; try with_reducible rfl)
        try simp only [Act.put, List.getElem_toArray, List.getElem_cons_zero, List.getElem_cons_succ, List.setIfInBounds_toArray, List.set_cons_zero, List.set_cons_succ]
        refine wpAnyH_ready (rs := [13]) (by kernel_rfl) (by simp) ?_
        refine AllReadyH.cons rfl (fun K hK => ?_) AllReadyH.nil
        rw [if_pos (by rfl)]
        refine wp_storeB ty24 _ _ rfl d (refV P' (hsT T')) rfl rfl hL.n rfl HSZ'.out (refV_one _ _) ?_
        have hL2 := hL.l.set hL.lo hL.nb hL.nm hL.ne (refV P' (hsT T')).toList
        have hN2 := hL.n.whole (refV P' (hsT T')) (HSZ'.out.trans rfl)
        have hne := hL.ne
        refine hK.out _ _ (PlyS.mk' (hAk.below hL2.k (Nat.le_refl _)) hL2.x) (fun hHeld => ?_)
        clear hK K
        try simp only [Act.put, List.getElem_toArray, List.getElem_cons_zero, List.getElem_cons_succ, List.setIfInBounds_toArray, List.set_cons_zero, List.set_cons_succ]
        refine wpAnyH_take (i := 14) (v := ?_) rfl (by kernel_rfl) (by kernel_rfl) (by kernel_rfl) (fun _ _ _ h => h) (Or.inl ⟨by rfl, ?_⟩) (by assumption) ?_
        rotate_left
        · (intro Y hSw; (try dsimp only at hSw); obtain hS0 := hSw; go_simp; try with_reducible rfl)
        try simp only [Act.put, List.getElem_toArray, List.getElem_cons_zero, List.getElem_cons_succ, List.setIfInBounds_toArray, List.set_cons_zero, List.set_cons_succ]
        refine wpAnyH_done (by kernel_rfl) ?_ _
        rw [onlyN_normal]
        clear hL hHeld
        generalize World.setCells Z d 0 _ = Z2 at hL2 hN2 ⊢
        go_wp2_with fail
        refine wp_onlyN ?_
        refine wp_region_held_drew (S := fun Y => Blk Y d (refV P' (hsT T')) 52) (by kernel_rfl) hN2.drew (fun hHeld => ?_)
        have hL3 := hL2.step (Below.refl _ Z2).drew
        have hN3 := hN2.drew
        clear hL2 hN2
        change wpAnyH _ _ _ _ _ _ _ _ Z2.drew
        generalize Z2.drew = Z3 at hL3 hN3 hHeld ⊢
        refine wpAnyH_take (i := 0) (v := ?_) rfl (by kernel_rfl) (by kernel_rfl) (by kernel_rfl) (fun _ _ _ h => h) (Or.inl ⟨by rfl, ?_⟩) (by assumption) ?_
        rotate_left
        · (intro Y hSw; (try dsimp only at hSw); obtain hS0 := hSw; go_simp; try with_reducible rfl)
        try simp only [Act.put, List.getElem_toArray, List.getElem_cons_zero, List.getElem_cons_succ, List.setIfInBounds_toArray, List.set_cons_zero, List.set_cons_succ]
        refine wpAnyH_take (i := 1) (v := .agg (refV P' (hsT T'))) rfl (by kernel_rfl) (by kernel_rfl) (by kernel_rfl) (fun _ _ _ h => h) (Or.inl ⟨by rfl, fun Y hSw => exec_loadB ty24 _ rfl d rfl hSw HSZ'.out⟩) (by assumption) ?_
        try simp only [Act.put, List.getElem_toArray, List.getElem_cons_zero, List.getElem_cons_succ, List.setIfInBounds_toArray, List.set_cons_zero, List.set_cons_succ]
        refine wpAnyH_take (i := 2) (v := ?_) rfl (by kernel_rfl) (by kernel_rfl) (by kernel_rfl) (fun _ _ _ h => h) (Or.inl ⟨by rfl, ?_⟩) (by assumption) ?_
        rotate_left
        · (intro Y hSw; (try dsimp only at hSw); obtain hS0 := hSw; go_simp; try with_reducible rfl)
        try simp only [Act.put, List.getElem_toArray, List.getElem_cons_zero, List.getElem_cons_succ, List.setIfInBounds_toArray, List.set_cons_zero, List.set_cons_succ]
        refine wpAnyH_ready (rs := [3]) (by kernel_rfl) (by simp) ?_
        refine AllReadyH.cons rfl (fun K hK => ?_) AllReadyH.nil
        rw [if_pos (by rfl)]
        refine wp_storeB ty24 _ _ rfl g (refV P' (hsT T')) rfl rfl hL3.x HSZ.out HSZ'.out (refV_one _ _) ?_
        have hL4 := hL3.put (refV P' (hsT T')) (HSZ'.out.trans HSZ.out.symm)
        have hN4 := hN3.setCellsO (refV P' (hsT T')).toList 0 (Ne.symm hne)
        refine hK.out _ _ (hN4) (fun hHeld => ?_)
        clear hK K
        try simp only [Act.put, List.getElem_toArray, List.getElem_cons_zero, List.getElem_cons_succ, List.setIfInBounds_toArray, List.set_cons_zero, List.set_cons_succ]
        refine wpAnyH_done (by kernel_rfl) ?_ _
        rw [onlyN_normal]
        clear hL3 hN3 hN4 hHeld
        generalize World.setCells Z3 g 0 _ = Z4 at hL4 ⊢
        go_wp2_with (first | refine wpList_loadW ty24 (by rfl) _ rfl g rfl hL4.x HSZ'.out ?_)
        refine (is_all hL4.t HG'.out).mono ?_; rintro e Z5 ⟨rfl, k5⟩
        have hL5 := hL4.step k5
        clear hL4 k5
        go_wp2_with fail
        exact ⟨⟨k + 1, b', m', P', T', by omega, by go_num, rfl, by have := HG'.out; rw [show ((k + 1 : Nat) : Int) = (k : Int) + 1 by omega]; exact this, hL5⟩, by simp [intOf]; omega⟩
    · obtain rfl : k = l.length := by omega
      go_wp2_with fail
      refine (none_ok _ _).mono ?_; rintro e u1 ⟨rfl, j1⟩
      have hL1 := hL.step j1
      go_wp2_with fail
      refine (Same_ln hL1.t (.inl rfl)).mono ?_; rintro e u2 ⟨rfl, j2⟩
      have hL2 := hL1.step j2
      go_wp2_with fail
      refine (Same_nl hL2.t (.inl rfl)).mono ?_; rintro e u3 ⟨rfl, j3⟩
      have hL3 := hL2.step j3
      go_wp2_with fail
      refine (works_ok _).mono ?_; rintro e u4 ⟨rfl, j4⟩
      have hL4 := hL3.step j4
      go_wp2_with fail
      go_ret
      exact ⟨rfl, hL4.k⟩
end Go.Proofs.Ytchknegenaoliaa
