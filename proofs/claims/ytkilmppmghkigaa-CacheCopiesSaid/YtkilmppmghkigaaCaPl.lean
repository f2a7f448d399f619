/-
  Package pinfoldlaw18: CachePlays. No condition.
-/
import Derived.Test.YtkilmppmghkigaaCaZ
import Derived.Test.YtkilmppmghkigaaCaZN
import Derived.StillTailTactics
namespace Go.Proofs.Ytkilmppmghkigaa
open Go.RowKit
attribute [local go_sem] Oper.semAt_some
set_option maxHeartbeats 8000000
set_option maxRecDepth 8000

theorem act_ok {B : Nat} {w : World} {s : Nat} {cs : Array Value} {L : Nat → List Int} (hS : ShAt w s L) (hV : RefV B w cs L) (hB : B ≤ w.heap.size) (hG : Good L) (x : ActV) :
    Calls Try.prog 16 #[.pointer (some ⟨s, 0, none⟩), .agg cs, .agg #[.int .i64 x.f0, .int .i64 x.f1, .int .i64 x.f2, .int .i64 x.f3]] w (ActE w s (actA L x)) := by
  obtain ⟨wh, th, cl, ix⟩ := x
  unfold actA
  dsimp only
  split
  · rename_i h; subst h; exact act0 hS hV hB hG.few th cl ix rfl
  split
  · rename_i h; subst h; exact act1 hS hV hB hG.few th cl ix rfl
  split
  · rename_i h; subst h
    refine act2 hS hV hB hG.few th cl ix rfl ?_
    unfold splL
    split
    · rw [List.length_take]; omega
    · simp
  split
  · rename_i h; subst h; exact act3 hS hV hB hG.few th cl ix rfl
  split
  · rename_i h; subst h; exact act4 hS hV hB hG.few th cl ix rfl
  · exact act5 hS hV hB hG.few wh th cl ix (by assumption) (by assumption) (by assumption) (by assumption) (by assumption)
/-- What stands while calls go on: shelves, and the document's in a box. -/
structure Play (w W : World) (s g : Nat) (cs : Array Value) (L : Nat → List Int) : Prop where
  sh : ShAt W s L
  good : Good L
  box : Blk W g cs 44
  ref : RefV W.heap.size W cs L
  bel : Below w.heap.size w W
  lo : w.heap.size ≤ s ∧ w.heap.size ≤ g ∧ s ≠ g
structure PlyS (ba off g : Nat) (x : ActV) (cs : Array Value) (Y : World) : Prop where
  c0 : Y.cell? ⟨ba, off, none⟩ = some (.int .i64 x.f0)
  c1 : Y.cell? ⟨ba, off + 1, none⟩ = some (.int .i64 x.f1)
  c2 : Y.cell? ⟨ba, off + 2, none⟩ = some (.int .i64 x.f2)
  c3 : Y.cell? ⟨ba, off + 3, none⟩ = some (.int .i64 x.f3)
  row : Blk Y g cs 44
theorem PlyS.chg {ba off g s : Nat} {x : ActV} {cs : Array Value} {Y Z : World} (h : PlyS ba off g x cs Y) (k : Chg s Y Z) (h1 : ba ≠ s) (h2 : g ≠ s) : PlyS ba off g x cs Z := by
  have hl : ba < Y.heap.size := World.block_lt_of_cell? Y _ h.c0
  exact ⟨(World.cell?_of_block (a := ⟨ba, off, none⟩) (k.block ba hl h1)).trans h.c0, (World.cell?_of_block (a := ⟨ba, off + 1, none⟩) (k.block ba hl h1)).trans h.c1, (World.cell?_of_block (a := ⟨ba, off + 2, none⟩) (k.block ba hl h1)).trans h.c2,
    (World.cell?_of_block (a := ⟨ba, off + 3, none⟩) (k.block ba hl h1)).trans h.c3, k.blk h.row h2⟩
theorem PlyS.below {ba off g : Nat} {x : ActV} {cs : Array Value} {Y Z : World} (h : PlyS ba off g x cs Y) (k : Below Y.heap.size Y Z) : PlyS ba off g x cs Z :=
  h.chg (s := Z.heap.size) (Chg.of_below k) (by have := World.block_lt_of_cell? Y _ h.c0; have := k.size; show ba ≠ _; have h9 : ba < Y.heap.size := World.block_lt_of_cell? Y _ h.c0; omega) (by have := h.row.lt; have := k.size; omega)
theorem plays_body (v0 : Value) (l : List ActV) (w : World) (hv : ActsAt w.heap.size w v0 l) :
    Calls Try.prog 4 #[v0] w fun e w' => e = .returned (.bool true) ∧ Below w.heap.size w w' := by
  have HV := Lib.hid hv
  obtain ⟨ad, cap, rfl, hcap, hmx, _⟩ := hv
  have hml : l.length ≤ 9223372036854775807 := by unfold maxLen at hmx; omega
  clear hmx
  by_cases h1 : 80 < l.length
  · go_enter Try.func4, Try.ntmps4
    go_wp2_with fail
    refine (works_ok _).mono ?_; rintro e w1 ⟨rfl, k⟩
    go_wp2_with fail
    go_ret
    exact ⟨rfl, k⟩
  go_enter Try.func4, Try.ntmps4
  go_wp2_with fail
  refine (New_calls _).mono ?_; rintro e W ⟨rfl, hp, hb⟩
  go_wp2_with fail
  obtain ⟨W0, hW0⟩ : ∃ W0, W0 = W.alloc (.cells #[.slice none 0 0, .slice none 0 0, .slice none 0 0, .slice none 0 0, .slice none 0 0, .slice none 0 0, .slice none 0 0, .slice none 0 0, .slice none 0 0, .slice none 0 0, .slice none 0 0, .slice none 0 0, .slice none 0 0, .slice none 0 0, .slice none 0 0, .slice none 0 0, .slice none 0 0, .slice none 0 0, .slice none 0 0, .slice none 0 0, .slice none 0 0, .slice none 0 0, .slice none 0 0, .slice none 0 0, .slice none 0 0, .slice none 0 0, .slice none 0 0, .slice none 0 0, .slice none 0 0, .slice none 0 0, .slice none 0 0, .slice none 0 0] 44) := ⟨_, rfl⟩
  rw [← hW0]
  have k0 : Below W.heap.size W W0 := by rw [hW0]; exact (Below.refl _ W).alloc (Nat.le_refl _) _
  have h0 : Play w W0 w.heap.size W.heap.size #[.slice none 0 0, .slice none 0 0, .slice none 0 0, .slice none 0 0, .slice none 0 0, .slice none 0 0, .slice none 0 0, .slice none 0 0, .slice none 0 0, .slice none 0 0, .slice none 0 0, .slice none 0 0, .slice none 0 0, .slice none 0 0, .slice none 0 0, .slice none 0 0, .slice none 0 0, .slice none 0 0, .slice none 0 0, .slice none 0 0, .slice none 0 0, .slice none 0 0, .slice none 0 0, .slice none 0 0, .slice none 0 0, .slice none 0 0, .slice none 0 0, .slice none 0 0, .slice none 0 0, .slice none 0 0, .slice none 0 0, .slice none 0 0] (fun _ => []) := ⟨hp.step k0, good_new, by rw [hW0]; exact Blk.new _ _ _, RefV.zero _ _, hb.trans (k0.mono hb.size), Nat.le_refl _, hb.size, by have := hp.lt; omega⟩
  obtain ⟨g, hg⟩ : ∃ g, W.heap.size = g := ⟨_, rfl⟩
  rw [hg] at h0 ⊢
  clear hW0 k0 hp hb hg
  go_loopw [3, 5] (fun v i wr => ∃ (k s : Nat) (L : Nat → List Int) (cs : Array Value), k ≤ l.length ∧ i = .int .i64 k ∧ v = .pointer (some ⟨s, 0, none⟩) ∧ Play w wr s g cs L) (fun _ i _ => l.length - (intOf i).toNat)
  case atStart => exact ⟨0, _, _, _, by omega, rfl, rfl, h0⟩
  case round =>
    obtain ⟨k, s, L, cs, hk, rfl, rfl, hP⟩ := hrel
    clear h0
    by_cases hlt : k < l.length
    · obtain ⟨ba, off, rfl, hA⟩ : ∃ b off, ad = some ⟨b, off, none⟩ ∧ ∀ i (h : i < l.length), ActAt w.heap.size w b (off + i * 4) l[i] := by
        obtain ⟨_, _, hv, _, _, h⟩ := HV.out
        simp only [Value.slice.injEq] at hv
        obtain ⟨rfl, _⟩ := hv
        rcases h with h | h
        · rw [h] at hlt; simp at hlt
        · exact h
      have hAk := (hA k hlt).below hP.bel (Nat.le_refl _)
      clear hA
      obtain ⟨x, hx⟩ : ∃ x, l[k] = x := ⟨_, rfl⟩
      rw [hx] at hAk
      obtain ⟨q0, q1, q2, q3, _, _, _, _, hblt⟩ := hAk
      have i0 : (0 : Int) ≤ k := by omega
      have i1 : (k : Int) < l.length := by omega
      have HP := Lib.hid hP
      have hsz := hP.ref.size
      clear hx hP
      go_wp2_with fail
      refine wp_region_held_drew (S := PlyS ba (off + k * 4) g x cs) (by kernel_rfl) ⟨q0, q1, q2, q3, HP.out.box⟩ (fun hHeld => ?_)
      refine wpAnyH_take (i := 0) (v := ?_) rfl (by kernel_rfl) (by kernel_rfl) (by kernel_rfl) (fun _ _ _ h => h) (Or.inl ⟨by rfl, ?_⟩) (by assumption) ?_
      rotate_left
      · (intro Y hSw; (try dsimp only at hSw); obtain ⟨hS0, hS1, hS2, hS3, hS4⟩ := hSw; go_simp; try with_reducible rfl)
      try simp only [Act.put, List.getElem_toArray, List.getElem_cons_zero, List.getElem_cons_succ, List.setIfInBounds_toArray, List.set_cons_zero, List.set_cons_succ]
      refine wpAnyH_take (i := 1) (v := .agg cs) rfl (by kernel_rfl) (by kernel_rfl) (by kernel_rfl) (fun _ _ _ h => h) (Or.inl ⟨by rfl, fun Y hSw => exec_load32 _ rfl g rfl hSw.row hsz⟩) (by assumption) ?_
      try simp only [Act.put, List.getElem_toArray, List.getElem_cons_zero, List.getElem_cons_succ, List.setIfInBounds_toArray, List.set_cons_zero, List.set_cons_succ]
      refine wpAnyH_take (i := 2) (v := ?_) rfl (by kernel_rfl) (by kernel_rfl) (by kernel_rfl) (fun _ _ _ h => h) (Or.inl ⟨by rfl, ?_⟩) (by assumption) ?_
      rotate_left
      · (intro Y hSw; (try dsimp only at hSw); obtain ⟨hS0, hS1, hS2, hS3, hS4⟩ := hSw; go_simp; try with_reducible rfl)
      try simp only [Act.put, List.getElem_toArray, List.getElem_cons_zero, List.getElem_cons_succ, List.setIfInBounds_toArray, List.set_cons_zero, List.set_cons_succ]
      refine wpAnyH_take (i := 3) (v := ?_) rfl (by kernel_rfl) (by kernel_rfl) (by kernel_rfl) (fun _ _ _ h => h) (Or.inl ⟨by rfl, ?_⟩) (by assumption) ?_
      rotate_left
      · (intro Y hSw; (try dsimp only at hSw); obtain ⟨hS0, hS1, hS2, hS3, hS4⟩ := hSw; go_simp; try with_reducible rfl)
      try simp only [Act.put, List.getElem_toArray, List.getElem_cons_zero, List.getElem_cons_succ, List.setIfInBounds_toArray, List.set_cons_zero, List.set_cons_succ]
      refine wpAnyH_take (i := 4) (v := ?_) rfl (by kernel_rfl) (by kernel_rfl) (by kernel_rfl) (fun _ _ _ h => h) (Or.inl ⟨by rfl, ?_⟩) (by assumption) ?_
      rotate_left
      · (intro Y hSw; (try dsimp only at hSw); obtain ⟨hS0, hS1, hS2, hS3, hS4⟩ := hSw; go_simp; try with_reducible rfl)
      try simp only [Act.put, List.getElem_toArray, List.getElem_cons_zero, List.getElem_cons_succ, List.setIfInBounds_toArray, List.set_cons_zero, List.set_cons_succ]
      refine wpAnyH_take (i := 5) (v := ?_) rfl (by kernel_rfl) (by kernel_rfl) (by kernel_rfl) (fun _ _ _ h => h) (Or.inl ⟨by rfl, ?_⟩) (by assumption) ?_
      rotate_left
      · (intro Y hSw; (try dsimp only at hSw); obtain ⟨hS0, hS1, hS2, hS3, hS4⟩ := hSw; go_simp; try with_reducible rfl)
      try simp only [Act.put, List.getElem_toArray, List.getElem_cons_zero, List.getElem_cons_succ, List.setIfInBounds_toArray, List.set_cons_zero, List.set_cons_succ]
      have hX : PlyS ba (off + k * 4) g x cs wr.drew := ⟨q0, q1, q2, q3, HP.out.box⟩
      have hSh := HP.out.sh.step (Below.refl _ wr).drew
      have hRf := HP.out.ref.below (Below.refl _ wr).drew (Nat.le_refl _)
      have hBl : Below w.heap.size w wr.drew := HP.out.bel.drew
      obtain ⟨lo1, lo2, lo3⟩ := HP.out.lo
      change RefV wr.drew.heap.size _ _ _ at hRf
      clear q0 q1 q2 q3
      change wpAnyH _ _ _ _ _ _ _ _ wr.drew
      generalize wr.drew = Y at hX hSh hRf hBl hHeld ⊢
      refine wpAnyH_ready (rs := [6, 11]) (by kernel_rfl) (by simp) ?_
      refine AllReadyH.cons rfl (fun K hK => ?_) (AllReadyH.cons rfl (fun K hK => ?_) AllReadyH.nil)
      · go_simp
        refine (act_ok hSh hRf (Nat.le_refl _) HP.out.good x).mono ?_; rintro e Z ⟨s', cs', rfl, p1, p2, p3, p4⟩
        have hne : s' ≠ g := by have := hX.row.lt; omega
        replace hX := hX.chg p3 (by omega) (by omega)
        have hs' : w.heap.size ≤ s' := by have := hBl.size; omega
        replace hBl := hBl.trans (p3.below lo1 hBl.size)
        have hsl := p1.lt
        clear hSh hRf
        go_simp
        refine hK.out _ _ (hX) (fun hHeld => ?_)
        clear hK K
        try simp only [Act.put, List.getElem_toArray, List.getElem_cons_zero, List.getElem_cons_succ, List.setIfInBounds_toArray, List.set_cons_zero, List.set_cons_succ]
        refine wpAnyH_take (i := 7) (v := ?_) rfl (by kernel_rfl) (by kernel_rfl) (by kernel_rfl) (fun _ _ _ h => h) (Or.inl ⟨by rfl, ?_⟩) (by assumption) ?_
        rotate_left
        · (intro Y hSw; (try dsimp only at hSw); obtain ⟨hS0, hS1, hS2, hS3, hS4⟩ := hSw; go_simp; try with_reducible rfl)
        try simp only [Act.put, List.getElem_toArray, List.getElem_cons_zero, List.getElem_cons_succ, List.setIfInBounds_toArray, List.set_cons_zero, List.set_cons_succ]
        refine wpAnyH_take (i := 8) (v := ?_) rfl (by kernel_rfl) (by kernel_rfl) (by kernel_rfl) (fun _ _ _ h => h) (Or.inl ⟨by rfl, ?_⟩) (by assumption) ?_
        rotate_left
        · (intro Y hSw; (try dsimp only at hSw); obtain ⟨hS0, hS1, hS2, hS3, hS4⟩ := hSw; go_simp; try with_reducible rfl)
        try simp only [Act.put, List.getElem_toArray, List.getElem_cons_zero, List.getElem_cons_succ, List.setIfInBounds_toArray, List.set_cons_zero, List.set_cons_succ]
        refine wpAnyH_take (i := 9) (v := ?_) rfl (by kernel_rfl) (by kernel_rfl) (by kernel_rfl) (fun _ _ _ h => h) (Or.inl ⟨by rfl, ?_⟩) (by assumption) ?_
        rotate_left
        · (intro Y hSw; (try dsimp only at hSw); obtain ⟨hS0, hS1, hS2, hS3, hS4⟩ := hSw; go_simp; try with_reducible rfl)
        try simp only [Act.put, List.getElem_toArray, List.getElem_cons_zero, List.getElem_cons_succ, List.setIfInBounds_toArray, List.set_cons_zero, List.set_cons_succ]
        refine wpAnyH_take (i := 10) (v := ?_) rfl (by kernel_rfl) (by kernel_rfl) (by kernel_rfl) (fun _ _ _ h => h) (Or.inl ⟨by rfl, ?_⟩) (by assumption) ?_
        rotate_left
        · (intro Y hSw; (try dsimp only at hSw); obtain ⟨hS0, hS1, hS2, hS3, hS4⟩ := hSw; go_simp; try with_reducible rfl)
        try simp only [Act.put, List.getElem_toArray, List.getElem_cons_zero, List.getElem_cons_succ, List.setIfInBounds_toArray, List.set_cons_zero, List.set_cons_succ]
        obtain ⟨Y, rfl⟩ : ∃ Y : World, Y = Z := ⟨_, rfl⟩
        refine wpAnyH_ready (rs := [11]) (by kernel_rfl) (by simp) ?_
        refine AllReadyH.cons rfl (fun K hK => ?_) AllReadyH.nil
        go_simp
        obtain ⟨d, hd⟩ : ∃ d, Y.heap.size = d := ⟨_, rfl⟩
        obtain ⟨Z, hZ⟩ : ∃ Z, Y.alloc (.cells #[.slice none 0 0, .slice none 0 0, .slice none 0 0, .slice none 0 0, .slice none 0 0, .slice none 0 0, .slice none 0 0, .slice none 0 0, .slice none 0 0, .slice none 0 0, .slice none 0 0, .slice none 0 0, .slice none 0 0, .slice none 0 0, .slice none 0 0, .slice none 0 0, .slice none 0 0, .slice none 0 0, .slice none 0 0, .slice none 0 0, .slice none 0 0, .slice none 0 0, .slice none 0 0, .slice none 0 0, .slice none 0 0, .slice none 0 0, .slice none 0 0, .slice none 0 0, .slice none 0 0, .slice none 0 0, .slice none 0 0, .slice none 0 0] 44) = Z := ⟨_, rfl⟩
        have jz : Below Y.heap.size Y Z := by rw [← hZ]; exact (Below.refl _ Y).alloc (Nat.le_refl _) _
        have hN : Blk Z d #[.slice none 0 0, .slice none 0 0, .slice none 0 0, .slice none 0 0, .slice none 0 0, .slice none 0 0, .slice none 0 0, .slice none 0 0, .slice none 0 0, .slice none 0 0, .slice none 0 0, .slice none 0 0, .slice none 0 0, .slice none 0 0, .slice none 0 0, .slice none 0 0, .slice none 0 0, .slice none 0 0, .slice none 0 0, .slice none 0 0, .slice none 0 0, .slice none 0 0, .slice none 0 0, .slice none 0 0, .slice none 0 0, .slice none 0 0, .slice none 0 0, .slice none 0 0, .slice none 0 0, .slice none 0 0, .slice none 0 0, .slice none 0 0] 44 := by rw [← hZ, ← hd]; exact Blk.new Y _ _
        rw [hZ, hd]
        have hdg : d ≠ g := by have := hX.row.lt; omega
        have hnd : s' ≠ d := by omega
        have hdw : w.heap.size ≤ d := by have := hBl.size; omega
        replace hX := hX.below jz
        replace p1 := p1.step jz
        replace p2 := (p2.below jz (Nat.le_refl _)).mono jz.size
        replace hBl := hBl.trans (jz.mono hBl.size)
        clear hZ
        refine hK.out _ _ (hX) (fun hHeld => ?_)
        clear hK K
        try simp only [Act.put, List.getElem_toArray, List.getElem_cons_zero, List.getElem_cons_succ, List.setIfInBounds_toArray, List.set_cons_zero, List.set_cons_succ]
        obtain ⟨Y, rfl⟩ : ∃ Y : World, Y = Z := ⟨_, rfl⟩
        refine wpAnyH_take (i := 12) (v := ?_) rfl (by kernel_rfl) (by kernel_rfl) (by kernel_rfl) (fun _ _ _ h => h) (Or.inl ⟨by rfl, ?_⟩) (by assumption) ?_
        rotate_left
        · (intro Y hSw; (try dsimp only at hSw); obtain ⟨hS0, hS1, hS2, hS3, hS4⟩ := hSw; go_simp; try with_reducible rfl)
        try simp only [Act.put, List.getElem_toArray, List.getElem_cons_zero, List.getElem_cons_succ, List.setIfInBounds_toArray, List.set_cons_zero, List.set_cons_succ]
        refine wpAnyH_ready (rs := [13]) (by kernel_rfl) (by simp) ?_
        refine AllReadyH.cons rfl (fun K hK => ?_) AllReadyH.nil
        rw [if_pos (by rfl)]
        refine wp_store32 _ _ rfl d cs' rfl rfl hN rfl p2.size p2.one ?_
        have kc := (Chg.refl d Y).setRow cs'
        have hNz : NoInt Y d := NoInt.of hN (RefV.zero 0 w).slices
        refine hK.out _ _ ((hX.chg kc (by omega) (by omega))) (fun hHeld => ?_)
        clear hK K
        try simp only [Act.put, List.getElem_toArray, List.getElem_cons_zero, List.getElem_cons_succ, List.setIfInBounds_toArray, List.set_cons_zero, List.set_cons_succ]
        refine wpAnyH_take (i := 14) (v := ?_) rfl (by kernel_rfl) (by kernel_rfl) (by kernel_rfl) (fun _ _ _ h => h) (Or.inl ⟨by rfl, ?_⟩) (by assumption) ?_
        rotate_left
        · (intro Y hSw; (try dsimp only at hSw); obtain ⟨hS0, hS1, hS2, hS3, hS4⟩ := hSw; go_simp; try with_reducible rfl)
        try simp only [Act.put, List.getElem_toArray, List.getElem_cons_zero, List.getElem_cons_succ, List.setIfInBounds_toArray, List.set_cons_zero, List.set_cons_succ]
        refine wpAnyH_done (by kernel_rfl) ?_ _
        have u1 := p1.turnedN hNz hnd kc
        have u2 := p2.turnedN hNz kc
        have u3 := hX.row.setRowO cs' (Ne.symm hdg)
        have u4 := hN.setRow cs'
        have u5 := hBl.trans (kc.below hdw hBl.size)
        have hz2 := kc.size
        clear hN hX p1 p2 hBl hHeld hNz
        generalize Y.setRow d cs' = Z at u1 u2 u3 u4 u5 hz2 kc ⊢
        have hsz' := u2.size
        go_wp2_with fail
        refine wp_region_held_drew (S := fun Y => Blk Y d cs' 44) (by kernel_rfl) u4 (fun hHeld => ?_)
        refine wpAnyH_take (i := 0) (v := ?_) rfl (by kernel_rfl) (by kernel_rfl) (by kernel_rfl) (fun _ _ _ h => h) (Or.inl ⟨by rfl, ?_⟩) (by assumption) ?_
        rotate_left
        · (intro Y hSw; (try dsimp only at hSw); obtain hS0 := hSw; go_simp; try with_reducible rfl)
        try simp only [Act.put, List.getElem_toArray, List.getElem_cons_zero, List.getElem_cons_succ, List.setIfInBounds_toArray, List.set_cons_zero, List.set_cons_succ]
        refine wpAnyH_take (i := 1) (v := .agg cs') rfl (by kernel_rfl) (by kernel_rfl) (by kernel_rfl) (fun _ _ _ h => h) (Or.inl ⟨by rfl, fun Y hSw => exec_load32 _ rfl d rfl hSw hsz'⟩) (by assumption) ?_
        try simp only [Act.put, List.getElem_toArray, List.getElem_cons_zero, List.getElem_cons_succ, List.setIfInBounds_toArray, List.set_cons_zero, List.set_cons_succ]
        refine wpAnyH_take (i := 2) (v := ?_) rfl (by kernel_rfl) (by kernel_rfl) (by kernel_rfl) (fun _ _ _ h => h) (Or.inl ⟨by rfl, ?_⟩) (by assumption) ?_
        rotate_left
        · (intro Y hSw; (try dsimp only at hSw); obtain hS0 := hSw; go_simp; try with_reducible rfl)
        try simp only [Act.put, List.getElem_toArray, List.getElem_cons_zero, List.getElem_cons_succ, List.setIfInBounds_toArray, List.set_cons_zero, List.set_cons_succ]
        refine wpAnyH_ready (rs := [3]) (by kernel_rfl) (by simp) ?_
        refine AllReadyH.cons rfl (fun K hK => ?_) AllReadyH.nil
        rw [if_pos (by rfl)]
        refine wp_store32 _ _ rfl g cs' rfl rfl (t := 44) (show Blk Z.drew g cs _ from u3) hsz hsz' u2.one ?_
        refine hK.out _ _ ((show Blk (Z.drew.setRow g cs') d cs' _ from Blk.setRowO (W := Z.drew) u4 cs' hdg)) (fun hHeld => ?_)
        clear hK K
        try simp only [Act.put, List.getElem_toArray, List.getElem_cons_zero, List.getElem_cons_succ, List.setIfInBounds_toArray, List.set_cons_zero, List.set_cons_succ]
        refine wpAnyH_done (by kernel_rfl) ?_ _
        have kc2 := (Chg.refl g Z.drew).setRow cs'
        have hNz : NoInt Z.drew g := NoInt.of (show Blk Z.drew g cs _ from u3) HP.out.ref.slices
        go_wp2_with fail
        refine ⟨⟨k + 1, s', _, cs', by omega, by go_num, rfl, (u1.step (Below.refl _ Z).drew).turnedN hNz hne kc2, HP.out.good.actA x, (show Blk Z.drew g cs _ from u3).setRow cs', ?_, (u5.trans ((Below.refl _ Z).drew.mono u5.size)).trans (kc2.below lo2 u5.size), hs', lo2, hne⟩, by simp [intOf]; omega⟩
        rw [setRow_size]
        exact ((u2.below (Below.refl _ Z).drew hz2).mono hz2).turnedN hNz kc2
      · go_simp
        obtain ⟨d, hd⟩ : ∃ d, Y.heap.size = d := ⟨_, rfl⟩
        obtain ⟨Z, hZ⟩ : ∃ Z, Y.alloc (.cells #[.slice none 0 0, .slice none 0 0, .slice none 0 0, .slice none 0 0, .slice none 0 0, .slice none 0 0, .slice none 0 0, .slice none 0 0, .slice none 0 0, .slice none 0 0, .slice none 0 0, .slice none 0 0, .slice none 0 0, .slice none 0 0, .slice none 0 0, .slice none 0 0, .slice none 0 0, .slice none 0 0, .slice none 0 0, .slice none 0 0, .slice none 0 0, .slice none 0 0, .slice none 0 0, .slice none 0 0, .slice none 0 0, .slice none 0 0, .slice none 0 0, .slice none 0 0, .slice none 0 0, .slice none 0 0, .slice none 0 0, .slice none 0 0] 44) = Z := ⟨_, rfl⟩
        have jz : Below Y.heap.size Y Z := by rw [← hZ]; exact (Below.refl _ Y).alloc (Nat.le_refl _) _
        have hN : Blk Z d #[.slice none 0 0, .slice none 0 0, .slice none 0 0, .slice none 0 0, .slice none 0 0, .slice none 0 0, .slice none 0 0, .slice none 0 0, .slice none 0 0, .slice none 0 0, .slice none 0 0, .slice none 0 0, .slice none 0 0, .slice none 0 0, .slice none 0 0, .slice none 0 0, .slice none 0 0, .slice none 0 0, .slice none 0 0, .slice none 0 0, .slice none 0 0, .slice none 0 0, .slice none 0 0, .slice none 0 0, .slice none 0 0, .slice none 0 0, .slice none 0 0, .slice none 0 0, .slice none 0 0, .slice none 0 0, .slice none 0 0, .slice none 0 0] 44 := by rw [← hZ, ← hd]; exact Blk.new Y _ _
        rw [hZ, hd]
        have hX' := hX
        have hSh' := hSh
        replace hX := hX.below jz
        replace hSh := hSh.step jz
        replace hRf := (hRf.below jz (Nat.le_refl _)).mono jz.size
        have hdg : d ≠ g := by have := hX'.row.lt; omega
        have hds : s < d := by have := hSh'.lt; omega
        have hdw : w.heap.size ≤ d := by have := hBl.size; omega
        replace hBl := hBl.trans (jz.mono hBl.size)
        clear hZ
        refine hK.out _ _ (hX) (fun hHeld => ?_)
        clear hK K
        try simp only [Act.put, List.getElem_toArray, List.getElem_cons_zero, List.getElem_cons_succ, List.setIfInBounds_toArray, List.set_cons_zero, List.set_cons_succ]
        obtain ⟨Y, rfl⟩ : ∃ Y : World, Y = Z := ⟨_, rfl⟩
        refine wpAnyH_ready (rs := [6]) (by kernel_rfl) (by simp) ?_
        refine AllReadyH.cons rfl (fun K hK => ?_) AllReadyH.nil
        go_simp
        refine (act_ok hSh hRf (Nat.le_refl _) HP.out.good x).mono ?_; rintro e Z ⟨s', cs', rfl, p1, p2, p3, p4⟩
        have hne : s' ≠ g := by have := hX.row.lt; omega
        replace hX := hX.chg p3 (by omega) (by omega)
        have hs' : w.heap.size ≤ s' := by have := hBl.size; omega
        have hnd : s' ≠ d := by have := hN.lt; omega
        replace hN := p3.blk hN (by have := HP.out.sh.lt; omega)
        replace hBl := hBl.trans (p3.below lo1 hBl.size)
        have hsl := p1.lt
        clear hSh hRf
        go_simp
        refine hK.out _ _ (hX) (fun hHeld => ?_)
        clear hK K
        try simp only [Act.put, List.getElem_toArray, List.getElem_cons_zero, List.getElem_cons_succ, List.setIfInBounds_toArray, List.set_cons_zero, List.set_cons_succ]
        refine wpAnyH_take (i := 7) (v := ?_) rfl (by kernel_rfl) (by kernel_rfl) (by kernel_rfl) (fun _ _ _ h => h) (Or.inl ⟨by rfl, ?_⟩) (by assumption) ?_
        rotate_left
        · (intro Y hSw; (try dsimp only at hSw); obtain hS0 := hSw; go_simp; try with_reducible rfl)
        try simp only [Act.put, List.getElem_toArray, List.getElem_cons_zero, List.getElem_cons_succ, List.setIfInBounds_toArray, List.set_cons_zero, List.set_cons_succ]
        refine wpAnyH_take (i := 8) (v := ?_) rfl (by kernel_rfl) (by kernel_rfl) (by kernel_rfl) (fun _ _ _ h => h) (Or.inl ⟨by rfl, ?_⟩) (by assumption) ?_
        rotate_left
        · (intro Y hSw; (try dsimp only at hSw); obtain hS0 := hSw; go_simp; try with_reducible rfl)
        try simp only [Act.put, List.getElem_toArray, List.getElem_cons_zero, List.getElem_cons_succ, List.setIfInBounds_toArray, List.set_cons_zero, List.set_cons_succ]
        refine wpAnyH_take (i := 9) (v := ?_) rfl (by kernel_rfl) (by kernel_rfl) (by kernel_rfl) (fun _ _ _ h => h) (Or.inl ⟨by rfl, ?_⟩) (by assumption) ?_
        rotate_left
        · (intro Y hSw; (try dsimp only at hSw); obtain hS0 := hSw; go_simp; try with_reducible rfl)
        try simp only [Act.put, List.getElem_toArray, List.getElem_cons_zero, List.getElem_cons_succ, List.setIfInBounds_toArray, List.set_cons_zero, List.set_cons_succ]
        refine wpAnyH_take (i := 10) (v := ?_) rfl (by kernel_rfl) (by kernel_rfl) (by kernel_rfl) (fun _ _ _ h => h) (Or.inl ⟨by rfl, ?_⟩) (by assumption) ?_
        rotate_left
        · (intro Y hSw; (try dsimp only at hSw); obtain hS0 := hSw; go_simp; try with_reducible rfl)
        try simp only [Act.put, List.getElem_toArray, List.getElem_cons_zero, List.getElem_cons_succ, List.setIfInBounds_toArray, List.set_cons_zero, List.set_cons_succ]
        obtain ⟨Y, rfl⟩ : ∃ Y : World, Y = Z := ⟨_, rfl⟩
        refine wpAnyH_take (i := 12) (v := ?_) rfl (by kernel_rfl) (by kernel_rfl) (by kernel_rfl) (fun _ _ _ h => h) (Or.inl ⟨by rfl, ?_⟩) (by assumption) ?_
        rotate_left
        · (intro Y hSw; (try dsimp only at hSw); obtain hS0 := hSw; go_simp; try with_reducible rfl)
        try simp only [Act.put, List.getElem_toArray, List.getElem_cons_zero, List.getElem_cons_succ, List.setIfInBounds_toArray, List.set_cons_zero, List.set_cons_succ]
        refine wpAnyH_ready (rs := [13]) (by kernel_rfl) (by simp) ?_
        refine AllReadyH.cons rfl (fun K hK => ?_) AllReadyH.nil
        rw [if_pos (by rfl)]
        refine wp_store32 _ _ rfl d cs' rfl rfl hN rfl p2.size p2.one ?_
        have kc := (Chg.refl d Y).setRow cs'
        have hNz : NoInt Y d := NoInt.of hN (RefV.zero 0 w).slices
        refine hK.out _ _ ((hX.chg kc (by omega) (by omega))) (fun hHeld => ?_)
        clear hK K
        try simp only [Act.put, List.getElem_toArray, List.getElem_cons_zero, List.getElem_cons_succ, List.setIfInBounds_toArray, List.set_cons_zero, List.set_cons_succ]
        refine wpAnyH_take (i := 14) (v := ?_) rfl (by kernel_rfl) (by kernel_rfl) (by kernel_rfl) (fun _ _ _ h => h) (Or.inl ⟨by rfl, ?_⟩) (by assumption) ?_
        rotate_left
        · (intro Y hSw; (try dsimp only at hSw); obtain hS0 := hSw; go_simp; try with_reducible rfl)
        try simp only [Act.put, List.getElem_toArray, List.getElem_cons_zero, List.getElem_cons_succ, List.setIfInBounds_toArray, List.set_cons_zero, List.set_cons_succ]
        refine wpAnyH_done (by kernel_rfl) ?_ _
        have u1 := p1.turnedN hNz hnd kc
        have u2 := p2.turnedN hNz kc
        have u3 := hX.row.setRowO cs' (Ne.symm hdg)
        have u4 := hN.setRow cs'
        have u5 := hBl.trans (kc.below hdw hBl.size)
        have hz2 := kc.size
        clear hN hX p1 p2 hBl hHeld hNz
        generalize Y.setRow d cs' = Z at u1 u2 u3 u4 u5 hz2 kc ⊢
        have hsz' := u2.size
        go_wp2_with fail
        refine wp_region_held_drew (S := fun Y => Blk Y d cs' 44) (by kernel_rfl) u4 (fun hHeld => ?_)
        refine wpAnyH_take (i := 0) (v := ?_) rfl (by kernel_rfl) (by kernel_rfl) (by kernel_rfl) (fun _ _ _ h => h) (Or.inl ⟨by rfl, ?_⟩) (by assumption) ?_
        rotate_left
        · (intro Y hSw; (try dsimp only at hSw); obtain hS0 := hSw; go_simp; try with_reducible rfl)
        try simp only [Act.put, List.getElem_toArray, List.getElem_cons_zero, List.getElem_cons_succ, List.setIfInBounds_toArray, List.set_cons_zero, List.set_cons_succ]
        refine wpAnyH_take (i := 1) (v := .agg cs') rfl (by kernel_rfl) (by kernel_rfl) (by kernel_rfl) (fun _ _ _ h => h) (Or.inl ⟨by rfl, fun Y hSw => exec_load32 _ rfl d rfl hSw hsz'⟩) (by assumption) ?_
        try simp only [Act.put, List.getElem_toArray, List.getElem_cons_zero, List.getElem_cons_succ, List.setIfInBounds_toArray, List.set_cons_zero, List.set_cons_succ]
        refine wpAnyH_take (i := 2) (v := ?_) rfl (by kernel_rfl) (by kernel_rfl) (by kernel_rfl) (fun _ _ _ h => h) (Or.inl ⟨by rfl, ?_⟩) (by assumption) ?_
        rotate_left
        · (intro Y hSw; (try dsimp only at hSw); obtain hS0 := hSw; go_simp; try with_reducible rfl)
        try simp only [Act.put, List.getElem_toArray, List.getElem_cons_zero, List.getElem_cons_succ, List.setIfInBounds_toArray, List.set_cons_zero, List.set_cons_succ]
        refine wpAnyH_ready (rs := [3]) (by kernel_rfl) (by simp) ?_
        refine AllReadyH.cons rfl (fun K hK => ?_) AllReadyH.nil
        rw [if_pos (by rfl)]
        refine wp_store32 _ _ rfl g cs' rfl rfl (t := 44) (show Blk Z.drew g cs _ from u3) hsz hsz' u2.one ?_
        refine hK.out _ _ ((show Blk (Z.drew.setRow g cs') d cs' _ from Blk.setRowO (W := Z.drew) u4 cs' hdg)) (fun hHeld => ?_)
        clear hK K
        try simp only [Act.put, List.getElem_toArray, List.getElem_cons_zero, List.getElem_cons_succ, List.setIfInBounds_toArray, List.set_cons_zero, List.set_cons_succ]
        refine wpAnyH_done (by kernel_rfl) ?_ _
        have kc2 := (Chg.refl g Z.drew).setRow cs'
        have hNz : NoInt Z.drew g := NoInt.of (show Blk Z.drew g cs _ from u3) HP.out.ref.slices
        go_wp2_with fail
        refine ⟨⟨k + 1, s', _, cs', by omega, by go_num, rfl, (u1.step (Below.refl _ Z).drew).turnedN hNz hne kc2, HP.out.good.actA x, (show Blk Z.drew g cs _ from u3).setRow cs', ?_, (u5.trans ((Below.refl _ Z).drew.mono u5.size)).trans (kc2.below lo2 u5.size), hs', lo2, hne⟩, by simp [intOf]; omega⟩
        rw [setRow_size]
        exact ((u2.below (Below.refl _ Z).drew hz2).mono hz2).turnedN hNz kc2
    · obtain rfl : k = l.length := by omega
      have hS := hP.sh
      have hl0 : (0 : Int) ≤ l.length := by omega
      go_wp2_with (first | refine wpList_load32 rfl _ rfl g rfl hP.box hP.ref.size ?_)
      refine (is_ok hS hP.ref (Nat.le_refl _) hP.good).mono ?_; rintro e w1 ⟨rfl, k1⟩
      replace hS := hS.step k1
      go_wp2_with fail
      refine (none_body _ _).mono ?_; rintro e w2 ⟨rfl, k2⟩
      replace hS := hS.step k2
      replace k1 := k1.trans (k2.mono k1.size)
      go_wp2_with fail
      refine (Same_ln hS (.inl rfl)).mono ?_; rintro e w3 ⟨rfl, k3⟩
      replace hS := hS.step k3
      replace k1 := k1.trans (k3.mono k1.size)
      go_wp2_with fail
      refine (Same_nl hS (.inl rfl)).mono ?_; rintro e w4 ⟨rfl, k4⟩
      replace k1 := k1.trans (k4.mono k1.size)
      go_wp2_with fail
      refine (works_ok _).mono ?_; rintro e w5 ⟨rfl, k5⟩
      replace k1 := k1.trans (k5.mono k1.size)
      go_wp2_with fail
      go_ret
      exact ⟨rfl, hP.bel.trans (k1.mono hP.bel.size)⟩
end Go.Proofs.Ytkilmppmghkigaa
