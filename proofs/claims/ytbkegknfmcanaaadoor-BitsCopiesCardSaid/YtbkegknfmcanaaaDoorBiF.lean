/-
  Package bits: Set. Conditions: at most 4096 places.
-/
import Derived.Test.YtbkegknfmcanaaaDoorBiE
import Derived.Deep.RegionHeld
namespace Go.Proofs.YtbkegknfmcanaaaDoor
open Go.RowKit
attribute [local go_sem] Oper.semAt_some
set_option maxHeartbeats 2000000
set_option maxRecDepth 8000

theorem Set_none {w : World} {p : Option Addr} (h : NoMk w p) (i : Int) (b : Bool) : Calls Tryd.prog 22 #[.pointer p, .int .i64 i, .bool b] w fun e w' => e = .returned (.tuple #[.bool false, .int .i64 1]) ∧ w = w' := by
  go_enter Tryd.func22, Tryd.ntmps22
  go_wp2_with fail
  refine wp_scope_fwd 0 rfl ?_
  go_wp2_with (first | go_step3 | rw [fwd_goto] | rw [fwd_ret] | rw [Exit.noGoto_ret])
  refine (none_none h).mono ?_; rintro e _ ⟨rfl, rfl⟩
  go_wp2_with (first | go_step3 | rw [fwd_goto] | rw [fwd_ret] | rw [Exit.noGoto_ret])
  go_ret2
  exact ⟨rfl, rfl⟩
theorem Set_no {lo hi : Nat} {w : World} {s : Nat} {L : List Bool} (h : MkAt lo hi w s L) (i : Int) (b : Bool) (hi9 : inI L.length i = false) : Calls Tryd.prog 22 #[.pointer (some ⟨s, 0, none⟩), .int .i64 i, .bool b] w fun e w' => e = .returned (.tuple #[.bool false, .int .i64 4]) ∧ w = w' := by
  obtain ⟨a, cap, c0, _, _, _⟩ := h.open
  have HI := Lib.hid hi9
  clear hi9
  go_enter Tryd.func22, Tryd.ntmps22
  go_wp2_with fail
  refine wp_scope_fwd 0 rfl ?_
  go_wp2_with (first | go_step3 | rw [fwd_goto] | rw [fwd_ret] | rw [Exit.noGoto_ret])
  refine (none_live h).mono ?_; rintro e _ ⟨rfl, rfl⟩
  go_wp2_with (first | go_step3 | rw [fwd_goto] | rw [fwd_ret] | rw [Exit.noGoto_ret])
  refine (has_calls _ _ _).mono ?_; rintro e _ ⟨rfl, rfl⟩
  rw [HI.out]
  go_wp2_with (first | go_step3 | rw [fwd_goto] | rw [fwd_ret] | rw [Exit.noGoto_ret])
  go_ret2
  exact ⟨rfl, rfl⟩
theorem MkAt.ne {lo hi : Nat} {W : World} {s : Nat} {L : List Bool} (h : MkAt lo hi W s L) {b off cap : Nat} (hc : W.cell? ⟨s, 1, none⟩ = some (.slice (some ⟨b, off, none⟩) (nW L.length) cap)) : b ≠ s := by
  obtain ⟨h1, h2, h3, v, hB, ho, hn, hg⟩ := h
  have := hB.cell 1 rfl
  rw [hc] at this
  have hv : Value.slice (some ⟨b, off, none⟩) (nW L.length) cap = v := by simpa using this
  intro e
  exact hn (by rw [← hv, ← e]; rfl)
structure SetC (p : Addr) (v : Value) (Y : World) : Prop where
  c : Y.cell? p = some v
structure SetX (w2 : World) (s b o : Nat) (v : Value) (wd : Int) (Y : World) : Prop where
  c : Y.cell? ⟨s, 1, none⟩ = some v
  q : Y.cell? ⟨b, o, none⟩ = some (.int .u64 wd)
  k : Below w2.heap.size w2 Y
theorem SetX.step {w2 : World} {s b o : Nat} {v : Value} {wd : Int} {Y Z : World} (h : SetX w2 s b o v wd Y) (k : Below Y.heap.size Y Z) : SetX w2 s b o v wd Z :=
  ⟨(k.cell (p := ⟨s, 1, none⟩) (World.block_lt_of_cell? Y _ h.c)).trans h.c, (k.cell (p := ⟨b, o, none⟩) (World.block_lt_of_cell? Y _ h.q)).trans h.q, h.k.trans (k.mono h.k.size)⟩
theorem Set_ok {lo hi : Nat} {w : World} {s : Nat} {L : List Bool} (h : MkAt lo hi w s L) (hl : L.length ≤ 4096) (k : Nat) (hk : k < L.length) (v : Bool) : Calls Tryd.prog 22 #[.pointer (some ⟨s, 0, none⟩), .int .i64 k, .bool v] w fun e w' =>
    e = .returned (.tuple #[.bool (L.getD k false), .int .i64 0]) ∧ MkAt lo hi w' s (L.set k v) ∧ Tur lo hi w w' := by
  obtain ⟨a, cap, c0, _, _, _⟩ := h.open
  have HI := Lib.hid (inI_at hk)
  have hb : hasB L k = L.getD k false := by unfold hasB; rw [inI_at hk, Int.toNat_natCast]; simp
  have HH := Has_ok h hl k
  rw [hb] at HH
  by_cases hv : L.getD k false = v
  · have hset : L.set k v = L := by
      rw [← hv, List.getD_eq_getElem?_getD, List.getElem?_eq_getElem hk]
      simp
    rw [hset]
    rw [hv] at HH ⊢
    have H3 := Lib.hid HH
    clear HH hb hv hset
    go_enter Tryd.func22, Tryd.ntmps22
    go_wp2_with fail
    refine wp_scope_fwd 0 rfl ?_
    go_wp2_with (first | go_step3 | rw [fwd_goto] | rw [fwd_ret] | rw [Exit.noGoto_ret])
    refine (none_live h).mono ?_; rintro e _ ⟨rfl, rfl⟩
    go_wp2_with (first | go_step3 | rw [fwd_goto] | rw [fwd_ret] | rw [Exit.noGoto_ret])
    refine (has_calls _ _ _).mono ?_; rintro e _ ⟨rfl, rfl⟩
    rw [HI.out]
    go_wp2_with (first | go_step3 | rw [fwd_goto] | rw [fwd_ret] | rw [Exit.noGoto_ret])
    refine H3.out.mono ?_; rintro e w1 ⟨rfl, k1⟩
    have hv9 : (v != v) = false := by simp
    go_wp2_with (first | go_step3 | rw [fwd_goto] | rw [fwd_ret] | rw [Exit.noGoto_ret])
    go_ret2
    exact ⟨rfl, h.step k1, .of_below k1⟩
  · obtain ⟨d, hd⟩ : ∃ d, L.getD k false = d := ⟨_, rfl⟩
    have hvd : v = !d := by rw [hd] at hv; cases v <;> cases d <;> simp_all
    subst hvd
    rw [hd] at HH
    have H3 := Lib.hid HH
    rw [hd]
    clear HH hb hv
    go_enter Tryd.func22, Tryd.ntmps22
    go_wp2_with fail
    refine wp_scope_fwd 0 rfl ?_
    go_wp2_with (first | go_step3 | rw [fwd_goto] | rw [fwd_ret] | rw [Exit.noGoto_ret])
    refine (none_live h).mono ?_; rintro e _ ⟨rfl, rfl⟩
    go_wp2_with (first | go_step3 | rw [fwd_goto] | rw [fwd_ret] | rw [Exit.noGoto_ret])
    refine (has_calls _ _ _).mono ?_; rintro e _ ⟨rfl, rfl⟩
    rw [HI.out]
    go_wp2_with (first | go_step3 | rw [fwd_goto] | rw [fwd_ret] | rw [Exit.noGoto_ret])
    refine H3.out.mono ?_; rintro e w1 ⟨rfl, k1⟩
    have hv9 : (d != !d) = true := by cases d <;> rfl
    have h1 := h.step k1
    obtain ⟨b, off, cap', c1, q, hbh⟩ := h1.word k hk
    have hbs := h1.ne c1
    have hf := fun (Y : World) (hX : SetX w1 s b (off + k / 64) (.slice (some ⟨b, off, none⟩) (nW L.length) cap') ((wdL L (k / 64) : Nat) : Int) Y) => (h1.step hX.k).flip hk hX.c
    have hbit := bit_xor L k hk
    obtain ⟨x', hx'⟩ : ∃ x' : Int, ((wdL (L.set k (!L.getD k false)) (k / 64) : Nat) : Int) = x' := ⟨_, rfl⟩
    obtain ⟨wd, hwd⟩ : ∃ wd : Int, ((wdL L (k / 64) : Nat) : Int) = wd := ⟨_, rfl⟩
    rw [hwd] at q hbit hf
    rw [hx'] at hbit hf
    rw [hd] at hf
    obtain ⟨kq, hkq⟩ : ∃ kq, k / 64 = kq := ⟨_, rfl⟩
    obtain ⟨kr, hkr⟩ : ∃ kr, k % 64 = kr := ⟨_, rfl⟩
    have hkq1 : kq < nW L.length := by unfold nW; omega
    have hkr1 : kr < 64 := by omega
    have HSp : ∀ W, Calls Tryd.prog 40 #[.int .i64 k] W fun e w' => e = .returned (.agg #[.int .i64 (kq : Int), .int .i64 (kr : Int)]) ∧ Below W.heap.size W w' := fun W => by have := spot_ok k (by omega) W; rwa [hkq, hkr] at this
    rw [hkq] at q hf
    rw [hkr] at hbit
    have hp : IntKind.u64.wrap ((2 : Int) ^ kr) = ((2 ^ kr : Nat) : Int) := by
      have : 2 ^ kr < 18446744073709551616 := Nat.pow_lt_pow_right (by omega) (show kr < 64 by omega)
      rw [← wrap_nat _ this]; push_cast; rfl
    have HB := Lib.hid (show bits .xor .u64 wd (IntKind.u64.wrap ((2 : Int) ^ kr)) = x' by rw [hp]; exact hbit)
    have HF := Lib.hid hf
    have x0 := run_ix0
    have x1 := run_ix1
    have j0 : (0 : Int) ≤ kq := by omega
    have j1 : (kq : Int) < (nW L.length : Nat) := by omega
    have j2 : (0 : Int) ≤ kr := by omega
    have j3 : (kr : Int) < 64 := by omega
    have hX : SetX w1 s b (off + kq) (.slice (some ⟨b, off, none⟩) (nW L.length) cap') wd w1 := ⟨c1, q, Below.refl _ _⟩
    clear hf hp hx' hwd hbit q hkq hkr
    go_wp2_with (first | go_step3 | rw [fwd_goto] | rw [fwd_ret] | rw [Exit.noGoto_ret])
    refine wp_onlyN ?_
    refine wp_region_held_drew (S := SetC ⟨s, 1, none⟩ (.slice (some ⟨b, off, none⟩) (nW L.length) cap')) (by kernel_rfl) ⟨c1⟩ (fun hHeld => ?_)
    refine wpAnyH_take (i := 0) (v := ?_) rfl (by kernel_rfl) (by kernel_rfl) (by kernel_rfl) (fun _ _ _ h => h) (Or.inl ⟨by rfl, ?_⟩) (by assumption) ?_
    rotate_left
    · (intro Y hSw; (try dsimp only at hSw); obtain ⟨hS1⟩ := hSw; go_simp; try with_reducible rfl)
    try simp only [Act.put, List.getElem_toArray, List.getElem_cons_zero, List.getElem_cons_succ, List.setIfInBounds_toArray, List.set_cons_zero, List.set_cons_succ]
    refine wpAnyH_take (i := 1) (v := ?_) rfl (by kernel_rfl) (by kernel_rfl) (by kernel_rfl) (fun _ _ _ h => h) (Or.inl ⟨by rfl, ?_⟩) (by assumption) ?_
    rotate_left
    · (intro Y hSw; (try dsimp only at hSw); obtain ⟨hS1⟩ := hSw; go_simp; try with_reducible rfl)
    try simp only [Act.put, List.getElem_toArray, List.getElem_cons_zero, List.getElem_cons_succ, List.setIfInBounds_toArray, List.set_cons_zero, List.set_cons_succ]
    refine wpAnyH_take (i := 2) (v := ?_) rfl (by kernel_rfl) (by kernel_rfl) (by kernel_rfl) (fun _ _ _ h => h) (Or.inl ⟨by rfl, ?_⟩) (by assumption) ?_
    rotate_left
    · (intro Y hSw; (try dsimp only at hSw); obtain ⟨hS1⟩ := hSw; go_simp; try with_reducible rfl)
    try simp only [Act.put, List.getElem_toArray, List.getElem_cons_zero, List.getElem_cons_succ, List.setIfInBounds_toArray, List.set_cons_zero, List.set_cons_succ]
    refine wpAnyH_take (i := 3) (v := ?_) rfl (by kernel_rfl) (by kernel_rfl) (by kernel_rfl) (fun _ _ _ h => h) (Or.inl ⟨by rfl, ?_⟩) (by assumption) ?_
    rotate_left
    · (intro Y hSw; (try dsimp only at hSw); obtain ⟨hS1⟩ := hSw; go_simp; try with_reducible rfl)
    try simp only [Act.put, List.getElem_toArray, List.getElem_cons_zero, List.getElem_cons_succ, List.setIfInBounds_toArray, List.set_cons_zero, List.set_cons_succ]
    refine wpAnyH_take (i := 4) (v := ?_) rfl (by kernel_rfl) (by kernel_rfl) (by kernel_rfl) (fun _ _ _ h => h) (Or.inl ⟨by rfl, ?_⟩) (by assumption) ?_
    rotate_left
    · (intro Y hSw; (try dsimp only at hSw); obtain ⟨hS1⟩ := hSw; go_simp; try with_reducible rfl)
    try simp only [Act.put, List.getElem_toArray, List.getElem_cons_zero, List.getElem_cons_succ, List.setIfInBounds_toArray, List.set_cons_zero, List.set_cons_succ]
    refine wpAnyH_take (i := 9) (v := ?_) rfl (by kernel_rfl) (by kernel_rfl) (by kernel_rfl) (fun _ _ _ h => h) (Or.inl ⟨by rfl, ?_⟩) (by assumption) ?_
    rotate_left
    · (intro Y hSw; (try dsimp only at hSw); obtain ⟨hS1⟩ := hSw; go_simp; try with_reducible rfl)
    try simp only [Act.put, List.getElem_toArray, List.getElem_cons_zero, List.getElem_cons_succ, List.setIfInBounds_toArray, List.set_cons_zero, List.set_cons_succ]
    replace hX := hX.step (Below.refl _ w1).drew
    clear c1
    generalize w1.drew = Y at hX hHeld ⊢
    refine wpAnyH_ready (rs := [5]) (by kernel_rfl) (by simp) ?_
    refine AllReadyH.cons rfl (fun K hK => ?_) AllReadyH.nil
    go_simp
    refine (HSp _).mono ?_; rintro e Z ⟨rfl, kz⟩
    replace hX := hX.step kz
    clear kz
    go_simp
    refine hK.out _ _ (⟨hX.c⟩) (fun hHeld => ?_)
    clear hK K
    try simp only [Act.put, List.getElem_toArray, List.getElem_cons_zero, List.getElem_cons_succ, List.setIfInBounds_toArray, List.set_cons_zero, List.set_cons_succ]
    refine wpAnyH_take (i := 6) (v := ?_) rfl (by kernel_rfl) (by kernel_rfl) (by kernel_rfl) (fun _ _ _ h => h) (Or.inl ⟨by rfl, ?_⟩) (by assumption) ?_
    rotate_left
    · (intro Y hSw; (try dsimp only at hSw); obtain ⟨hS1⟩ := hSw; go_simp; try with_reducible rfl)
    try simp only [Act.put, List.getElem_toArray, List.getElem_cons_zero, List.getElem_cons_succ, List.setIfInBounds_toArray, List.set_cons_zero, List.set_cons_succ]
    refine wpAnyH_take (i := 7) (v := ?_) rfl (by kernel_rfl) (by kernel_rfl) (by kernel_rfl) (fun _ _ _ h => h) (Or.inl ⟨by rfl, ?_⟩) (by assumption) ?_
    rotate_left
    · (intro Y hSw; (try dsimp only at hSw); obtain ⟨hS1⟩ := hSw; go_simp; try with_reducible rfl)
    try simp only [Act.put, List.getElem_toArray, List.getElem_cons_zero, List.getElem_cons_succ, List.setIfInBounds_toArray, List.set_cons_zero, List.set_cons_succ]
    obtain ⟨Y, rfl⟩ : ∃ Y : World, Y = Z := ⟨_, rfl⟩
    refine wpAnyH_ready (rs := [8, 10]) (by kernel_rfl) (by simp) ?_
    refine AllReadyH.cons rfl (fun K hK => ?_) (AllReadyH.cons rfl (fun K hK => ?_) AllReadyH.nil)
    · go_simp
      have q9 := hX.q
      go_simp
      refine hK.out _ _ (⟨hX.c⟩) (fun hHeld => ?_)
      clear hK K
      try simp only [Act.put, List.getElem_toArray, List.getElem_cons_zero, List.getElem_cons_succ, List.setIfInBounds_toArray, List.set_cons_zero, List.set_cons_succ]
      refine wpAnyH_ready (rs := [10]) (by kernel_rfl) (by simp) ?_
      refine AllReadyH.cons rfl (fun K hK => ?_) AllReadyH.nil
      go_simp
      refine (HSp _).mono ?_; rintro e Z ⟨rfl, kz⟩
      replace hX := hX.step kz
      clear kz
      go_simp
      refine hK.out _ _ (⟨hX.c⟩) (fun hHeld => ?_)
      clear hK K
      try simp only [Act.put, List.getElem_toArray, List.getElem_cons_zero, List.getElem_cons_succ, List.setIfInBounds_toArray, List.set_cons_zero, List.set_cons_succ]
      refine wpAnyH_take (i := 11) (v := ?_) rfl (by kernel_rfl) (by kernel_rfl) (by kernel_rfl) (fun _ _ _ h => h) (Or.inl ⟨by rfl, ?_⟩) (by assumption) ?_
      rotate_left
      · (intro Y hSw; (try dsimp only at hSw); obtain ⟨hS1⟩ := hSw; go_simp; try with_reducible rfl)
      try simp only [Act.put, List.getElem_toArray, List.getElem_cons_zero, List.getElem_cons_succ, List.setIfInBounds_toArray, List.set_cons_zero, List.set_cons_succ]
      refine wpAnyH_take (i := 12) (v := ?_) rfl (by kernel_rfl) (by kernel_rfl) (by kernel_rfl) (fun _ _ _ h => h) (Or.inl ⟨by rfl, ?_⟩) (by assumption) ?_
      rotate_left
      · (intro Y hSw; (try dsimp only at hSw); obtain ⟨hS1⟩ := hSw; go_simp; try with_reducible rfl)
      try simp only [Act.put, List.getElem_toArray, List.getElem_cons_zero, List.getElem_cons_succ, List.setIfInBounds_toArray, List.set_cons_zero, List.set_cons_succ]
      obtain ⟨Y, rfl⟩ : ∃ Y : World, Y = Z := ⟨_, rfl⟩
      refine wpAnyH_take (i := 13) (v := ?_) rfl (by kernel_rfl) (by kernel_rfl) (by kernel_rfl) (fun _ _ _ h => h) (Or.inl ⟨by rfl, ?_⟩) (by assumption) ?_
      rotate_left
      · (intro Y hSw; (try dsimp only at hSw); obtain ⟨hS1⟩ := hSw; go_simp; try with_reducible rfl)
      try simp only [Act.put, List.getElem_toArray, List.getElem_cons_zero, List.getElem_cons_succ, List.setIfInBounds_toArray, List.set_cons_zero, List.set_cons_succ]
      refine wpAnyH_take (i := 14) (v := ?_) rfl (by kernel_rfl) (by kernel_rfl) (by kernel_rfl) (fun _ _ _ h => h) (Or.inl ⟨by rfl, ?_⟩) (by assumption) ?_
      rotate_left
      · (intro Y hSw; (try dsimp only at hSw); obtain ⟨hS1⟩ := hSw; go_simp; try with_reducible rfl)
      try simp only [Act.put, List.getElem_toArray, List.getElem_cons_zero, List.getElem_cons_succ, List.setIfInBounds_toArray, List.set_cons_zero, List.set_cons_succ]
      rw [HB.out]
      obtain ⟨g1, g2, g3⟩ := HF.out Y hX
      have q9 := hX.q
      have G1 := Lib.hid g1
      have G3 := Lib.hid g3
      clear g1 g3
      refine wpAnyH_ready (rs := [15]) (by kernel_rfl) (by simp) ?_
      refine AllReadyH.cons rfl (fun K hK => ?_) AllReadyH.nil
      go_simp
      refine hK.out _ _ (⟨(World.cell?_setCell_far Y ⟨b, off + kq, none⟩ ⟨s, 1, none⟩ _ (by show b ≠ s; exact hbs)).trans hX.c⟩) (fun hHeld => ?_)
      clear hK K
      try simp only [Act.put, List.getElem_toArray, List.getElem_cons_zero, List.getElem_cons_succ, List.setIfInBounds_toArray, List.set_cons_zero, List.set_cons_succ]
      refine wpAnyH_done (by kernel_rfl) ?_ _
      rw [onlyN_normal]
      go_wp2_with (first | go_step3 | rw [fwd_goto] | rw [fwd_ret] | rw [Exit.noGoto_ret])
      go_ret2
      exact ⟨rfl, G1.out, ((Tur.of_below k1).trans (.of_below hX.k)).trans G3.out⟩
    · go_simp
      refine (HSp _).mono ?_; rintro e Z ⟨rfl, kz⟩
      replace hX := hX.step kz
      clear kz
      go_simp
      refine hK.out _ _ (⟨hX.c⟩) (fun hHeld => ?_)
      clear hK K
      try simp only [Act.put, List.getElem_toArray, List.getElem_cons_zero, List.getElem_cons_succ, List.setIfInBounds_toArray, List.set_cons_zero, List.set_cons_succ]
      refine wpAnyH_take (i := 11) (v := ?_) rfl (by kernel_rfl) (by kernel_rfl) (by kernel_rfl) (fun _ _ _ h => h) (Or.inl ⟨by rfl, ?_⟩) (by assumption) ?_
      rotate_left
      · (intro Y hSw; (try dsimp only at hSw); obtain ⟨hS1⟩ := hSw; go_simp; try with_reducible rfl)
      try simp only [Act.put, List.getElem_toArray, List.getElem_cons_zero, List.getElem_cons_succ, List.setIfInBounds_toArray, List.set_cons_zero, List.set_cons_succ]
      refine wpAnyH_take (i := 12) (v := ?_) rfl (by kernel_rfl) (by kernel_rfl) (by kernel_rfl) (fun _ _ _ h => h) (Or.inl ⟨by rfl, ?_⟩) (by assumption) ?_
      rotate_left
      · (intro Y hSw; (try dsimp only at hSw); obtain ⟨hS1⟩ := hSw; go_simp; try with_reducible rfl)
      try simp only [Act.put, List.getElem_toArray, List.getElem_cons_zero, List.getElem_cons_succ, List.setIfInBounds_toArray, List.set_cons_zero, List.set_cons_succ]
      obtain ⟨Y, rfl⟩ : ∃ Y : World, Y = Z := ⟨_, rfl⟩
      refine wpAnyH_ready (rs := [8]) (by kernel_rfl) (by simp) ?_
      refine AllReadyH.cons rfl (fun K hK => ?_) AllReadyH.nil
      go_simp
      have q9 := hX.q
      go_simp
      refine hK.out _ _ (⟨hX.c⟩) (fun hHeld => ?_)
      clear hK K
      try simp only [Act.put, List.getElem_toArray, List.getElem_cons_zero, List.getElem_cons_succ, List.setIfInBounds_toArray, List.set_cons_zero, List.set_cons_succ]
      refine wpAnyH_take (i := 13) (v := ?_) rfl (by kernel_rfl) (by kernel_rfl) (by kernel_rfl) (fun _ _ _ h => h) (Or.inl ⟨by rfl, ?_⟩) (by assumption) ?_
      rotate_left
      · (intro Y hSw; (try dsimp only at hSw); obtain ⟨hS1⟩ := hSw; go_simp; try with_reducible rfl)
      try simp only [Act.put, List.getElem_toArray, List.getElem_cons_zero, List.getElem_cons_succ, List.setIfInBounds_toArray, List.set_cons_zero, List.set_cons_succ]
      refine wpAnyH_take (i := 14) (v := ?_) rfl (by kernel_rfl) (by kernel_rfl) (by kernel_rfl) (fun _ _ _ h => h) (Or.inl ⟨by rfl, ?_⟩) (by assumption) ?_
      rotate_left
      · (intro Y hSw; (try dsimp only at hSw); obtain ⟨hS1⟩ := hSw; go_simp; try with_reducible rfl)
      try simp only [Act.put, List.getElem_toArray, List.getElem_cons_zero, List.getElem_cons_succ, List.setIfInBounds_toArray, List.set_cons_zero, List.set_cons_succ]
      rw [HB.out]
      obtain ⟨g1, g2, g3⟩ := HF.out Y hX
      have q9 := hX.q
      have G1 := Lib.hid g1
      have G3 := Lib.hid g3
      clear g1 g3
      refine wpAnyH_ready (rs := [15]) (by kernel_rfl) (by simp) ?_
      refine AllReadyH.cons rfl (fun K hK => ?_) AllReadyH.nil
      go_simp
      refine hK.out _ _ (⟨(World.cell?_setCell_far Y ⟨b, off + kq, none⟩ ⟨s, 1, none⟩ _ (by show b ≠ s; exact hbs)).trans hX.c⟩) (fun hHeld => ?_)
      clear hK K
      try simp only [Act.put, List.getElem_toArray, List.getElem_cons_zero, List.getElem_cons_succ, List.setIfInBounds_toArray, List.set_cons_zero, List.set_cons_succ]
      refine wpAnyH_done (by kernel_rfl) ?_ _
      rw [onlyN_normal]
      go_wp2_with (first | go_step3 | rw [fwd_goto] | rw [fwd_ret] | rw [Exit.noGoto_ret])
      go_ret2
      exact ⟨rfl, G1.out, ((Tur.of_below k1).trans (.of_below hX.k)).trans G3.out⟩
end Go.Proofs.YtbkegknfmcanaaaDoor
