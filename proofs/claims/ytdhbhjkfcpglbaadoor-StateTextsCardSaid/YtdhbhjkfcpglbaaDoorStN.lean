/-
  Package state: All. Conditions: few states.
-/
import Derived.Test.YtdhbhjkfcpglbaaDoorStM
namespace Go.Proofs.YtdhbhjkfcpglbaaDoor
open Go.RowKit
attribute [local go_sem] Oper.semAt_some
set_option maxHeartbeats 4000000
set_option maxRecDepth 8000

/-- What All has laid: the clone's box, the state's box, the clone. -/
structure AllV (B : Nat) (W : World) (bw bx : Nat) (v : Value) (x : Int) (l : List Int) : Prop where
  was : Blk W bw #[v] 50
  st : Blk W bx #[.int .i64 x] 23
  row : RowAt W.heap.size W v l.length (intVals .i64 l)
  lo : B ≤ bw ∧ B ≤ bx
  far : ∀ b off m c, v = .slice (some ⟨b, off, none⟩) m c → m ≠ 0 → B ≤ b
theorem All_none {w : World} {p : Option Addr} (h : NoSh w p) (x : Int) : Calls Tryd.prog 28 #[.pointer p, .int .i64 x] w fun e w' => ∃ bw bx v, e = .returned (.func (.func 45) #[] #[.pointer (some ⟨bw, 0, none⟩), .pointer (some ⟨bx, 0, none⟩)]) ∧ AllV w.heap.size w' bw bx v x [] ∧ Below w.heap.size w w' := by
  obtain ⟨W0, hW0⟩ : ∃ W0, (w.alloc (.cells #[.int .i64 x] 23)).alloc (.cells #[.slice none 0 0] 50) = W0 := ⟨_, rfl⟩
  have k0 : Below w.heap.size w W0 := by rw [← hW0]; exact ((Below.refl _ w).alloc (Nat.le_refl _) _).alloc (by simp) _
  have b0 : Blk W0 w.heap.size #[.int .i64 x] 23 := by rw [← hW0]; exact (Blk.new w _ _).alloc _
  have b1 : Blk W0 (w.heap.size + 1) #[.slice none 0 0] 50 := by rw [← hW0]; exact Blk.newAt _ _ _ (by simp)
  have hn := h.step k0
  go_enter Tryd.func28, Tryd.ntmps28
  go_wp2_with fail
  refine (none_none hn).mono ?_; rintro e _ ⟨rfl, rfl⟩
  clear hW0
  go_wp2_with fail
  go_ret
  exact ⟨_, _, _, rfl, ⟨b1, b0, RowAt.nil _ _, ⟨by omega, Nat.le_refl _⟩, fun b off m c e => by cases e⟩, k0⟩
theorem All_ok {lo hi : Nat} {w : World} {s : Nat} {l : List Int} (h : ShAt lo hi w s l) (hl : l.length < 1000000) (x : Int) : Calls Tryd.prog 28 #[.pointer (some ⟨s, 0, none⟩), .int .i64 x] w fun e w' => ∃ bw bx v, e = .returned (.func (.func 45) #[] #[.pointer (some ⟨bw, 0, none⟩), .pointer (some ⟨bx, 0, none⟩)]) ∧ AllV w.heap.size w' bw bx v x l ∧ Below w.heap.size w w' := by
  obtain ⟨W0, hW0⟩ : ∃ W0, (w.alloc (.cells #[.int .i64 x] 23)).alloc (.cells #[.slice none 0 0] 50) = W0 := ⟨_, rfl⟩
  have k0 : Below w.heap.size w W0 := by rw [← hW0]; exact ((Below.refl _ w).alloc (Nat.le_refl _) _).alloc (by simp) _
  have b0 : Blk W0 w.heap.size #[.int .i64 x] 23 := by rw [← hW0]; exact (Blk.new w _ _).alloc _
  have b1 : Blk W0 (w.heap.size + 1) #[.slice none 0 0] 50 := by rw [← hW0]; exact Blk.newAt _ _ _ (by simp)
  have h0 := h.step k0
  have z0 := k0.size
  have z1 := b1.lt
  obtain ⟨a, cap, c0, c1, hr, hbk⟩ := h0.open
  have hh := h0.2.2.1
  go_enter Tryd.func28, Tryd.ntmps28
  go_wp2_with fail
  refine (none_live h0).mono ?_; rintro e _ ⟨rfl, rfl⟩
  clear hW0
  go_wp2_with fail
  refine (clone_ok (.slice a l.length cap) l hi W0 hh hl hr).mono ?_; rintro e W1 ⟨v, rfl, ho, k1⟩
  have b0' := b0.below k1 b0.lt
  have b1' := b1.below k1 b1.lt
  obtain ⟨a2, c2, rfl, _⟩ := (RowAt.of_owns ho (Nat.le_refl _)).len
  have f1 := b1'.frozen 0
  have g1 : W1.cell? ⟨w.heap.size + 1, 0, none⟩ = some (.slice none 0 0) := b1'.cell 0 rfl
  have hb : ∀ b off m c, Value.slice a2 l.length c2 = .slice (some ⟨b, off, none⟩) m c → m ≠ 0 → w.heap.size + 2 ≤ b := by
    intro b off m c e _
    simp only [Value.slice.injEq] at e
    obtain ⟨rfl, _⟩ := e
    have := owns_block ho b rfl
    omega
  have hrow : RowAt (W1.setCell ⟨w.heap.size + 1, 0, none⟩ (.slice a2 l.length c2)).heap.size (W1.setCell ⟨w.heap.size + 1, 0, none⟩ (.slice a2 l.length c2)) (.slice a2 l.length c2) l.length (intVals .i64 l) := by
    have hr1 : RowAt W1.heap.size W1 (.slice a2 l.length c2) l.length (intVals .i64 l) := RowAt.of_owns ho (Nat.le_refl _)
    have hT : Tur (w.heap.size + 1) (w.heap.size + 2) W1 (W1.setCell ⟨w.heap.size + 1, 0, none⟩ (.slice a2 l.length c2)) := (Tur.of_below (Below.refl _ W1)).setc _ _ (Nat.le_refl _) (by dsimp only; omega)
    exact (hT.row hr1 (fun b off m c e h0 => by have := hb b off m c e h0; omega) (intVals_len _ _)).mono (by simp)
  have e0 := b0'.setOther ⟨w.heap.size + 1, 0, none⟩ (.slice a2 l.length c2) (by dsimp only; omega)
  have e1 := b1'.set 0 (.slice a2 l.length c2)
  have ke := (k0.trans (k1.mono z0)).setCell (p := ⟨w.heap.size + 1, 0, none⟩) (by dsimp only; omega) (.slice a2 l.length c2)
  have HR := Lib.hid hrow
  have HB := Lib.hid hb
  clear hr hbk ho hb hrow c0 c1
  go_wp2_with fail
  go_ret
  exact ⟨_, _, _, rfl, ⟨e1, e0, HR.out, ⟨by omega, Nat.le_refl _⟩, fun b off m c e h => by have := HB.out b off m c e h; omega⟩, ke⟩
theorem All_iter (ad : Option Addr) (cap : Nat) (l : List Int) (hl : l.length < 1000000) (x : Int) (B bw bx : Nat) :
    IterS Tryd.prog 45 #[.pointer (some ⟨bw, 0, none⟩), .pointer (some ⟨bx, 0, none⟩)] (fun i : Int => #[.int .i64 i]) (plcL l x)
      (fun W => W.cell? ⟨bw, 0, none⟩ = some (.slice ad l.length cap) ∧ W.cell? ⟨bx, 0, none⟩ = some (.int .i64 x) ∧ RowAt B W (.slice ad l.length cap) l.length (intVals .i64 l)) := by
  intro L J Jx W hJ hJx hA hY h0
  have h00 := h0 (W.heap.size + 4) (by omega)
  obtain ⟨c0, c1, _⟩ := hA _ _ _ h00
  have l0 := World.block_lt_of_cell? W _ c0
  have l1 := World.block_lt_of_cell? W _ c1
  have HA := Lib.hid hA
  have HY := Lib.hid hY
  clear hA hY
  refine calls_of_wp_marks Tryd.func45 rfl ?_; simp only [Tryd.ntmps45, List.size_toArray, List.length_cons, List.length_nil, Nat.reduceAdd, Nat.reduceSub, Array.replicate_succ, Array.replicate_zero, List.push_toArray, List.append_toArray, List.nil_append, List.cons_append]
  go_wp2_with fail
  obtain ⟨wa, hwa⟩ : ∃ wa, W.alloc (.cells #[.func (.yield L) #[] #[]] 24) = wa := ⟨_, rfl⟩
  rw [hwa]
  have hza : wa.heap.size = W.heap.size + 1 := by rw [← hwa]; simp
  have hka : Keeps W.heap.size W wa := by rw [← hwa]; exact (Keeps.refl _ W).alloc (Nat.le_refl _) _
  have bY : Blk wa W.heap.size #[.func (.yield L) #[] #[]] 24 := by rw [← hwa]; exact Blk.new W _ _
  have c0a := hka.cell c0
  clear hwa
  refine wp_scope_straight ?_
  go_wp2_with fail
  refine wp_label ?_
  go_wp2_with fail
  refine (sAll_calls _ _ _ _).mono ?_; rintro e w' ⟨rfl, rfl⟩
  go_wp2_with fail
  obtain ⟨wc, hwc⟩ : ∃ wc, wa.alloc (.cells #[.slice ad l.length cap] 50) = wc := ⟨_, rfl⟩
  rw [hwc]
  have hzc : wc.heap.size = W.heap.size + 2 := by rw [← hwc]; simp [hza]
  have hkc : Keeps W.heap.size W wc := by rw [← hwc]; exact hka.alloc (by omega) _
  have bYc : Blk wc W.heap.size #[.func (.yield L) #[] #[]] 24 := by rw [← hwc]; exact bY.alloc _
  have bSc : Blk wc (W.heap.size + 1) #[.slice ad l.length cap] 50 := by rw [← hwc]; exact Blk.newAt _ _ _ hza.symm
  clear hwc bY c0a hka hza
  refine wp_rangeR2 rfl (enters_of Tryd.func58 (by kernel_rfl) rfl) ((sAll_iter ad cap l hl B (W.heap.size + 1)).toR) (fun _ _ _ _ vals h => by subst h; rfl)
    (fun pre X => J (W.heap.size + 4) (plcTo l x pre.length) X ∧ Blk X W.heap.size #[.func (.yield L) #[] #[]] 24 ∧ Blk X (W.heap.size + 1) #[.slice ad l.length cap] 50)
    (fun c X => c = .exit 0 ∧ Jx () X) ?a1 ?hassign ?hI ?hIx ?hE ?hO ?hOx ?hA ?h0 ?hbody ?hdone ?hstop
  case hassign =>
    rintro m l' B x W0 X vals K hE hK
    subst hE
    dsimp only
    generalize Value.int .i64 (l.getD x 0) = v2 at hK ⊢
    generalize Value.int .i64 (x : Int) = v1 at hK ⊢
    gi_wp2
    exact hK v1 v2 rfl
  case hI => rintro pre X Y ⟨h1, h2, h3⟩ hk; exact ⟨hJ _ _ _ _ h1 (hk.mono (by omega)), h2.keeps hk, h3.keeps hk⟩
  case hIx => rintro c X Y ⟨h1, h2⟩ hk; exact ⟨h1, hJx _ _ _ h2 (hk.mono (by omega))⟩
  case hE => exact fun _ _ _ _ _ _ h _ => h
  case hO => rintro o ho; cases ho
  case hOx => rintro o ho; cases ho
  case hA => rintro pre X ⟨h1, h2, h3⟩; exact ⟨h3.cell 0 rfl, (HA.out _ _ _ h1).2.2⟩
  case h0 => exact ⟨hJ _ _ _ _ h00 hkc, bYc, bSc⟩
  case hdone =>
    rintro D X hD ⟨h1, h2, h3⟩ hK
    go_wp2_with fail
    rw [Exit.noGoto_normal]
    refine postM_end hK (results_none rfl _ _ _) ⟨⟨_, rfl⟩, .inl ⟨W.heap.size + 4, by omega, ?_⟩⟩
    rw [List.length_range] at h1
    exact hJ _ _ _ _ h1 (Keeps.putObj _ (by omega) hK rfl)
  case hstop =>
    rintro D c X hD ⟨rfl, h1⟩ hK
    go_wp2_with fail
    rw [Exit.noGoto_normal]
    exact postM_end hK (results_none rfl _ _ _) ⟨⟨_, rfl⟩, .inr (hJx _ _ _ h1 (Keeps.putObj _ (by omega) hK rfl))⟩
  case hbody =>
    rintro m l' pre c suf W0 X vals u v hv hxs hl' hrec ⟨hJ0, bY0, bS0⟩ hkX h2 hE
    have hJX := hJ _ _ _ _ hJ0 (hkX.mono (by omega))
    have bYX := bY0.keeps hkX
    have bSX := bS0.keeps hkX
    have h3 := hkX.size
    clear hJ0 bY0 bS0 hkX
    subst hv
    simp only [Array.mk.injEq, List.cons.injEq, and_true] at hE
    obtain ⟨rfl, rfl⟩ := hE
    obtain ⟨rfl, hlt⟩ := range_split hxs
    obtain ⟨_, cx, _⟩ := HA.out _ _ _ hJX
    have cY := bYX.cell 0 rfl
    generalize hcq : pre.length = k at *
    have hnx : (pre ++ [k]).length = k + 1 := by simp [hcq]
    have HNX := Lib.hid hnx
    have hst : plcTo l x (k + 1) = if l.getD k 0 = x then plcTo l x k ++ [(k : Int)] else plcTo l x k := rfl
    have hps := plc_split l x k hlt
    generalize l.getD k 0 = y at hst hps
    by_cases hx : y = x
    · have hx' : (y == x) = true := by simpa using hx
      rw [if_pos hx] at hst
      obtain ⟨suf', hsp⟩ := hps hx
      have HST := Lib.hid hst
      obtain ⟨fn, tmps, assign, body, hy, hR⟩ := HY.out (W.heap.size + 4) _ _ _ X hsp hJX (by omega) (by omega)
      clear hst hsp hxs hnx hcq hx
      gi_wp2_with fail
      refine (RoundIn_inR l' (hR _)).mono ?_
      rintro e w3 ⟨hSm, ⟨rfl, hJ3⟩ | ⟨rfl, hJx3⟩⟩
      · have bY3 := (hSm.2 W.heap.size (by omega) (by omega)).trans bYX
        have bS3 := (hSm.2 (W.heap.size + 1) (by omega) (by omega)).trans bSX
        gi_wp2_with fail
        exact ⟨⟨hSm.1, fun k h1 h2 => hSm.2 k (by omega) (by omega)⟩, by rw [HNX.out, HST.out]; exact hJ3, bY3, bS3⟩
      · gi_wp2_with fail
        exact ⟨⟨hSm.1, fun k h1 h2 => hSm.2 k (by omega) (by omega)⟩, rfl, hJx3⟩
    · have hx' : (y == x) = false := by simpa using hx
      rw [if_neg hx] at hst
      have HST := Lib.hid hst
      clear hst hps hxs hnx hcq hx
      gi_wp2_with fail
      exact ⟨Sm.refl _ _ _, by rw [HNX.out, HST.out]; exact hJX, bYX, bSX⟩
end Go.Proofs.YtdhbhjkfcpglbaaDoor
