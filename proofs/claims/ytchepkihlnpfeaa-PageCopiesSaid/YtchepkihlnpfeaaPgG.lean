/-
  Package page: Same, All. Conditions: tables, their rows in order.
-/
import Derived.Test.YtchepkihlnpfeaaPgF
namespace Go.Proofs.Ytchepkihlnpfeaa
open Go.RowKit
attribute [local go_sem] Oper.semAt_some
set_option maxHeartbeats 4000000
set_option maxRecDepth 8000

theorem srt_sub {ρ : Type} : ∀ {E D : List (Int × ρ)}, SrtR D → SrtR E → (∀ x ∈ D, x ∈ E) → D.Sublist E
  | [], D, _, _, h => by
    cases D with
    | nil => exact List.Sublist.refl _
    | cons x r => exact absurd (h x List.mem_cons_self) (by simp)
  | y :: s, [], _, _, _ => List.nil_sublist _
  | y :: s, x :: r, hD, hE, h => by
    have h1 := List.pairwise_cons.1 hD
    have h2 := List.pairwise_cons.1 hE
    rcases List.mem_cons.1 (h x List.mem_cons_self) with rfl | hx
    · refine List.Sublist.cons_cons _ (srt_sub h1.2 h2.2 fun z hz => ?_)
      rcases List.mem_cons.1 (h z (List.mem_cons_of_mem _ hz)) with rfl | hz'
      · have := h1.1 z hz; omega
      · exact hz'
    · refine List.Sublist.cons _ (srt_sub hD h2.2 fun z hz => ?_)
      rcases List.mem_cons.1 (h z hz) with rfl | hz'
      · exfalso
        have h3 := h2.1 x hx
        rcases List.mem_cons.1 hz with rfl | hz
        · omega
        · have := h1.1 z hz; omega
      · exact hz'
theorem rows_eq {D E : Tb} (h1 : SrtR D) (h2 : SrtR E) (hl : D.length = E.length) (h : ∀ x ∈ D, hasR E x.1 = true ∧ getE E x.1 = x.2) : D = E := by
  have hsub : ∀ x ∈ D, x ∈ E := fun x hx => by
    obtain ⟨h3, h4⟩ := h x hx
    have := getE_mem h2 h3
    rw [h4] at this
    exact this
  exact (srt_sub h1 h2 hsub).eq_of_length hl
theorem equal_ok {w : World} {m1 m2 : Nat} {D E : Tb} (h1 : MapP encE w m1 D) (h2 : MapP encE w m2 E) (hg1 : SrtR D) (hg2 : SrtR E) (hl1 : D.length ≤ 1000000) (hl2 : E.length ≤ 1000000) :
    Calls Try.prog 44 #[.map (some m1), .map (some m2)] w fun e w' => e = .returned (.bool (decide (D = E))) ∧ Below w.heap.size w w' := by
  have l1 := fun ty => h1.len (P := Try.prog) 73 ty 3 31 Try.underlying73
  have l2 := fun ty => h2.len (P := Try.prog) 73 ty 3 31 Try.underlying73
  by_cases hlen : D.length = E.length
  · obtain ⟨o, hrun, hR⟩ := h1.range (P := Try.prog) Try.underlying73
    have hlen' : (D.length : Int) = E.length := by omega
    have HL := Lib.hid hlen
    rw [hlen] at l1
    clear hlen hlen'
    go_enter Try.func44, Try.ntmps44
    go_wp2_with fail
    have hb0 : Below w.heap.size w (w.alloc o) := (Below.refl _ w).alloc (Nat.le_refl _) _
    generalize w.alloc o = w0 at hR hb0 ⊢
    clear hrun l1 l2
    go_loopw [] (fun wr => ∃ left : Tb, (∀ x ∈ left, x ∈ D) ∧ (∀ x ∈ D, x ∈ left ∨ (hasR E x.1 = true ∧ getE E x.1 = x.2)) ∧ RangeP encE wr w.heap.size m1 D left ∧ Below w.heap.size w wr) (fun wr => rangeN D.length w.heap.size wr)
    case atStart => exact ⟨D, fun _ h => h, fun _ h => .inl h, hR, hb0⟩
    case round =>
      obtain ⟨left, hsub, hall, hRr, hb⟩ := hrel
      have hz := hb.size
      have hbl := hRr.lt
      have hbf := h1.lt
      have hbg := h2.lt
      rcases hRr.next (P := Try.prog) (by omega) 0 with ⟨rfl, hrun⟩ | ⟨x, hx, wn, hrun, hRn, hTn, hent⟩
      · have hyes : decide (D = E) = true := decide_eq_true (rows_eq hg1 hg2 HL.out fun x hx => (hall x hx).resolve_left (by simp))
        have HY := Lib.hid hyes
        clear hyes
        go_wp2_with fail
        go_ret
        exact ⟨by rw [HY.out]; rfl, hb⟩
      · have hbn : Below w.heap.size w wn := hb.trans (hTn.below (Nat.le_refl _))
        unfold encE at hrun hent
        obtain ⟨xk, xo, xm, xf⟩ := x
        dsimp only at hrun hent hRn
        obtain ⟨w2, hw2⟩ : ∃ w2, wn.alloc (.cells #[.int .i64 xo, .int .i64 xm, .int .i64 xf] 31) = w2 := ⟨_, rfl⟩
        have hk2 : Below wn.heap.size wn w2 := by rw [← hw2]; exact (Below.refl _ wn).alloc (Nat.le_refl _) _
        have hX : Blk w2 wn.heap.size #[.int .i64 xo, .int .i64 xm, .int .i64 xf] 31 := by rw [← hw2]; exact Blk.new wn _ _
        have hb2 := hbn.trans (hk2.mono hbn.size)
        have hlk := (((h2.below hb2 hbg).lookup (P := Try.prog) Try.underlying73 Try.underlying3 (zero_ent w2) xk)).2
        rw [look_ent] at hlk
        obtain ⟨⟨yo, ym, yf⟩, hy⟩ : ∃ y, getE E xk = y := ⟨_, rfl⟩
        have HY := Lib.hid hy
        rw [hy] at hlk
        dsimp only at hlk
        obtain ⟨w4, hw4⟩ : ∃ w4, w2.alloc (.cells #[.int .i64 yo, .int .i64 ym, .int .i64 yf] 31) = w4 := ⟨_, rfl⟩
        have hk4 : Below w2.heap.size w2 w4 := by rw [← hw4]; exact (Below.refl _ w2).alloc (Nat.le_refl _) _
        have hYb : Blk w4 w2.heap.size #[.int .i64 yo, .int .i64 ym, .int .i64 yf] 31 := by rw [← hw4]; exact Blk.new w2 _ _
        have hX4 := hX.below hk4 hX.lt
        have hb4 := hb2.trans (hk4.mono hb2.size)
        have q0 : w4.cell? ⟨wn.heap.size, 0, none⟩ = some (.int .i64 xo) := hX4.cell 0 rfl
        have q1 : w4.cell? ⟨wn.heap.size, 1, none⟩ = some (.int .i64 xm) := hX4.cell 1 rfl
        have q2 : w4.cell? ⟨wn.heap.size, 2, none⟩ = some (.int .i64 xf) := hX4.cell 2 rfl
        have p0 : w4.cell? ⟨w2.heap.size, 0, none⟩ = some (.int .i64 yo) := hYb.cell 0 rfl
        have p1 : w4.cell? ⟨w2.heap.size, 1, none⟩ = some (.int .i64 ym) := hYb.cell 1 rfl
        have p2 : w4.cell? ⟨w2.heap.size, 2, none⟩ = some (.int .i64 yf) := hYb.cell 2 rfl
        have hRr4 := (hRn.step hk2).step hk4
        have hm0 := hRr.count
        have hm1 := hRr4.count
        have hlt := delR_lt (hasR_mem.2 (List.mem_map_of_mem hx) : hasR left xk = true)
        cases hh : hasR E xk
        · rw [hh] at hlk
          have hne : decide (D = E) = false := decide_eq_false fun e => by
            subst e
            rw [show hasR D xk = true from hasR_mem.2 (List.mem_map_of_mem (hsub _ hx))] at hh
            cases hh
          have HN := Lib.hid hne
          clear hne hy hh
          go_wp2_with fail
          go_ret
          exact ⟨by rw [HN.out]; rfl, hb4⟩
        · rw [hh] at hlk
          have HH := Lib.hid hh
          clear hh
          by_cases e0 : xo = yo
          · subst e0
            by_cases e1 : xm = ym
            · subst e1
              by_cases e2 : xf = yf
              · subst e2
                clear hy
                go_wp2_with fail
                go_roundw
                case rel => exact ⟨_, fun z hz => hsub z (delR_mem.1 hz).1, fun z hz => by
                    rcases hall z hz with h | h
                    · by_cases e : z.1 = xk
                      · right
                        have h8 := getR_some h1.nodup hz
                        have h7 := getR_some h1.nodup (hsub _ hx)
                        rw [e, h7] at h8
                        have h6 := Option.some.inj h8
                        rw [e, ← h6]
                        exact ⟨HH.out, HY.out⟩
                      · exact .inl (delR_mem.2 ⟨h, e⟩)
                    · exact .inr h, hRr4, hb4⟩
                case measure => rw [hm0, hm1]; exact hlt
              · have hxy : getE E xk ≠ ⟨xo, xm, xf⟩ := by rw [hy]; exact fun e => e2 (congrArg Ent.f e).symm
                clear hy
                have hne : decide (D = E) = false := decide_eq_false fun e => by
                  subst e
                  have h9 := hg1.nodup
                  have h8 := getR_some h9 (hsub _ hx)
                  have h7 : getE D xk = ⟨xo, xm, xf⟩ := by unfold getE; rw [h8]; rfl
                  rw [h7] at hxy
                  exact hxy rfl
                have HN := Lib.hid hne
                clear hne hxy
                go_wp2_with fail
                go_ret
                exact ⟨by rw [HN.out]; rfl, hb4⟩
            · have hxy : getE E xk ≠ ⟨xo, xm, xf⟩ := by rw [hy]; exact fun e => e1 (congrArg Ent.m e).symm
              clear hy
              have hne : decide (D = E) = false := decide_eq_false fun e => by
                subst e
                have h9 := hg1.nodup
                have h8 := getR_some h9 (hsub _ hx)
                have h7 : getE D xk = ⟨xo, xm, xf⟩ := by unfold getE; rw [h8]; rfl
                rw [h7] at hxy
                exact hxy rfl
              have HN := Lib.hid hne
              clear hne hxy
              go_wp2_with fail
              go_ret
              exact ⟨by rw [HN.out]; rfl, hb4⟩
          · have hxy : getE E xk ≠ ⟨xo, xm, xf⟩ := by rw [hy]; exact fun e => e0 (congrArg Ent.o e).symm
            clear hy
            have hne : decide (D = E) = false := decide_eq_false fun e => by
              subst e
              have h9 := hg1.nodup
              have h8 := getR_some h9 (hsub _ hx)
              have h7 : getE D xk = ⟨xo, xm, xf⟩ := by unfold getE; rw [h8]; rfl
              rw [h7] at hxy
              exact hxy rfl
            have HN := Lib.hid hne
            clear hne hxy
            go_wp2_with fail
            go_ret
            exact ⟨by rw [HN.out]; rfl, hb4⟩
  · have hne : decide (D = E) = false := decide_eq_false fun e => hlen (by rw [e])
    have HN := Lib.hid hne
    have hl' : ¬ (D.length : Int) = E.length := by omega
    clear hne
    go_enter Try.func44, Try.ntmps44
    go_wp2_with fail
    go_ret
    exact ⟨by rw [HN.out]; rfl, Below.refl _ _⟩
structure SamS (b c m n : Nat) (Y : World) : Prop where
  c0 : Y.cell? ⟨b, 0, none⟩ = some (.map (some m))
  d0 : Y.cell? ⟨c, 0, none⟩ = some (.map (some n))
theorem Same_ok {w : World} {b m c n : Nat} {D E : Tb} (h : TblAt w b m D) (k : TblAt w c n E) (hg1 : SrtR D) (hg2 : SrtR E) (hl1 : D.length ≤ 1000000) (hl2 : E.length ≤ 1000000) :
    Calls Try.prog 16 #[.pointer (some ⟨b, 0, none⟩), .pointer (some ⟨c, 0, none⟩)] w fun e w' => e = .returned (.bool (decide (D = E))) ∧ Below w.heap.size w w' := by
  go_enter Try.func16, Try.ntmps16
  go_wp2_with fail
  refine (none_live h).mono ?_; rintro e w1 ⟨rfl, k1⟩
  have h1 := h.step k1
  have g1 := k.step k1
  go_wp2_with fail
  refine (none_live g1).mono ?_; rintro e w2 ⟨rfl, k2⟩
  have h2 := h1.step k2
  have g2 := g1.step k2
  have kk := k1.trans (k2.mono k1.size)
  go_wp2_with fail
  have hS : SamS b c m n w2.drew := ⟨h2.cell, g2.cell⟩
  refine wp_onlyN ?_
  refine wp_region_held_drew (S := SamS b c m n) (by kernel_rfl) hS (fun hHeld => ?_)
  refine wpAnyH_take (i := 0) (v := ?_) rfl (by kernel_rfl) (by kernel_rfl) (by kernel_rfl) (fun _ _ _ h => h) (Or.inl ⟨by rfl, ?_⟩) (by assumption) ?_
  rotate_left
  · (intro Y hSw; (try dsimp only at hSw); obtain ⟨hS0, hS1⟩ := hSw; go_simp; try with_reducible rfl)
  try simp only [Act.put, List.getElem_toArray, List.getElem_cons_zero, List.getElem_cons_succ, List.setIfInBounds_toArray, List.set_cons_zero, List.set_cons_succ]
  refine wpAnyH_take (i := 1) (v := ?_) rfl (by kernel_rfl) (by kernel_rfl) (by kernel_rfl) (fun _ _ _ h => h) (Or.inl ⟨by rfl, ?_⟩) (by assumption) ?_
  rotate_left
  · (intro Y hSw; (try dsimp only at hSw); obtain ⟨hS0, hS1⟩ := hSw; go_simp; try with_reducible rfl)
  try simp only [Act.put, List.getElem_toArray, List.getElem_cons_zero, List.getElem_cons_succ, List.setIfInBounds_toArray, List.set_cons_zero, List.set_cons_succ]
  refine wpAnyH_take (i := 2) (v := ?_) rfl (by kernel_rfl) (by kernel_rfl) (by kernel_rfl) (fun _ _ _ h => h) (Or.inl ⟨by rfl, ?_⟩) (by assumption) ?_
  rotate_left
  · (intro Y hSw; (try dsimp only at hSw); obtain ⟨hS0, hS1⟩ := hSw; go_simp; try with_reducible rfl)
  try simp only [Act.put, List.getElem_toArray, List.getElem_cons_zero, List.getElem_cons_succ, List.setIfInBounds_toArray, List.set_cons_zero, List.set_cons_succ]
  refine wpAnyH_take (i := 3) (v := ?_) rfl (by kernel_rfl) (by kernel_rfl) (by kernel_rfl) (fun _ _ _ h => h) (Or.inl ⟨by rfl, ?_⟩) (by assumption) ?_
  rotate_left
  · (intro Y hSw; (try dsimp only at hSw); obtain ⟨hS0, hS1⟩ := hSw; go_simp; try with_reducible rfl)
  try simp only [Act.put, List.getElem_toArray, List.getElem_cons_zero, List.getElem_cons_succ, List.setIfInBounds_toArray, List.set_cons_zero, List.set_cons_succ]
  refine wpAnyH_take (i := 4) (v := ?_) rfl (by kernel_rfl) (by kernel_rfl) (by kernel_rfl) (fun _ _ _ h => h) (Or.inl ⟨by rfl, ?_⟩) (by assumption) ?_
  rotate_left
  · (intro Y hSw; (try dsimp only at hSw); obtain ⟨hS0, hS1⟩ := hSw; go_simp; try with_reducible rfl)
  try simp only [Act.put, List.getElem_toArray, List.getElem_cons_zero, List.getElem_cons_succ, List.setIfInBounds_toArray, List.set_cons_zero, List.set_cons_succ]
  refine wpAnyH_take (i := 5) (v := ?_) rfl (by kernel_rfl) (by kernel_rfl) (by kernel_rfl) (fun _ _ _ h => h) (Or.inl ⟨by rfl, ?_⟩) (by assumption) ?_
  rotate_left
  · (intro Y hSw; (try dsimp only at hSw); obtain ⟨hS0, hS1⟩ := hSw; go_simp; try with_reducible rfl)
  try simp only [Act.put, List.getElem_toArray, List.getElem_cons_zero, List.getElem_cons_succ, List.setIfInBounds_toArray, List.set_cons_zero, List.set_cons_succ]
  refine wpAnyH_take (i := 6) (v := ?_) rfl (by kernel_rfl) (by kernel_rfl) (by kernel_rfl) (fun _ _ _ h => h) (Or.inl ⟨by rfl, ?_⟩) (by assumption) ?_
  rotate_left
  · (intro Y hSw; (try dsimp only at hSw); obtain ⟨hS0, hS1⟩ := hSw; go_simp; try with_reducible rfl)
  try simp only [Act.put, List.getElem_toArray, List.getElem_cons_zero, List.getElem_cons_succ, List.setIfInBounds_toArray, List.set_cons_zero, List.set_cons_succ]
  refine wpAnyH_take (i := 7) (v := ?_) rfl (by kernel_rfl) (by kernel_rfl) (by kernel_rfl) (fun _ _ _ h => h) (Or.inl ⟨by rfl, ?_⟩) (by assumption) ?_
  rotate_left
  · (intro Y hSw; (try dsimp only at hSw); obtain ⟨hS0, hS1⟩ := hSw; go_simp; try with_reducible rfl)
  try simp only [Act.put, List.getElem_toArray, List.getElem_cons_zero, List.getElem_cons_succ, List.setIfInBounds_toArray, List.set_cons_zero, List.set_cons_succ]
  refine wpAnyH_ready (rs := [8]) (by kernel_rfl) (by simp) ?_
  refine AllReadyH.cons rfl (fun K hK => ?_) AllReadyH.nil
  go_simp
  refine (equal_ok (show MapP encE w2.drew m D from h2.mp) (show MapP encE w2.drew n E from g2.mp) hg1 hg2 hl1 hl2).mono ?_; rintro e w3 ⟨rfl, k3⟩
  have K3 : Below w2.heap.size w2 w3 := (Below.refl _ w2).drew.trans k3
  go_simp
  refine hK.out _ _ (⟨(h2.step K3).cell, (g2.step K3).cell⟩) (fun hHeld => ?_)
  clear hK K
  try simp only [Act.put, List.getElem_toArray, List.getElem_cons_zero, List.getElem_cons_succ, List.setIfInBounds_toArray, List.set_cons_zero, List.set_cons_succ]
  refine wpAnyH_take (i := 9) (v := ?_) rfl (by kernel_rfl) (by kernel_rfl) (by kernel_rfl) (fun _ _ _ h => h) (Or.inl ⟨by rfl, ?_⟩) (by assumption) ?_
  rotate_left
  · (intro Y hSw; (try dsimp only at hSw); obtain ⟨hS0, hS1⟩ := hSw; go_simp; try with_reducible rfl)
  try simp only [Act.put, List.getElem_toArray, List.getElem_cons_zero, List.getElem_cons_succ, List.setIfInBounds_toArray, List.set_cons_zero, List.set_cons_succ]
  refine wpAnyH_done (by kernel_rfl) ?_ _
  rw [onlyN_normal]
  go_wp2_with fail
  go_ret
  exact ⟨rfl, kk.trans (K3.mono kk.size)⟩
theorem Same_ln {w : World} {b m : Nat} {D : Tb} {q : Option Addr} (h : TblAt w b m D) (k : NoTb w q) : Calls Try.prog 16 #[.pointer (some ⟨b, 0, none⟩), .pointer q] w fun e w' => e = .returned (.bool false) ∧ Below w.heap.size w w' := by
  go_enter Try.func16, Try.ntmps16
  go_wp2_with fail
  refine (none_live h).mono ?_; rintro e w1 ⟨rfl, k1⟩
  have h1 := h.step k1
  have g1 := k.step k1
  go_wp2_with fail
  refine (none_no g1).mono ?_; rintro e w2 ⟨rfl, k2⟩
  have h2 := h1.step k2
  have kk := k1.trans (k2.mono k1.size)
  go_wp2_with fail
  refine (none_live h2).mono ?_; rintro e w3 ⟨rfl, k3⟩
  go_wp2_with fail
  go_ret
  exact ⟨rfl, kk.trans (k3.mono kk.size)⟩
theorem Same_nl {w : World} {b m : Nat} {D : Tb} {q : Option Addr} (h : TblAt w b m D) (k : NoTb w q) : Calls Try.prog 16 #[.pointer q, .pointer (some ⟨b, 0, none⟩)] w fun e w' => e = .returned (.bool false) ∧ Below w.heap.size w w' := by
  go_enter Try.func16, Try.ntmps16
  go_wp2_with fail
  refine (none_no k).mono ?_; rintro e w1 ⟨rfl, k1⟩
  have h1 := h.step k1
  have g1 := k.step k1
  go_wp2_with fail
  refine (none_no g1).mono ?_; rintro e w2 ⟨rfl, k2⟩
  have h2 := h1.step k2
  have kk := k1.trans (k2.mono k1.size)
  go_wp2_with fail
  refine (none_live h2).mono ?_; rintro e w3 ⟨rfl, k3⟩
  go_wp2_with fail
  go_ret
  exact ⟨rfl, kk.trans (k3.mono kk.size)⟩
theorem Same_nn {w : World} {p q : Option Addr} (h : NoTb w p) (k : NoTb w q) : Calls Try.prog 16 #[.pointer p, .pointer q] w fun e w' => e = .returned (.bool true) ∧ Below w.heap.size w w' := by
  go_enter Try.func16, Try.ntmps16
  go_wp2_with fail
  refine (none_no h).mono ?_; rintro e w1 ⟨rfl, k1⟩
  have h1 := h.step k1
  have g1 := k.step k1
  go_wp2_with fail
  refine (none_no h1).mono ?_; rintro e w2 ⟨rfl, k2⟩
  have g2 := g1.step k2
  have kk := k1.trans (k2.mono k1.size)
  go_wp2_with fail
  refine (none_no g2).mono ?_; rintro e w3 ⟨rfl, k3⟩
  go_wp2_with fail
  go_ret
  exact ⟨rfl, kk.trans (k3.mono kk.size)⟩
end Go.Proofs.Ytchepkihlnpfeaa
