/-
  Package desk: Same. Conditions: desks whose threads are in order.
-/
import Derived.Test.YtchknegenaoliaaDeR
namespace Go.Proofs.Ytchknegenaoliaa
open Go.RowKit
attribute [local go_sem] Oper.semAt_some
set_option maxHeartbeats 1000000
set_option maxRecDepth 4000

theorem getH_mem {E : Thr} (h : SrtR E) {k : Int} (hk : hasR E k = true) : (k, getH E k) ∈ E := by
  obtain ⟨v, hv, hg⟩ := getR_has h.nodup hk
  unfold getH
  rw [hg]
  exact hv
theorem srt_sub {ρ : Type} : ∀ {E D : List (Int × ρ)}, SrtR D → SrtR E → (∀ x ∈ D, x ∈ E) → D.Sublist E
  | [], D, _, _, h => by
    cases D with
    | nil => exact List.Sublist.refl _
    | cons x r => exact absurd (h x List.mem_cons_self) (by simp)
  | y :: s, [], _, _, _ => List.nil_sublist _
  | y :: s, x :: r, hD, hE, h => by
    have h1 := List.pairwise_cons.1 hD
    have h2 := List.pairwise_cons.1 hE
    rcases List.mem_cons.1 (h x List.mem_cons_self) with rfl | hx
    · refine List.Sublist.cons_cons _ (srt_sub h1.2 h2.2 fun z hz => ?_)
      rcases List.mem_cons.1 (h z (List.mem_cons_of_mem _ hz)) with rfl | hz'
      · have := h1.1 z hz; omega
      · exact hz'
    · refine List.Sublist.cons _ (srt_sub hD h2.2 fun z hz => ?_)
      rcases List.mem_cons.1 (h z hz) with rfl | hz'
      · exfalso
        have h3 := h2.1 x hx
        rcases List.mem_cons.1 hz with rfl | hz
        · omega
        · have := h1.1 z hz; omega
      · exact hz'
theorem rows_eq {D E : Thr} (h1 : SrtR D) (h2 : SrtR E) (hl : D.length = E.length) (h : ∀ x ∈ D, hasR E x.1 = true ∧ getH E x.1 = x.2) : D = E := by
  have hsub : ∀ x ∈ D, x ∈ E := fun x hx => by
    obtain ⟨h3, h4⟩ := h x hx
    have := getH_mem h2 h3
    rw [h4] at this
    exact this
  exact (srt_sub h1 h2 hsub).eq_of_length hl
theorem equal_ok {w : World} {m1 m2 : Nat} {D E : Thr} (h1 : MapP encH w m1 D) (h2 : MapP encH w m2 E) (hg1 : SrtR D) (hg2 : SrtR E) (hl1 : D.length ≤ 1000000) (hl2 : E.length ≤ 1000000) :
    Calls Try.prog 41 #[.map (some m1), .map (some m2)] w fun e w' => e = .returned (.bool (decide (D = E))) ∧ Below w.heap.size w w' := by
  have l1 := fun ty => h1.len (P := Try.prog) 67 ty 3 28 Try.underlying67
  have l2 := fun ty => h2.len (P := Try.prog) 67 ty 3 28 Try.underlying67
  by_cases hlen : D.length = E.length
  · obtain ⟨o, hrun, hR⟩ := h1.range (P := Try.prog) Try.underlying67
    have hlen' : (D.length : Int) = E.length := by omega
    have HL := Lib.hid hlen
    rw [hlen] at l1
    clear hlen hlen'
    go_enter Try.func41, Try.ntmps41
    go_wp2_with fail
    have hb0 : Below w.heap.size w (w.alloc o) := (Below.refl _ w).alloc (Nat.le_refl _) _
    generalize w.alloc o = w0 at hR hb0 ⊢
    clear hrun l1 l2
    go_loopw [] (fun wr => ∃ left : Thr, (∀ x ∈ left, x ∈ D) ∧ (∀ x ∈ D, x ∈ left ∨ (hasR E x.1 = true ∧ getH E x.1 = x.2)) ∧ RangeP encH wr w.heap.size m1 D left ∧ Below w.heap.size w wr) (fun wr => rangeN D.length w.heap.size wr)
    case atStart => exact ⟨D, fun _ h => h, fun _ h => .inl h, hR, hb0⟩
    case round =>
      obtain ⟨left, hsub, hall, hRr, hb⟩ := hrel
      have hz := hb.size
      have hbl := hRr.lt
      have hbf := h1.lt
      have hbg := h2.lt
      rcases hRr.next (P := Try.prog) (by omega) 0 with ⟨rfl, hrun⟩ | ⟨x, hx, wn, hrun, hRn, hTn, hent⟩
      · have hyes : decide (D = E) = true := decide_eq_true (rows_eq hg1 hg2 HL.out fun x hx => (hall x hx).resolve_left (by simp))
        have HY := Lib.hid hyes
        clear hyes
        go_wp2_with fail
        go_ret
        exact ⟨by rw [HY.out]; rfl, hb⟩
      · have hbn : Below w.heap.size w wn := hb.trans (hTn.below (Nat.le_refl _))
        unfold encH at hrun hent
        obtain ⟨xk, xo, xm⟩ := x
        dsimp only at hrun hent hRn
        obtain ⟨w2, hw2⟩ : ∃ w2, wn.alloc (.cells #[.int .i64 xo, .int .i64 xm] 28) = w2 := ⟨_, rfl⟩
        have hk2 : Below wn.heap.size wn w2 := by rw [← hw2]; exact (Below.refl _ wn).alloc (Nat.le_refl _) _
        have hX : Blk w2 wn.heap.size #[.int .i64 xo, .int .i64 xm] 28 := by rw [← hw2]; exact Blk.new wn _ _
        have hb2 := hbn.trans (hk2.mono hbn.size)
        have hlk := (((h2.below hb2 hbg).lookup (P := Try.prog) Try.underlying67 Try.underlying3 (zero_hnd w2) xk)).2
        rw [look_hnd] at hlk
        obtain ⟨⟨yo, ym⟩, hy⟩ : ∃ y, getH E xk = y := ⟨_, rfl⟩
        have HY := Lib.hid hy
        rw [hy] at hlk
        dsimp only at hlk
        obtain ⟨w4, hw4⟩ : ∃ w4, w2.alloc (.cells #[.int .i64 yo, .int .i64 ym] 28) = w4 := ⟨_, rfl⟩
        have hk4 : Below w2.heap.size w2 w4 := by rw [← hw4]; exact (Below.refl _ w2).alloc (Nat.le_refl _) _
        have hYb : Blk w4 w2.heap.size #[.int .i64 yo, .int .i64 ym] 28 := by rw [← hw4]; exact Blk.new w2 _ _
        have hX4 := hX.below hk4 hX.lt
        have hb4 := hb2.trans (hk4.mono hb2.size)
        have q0 : w4.cell? ⟨wn.heap.size, 0, none⟩ = some (.int .i64 xo) := hX4.cell 0 rfl
        have q1 : w4.cell? ⟨wn.heap.size, 1, none⟩ = some (.int .i64 xm) := hX4.cell 1 rfl
        have p0 : w4.cell? ⟨w2.heap.size, 0, none⟩ = some (.int .i64 yo) := hYb.cell 0 rfl
        have p1 : w4.cell? ⟨w2.heap.size, 1, none⟩ = some (.int .i64 ym) := hYb.cell 1 rfl
        have hRr4 := (hRn.step hk2).step hk4
        have hm0 := hRr.count
        have hm1 := hRr4.count
        have hlt := delR_lt (hasR_mem.2 (List.mem_map_of_mem hx) : hasR left xk = true)
        cases hh : hasR E xk
        · rw [hh] at hlk
          have hne : decide (D = E) = false := decide_eq_false fun e => by
            subst e
            rw [show hasR D xk = true from hasR_mem.2 (List.mem_map_of_mem (hsub _ hx))] at hh
            cases hh
          have HN := Lib.hid hne
          clear hne hy hh
          go_wp2_with fail
          go_ret
          exact ⟨by rw [HN.out]; rfl, hb4⟩
        · rw [hh] at hlk
          have HH := Lib.hid hh
          clear hh
          by_cases e0 : xo = yo
          · subst e0
            by_cases e1 : xm = ym
            · subst e1
              clear hy
              go_wp2_with fail
              go_roundw
              case rel => exact ⟨_, fun z hz => hsub z (delR_mem.1 hz).1, fun z hz => by
                  rcases hall z hz with h | h
                  · by_cases e : z.1 = xk
                    · right
                      have h8 := getR_some h1.nodup hz
                      have h7 := getR_some h1.nodup (hsub _ hx)
                      rw [e, h7] at h8
                      have h6 := Option.some.inj h8
                      rw [e, ← h6]
                      exact ⟨HH.out, HY.out⟩
                    · exact .inl (delR_mem.2 ⟨h, e⟩)
                  · exact .inr h, hRr4, hb4⟩
              case measure => rw [hm0, hm1]; exact hlt
            · have hxy : getH E xk ≠ ⟨xo, xm⟩ := by rw [hy]; exact fun e => e1 (congrArg Hnd.g e).symm
              clear hy
              have hne : decide (D = E) = false := decide_eq_false fun e => by
                subst e
                have h9 := hg1.nodup
                have h8 := getR_some h9 (hsub _ hx)
                have h7 : getH D xk = ⟨xo, xm⟩ := by unfold getH; rw [h8]; rfl
                exact hxy h7
              have HN := Lib.hid hne
              clear hne hxy
              go_wp2_with fail
              go_ret
              exact ⟨by rw [HN.out]; rfl, hb4⟩
          · have hxy : getH E xk ≠ ⟨xo, xm⟩ := by rw [hy]; exact fun e => e0 (congrArg Hnd.s e).symm
            clear hy
            have hne : decide (D = E) = false := decide_eq_false fun e => by
              subst e
              have h9 := hg1.nodup
              have h8 := getR_some h9 (hsub _ hx)
              have h7 : getH D xk = ⟨xo, xm⟩ := by unfold getH; rw [h8]; rfl
              exact hxy h7
            have HN := Lib.hid hne
            clear hne hxy
            go_wp2_with fail
            go_ret
            exact ⟨by rw [HN.out]; rfl, hb4⟩
  · have hne : decide (D = E) = false := decide_eq_false fun e => hlen (by rw [e])
    have HN := Lib.hid hne
    have hl' : ¬ (D.length : Int) = E.length := by omega
    clear hne
    go_enter Try.func41, Try.ntmps41
    go_wp2_with fail
    go_ret
    exact ⟨by rw [HN.out]; rfl, Below.refl _ _⟩
structure SaS (b m : Nat) (P : List Ten) (T : Thr) (c n : Nat) (Q : List Ten) (U : Thr) (Y : World) : Prop where
  x : DkAt Y b m P T
  y : DkAt Y c n Q U
theorem SaS.step {b m c n : Nat} {P Q : List Ten} {T U : Thr} {Y Z : World} (h : SaS b m P T c n Q U Y) (k : Below Y.heap.size Y Z) : SaS b m P T c n Q U Z := ⟨h.x.step k, h.y.step k⟩
theorem Same_ok {w : World} {b m c n : Nat} {P Q : List Ten} {T U : Thr} (h : DkAt w b m P T) (k : DkAt w c n Q U) (hg1 : SrtR T) (hg2 : SrtR U) (hl1 : T.length ≤ 1000000) (hl2 : U.length ≤ 1000000) :
    Calls Try.prog 20 #[.pointer (some ⟨b, 0, none⟩), .pointer (some ⟨c, 0, none⟩)] w fun e w' => e = .returned (.bool (decide (P = Q) && decide (T = U))) ∧ Below w.heap.size w w' := by
  go_enter Try.func20, Try.ntmps20
  go_wp2_with fail
  refine (none_live h).mono ?_; rintro e w1 ⟨rfl, k1⟩
  have h1 := h.step k1
  have g1 := k.step k1
  go_wp2_with fail
  refine (none_live g1).mono ?_; rintro e w2 ⟨rfl, k2⟩
  have kk := k1.trans (k2.mono k1.size)
  have hS : SaS b m P T c n Q U w2.drew := ⟨h1.step k2.drew, g1.step k2.drew⟩
  clear h1 g1 k1 h k k2
  have eqp := fun Y => eq_places (P := P) (Q := Q) hS.x.len hS.y.len Y
  go_wp2_with fail
  refine wp_onlyN ?_
  refine wp_region_held_drew (S := SaS b m P T c n Q U) (by kernel_rfl) hS (fun hHeld => ?_)
  have hlP : (tensV P).length = 16 := tensV_len hS.x.len
  have hlQ : (tensV Q).length = 16 := tensV_len hS.y.len
  have HP := Lib.hid hlP
  have HQ := Lib.hid hlQ
  clear hlP hlQ
  refine wpAnyH_take (i := 0) (v := ?_) rfl (by kernel_rfl) (by kernel_rfl) (by kernel_rfl) (fun _ _ _ h => h) (Or.inl ⟨by rfl, ?_⟩) (by assumption) ?_
  rotate_left
  · (intro Y hSw; (try dsimp only at hSw); obtain ⟨hS1, hS2⟩ := hSw; go_simp; try with_reducible rfl)
  try simp only [Act.put, List.getElem_toArray, List.getElem_cons_zero, List.getElem_cons_succ, List.setIfInBounds_toArray, List.set_cons_zero, List.set_cons_succ]
  refine wpAnyH_take (i := 1) (v := ?_) rfl (by kernel_rfl) (by kernel_rfl) (by kernel_rfl) (fun _ _ _ h => h) (Or.inl ⟨by rfl, ?_⟩) (by assumption) ?_
  rotate_left
  · (intro Y hSw; (try dsimp only at hSw); obtain ⟨hS1, hS2⟩ := hSw; go_simp; try with_reducible rfl)
  try simp only [Act.put, List.getElem_toArray, List.getElem_cons_zero, List.getElem_cons_succ, List.setIfInBounds_toArray, List.set_cons_zero, List.set_cons_succ]
  refine wpAnyH_take (i := 2) (v := ?_) rfl (by kernel_rfl) (by kernel_rfl) (by kernel_rfl) (fun _ _ _ h => h) (Or.inl ⟨by rfl, ?_⟩) (by assumption) ?_
  rotate_left
  · (intro Y hSw; (try dsimp only at hSw); obtain ⟨hS1, hS2⟩ := hSw; go_simp; try with_reducible rfl)
  try simp only [Act.put, List.getElem_toArray, List.getElem_cons_zero, List.getElem_cons_succ, List.setIfInBounds_toArray, List.set_cons_zero, List.set_cons_succ]
  refine wpAnyH_take (i := 3) (v := .agg (tensV P).toArray) rfl (by kernel_rfl) (by kernel_rfl) (by kernel_rfl) (fun _ _ _ h => h) (Or.inl ⟨by rfl, fun Y hSw => exec_loadM ty71 _ rfl b 0 rfl (tensV P) (dkV_rng hSw.x.len _ hSw.x.blk) HP.out⟩) (by assumption) ?_
  try simp only [Act.put, List.getElem_toArray, List.getElem_cons_zero, List.getElem_cons_succ, List.setIfInBounds_toArray, List.set_cons_zero, List.set_cons_succ]
  refine wpAnyH_take (i := 4) (v := ?_) rfl (by kernel_rfl) (by kernel_rfl) (by kernel_rfl) (fun _ _ _ h => h) (Or.inl ⟨by rfl, ?_⟩) (by assumption) ?_
  rotate_left
  · (intro Y hSw; (try dsimp only at hSw); obtain ⟨hS1, hS2⟩ := hSw; go_simp; try with_reducible rfl)
  try simp only [Act.put, List.getElem_toArray, List.getElem_cons_zero, List.getElem_cons_succ, List.setIfInBounds_toArray, List.set_cons_zero, List.set_cons_succ]
  refine wpAnyH_take (i := 5) (v := ?_) rfl (by kernel_rfl) (by kernel_rfl) (by kernel_rfl) (fun _ _ _ h => h) (Or.inl ⟨by rfl, ?_⟩) (by assumption) ?_
  rotate_left
  · (intro Y hSw; (try dsimp only at hSw); obtain ⟨hS1, hS2⟩ := hSw; go_simp; try with_reducible rfl)
  try simp only [Act.put, List.getElem_toArray, List.getElem_cons_zero, List.getElem_cons_succ, List.setIfInBounds_toArray, List.set_cons_zero, List.set_cons_succ]
  refine wpAnyH_take (i := 6) (v := ?_) rfl (by kernel_rfl) (by kernel_rfl) (by kernel_rfl) (fun _ _ _ h => h) (Or.inl ⟨by rfl, ?_⟩) (by assumption) ?_
  rotate_left
  · (intro Y hSw; (try dsimp only at hSw); obtain ⟨hS1, hS2⟩ := hSw; go_simp; try with_reducible rfl)
  try simp only [Act.put, List.getElem_toArray, List.getElem_cons_zero, List.getElem_cons_succ, List.setIfInBounds_toArray, List.set_cons_zero, List.set_cons_succ]
  refine wpAnyH_take (i := 7) (v := .agg (tensV Q).toArray) rfl (by kernel_rfl) (by kernel_rfl) (by kernel_rfl) (fun _ _ _ h => h) (Or.inl ⟨by rfl, fun Y hSw => exec_loadM ty71 _ rfl c 0 rfl (tensV Q) (dkV_rng hSw.y.len _ hSw.y.blk) HQ.out⟩) (by assumption) ?_
  try simp only [Act.put, List.getElem_toArray, List.getElem_cons_zero, List.getElem_cons_succ, List.setIfInBounds_toArray, List.set_cons_zero, List.set_cons_succ]
  refine wpAnyH_take (i := 8) (v := .bool (decide (P = Q))) rfl (by kernel_rfl) (by kernel_rfl) (by kernel_rfl) (fun _ _ _ h => h) (Or.inl ⟨by rfl, by intro Y hSw; have eqY := eqp Y; clear eqp; go_simp⟩) (by assumption) ?_
  try simp only [Act.put, List.getElem_toArray, List.getElem_cons_zero, List.getElem_cons_succ, List.setIfInBounds_toArray, List.set_cons_zero, List.set_cons_succ]
  clear eqp
  by_cases hPQ : P = Q
  · have hd : decide (P = Q) = true := decide_eq_true hPQ
    rw [hd]
    refine wpAnyH_take (i := 9) (v := ?_) rfl (by kernel_rfl) (by kernel_rfl) (by kernel_rfl) (fun _ _ _ h => h) (Or.inl ⟨by rfl, ?_⟩) (by assumption) ?_
    rotate_left
    · (intro Y hSw; (try dsimp only at hSw); obtain ⟨hS1, hS2⟩ := hSw; go_simp; try with_reducible rfl)
    try simp only [Act.put, List.getElem_toArray, List.getElem_cons_zero, List.getElem_cons_succ, List.setIfInBounds_toArray, List.set_cons_zero, List.set_cons_succ]
    refine wpAnyH_take (i := 10) (v := ?_) rfl (by kernel_rfl) (by kernel_rfl) (by kernel_rfl) (fun _ _ _ h => h) (Or.inl ⟨by rfl, ?_⟩) (by assumption) ?_
    rotate_left
    · (intro Y hSw; (try dsimp only at hSw); obtain ⟨hS1, hS2⟩ := hSw; go_simp; try with_reducible rfl)
    try simp only [Act.put, List.getElem_toArray, List.getElem_cons_zero, List.getElem_cons_succ, List.setIfInBounds_toArray, List.set_cons_zero, List.set_cons_succ]
    refine wpAnyH_take (i := 11) (v := ?_) rfl (by kernel_rfl) (by kernel_rfl) (by kernel_rfl) (fun _ _ _ h => h) (Or.inl ⟨by rfl, ?_⟩) (by assumption) ?_
    rotate_left
    · (intro Y hSw; (try dsimp only at hSw); obtain ⟨hS1, hS2⟩ := hSw; go_simp; try with_reducible rfl)
    try simp only [Act.put, List.getElem_toArray, List.getElem_cons_zero, List.getElem_cons_succ, List.setIfInBounds_toArray, List.set_cons_zero, List.set_cons_succ]
    refine wpAnyH_take (i := 12) (v := ?_) rfl (by kernel_rfl) (by kernel_rfl) (by kernel_rfl) (fun _ _ _ h => h) (Or.inl ⟨by rfl, ?_⟩) (by assumption) ?_
    rotate_left
    · (intro Y hSw; (try dsimp only at hSw); obtain ⟨hS1, hS2⟩ := hSw; go_simp; try with_reducible rfl)
    try simp only [Act.put, List.getElem_toArray, List.getElem_cons_zero, List.getElem_cons_succ, List.setIfInBounds_toArray, List.set_cons_zero, List.set_cons_succ]
    refine wpAnyH_take (i := 13) (v := .map (some m)) rfl (by kernel_rfl) (by kernel_rfl) (by kernel_rfl) (fun _ _ _ h => h) (Or.inl ⟨by rfl, by intro Y hSw; have c16 := hSw.x.cellm; go_simp⟩) (by assumption) ?_
    try simp only [Act.put, List.getElem_toArray, List.getElem_cons_zero, List.getElem_cons_succ, List.setIfInBounds_toArray, List.set_cons_zero, List.set_cons_succ]
    refine wpAnyH_take (i := 14) (v := ?_) rfl (by kernel_rfl) (by kernel_rfl) (by kernel_rfl) (fun _ _ _ h => h) (Or.inl ⟨by rfl, ?_⟩) (by assumption) ?_
    rotate_left
    · (intro Y hSw; (try dsimp only at hSw); obtain ⟨hS1, hS2⟩ := hSw; go_simp; try with_reducible rfl)
    try simp only [Act.put, List.getElem_toArray, List.getElem_cons_zero, List.getElem_cons_succ, List.setIfInBounds_toArray, List.set_cons_zero, List.set_cons_succ]
    refine wpAnyH_take (i := 15) (v := ?_) rfl (by kernel_rfl) (by kernel_rfl) (by kernel_rfl) (fun _ _ _ h => h) (Or.inl ⟨by rfl, ?_⟩) (by assumption) ?_
    rotate_left
    · (intro Y hSw; (try dsimp only at hSw); obtain ⟨hS1, hS2⟩ := hSw; go_simp; try with_reducible rfl)
    try simp only [Act.put, List.getElem_toArray, List.getElem_cons_zero, List.getElem_cons_succ, List.setIfInBounds_toArray, List.set_cons_zero, List.set_cons_succ]
    refine wpAnyH_take (i := 16) (v := ?_) rfl (by kernel_rfl) (by kernel_rfl) (by kernel_rfl) (fun _ _ _ h => h) (Or.inl ⟨by rfl, ?_⟩) (by assumption) ?_
    rotate_left
    · (intro Y hSw; (try dsimp only at hSw); obtain ⟨hS1, hS2⟩ := hSw; go_simp; try with_reducible rfl)
    try simp only [Act.put, List.getElem_toArray, List.getElem_cons_zero, List.getElem_cons_succ, List.setIfInBounds_toArray, List.set_cons_zero, List.set_cons_succ]
    refine wpAnyH_take (i := 17) (v := .map (some n)) rfl (by kernel_rfl) (by kernel_rfl) (by kernel_rfl) (fun _ _ _ h => h) (Or.inl ⟨by rfl, by intro Y hSw; have c16 := hSw.y.cellm; go_simp⟩) (by assumption) ?_
    try simp only [Act.put, List.getElem_toArray, List.getElem_cons_zero, List.getElem_cons_succ, List.setIfInBounds_toArray, List.set_cons_zero, List.set_cons_succ]
    refine wpAnyH_ready (rs := [18]) (by kernel_rfl) (by simp) ?_
    refine AllReadyH.cons rfl (fun K hK => ?_) AllReadyH.nil
    go_simp
    refine (equal_ok hS.x.mp hS.y.mp hg1 hg2 hl1 hl2).mono ?_; rintro e w3 ⟨rfl, k3⟩
    have K3 : Below w2.heap.size w2 w3 := (Below.refl _ w2).drew.trans k3
    go_simp
    refine hK.out _ _ (hS.step k3) (fun hHeld => ?_)
    clear hK K
    try simp only [Act.put, List.getElem_toArray, List.getElem_cons_zero, List.getElem_cons_succ, List.setIfInBounds_toArray, List.set_cons_zero, List.set_cons_succ]
    refine wpAnyH_take (i := 19) (v := ?_) rfl (by kernel_rfl) (by kernel_rfl) (by kernel_rfl) (fun _ _ _ h => h) (Or.inl ⟨by rfl, ?_⟩) (by assumption) ?_
    rotate_left
    · (intro Y hSw; (try dsimp only at hSw); obtain ⟨hS1, hS2⟩ := hSw; go_simp; try with_reducible rfl)
    try simp only [Act.put, List.getElem_toArray, List.getElem_cons_zero, List.getElem_cons_succ, List.setIfInBounds_toArray, List.set_cons_zero, List.set_cons_succ]
    refine wpAnyH_take (i := 20) (v := ?_) rfl (by kernel_rfl) (by kernel_rfl) (by kernel_rfl) (fun _ _ _ h => h) (Or.inl ⟨by rfl, ?_⟩) (by assumption) ?_
    rotate_left
    · (intro Y hSw; (try dsimp only at hSw); obtain ⟨hS1, hS2⟩ := hSw; go_simp; try with_reducible rfl)
    try simp only [Act.put, List.getElem_toArray, List.getElem_cons_zero, List.getElem_cons_succ, List.setIfInBounds_toArray, List.set_cons_zero, List.set_cons_succ]
    refine wpAnyH_done (by kernel_rfl) ?_ _
    rw [onlyN_normal]
    go_wp2_with fail
    go_ret
    exact ⟨by rw [hd, Bool.true_and]; rfl, kk.trans (K3.mono kk.size)⟩
  · have hd : decide (P = Q) = false := decide_eq_false hPQ
    rw [hd]
    refine wpAnyH_take (i := 9) (v := ?_) rfl (by kernel_rfl) (by kernel_rfl) (by kernel_rfl) (fun _ _ _ h => h) (Or.inl ⟨by rfl, ?_⟩) (by assumption) ?_
    rotate_left
    · (intro Y hSw; (try dsimp only at hSw); obtain ⟨hS1, hS2⟩ := hSw; go_simp; try with_reducible rfl)
    try simp only [Act.put, List.getElem_toArray, List.getElem_cons_zero, List.getElem_cons_succ, List.setIfInBounds_toArray, List.set_cons_zero, List.set_cons_succ]
    refine wpAnyH_take (i := 10) (v := undef) rfl (by kernel_rfl) (by kernel_rfl) (by kernel_rfl) (fun _ _ _ h => h) (Or.inr ⟨by rfl, rfl⟩) (by assumption) ?_
    try simp only [Act.put, List.getElem_toArray, List.getElem_cons_zero, List.getElem_cons_succ, List.setIfInBounds_toArray, List.set_cons_zero, List.set_cons_succ]
    refine wpAnyH_take (i := 11) (v := undef) rfl (by kernel_rfl) (by kernel_rfl) (by kernel_rfl) (fun _ _ _ h => h) (Or.inr ⟨by rfl, rfl⟩) (by assumption) ?_
    try simp only [Act.put, List.getElem_toArray, List.getElem_cons_zero, List.getElem_cons_succ, List.setIfInBounds_toArray, List.set_cons_zero, List.set_cons_succ]
    refine wpAnyH_take (i := 12) (v := undef) rfl (by kernel_rfl) (by kernel_rfl) (by kernel_rfl) (fun _ _ _ h => h) (Or.inr ⟨by rfl, rfl⟩) (by assumption) ?_
    try simp only [Act.put, List.getElem_toArray, List.getElem_cons_zero, List.getElem_cons_succ, List.setIfInBounds_toArray, List.set_cons_zero, List.set_cons_succ]
    refine wpAnyH_take (i := 13) (v := undef) rfl (by kernel_rfl) (by kernel_rfl) (by kernel_rfl) (fun _ _ _ h => h) (Or.inr ⟨by rfl, rfl⟩) (by assumption) ?_
    try simp only [Act.put, List.getElem_toArray, List.getElem_cons_zero, List.getElem_cons_succ, List.setIfInBounds_toArray, List.set_cons_zero, List.set_cons_succ]
    refine wpAnyH_take (i := 14) (v := undef) rfl (by kernel_rfl) (by kernel_rfl) (by kernel_rfl) (fun _ _ _ h => h) (Or.inr ⟨by rfl, rfl⟩) (by assumption) ?_
    try simp only [Act.put, List.getElem_toArray, List.getElem_cons_zero, List.getElem_cons_succ, List.setIfInBounds_toArray, List.set_cons_zero, List.set_cons_succ]
    refine wpAnyH_take (i := 15) (v := undef) rfl (by kernel_rfl) (by kernel_rfl) (by kernel_rfl) (fun _ _ _ h => h) (Or.inr ⟨by rfl, rfl⟩) (by assumption) ?_
    try simp only [Act.put, List.getElem_toArray, List.getElem_cons_zero, List.getElem_cons_succ, List.setIfInBounds_toArray, List.set_cons_zero, List.set_cons_succ]
    refine wpAnyH_take (i := 16) (v := undef) rfl (by kernel_rfl) (by kernel_rfl) (by kernel_rfl) (fun _ _ _ h => h) (Or.inr ⟨by rfl, rfl⟩) (by assumption) ?_
    try simp only [Act.put, List.getElem_toArray, List.getElem_cons_zero, List.getElem_cons_succ, List.setIfInBounds_toArray, List.set_cons_zero, List.set_cons_succ]
    refine wpAnyH_take (i := 17) (v := undef) rfl (by kernel_rfl) (by kernel_rfl) (by kernel_rfl) (fun _ _ _ h => h) (Or.inr ⟨by rfl, rfl⟩) (by assumption) ?_
    try simp only [Act.put, List.getElem_toArray, List.getElem_cons_zero, List.getElem_cons_succ, List.setIfInBounds_toArray, List.set_cons_zero, List.set_cons_succ]
    refine wpAnyH_take (i := 18) (v := undef) rfl (by kernel_rfl) (by kernel_rfl) (by kernel_rfl) (fun _ _ _ h => h) (Or.inr ⟨by rfl, rfl⟩) (by assumption) ?_
    try simp only [Act.put, List.getElem_toArray, List.getElem_cons_zero, List.getElem_cons_succ, List.setIfInBounds_toArray, List.set_cons_zero, List.set_cons_succ]
    refine wpAnyH_take (i := 19) (v := ?_) rfl (by kernel_rfl) (by kernel_rfl) (by kernel_rfl) (fun _ _ _ h => h) (Or.inl ⟨by rfl, ?_⟩) (by assumption) ?_
    rotate_left
    · (intro Y hSw; (try dsimp only at hSw); obtain ⟨hS1, hS2⟩ := hSw; go_simp; try with_reducible rfl)
    try simp only [Act.put, List.getElem_toArray, List.getElem_cons_zero, List.getElem_cons_succ, List.setIfInBounds_toArray, List.set_cons_zero, List.set_cons_succ]
    refine wpAnyH_take (i := 20) (v := ?_) rfl (by kernel_rfl) (by kernel_rfl) (by kernel_rfl) (fun _ _ _ h => h) (Or.inl ⟨by rfl, ?_⟩) (by assumption) ?_
    rotate_left
    · (intro Y hSw; (try dsimp only at hSw); obtain ⟨hS1, hS2⟩ := hSw; go_simp; try with_reducible rfl)
    try simp only [Act.put, List.getElem_toArray, List.getElem_cons_zero, List.getElem_cons_succ, List.setIfInBounds_toArray, List.set_cons_zero, List.set_cons_succ]
    refine wpAnyH_done (by kernel_rfl) ?_ _
    rw [onlyN_normal]
    go_wp2_with fail
    go_ret
    exact ⟨by rw [hd, Bool.false_and]; rfl, kk.trans ((Below.refl _ w2).drew.mono kk.size)⟩
theorem Same_ln {w : World} {b m : Nat} {P : List Ten} {T : Thr} {q : Option Addr} (h : DkAt w b m P T) (k : NoDk w q) : Calls Try.prog 20 #[.pointer (some ⟨b, 0, none⟩), .pointer q] w fun e w' => e = .returned (.bool false) ∧ Below w.heap.size w w' := by
  go_enter Try.func20, Try.ntmps20
  go_wp2_with fail
  refine (none_live h).mono ?_; rintro e w1 ⟨rfl, k1⟩
  have h1 := h.step k1
  have g1 := k.step k1
  go_wp2_with fail
  refine (none_no g1).mono ?_; rintro e w2 ⟨rfl, k2⟩
  have h2 := h1.step k2
  have kk := k1.trans (k2.mono k1.size)
  go_wp2_with fail
  refine (none_live h2).mono ?_; rintro e w3 ⟨rfl, k3⟩
  go_wp2_with fail
  go_ret
  exact ⟨rfl, kk.trans (k3.mono kk.size)⟩
theorem Same_nl {w : World} {b m : Nat} {P : List Ten} {T : Thr} {q : Option Addr} (h : DkAt w b m P T) (k : NoDk w q) : Calls Try.prog 20 #[.pointer q, .pointer (some ⟨b, 0, none⟩)] w fun e w' => e = .returned (.bool false) ∧ Below w.heap.size w w' := by
  go_enter Try.func20, Try.ntmps20
  go_wp2_with fail
  refine (none_no k).mono ?_; rintro e w1 ⟨rfl, k1⟩
  have h1 := h.step k1
  have g1 := k.step k1
  go_wp2_with fail
  refine (none_no g1).mono ?_; rintro e w2 ⟨rfl, k2⟩
  have h2 := h1.step k2
  have kk := k1.trans (k2.mono k1.size)
  go_wp2_with fail
  refine (none_live h2).mono ?_; rintro e w3 ⟨rfl, k3⟩
  go_wp2_with fail
  go_ret
  exact ⟨rfl, kk.trans (k3.mono kk.size)⟩
theorem Same_nn {w : World} {p q : Option Addr} (h : NoDk w p) (k : NoDk w q) : Calls Try.prog 20 #[.pointer p, .pointer q] w fun e w' => e = .returned (.bool true) ∧ Below w.heap.size w w' := by
  go_enter Try.func20, Try.ntmps20
  go_wp2_with fail
  refine (none_no h).mono ?_; rintro e w1 ⟨rfl, k1⟩
  have h1 := h.step k1
  have g1 := k.step k1
  go_wp2_with fail
  refine (none_no h1).mono ?_; rintro e w2 ⟨rfl, k2⟩
  have g2 := g1.step k2
  have kk := k1.trans (k2.mono k1.size)
  go_wp2_with fail
  refine (none_no g2).mono ?_; rintro e w3 ⟨rfl, k3⟩
  go_wp2_with fail
  go_ret
  exact ⟨rfl, kk.trans (k3.mono kk.size)⟩
end Go.Proofs.Ytchknegenaoliaa
