/-
  Package pinfoldref08: Of, Same, Map. Conditions: rows, few.
-/
import Derived.Test.YtchepkihlnpfeaaPgI
namespace Go.Proofs.Ytchepkihlnpfeaa
open Go.RowKit
attribute [local go_sem] Oper.semAt_some
set_option maxHeartbeats 4000000
set_option maxRecDepth 8000

/-! ### Of -/
theorem Of_ok (v : Value) (D : Tb) (B : Nat) (o : Int) (w : World) (hB : B ≤ w.heap.size) (hl : D.length < 1000000) (hv : RowAt B w v D.length (rowT D)) :
    Calls Try.prog 20 #[.agg #[v], .int .i64 o] w fun e w' => ∃ v', e = .returned v' ∧ w'.ownsRow w.heap.size 55 4 v' (ofR D o).length (rowT (ofR D o)) ∧ Below w.heap.size w w' := by
  obtain ⟨a1, c1, rfl, _⟩ := hv.len
  obtain ⟨w0, hw0⟩ : ∃ w0, w.alloc (.cells #[.slice a1 D.length c1] 28) = w0 := ⟨_, rfl⟩
  have hX : Blk w0 w.heap.size #[.slice a1 D.length c1] 28 := by rw [← hw0]; exact Blk.new w _ _
  have k0 : Below w.heap.size w w0 := by rw [← hw0]; exact (Below.refl _ w).alloc (Nat.le_refl _) _
  have z0 : w0.heap.size = w.heap.size + 1 := by rw [← hw0]; simp
  have H1 := Lib.hid (hv.below k0 hB)
  have hown0 : w0.ownsRow (w.heap.size + 1) 55 4 (.slice none 0 0) 0 [] := ⟨rfl, .inl ⟨rfl, rfl⟩⟩
  clear hv
  go_enter Try.func20, Try.ntmps20
  go_wp2_with fail
  clear hw0
  obtain ⟨s, hs⟩ : ∃ s, w.heap.size = s := ⟨_, rfl⟩
  rw [hs] at z0 hX k0 hB hown0 ⊢
  go_loopw [5, 6] (fun v i wr => ∃ k : Nat, k ≤ D.length ∧ i = .int .i64 k ∧ wr.ownsRow (s + 1) 55 4 v (ofR (D.take k) o).length (rowT (ofR (D.take k) o)) ∧ Below (s + 1) w0 wr) (fun _ i _ => D.length - (intOf i).toNat)
  case atStart => exact ⟨0, by omega, rfl, hown0, Below.refl _ _⟩
  case round =>
    obtain ⟨k, hk, rfl, hown, hb⟩ := hrel
    clear hown0
    have cb := (hX.below hb (by omega)).cell 0 rfl
    by_cases hlt : k < D.length
    · obtain ⟨b1, o1, rfl, _, q⟩ := (H1.out.below (hb.mono (Nat.le_succ s)) hB).gett k hlt
      have i0 : (0 : Int) ≤ k := by omega
      have i1 : (k : Int) < D.length := by omega
      have hst := of_succ D o k hlt
      have hlen : (ofR (D.take k) o).length ≤ D.length := by
        have := List.length_filter_le (fun x : Int × Ent => x.2.o == o) (D.take k)
        rw [List.length_take] at this
        unfold ofR; omega
      obtain ⟨⟨xk, xo, xm, xf⟩, hy⟩ : ∃ y, D[k] = y := ⟨_, rfl⟩
      rw [hy] at q hst
      obtain ⟨q0, q1, q2, q3⟩ := q
      dsimp only at q0 q1 q2 q3 hst
      clear hy
      by_cases hx : xo = o
      · subst hx
        rw [if_pos rfl] at hst
        have HST := Lib.hid hst
        generalize ofR (D.take k) xo = ys at hown hlen HST
        clear hst
        have ha1 := owns_below hown ((Below.refl _ wr).alloc (Nat.le_refl _) (.cells #[.int .i64 xk, .int .i64 xo, .int .i64 xm, .int .i64 xf] 55)) (Nat.le_refl _)
        have hzY := hb.size
        go_wp2_with (at_builtin; refine wpList_append_row rfl _ _ 26 rfl (s + 1) Try.underlying26 infoRow ys.length (rowT ys) rfl ha1 (wr.heap.size + 1) 1 [.int .i64 xk, .int .i64 xo, .int .i64 xm, .int .i64 xf] rfl (RowAt.lit wr #[.int .i64 xk, .int .i64 xo, .int .i64 xm, .int .i64 xf] 55 1 _ (by omega)) rfl ?c4 ?c5 ?c6 ?c7 ?_)
        case c4 => intro u hu; simp at hu; rcases hu with rfl | rfl | rfl | rfl <;> rfl
        case c5 => unfold maxLen; omega
        case c6 => omega
        case c7 => simp; omega
        intro v2 w2 ho2 hg2
        have k2 := (hb.alloc (by omega) (.cells #[.int .i64 xk, .int .i64 xo, .int .i64 xm, .int .i64 xf] 55)).appended ha1 hg2 (Nat.le_refl _) (by simp; omega)
        clear ha1 hg2 hown
        go_wp2_with fail
        exact ⟨⟨k + 1, by omega, by go_num, by rw [HST.out, List.length_append, rowT_snoc]; exact ho2, k2⟩, by simp [intOf]; omega⟩
      · rw [if_neg hx] at hst
        have HST := Lib.hid hst
        have HO := Lib.hid hown
        have hx' : (xo == o) = false := by simpa using hx
        clear hst hown
        go_wp2_with fail
        exact ⟨⟨k + 1, by omega, by go_num, by rw [HST.out]; exact HO.out, hb⟩, by simp [intOf]; omega⟩
    · obtain rfl : k = D.length := by omega
      rw [List.take_length] at hown
      have HO := Lib.hid (owns_weaken hown (Nat.le_succ s))
      have hb9 := k0.trans (hb.mono (Nat.le_succ s))
      obtain ⟨a2, c2, rfl, _⟩ := (RowAt.of_owns hown (Nat.le_refl _)).len
      clear hown
      go_wp2_with fail
      go_ret
      exact ⟨_, rfl, by rw [hs]; exact HO.out, by rw [hs]; exact hb9⟩
/-! ### Same -/
structure SmS (b1 o1 b2 o2 : Nat) (x y : Int × Ent) (Y : World) : Prop where
  p : RowC Y b1 o1 x
  q : RowC Y b2 o2 y
theorem rSame_ok (v u : Value) (D E : Tb) (B : Nat) (w : World) (hB : B ≤ w.heap.size) (hl : D.length < 1000000) (hv : RowAt B w v D.length (rowT D)) (hu : RowAt B w u E.length (rowT E)) :
    Calls Try.prog 19 #[v, u] w fun e w' => e = .returned (.bool (decide (D = E))) ∧ Below w.heap.size w w' := by
  have H1 := Lib.hid hv
  have H2 := Lib.hid hu
  obtain ⟨a1, c1, rfl, _⟩ := hv.len
  obtain ⟨a2, c2, rfl, _⟩ := hu.len
  clear hv hu
  by_cases hlen : D.length = E.length
  · have hlen' : (D.length : Int) = E.length := by omega
    have HL := Lib.hid hlen
    clear hlen'
    rw [hlen] at H1 hl ⊢
    clear hlen
    go_enter Try.func19, Try.ntmps19
    go_wp2_with fail
    go_loopw [5] (fun i wr => ∃ c : Nat, c ≤ E.length ∧ i = .int .i64 c ∧ (∀ j (hj : j < D.length) (hj2 : j < E.length), j < c → D[j] = E[j]) ∧ Below w.heap.size w wr) (fun i _ => E.length - (intOf i).toNat)
    case atStart => exact ⟨0, by omega, rfl, fun j _ _ h => by omega, Below.refl _ _⟩
    case round =>
      obtain ⟨c, hc, rfl, hn, k0⟩ := hrel
      have HN := Lib.hid hn
      clear hn
      by_cases hlt : c < E.length
      · have h1' : RowAt B wr (.slice a1 D.length c1) D.length (rowT D) := by
          have := H1.out.below k0 hB
          rw [← HL.out] at this
          exact this
        obtain ⟨b1, o1, rfl, _, q1⟩ := h1'.gett c (by rw [HL.out]; exact hlt)
        obtain ⟨b2, o2, rfl, _, q2⟩ := (H2.out.below k0 hB).gett c hlt
        have i0 : (0 : Int) ≤ c := by omega
        have i1 : (c : Int) < E.length := by omega
        obtain ⟨⟨xk, xo, xm, xf⟩, hx⟩ : ∃ x, D[c]'(by rw [HL.out]; exact hlt) = x := ⟨_, rfl⟩
        obtain ⟨⟨yk, yo, ym, yf⟩, hy⟩ : ∃ x, E[c] = x := ⟨_, rfl⟩
        rw [hx] at q1
        rw [hy] at q2
        clear h1'
        by_cases he : (xk, (⟨xo, xm, xf⟩ : Ent)) = (yk, ⟨yo, ym, yf⟩)
        · have HE := Lib.hid (show ∀ (h9 : c < D.length), D[c] = E[c] from fun h9 => by rw [hy]; exact hx.trans he)
          simp only [Prod.mk.injEq, Ent.mk.injEq] at he
          obtain ⟨rfl, rfl, rfl, rfl⟩ := he
          clear hx hy
          go_wp2_with fail
          refine wp_onlyN ?_
          refine wp_region_held_drew (S := SmS b1 (o1 + c * 4) b2 (o2 + c * 4) (xk, ⟨xo, xm, xf⟩) (xk, ⟨xo, xm, xf⟩)) (by kernel_rfl) ⟨⟨q1.c0, q1.c1, q1.c2, q1.c3⟩, ⟨q2.c0, q2.c1, q2.c2, q2.c3⟩⟩ (fun hHeld => ?_)
          refine wpAnyH_take (i := 0) (v := ?_) rfl (by kernel_rfl) (by kernel_rfl) (by kernel_rfl) (fun _ _ _ h => h) (Or.inl ⟨by rfl, ?_⟩) (by assumption) ?_
          rotate_left
          · (intro Y hSw; (try dsimp only at hSw); obtain ⟨⟨hS0, hS1, hS2, hS3⟩, ⟨hT0, hT1, hT2, hT3⟩⟩ := hSw; go_simp; try with_reducible rfl)
          try simp only [Act.put, List.getElem_toArray, List.getElem_cons_zero, List.getElem_cons_succ, List.setIfInBounds_toArray, List.set_cons_zero, List.set_cons_succ]
          refine wpAnyH_take (i := 1) (v := ?_) rfl (by kernel_rfl) (by kernel_rfl) (by kernel_rfl) (fun _ _ _ h => h) (Or.inl ⟨by rfl, ?_⟩) (by assumption) ?_
          rotate_left
          · (intro Y hSw; (try dsimp only at hSw); obtain ⟨⟨hS0, hS1, hS2, hS3⟩, ⟨hT0, hT1, hT2, hT3⟩⟩ := hSw; go_simp; try with_reducible rfl)
          try simp only [Act.put, List.getElem_toArray, List.getElem_cons_zero, List.getElem_cons_succ, List.setIfInBounds_toArray, List.set_cons_zero, List.set_cons_succ]
          refine wpAnyH_take (i := 2) (v := ?_) rfl (by kernel_rfl) (by kernel_rfl) (by kernel_rfl) (fun _ _ _ h => h) (Or.inl ⟨by rfl, ?_⟩) (by assumption) ?_
          rotate_left
          · (intro Y hSw; (try dsimp only at hSw); obtain ⟨⟨hS0, hS1, hS2, hS3⟩, ⟨hT0, hT1, hT2, hT3⟩⟩ := hSw; go_simp; try with_reducible rfl)
          try simp only [Act.put, List.getElem_toArray, List.getElem_cons_zero, List.getElem_cons_succ, List.setIfInBounds_toArray, List.set_cons_zero, List.set_cons_succ]
          refine wpAnyH_take (i := 3) (v := ?_) rfl (by kernel_rfl) (by kernel_rfl) (by kernel_rfl) (fun _ _ _ h => h) (Or.inl ⟨by rfl, ?_⟩) (by assumption) ?_
          rotate_left
          · (intro Y hSw; (try dsimp only at hSw); obtain ⟨⟨hS0, hS1, hS2, hS3⟩, ⟨hT0, hT1, hT2, hT3⟩⟩ := hSw; go_simp; try with_reducible rfl)
          try simp only [Act.put, List.getElem_toArray, List.getElem_cons_zero, List.getElem_cons_succ, List.setIfInBounds_toArray, List.set_cons_zero, List.set_cons_succ]
          refine wpAnyH_take (i := 4) (v := ?_) rfl (by kernel_rfl) (by kernel_rfl) (by kernel_rfl) (fun _ _ _ h => h) (Or.inl ⟨by rfl, ?_⟩) (by assumption) ?_
          rotate_left
          · (intro Y hSw; (try dsimp only at hSw); obtain ⟨⟨hS0, hS1, hS2, hS3⟩, ⟨hT0, hT1, hT2, hT3⟩⟩ := hSw; go_simp; try with_reducible rfl)
          try simp only [Act.put, List.getElem_toArray, List.getElem_cons_zero, List.getElem_cons_succ, List.setIfInBounds_toArray, List.set_cons_zero, List.set_cons_succ]
          refine wpAnyH_take (i := 5) (v := ?_) rfl (by kernel_rfl) (by kernel_rfl) (by kernel_rfl) (fun _ _ _ h => h) (Or.inl ⟨by rfl, ?_⟩) (by assumption) ?_
          rotate_left
          · (intro Y hSw; (try dsimp only at hSw); obtain ⟨⟨hS0, hS1, hS2, hS3⟩, ⟨hT0, hT1, hT2, hT3⟩⟩ := hSw; go_simp; try with_reducible rfl)
          try simp only [Act.put, List.getElem_toArray, List.getElem_cons_zero, List.getElem_cons_succ, List.setIfInBounds_toArray, List.set_cons_zero, List.set_cons_succ]
          refine wpAnyH_take (i := 6) (v := ?_) rfl (by kernel_rfl) (by kernel_rfl) (by kernel_rfl) (fun _ _ _ h => h) (Or.inl ⟨by rfl, ?_⟩) (by assumption) ?_
          rotate_left
          · (intro Y hSw; (try dsimp only at hSw); obtain ⟨⟨hS0, hS1, hS2, hS3⟩, ⟨hT0, hT1, hT2, hT3⟩⟩ := hSw; go_simp; try with_reducible rfl)
          try simp only [Act.put, List.getElem_toArray, List.getElem_cons_zero, List.getElem_cons_succ, List.setIfInBounds_toArray, List.set_cons_zero, List.set_cons_succ]
          refine wpAnyH_take (i := 7) (v := ?_) rfl (by kernel_rfl) (by kernel_rfl) (by kernel_rfl) (fun _ _ _ h => h) (Or.inl ⟨by rfl, ?_⟩) (by assumption) ?_
          rotate_left
          · (intro Y hSw; (try dsimp only at hSw); obtain ⟨⟨hS0, hS1, hS2, hS3⟩, ⟨hT0, hT1, hT2, hT3⟩⟩ := hSw; go_simp; try with_reducible rfl)
          try simp only [Act.put, List.getElem_toArray, List.getElem_cons_zero, List.getElem_cons_succ, List.setIfInBounds_toArray, List.set_cons_zero, List.set_cons_succ]
          refine wpAnyH_take (i := 8) (v := ?_) rfl (by kernel_rfl) (by kernel_rfl) (by kernel_rfl) (fun _ _ _ h => h) (Or.inl ⟨by rfl, ?_⟩) (by assumption) ?_
          rotate_left
          · (intro Y hSw; (try dsimp only at hSw); obtain ⟨⟨hS0, hS1, hS2, hS3⟩, ⟨hT0, hT1, hT2, hT3⟩⟩ := hSw; go_simp; try with_reducible rfl)
          try simp only [Act.put, List.getElem_toArray, List.getElem_cons_zero, List.getElem_cons_succ, List.setIfInBounds_toArray, List.set_cons_zero, List.set_cons_succ]
          refine wpAnyH_done (by kernel_rfl) ?_ _
          rw [onlyN_normal]
          go_wp2_with fail
          exact ⟨⟨c + 1, by omega, by go_num, fun j hj hj2 hjc => by rcases Nat.lt_or_ge j c with h | h; exact HN.out j hj hj2 h; (have : j = c := by omega); subst this; exact HE.out hj, k0.drew⟩, by simp [intOf]; omega⟩
        · have hne : decide (D = E) = false := decide_eq_false fun e => by subst e; exact he (hx.symm.trans hy)
          have HNE := Lib.hid hne
          have HE := Lib.hid he
          clear hne he hx hy
          go_wp2_with fail
          refine wp_onlyN ?_
          refine wp_region_held_drew (S := SmS b1 (o1 + c * 4) b2 (o2 + c * 4) (xk, ⟨xo, xm, xf⟩) (yk, ⟨yo, ym, yf⟩)) (by kernel_rfl) ⟨⟨q1.c0, q1.c1, q1.c2, q1.c3⟩, ⟨q2.c0, q2.c1, q2.c2, q2.c3⟩⟩ (fun hHeld => ?_)
          refine wpAnyH_take (i := 0) (v := ?_) rfl (by kernel_rfl) (by kernel_rfl) (by kernel_rfl) (fun _ _ _ h => h) (Or.inl ⟨by rfl, ?_⟩) (by assumption) ?_
          rotate_left
          · (intro Y hSw; (try dsimp only at hSw); obtain ⟨⟨hS0, hS1, hS2, hS3⟩, ⟨hT0, hT1, hT2, hT3⟩⟩ := hSw; go_simp; try with_reducible rfl)
          try simp only [Act.put, List.getElem_toArray, List.getElem_cons_zero, List.getElem_cons_succ, List.setIfInBounds_toArray, List.set_cons_zero, List.set_cons_succ]
          refine wpAnyH_take (i := 1) (v := ?_) rfl (by kernel_rfl) (by kernel_rfl) (by kernel_rfl) (fun _ _ _ h => h) (Or.inl ⟨by rfl, ?_⟩) (by assumption) ?_
          rotate_left
          · (intro Y hSw; (try dsimp only at hSw); obtain ⟨⟨hS0, hS1, hS2, hS3⟩, ⟨hT0, hT1, hT2, hT3⟩⟩ := hSw; go_simp; try with_reducible rfl)
          try simp only [Act.put, List.getElem_toArray, List.getElem_cons_zero, List.getElem_cons_succ, List.setIfInBounds_toArray, List.set_cons_zero, List.set_cons_succ]
          refine wpAnyH_take (i := 2) (v := ?_) rfl (by kernel_rfl) (by kernel_rfl) (by kernel_rfl) (fun _ _ _ h => h) (Or.inl ⟨by rfl, ?_⟩) (by assumption) ?_
          rotate_left
          · (intro Y hSw; (try dsimp only at hSw); obtain ⟨⟨hS0, hS1, hS2, hS3⟩, ⟨hT0, hT1, hT2, hT3⟩⟩ := hSw; go_simp; try with_reducible rfl)
          try simp only [Act.put, List.getElem_toArray, List.getElem_cons_zero, List.getElem_cons_succ, List.setIfInBounds_toArray, List.set_cons_zero, List.set_cons_succ]
          refine wpAnyH_take (i := 3) (v := ?_) rfl (by kernel_rfl) (by kernel_rfl) (by kernel_rfl) (fun _ _ _ h => h) (Or.inl ⟨by rfl, ?_⟩) (by assumption) ?_
          rotate_left
          · (intro Y hSw; (try dsimp only at hSw); obtain ⟨⟨hS0, hS1, hS2, hS3⟩, ⟨hT0, hT1, hT2, hT3⟩⟩ := hSw; go_simp; try with_reducible rfl)
          try simp only [Act.put, List.getElem_toArray, List.getElem_cons_zero, List.getElem_cons_succ, List.setIfInBounds_toArray, List.set_cons_zero, List.set_cons_succ]
          refine wpAnyH_take (i := 4) (v := ?_) rfl (by kernel_rfl) (by kernel_rfl) (by kernel_rfl) (fun _ _ _ h => h) (Or.inl ⟨by rfl, ?_⟩) (by assumption) ?_
          rotate_left
          · (intro Y hSw; (try dsimp only at hSw); obtain ⟨⟨hS0, hS1, hS2, hS3⟩, ⟨hT0, hT1, hT2, hT3⟩⟩ := hSw; go_simp; try with_reducible rfl)
          try simp only [Act.put, List.getElem_toArray, List.getElem_cons_zero, List.getElem_cons_succ, List.setIfInBounds_toArray, List.set_cons_zero, List.set_cons_succ]
          refine wpAnyH_take (i := 5) (v := ?_) rfl (by kernel_rfl) (by kernel_rfl) (by kernel_rfl) (fun _ _ _ h => h) (Or.inl ⟨by rfl, ?_⟩) (by assumption) ?_
          rotate_left
          · (intro Y hSw; (try dsimp only at hSw); obtain ⟨⟨hS0, hS1, hS2, hS3⟩, ⟨hT0, hT1, hT2, hT3⟩⟩ := hSw; go_simp; try with_reducible rfl)
          try simp only [Act.put, List.getElem_toArray, List.getElem_cons_zero, List.getElem_cons_succ, List.setIfInBounds_toArray, List.set_cons_zero, List.set_cons_succ]
          refine wpAnyH_take (i := 6) (v := ?_) rfl (by kernel_rfl) (by kernel_rfl) (by kernel_rfl) (fun _ _ _ h => h) (Or.inl ⟨by rfl, ?_⟩) (by assumption) ?_
          rotate_left
          · (intro Y hSw; (try dsimp only at hSw); obtain ⟨⟨hS0, hS1, hS2, hS3⟩, ⟨hT0, hT1, hT2, hT3⟩⟩ := hSw; go_simp; try with_reducible rfl)
          try simp only [Act.put, List.getElem_toArray, List.getElem_cons_zero, List.getElem_cons_succ, List.setIfInBounds_toArray, List.set_cons_zero, List.set_cons_succ]
          refine wpAnyH_take (i := 7) (v := ?_) rfl (by kernel_rfl) (by kernel_rfl) (by kernel_rfl) (fun _ _ _ h => h) (Or.inl ⟨by rfl, ?_⟩) (by assumption) ?_
          rotate_left
          · (intro Y hSw; (try dsimp only at hSw); obtain ⟨⟨hS0, hS1, hS2, hS3⟩, ⟨hT0, hT1, hT2, hT3⟩⟩ := hSw; go_simp; try with_reducible rfl)
          try simp only [Act.put, List.getElem_toArray, List.getElem_cons_zero, List.getElem_cons_succ, List.setIfInBounds_toArray, List.set_cons_zero, List.set_cons_succ]
          refine wpAnyH_take (i := 8) (v := .bool true) rfl (by kernel_rfl) (by kernel_rfl) (by kernel_rfl) (fun _ _ _ h => h) (Or.inl ⟨by rfl, by intro Y hSw; go_simp; intro e1 e2 e3 e4; subst e1; subst e2; subst e3; subst e4; exact HE.out rfl⟩) (by assumption) ?_
          try simp only [Act.put, List.getElem_toArray, List.getElem_cons_zero, List.getElem_cons_succ, List.setIfInBounds_toArray, List.set_cons_zero, List.set_cons_succ]
          refine wpAnyH_done (by kernel_rfl) ?_ _
          rw [onlyN_normal]
          go_wp2_with fail
          go_ret
          exact ⟨by rw [HNE.out]; rfl, k0.drew⟩
      · obtain rfl : c = E.length := by omega
        have hyes : decide (D = E) = true := decide_eq_true (List.ext_getElem HL.out fun j h1 h2 => HN.out j h1 h2 h2)
        have HY := Lib.hid hyes
        clear hyes
        go_wp2_with fail
        go_ret
        exact ⟨by rw [HY.out]; rfl, k0⟩
  · have hne : decide (D = E) = false := decide_eq_false fun e => hlen (by rw [e])
    have HN := Lib.hid hne
    have hl' : ¬ (D.length : Int) = E.length := by omega
    clear hne
    go_enter Try.func19, Try.ntmps19
    go_wp2_with fail
    go_ret
    exact ⟨by rw [HN.out]; rfl, Below.refl _ _⟩
end Go.Proofs.Ytchepkihlnpfeaa
