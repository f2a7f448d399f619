/-
  Package pinfoldlaw18: num, works; the reference's Ints, Thread, Class. Conditions: rows of fewer than a million.
-/
import Derived.Test.YtkilmppmghkigaaCaL
namespace Go.Proofs.Ytkilmppmghkigaa
open Go.RowKit
attribute [local go_sem] Oper.semAt_some
set_option maxHeartbeats 4000000
set_option maxRecDepth 4000

theorem num_calls (n : Int) (w : World) : Calls Try.prog 14 #[.int .i64 n] w fun e w' => e = .returned (.int .i64 n) ∧ w = w' := by
  go_enter Try.func14, Try.ntmps14
  go_wp2
  go_ret
  exact ⟨rfl, rfl⟩
theorem Thread_calls (n : Int) (w : World) : Calls Try.prog 6 #[.int .i64 n] w fun e w' => e = .returned (.bool (!badIn n 4)) ∧ w = w' := by
  by_cases h1 : n < 0
  · have hb : (!badIn n 4) = false := by simp [badIn, h1]
    rw [hb]
    clear hb
    go_enter Try.func6, Try.ntmps6
    go_wp2_with fail
    go_ret
    exact ⟨rfl, rfl⟩
  · by_cases h2 : 4 ≤ n
    · have hb : (!badIn n 4) = false := by simp [badIn, h2]
      have hd : decide (n < 4) = false := by simp; omega
      rw [hb]
      clear hb
      go_enter Try.func6, Try.ntmps6
      go_wp2_with fail
      go_ret
      exact ⟨rfl, rfl⟩
    · have hb : (!badIn n 4) = true := by simp [badIn]; omega
      rw [hb]
      clear hb
      go_enter Try.func6, Try.ntmps6
      go_wp2_with fail
      go_ret
      exact ⟨rfl, rfl⟩
theorem Class_calls (n : Int) (w : World) : Calls Try.prog 7 #[.int .i64 n] w fun e w' => e = .returned (.bool (!badIn n 8)) ∧ w = w' := by
  by_cases h1 : n < 0
  · have hb : (!badIn n 8) = false := by simp [badIn, h1]
    rw [hb]
    clear hb
    go_enter Try.func7, Try.ntmps7
    go_wp2_with fail
    go_ret
    exact ⟨rfl, rfl⟩
  · by_cases h2 : 8 ≤ n
    · have hb : (!badIn n 8) = false := by simp [badIn, h2]
      have hd : decide (n < 8) = false := by simp; omega
      rw [hb]
      clear hb
      go_enter Try.func7, Try.ntmps7
      go_wp2_with fail
      go_ret
      exact ⟨rfl, rfl⟩
    · have hb : (!badIn n 8) = true := by simp [badIn]; omega
      rw [hb]
      clear hb
      go_enter Try.func7, Try.ntmps7
      go_wp2_with fail
      go_ret
      exact ⟨rfl, rfl⟩
theorem ints_ok (v1 v2 : Value) (l1 l2 : List Int) (B1 B2 : Nat) (w : World) (hl1 : l1.length < 1000000) (hl2 : l2.length < 1000000) (hv1 : RowAt B1 w v1 l1.length (intVals .i64 l1)) (hv2 : RowAt B2 w v2 l2.length (intVals .i64 l2)) (hB1 : B1 ≤ w.heap.size) (hB2 : B2 ≤ w.heap.size) :
    Calls Try.prog 25 #[v1, v2] w fun e w' => e = .returned (.bool (decide (l1 = l2))) ∧ Below w.heap.size w w' := by
  obtain ⟨d, hd⟩ : ∃ d, decide (l1 = l2) = d := ⟨_, rfl⟩
  rw [hd]
  have HD := Lib.hid hd
  have H1 := Lib.hid hv1
  have H2 := Lib.hid hv2
  obtain ⟨a1, c1, rfl, _⟩ := hv1.len
  obtain ⟨a2, c2, rfl, _⟩ := hv2.len
  clear hd hv1 hv2
  by_cases he : l1.length = l2.length
  · have hne : ((l1.length : Int) != l2.length) = false := by rw [he]; simp
    have HE := Lib.hid he
    clear he
    go_enter Try.func25, Try.ntmps25
    go_wp2_with fail
    go_loopw [5] (fun i wr => ∃ k : Nat, k ≤ l1.length ∧ i = .int .i64 k ∧ (∀ j (h1 : j < l1.length) (h2 : j < l2.length), j < k → l1[j] = l2[j]) ∧ Below w.heap.size w wr) (fun i _ => l1.length - (intOf i).toNat)
    case atStart => exact ⟨0, by omega, rfl, fun j _ _ hj => by omega, Below.refl _ _⟩
    case round =>
      obtain ⟨k, hk, rfl, hn, hb⟩ := hrel
      have HN := Lib.hid hn
      clear hn
      by_cases hlt : k < l1.length
      · have hlt2 : k < l2.length := by rw [← HE.out]; exact hlt
        obtain ⟨b1, o1, rfl, _, q1⟩ := (H1.out.below hb hB1).geti k hlt
        obtain ⟨b2, o2, rfl, _, q2⟩ := (H2.out.below hb hB2).geti k hlt2
        have i0 : (0 : Int) ≤ k := by omega
        have i1 : (k : Int) < l1.length := by omega
        have i2 : (k : Int) < l2.length := by omega
        by_cases hx : l1[k] = l2[k]
        · have hx' : (l1[k] != l2[k]) = false := by simpa using hx
          have HX := Lib.hid hx
          clear hx
          go_wp2_with fail
          go_quiet (fail)
          go_wp2_with fail
          refine ⟨⟨k + 1, by omega, by go_num, fun j h1 h2 hj => ?_, hb.drewN _⟩, by simp [intOf]; omega⟩
          by_cases e : j = k
          · subst e; exact HX.out
          · exact HN.out j h1 h2 (by omega)
        · have hx' : (l1[k] != l2[k]) = true := by simpa using hx
          have hdf : d = false := by
            rw [← HD.out, decide_eq_false_iff_not]
            intro e
            exact hx (by subst e; rfl)
          subst hdf
          clear hx
          go_wp2_with fail
          go_quiet (fail)
          go_wp2_with fail
          go_ret
          exact ⟨rfl, hb.drewN _⟩
      · obtain rfl : k = l1.length := by omega
        have hdt : d = true := by
          rw [← HD.out, decide_eq_true_eq]
          exact List.ext_getElem HE.out fun j h1 h2 => HN.out j h1 h2 h1
        subst hdt
        go_wp2_with fail
        go_ret
        exact ⟨rfl, hb⟩
  · have hne : ((l1.length : Int) != l2.length) = true := by simp; omega
    have hdf : d = false := by
      rw [← HD.out, decide_eq_false_iff_not]
      intro e
      exact he (by rw [e])
    subst hdf
    clear he
    go_enter Try.func25, Try.ntmps25
    go_wp2_with fail
    go_ret
    exact ⟨rfl, Below.refl _ _⟩
/-- Shelves that were made behind w0. -/
structure Live (w0 W : World) (s : Nat) (L : Nat → List Int) : Prop where
  sh : ShAt W s L
  bel : Below w0.heap.size w0 W
  lo : w0.heap.size ≤ s
section
variable {w0 W W' : World} {s : Nat} {L L' : Nat → List Int}
theorem Live.step (h : Live w0 W s L) (k : Below W.heap.size W W') : Live w0 W' s L := ⟨h.sh.step k, h.bel.trans (k.mono h.bel.size), h.lo⟩
theorem Live.to (h : Live w0 W s L) (hp : ShAt W' s L') (k : Chg s W W') : Live w0 W' s L' := ⟨hp, h.bel.trans (k.below h.lo h.bel.size), h.lo⟩
theorem Live.put (h : Live w0 W s L) (hL : ∀ i, (L i).length < 1000000) (t c x er : Int) (h1 : putErr L t c x = er) (h2 : putAfter L t c x = L') :
    Calls Try.prog 10 #[.pointer (some ⟨s, 0, none⟩), .int .i64 t, .int .i64 c, .int .i64 x] W fun e W' => e = .returned (.int .i64 er) ∧ Live w0 W' s L' := by
  refine (Put_ok h.sh hL t c x).mono ?_
  rintro e W' ⟨rfl, hp, hc, _⟩
  rw [h2] at hp
  exact ⟨by rw [h1], h.to hp hc⟩
theorem Live.take (h : Live w0 W s L) (hL : ∀ i, (L i).length < 1000000) (t c v er : Int) (h0 : takVal L t c = v) (h1 : takErr L t c = er) (h2 : takAfter L t c = L') :
    Calls Try.prog 11 #[.pointer (some ⟨s, 0, none⟩), .int .i64 t, .int .i64 c] W fun e W' => e = .returned (.tuple #[.int .i64 v, .int .i64 er]) ∧ Live w0 W' s L' := by
  refine (Take_ok h.sh hL t c).mono ?_
  rintro e W' ⟨rfl, hp, hc⟩
  rw [h2] at hp
  exact ⟨by rw [h0, h1], h.to hp hc⟩
theorem Live.drop (h : Live w0 W s L) (hL : ∀ i, (L i).length < 1000000) (c x v er : Int) (h0 : drpVal L c x = v) (h1 : drpErr L c x = er) (h2 : drpAfter L c x = L') :
    Calls Try.prog 13 #[.pointer (some ⟨s, 0, none⟩), .int .i64 c, .int .i64 x] W fun e W' => e = .returned (.tuple #[.int .i64 v, .int .i64 er]) ∧ Live w0 W' s L' ∧ Chg s W W' := by
  refine (Drop_ok h.sh hL c x).mono ?_
  rintro e W' ⟨rfl, hp, hc⟩
  rw [h2] at hp
  exact ⟨by rw [h0, h1], h.to hp hc, hc⟩
end
/-- One shelf with slots, the second thread's of the first class. -/
def one (a : List Int) : Nat → List Int := fun i => if i = 8 then a else []
theorem one_upd (a b : List Int) : upd (one a) 8 b = one b := by
  funext i
  unfold upd one
  split <;> rfl
theorem one_nil : (fun _ => []) = one [] := by
  funext i
  unfold one
  split <;> rfl
theorem one_few {a : List Int} (h : a.length < 1000000) (i : Nat) : (one a i).length < 1000000 := by
  unfold one
  split
  · exact h
  · simp
theorem one_put {a : List Int} {x : Int} (h : putErr (one a) 1 0 x = 0) : putAfter (one a) 1 0 x = one (a ++ [x]) := by
  unfold putAfter
  rw [if_pos h]
  exact one_upd a _
theorem one_put_no {a : List Int} {t c x : Int} (h : putErr (one a) t c x ≠ 0) : putAfter (one a) t c x = one a := by
  unfold putAfter
  rw [if_neg h]
theorem one_take {a : List Int} (h : takErr (one a) 1 0 = 0) : takAfter (one a) 1 0 = one a.dropLast := by
  unfold takAfter
  rw [if_pos h]
  exact one_upd a _
theorem one_take_no {a : List Int} (h : takErr (one a) 1 0 ≠ 0) : takAfter (one a) 1 0 = one a := by
  unfold takAfter
  rw [if_neg h]
theorem one_spl (a : List Int) : splAfter (one a) 1 0 = one (a.drop 4) := by
  unfold splAfter
  rw [if_pos (by decide)]
  exact one_upd a _
theorem one_drop : drpAfter (one [5, 6, 7, 8]) 0 6 = one [5, 7, 8] := by
  unfold drpAfter
  rw [if_pos (by decide +kernel), show (hasT (one [5, 6, 7, 8]) (0 : Int).toNat 6).getD 0 * 8 + (0 : Int).toNat = 8 by decide +kernel, one_upd]
  rfl
def rng (k : Nat) : List Int := (List.range k).map fun (i : Nat) => (i : Int) + 1
theorem rng_succ (k : Nat) : rng (k + 1) = rng k ++ [(k : Int) + 1] := by simp [rng, List.range_succ]
theorem rng_put : ∀ k, k < 8 → putErr (one (rng k)) 1 0 ((k : Int) + 1) = 0 := by decide +kernel
set_option maxHeartbeats 8000000 in
theorem works_ok (w : World) : Calls Try.prog 8 #[] w fun e w' => e = .returned (.bool true) ∧ Below w.heap.size w w' := by
  go_enter Try.func8, Try.ntmps8
  go_wp2_with fail
  refine (New_calls w).mono ?_; rintro e W ⟨rfl, hp, hb⟩
  have L : Live w W w.heap.size (one []) := ⟨one_nil ▸ hp, hb, Nat.le_refl _⟩
  clear hp hb
  go_wp2_with fail
  refine (L.put (one_few (by decide)) 1 0 5 0 (by decide +kernel) (one_put (by decide +kernel))).mono ?_; clear L; (try clear W); rintro e W ⟨rfl, L⟩
  go_wp2_with fail
  refine (L.put (one_few (by decide)) 1 0 7 0 (by decide +kernel) (one_put (by decide +kernel))).mono ?_; clear L; (try clear W); rintro e W ⟨rfl, L⟩
  go_wp2_with fail
  refine (L.put (one_few (by decide)) 2 0 5 280 (by decide +kernel) (one_put_no (by decide +kernel))).mono ?_; clear L; (try clear W); rintro e W ⟨rfl, L⟩
  go_wp2_with fail
  refine (L.take (one_few (by decide)) 1 0 7 0 (by decide +kernel) (by decide +kernel) (one_take (by decide +kernel))).mono ?_; clear L; (try clear W); rintro e W ⟨rfl, L⟩
  go_wp2_with fail
  refine (L.take (one_few (by decide)) 1 0 5 0 (by decide +kernel) (by decide +kernel) (one_take (by decide +kernel))).mono ?_; clear L; (try clear W); rintro e W ⟨rfl, L⟩
  go_wp2_with fail
  refine (L.take (one_few (by decide)) 1 0 0 5 (by decide +kernel) (by decide +kernel) (one_take_no (by decide +kernel))).mono ?_; clear L; (try clear W); rintro e W ⟨rfl, L⟩
  go_wp2_with fail
  go_loopw [11, 12] (fun n i wr => ∃ k : Nat, k ≤ 8 ∧ n = .int .i64 0 ∧ i = .int .i64 ((k : Int) + 1) ∧ Live w wr w.heap.size (one (rng k))) (fun _ i _ => 9 - (intOf i).toNat)
  case atStart => exact ⟨0, by omega, rfl, rfl, L⟩
  case round =>
    obtain ⟨k, hk, rfl, rfl, L1⟩ := hrel
    clear L
    by_cases hlt : k < 8
    · have i0 : (0 : Int) ≤ k := by omega
      have i1 : (k : Int) < 8 := by omega
      go_wp2_with fail
      refine (L1.put (one_few (by simp [rng]; omega)) 1 0 ((k : Int) + 1) 0 (rng_put k hlt) (one_put (rng_put k hlt))).mono ?_; rintro e W2 ⟨rfl, L2⟩
      rw [← rng_succ] at L2
      go_wp2_with fail
      refine (num_calls _ _).mono ?_; rintro e _ ⟨rfl, rfl⟩
      go_wp2_with fail
      exact ⟨⟨k + 1, by omega, rfl, by go_num, L2⟩, by simp [intOf]; omega⟩
    · obtain rfl : k = 8 := by omega
      go_wp2_with fail
      refine (L1.put (one_few (by decide)) 1 0 9 3 (by decide +kernel) (one_put_no (by decide +kernel))).mono ?_; clear L1; (try clear wr); rintro e W ⟨rfl, L⟩
      go_wp2_with fail
      refine (Spill_ok L.sh (one_few (by decide)) 1 0).mono ?_; rintro e W1 ⟨v1, rfl, ho, hp, hc⟩
      rw [show splL (one (rng 8)) 1 0 = [1, 2, 3, 4] by decide +kernel] at ho
      rw [one_spl, show (rng 8).drop 4 = [5, 6, 7, 8] by decide +kernel] at hp
      rw [show shErr 1 0 = 0 by decide +kernel]
      have lW := L.sh.lt
      have L1 := L.to hp hc
      have o1 := ho
      have zc := hc.size
      clear ho hp hc L
      go_wp2_with fail
      refine (On_ok L1.sh (one_few (by decide)) 1 0).mono ?_; rintro e W2 ⟨v2, rfl, ho, k2⟩
      rw [show onL (one [5, 6, 7, 8]) 1 0 = [5, 6, 7, 8] by decide +kernel] at ho
      have L2 := L1.step k2
      have o2 := ho
      replace o1 := owns_below o1 k2 (Nat.le_refl _)
      clear ho k2 L1
      go_wp2_with fail
      refine (Has_ok L2.sh (one_few (by decide)) 0 6).mono ?_; rintro e W3 ⟨rfl, k3⟩
      rw [show hasR (one [5, 6, 7, 8]) 0 6 = some 1 by decide +kernel]
      have L3 := L2.step k3
      replace o1 := owns_below o1 k3 (Nat.le_refl _)
      replace o2 := owns_below o2 k3 (Nat.le_refl _)
      clear k3 L2
      go_wp2_with fail
      refine (L3.drop (one_few (by decide)) 0 6 1 0 (L' := one [5, 7, 8]) (by decide +kernel) (by decide +kernel) one_drop).mono ?_; rintro e W4 ⟨rfl, L4, c4⟩
      replace o1 := c4.owns o1 (by omega)
      replace o2 := c4.owns o2 (by omega)
      clear c4 L3
      go_wp2_with fail
      refine (Has_ok L4.sh (one_few (by decide)) 0 6).mono ?_; rintro e W5 ⟨rfl, k5⟩
      rw [show hasR (one [5, 7, 8]) 0 6 = none by decide +kernel]
      have r1 : RowAt W5.heap.size W5 v1 [(1 : Int), 2, 3, 4].length (intVals .i64 [1, 2, 3, 4]) := ((RowAt.of_owns o1 (Nat.le_refl _)).below k5 (Nat.le_refl _)).mono k5.size
      have r2 : RowAt W5.heap.size W5 v2 [(5 : Int), 6, 7, 8].length (intVals .i64 [5, 6, 7, 8]) := ((RowAt.of_owns o2 (Nat.le_refl _)).below k5 (Nat.le_refl _)).mono k5.size
      have L5 := L4.step k5
      clear o1 o2 k5 L4 W4
      go_wp2_with fail
      refine (num_calls _ _).mono ?_; rintro e _ ⟨rfl, rfl⟩
      go_wp2_with fail
      refine (num_calls _ _).mono ?_; rintro e _ ⟨rfl, rfl⟩
      go_wp2_with fail
      refine (num_calls _ _).mono ?_; rintro e _ ⟨rfl, rfl⟩
      go_wp2_with fail
      refine (num_calls _ _).mono ?_; rintro e _ ⟨rfl, rfl⟩
      go_wp2_with fail
      refine (num_calls _ _).mono ?_; rintro e _ ⟨rfl, rfl⟩
      go_wp2_with fail
      refine (num_calls _ _).mono ?_; rintro e _ ⟨rfl, rfl⟩
      go_wp2_with fail
      refine (num_calls _ _).mono ?_; rintro e _ ⟨rfl, rfl⟩
      go_wp2_with fail
      refine (num_calls _ _).mono ?_; rintro e _ ⟨rfl, rfl⟩
      go_wp2_with fail
      refine (num_calls _ _).mono ?_; rintro e _ ⟨rfl, rfl⟩
      go_wp2_with fail
      have jx : Below W5.heap.size W5 (W5.alloc (.cells #[.int .i64 1, .int .i64 2, .int .i64 3, .int .i64 4] 3)) := (Below.refl _ W5).alloc (Nat.le_refl _) _
      refine (ints_ok v1 _ [1, 2, 3, 4] [1, 2, 3, 4] W5.heap.size (W5.heap.size + 1) _ (by decide) (by decide) (r1.below jx (Nat.le_refl _)) (RowAt.lit W5 #[.int .i64 1, .int .i64 2, .int .i64 3, .int .i64 4] 3 4 _ (by omega)) jx.size (by simp)).mono ?_; rintro e W6 ⟨rfl, k6⟩
      rw [show decide ([(1 : Int), 2, 3, 4] = [1, 2, 3, 4]) = true by decide]
      have k56 := jx.trans (k6.mono jx.size)
      replace r2 := (r2.below k56 (Nat.le_refl _)).mono k56.size
      have L6 := L5.step k56
      clear jx k6 k56 L5 r1
      go_wp2_with fail
      have jx : Below W6.heap.size W6 (W6.alloc (.cells #[.int .i64 5, .int .i64 6, .int .i64 7, .int .i64 8] 3)) := (Below.refl _ W6).alloc (Nat.le_refl _) _
      refine (ints_ok v2 _ [5, 6, 7, 8] [5, 6, 7, 8] W6.heap.size (W6.heap.size + 1) _ (by decide) (by decide) (r2.below jx (Nat.le_refl _)) (RowAt.lit W6 #[.int .i64 5, .int .i64 6, .int .i64 7, .int .i64 8] 3 4 _ (by omega)) jx.size (by simp)).mono ?_; rintro e W7 ⟨rfl, k7⟩
      rw [show decide ([(5 : Int), 6, 7, 8] = [5, 6, 7, 8]) = true by decide]
      have L7 := L6.step (jx.trans (k7.mono jx.size))
      clear jx k7 L6 r2
      go_wp2_with fail
      go_ret
      exact ⟨rfl, L7.bel⟩
end Go.Proofs.Ytkilmppmghkigaa
