/-
  Package pinfoldlaw18: CacheHolds. No condition.
-/
import Derived.Test.YtkilmppmghkigaaCaM
import Derived.Test.YtkilmppmghkigaaCaT
import Derived.StillTailTactics
namespace Go.Proofs.Ytkilmppmghkigaa
open Go.RowKit
attribute [local go_sem] Oper.semAt_some
set_option maxHeartbeats 8000000
set_option maxRecDepth 8000

/-- What stands while calls go on: the shelves, and the box of the place. -/
structure Stands (w W : World) (a0 a1 : Int) (L : Nat → List Int) : Prop where
  live : Live w W (w.heap.size + 1) L
  good : Good L
  box : Blk W w.heap.size #[.int .i64 a0, .int .i64 a1] 23
theorem Stands.to {w W W' : World} {a0 a1 : Int} {L L' : Nat → List Int} (h : Stands w W a0 a1 L) (hp : ShAt W' (w.heap.size + 1) L') (hc : Chg (w.heap.size + 1) W W') (hg : Good L') : Stands w W' a0 a1 L' := ⟨h.live.to hp hc, hg, hc.blk h.box (by omega)⟩
theorem Stands.step {w W W' : World} {a0 a1 : Int} {L : Nat → List Int} (h : Stands w W a0 a1 L) (k : Below W.heap.size W W') : Stands w W' a0 a1 L := ⟨h.live.step k, h.good, h.box.below k h.box.lt⟩
theorem Stands.drew {w W : World} {a0 a1 : Int} {L : Nat → List Int} (h : Stands w W a0 a1 L) : Stands w W.drew a0 a1 L := h.step (Below.refl _ W).drew
/-- Which slots have been seen. -/
def Seen (S : List Int) (cs : Array Value) : Prop := cs.size = 256 ∧ ∀ n, n < 256 → cs[n]? = some (.bool (decide ((n : Int) ∈ S)))
theorem Seen.set {S : List Int} {cs : Array Value} (h : Seen S cs) (x : Nat) (hx : x < 256) : Seen (S ++ [(x : Int)]) (cs.setIfInBounds x (.bool true)) := by
  refine ⟨by simpa using h.1, fun n hn => ?_⟩
  by_cases e : n = x
  · subst e
    rw [Array.getElem?_setIfInBounds_self_of_lt (by rw [h.1]; exact hx)]
    simp
  · rw [Array.getElem?_setIfInBounds_ne (Ne.symm e), h.2 n hn]
    have : decide ((n : Int) ∈ S ++ [(x : Int)]) = decide ((n : Int) ∈ S) := by
      have : (n : Int) ≠ x := by omega
      simp [this]
    rw [this]
theorem seen_none : Seen [] (Array.replicate 256 (.bool false)) := by
  refine ⟨by simp, fun n hn => ?_⟩
  simp [hn]
def allOf (L : Nat → List Int) (c t : Nat) : List Int := (List.range t).flatMap fun k => L (k * 8 + c)
theorem allOf_succ (L : Nat → List Int) (c t : Nat) : allOf L c (t + 1) = allOf L c t ++ L (t * 8 + c) := by simp [allOf, List.range_succ]
theorem Good.fresh {L : Nat → List Int} (h : Good L) {c t i : Nat} (hi : i < (L (t * 8 + c)).length) : (L (t * 8 + c))[i] ∉ allOf L c t ++ (L (t * 8 + c)).take i := by
  intro hm
  rcases List.mem_append.1 hm with hm | hm
  · obtain ⟨k, hk, hx⟩ := List.mem_flatMap.1 hm
    have hk' : k < t := by simpa using hk
    exact h.dj (t * 8 + c) (k * 8 + c) (by omega) (by omega) _ (List.getElem_mem hi) hx
  · obtain ⟨j, hj, e⟩ := List.getElem_of_mem hm
    rw [List.length_take] at hj
    rw [List.getElem_take] at e
    have := (List.getElem_inj (h.nd (t * 8 + c)) (h₀ := by omega) (h₁ := hi)).1 e
    omega
theorem tak_last {L : Nat → List Int} {t c : Nat} {l : List Int} {x : Int} (ht : t < 4) (hc : c < 8) (h : L (t * 8 + c) = l ++ [x]) : takErr L t c = 0 ∧ takVal L t c = x ∧ takAfter L t c = upd L (t * 8 + c) l := by
  have h0 : shErr (t : Int) c = 0 := by unfold shErr; rw [show badIn (t : Int) 4 = false by simp [badIn]; omega, show badIn (c : Int) 8 = false by simp [badIn]; omega]; rfl
  have e1 : takErr L t c = 0 := by unfold takErr; rw [if_pos h0, Int.toNat_natCast, Int.toNat_natCast, h, if_neg (by simp)]
  exact ⟨e1, by unfold takVal; rw [if_pos e1, Int.toNat_natCast, Int.toNat_natCast, h]; simp, by unfold takAfter; rw [if_pos e1, Int.toNat_natCast, Int.toNat_natCast, h]; simp⟩
structure PlS (pb bp op : Nat) (a0 a1 x : Int) (Y : World) : Prop where
  c0 : Y.cell? ⟨pb, 0, none⟩ = some (.int .i64 a0)
  c1 : Y.cell? ⟨pb, 1, none⟩ = some (.int .i64 a1)
  cx : Y.cell? ⟨bp, op, none⟩ = some (.int .u8 x)
theorem holds_body (v0 v2 : Value) (l : List ActV) (a0 a1 : Int) (ps : List Int) (w : World) (hv : ActsAt w.heap.size w v0 l) (hp : RowAt w.heap.size w v2 ps.length (intVals .u8 ps)) (hps : ∀ x ∈ ps, 0 ≤ x ∧ x < 256) (hpm : ps.length ≤ maxLen) :
    Calls Try.prog 3 #[v0, .agg #[.int .i64 a0, .int .i64 a1], v2] w fun e w' => e = .returned (.bool true) ∧ Below w.heap.size w w' := by
  have HV := Lib.hid hv
  obtain ⟨ad, cap, rfl, hcap, hmx, _⟩ := hv
  have HP := Lib.hid hp
  obtain ⟨pd, pcap, rfl, hpcap⟩ := hp.len
  have hml : l.length ≤ 9223372036854775807 := by unfold maxLen at hmx; omega
  have hpl : ps.length ≤ 9223372036854775807 := by unfold maxLen at hpm; omega
  have kb : Below w.heap.size w (w.alloc (.cells #[.int .i64 a0, .int .i64 a1] 23)) := (Below.refl _ w).alloc (Nat.le_refl _) _
  have hB := Blk.new w #[.int .i64 a0, .int .i64 a1] 23
  have b0 : (w.alloc (.cells #[.int .i64 a0, .int .i64 a1] 23)).cell? ⟨w.heap.size, 0, none⟩ = some (.int .i64 a0) := hB.cell 0 rfl
  have b1 : (w.alloc (.cells #[.int .i64 a0, .int .i64 a1] 23)).cell? ⟨w.heap.size, 1, none⟩ = some (.int .i64 a1) := hB.cell 1 rfl
  clear hp hmx hpm
  by_cases h1 : 60 < l.length
  · go_enter Try.func3, Try.ntmps3
    go_wp2_with fail
    refine (works_ok _).mono ?_; rintro e w1 ⟨rfl, k⟩
    go_wp2_with fail
    go_ret
    exact ⟨rfl, kb.trans (k.mono kb.size)⟩
  by_cases h2 : 20 < ps.length
  · go_enter Try.func3, Try.ntmps3
    go_wp2_with fail
    refine (works_ok _).mono ?_; rintro e w1 ⟨rfl, k⟩
    go_wp2_with fail
    go_ret
    exact ⟨rfl, kb.trans (k.mono kb.size)⟩
  cases h3 : badIn a0 4 with
  | true =>
    go_enter Try.func3, Try.ntmps3
    go_wp2_with fail
    refine (Thread_calls a0 _).mono ?_; rintro e _ ⟨rfl, rfl⟩
    rw [h3]
    go_wp2_with fail
    refine (works_ok _).mono ?_; rintro e w1 ⟨rfl, k⟩
    go_wp2_with fail
    go_ret
    exact ⟨rfl, kb.trans (k.mono kb.size)⟩
  | false =>
  cases h4 : badIn a1 8 with
  | true =>
    go_enter Try.func3, Try.ntmps3
    go_wp2_with fail
    refine (Thread_calls a0 _).mono ?_; rintro e _ ⟨rfl, rfl⟩
    rw [h3]
    go_wp2_with fail
    refine (Class_calls a1 _).mono ?_; rintro e _ ⟨rfl, rfl⟩
    rw [h4]
    go_wp2_with fail
    refine (works_ok _).mono ?_; rintro e w1 ⟨rfl, k⟩
    go_wp2_with fail
    go_ret
    exact ⟨rfl, kb.trans (k.mono kb.size)⟩
  | false =>
  obtain ⟨t0, t1⟩ := badIn_false h3
  obtain ⟨c0, c1⟩ := badIn_false h4
  have H3 := Lib.hid h3
  have H4 := Lib.hid h4
  clear h3 h4
  go_enter Try.func3, Try.ntmps3
  go_wp2_with fail
  refine (Thread_calls a0 _).mono ?_; rintro e _ ⟨rfl, rfl⟩
  rw [H3.out]
  go_wp2_with fail
  refine (Class_calls a1 _).mono ?_; rintro e _ ⟨rfl, rfl⟩
  rw [H4.out]
  go_wp2_with fail
  refine (New_calls _).mono ?_; rintro e W ⟨rfl, hp, hb⟩
  rw [World.size_alloc] at hp hb
  rw [World.size_alloc]
  have hS : Stands w W a0 a1 (fun _ => []) := ⟨⟨hp, kb.trans (hb.mono (by omega)), by omega⟩, good_new, hB.below hb (by omega)⟩
  clear hp hb b0 b1 hB
  go_wp2_with fail
  go_loopw [8] (fun i wr => ∃ (k : Nat) (L : Nat → List Int), k ≤ l.length ∧ i = .int .i64 k ∧ Stands w wr a0 a1 L) (fun i _ => l.length - (intOf i).toNat)
  case atStart => exact ⟨0, _, by omega, rfl, hS⟩
  case round =>
    obtain ⟨k, L, hk, rfl, hS1⟩ := hrel
    clear hS kb
    by_cases hlt : k < l.length
    · obtain ⟨ba, off, rfl, hA⟩ : ∃ b off, ad = some ⟨b, off, none⟩ ∧ ∀ i (h : i < l.length), ActAt w.heap.size w b (off + i * 4) l[i] := by
        obtain ⟨_, _, hv, _, _, h⟩ := HV.out
        simp only [Value.slice.injEq] at hv
        obtain ⟨rfl, _⟩ := hv
        rcases h with h | h
        · rw [h] at hlt; simp at hlt
        · exact h
      have hAk := (hA k hlt).below hS1.live.bel (Nat.le_refl _)
      clear hA
      obtain ⟨⟨what, th, cl, ix⟩, hak⟩ : ∃ a, l[k] = a := ⟨_, rfl⟩
      rw [hak] at hAk
      clear hak
      obtain ⟨q0, q1, q2, q3, _, _, _, _, hblt⟩ := hAk
      dsimp only at q0 q1 q2 q3
      have i0 : (0 : Int) ≤ k := by omega
      have i1 : (k : Int) < l.length := by omega
      have hSd := hS1.drew
      have HS1 := Lib.hid hS1
      go_wp2_with fail
      · go_still_tail 16, (by kernel_rfl)
        go_wp2_with fail
        refine (Put_ok hSd.live.sh hSd.good.few th cl ix).mono ?_; rintro e w1 ⟨rfl, p1, p2, _⟩
        have hS2 := hSd.to p1 p2 (hSd.good.putA th cl ix)
        go_wp2_with fail
        exact ⟨⟨k + 1, _, by omega, by go_num, hS2⟩, by simp [intOf]; omega⟩
      · go_still_tail 11, (by kernel_rfl)
        go_wp2_with fail
        refine (Take_ok hSd.live.sh hSd.good.few th cl).mono ?_; rintro e w1 ⟨rfl, p1, p2⟩
        have hS2 := hSd.to p1 p2 (hSd.good.takA th cl)
        go_wp2_with fail
        exact ⟨⟨k + 1, _, by omega, by go_num, hS2⟩, by simp [intOf]; omega⟩
      · go_still_tail 11, (by kernel_rfl)
        go_wp2_with fail
        refine (Spill_ok hSd.live.sh hSd.good.few th cl).mono ?_; rintro e w1 ⟨v, rfl, _, p1, p2⟩
        have hS2 := hSd.to p1 p2 (hSd.good.splA th cl)
        go_wp2_with fail
        exact ⟨⟨k + 1, _, by omega, by go_num, hS2⟩, by simp [intOf]; omega⟩
      · go_still_tail 11, (by kernel_rfl)
        go_wp2_with fail
        refine (Drop_ok hSd.live.sh hSd.good.few cl ix).mono ?_; rintro e w1 ⟨rfl, p1, p2⟩
        have hS2 := hSd.to p1 p2 (hSd.good.drpA cl ix)
        go_wp2_with fail
        exact ⟨⟨k + 1, _, by omega, by go_num, hS2⟩, by simp [intOf]; omega⟩
      · exact ⟨⟨k + 1, _, by omega, by go_num, HS1.out⟩, by simp [intOf]; omega⟩
    · obtain rfl : k = l.length := by omega
      clear HV
      obtain ⟨tn, rfl⟩ : ∃ n : Nat, a0 = n := ⟨a0.toNat, by omega⟩
      obtain ⟨cn, rfl⟩ : ∃ n : Nat, a1 = n := ⟨a1.toNat, by omega⟩
      obtain ⟨la, hla⟩ : ∃ la, L (tn * 8 + cn) = la := ⟨_, rfl⟩
      have hown0 : wr.ownsRow (w.heap.size + 2) 3 1 (.slice none 0 0) 0 [] := ⟨rfl, .inl ⟨rfl, rfl⟩⟩
      have hle := hS1.live.bel.size
      have hlb := hS1.live.sh.lt
      go_wp2_with fail
      go_loopw [9, 10] (fun v i wr => ∃ (k : Nat) (ins : List Int) (L : Nat → List Int), k ≤ ps.length ∧ i = .int .i64 k ∧ ins.length ≤ k ∧ wr.ownsRow (w.heap.size + 2) 3 1 v ins.length (intVals .i64 ins) ∧ L (tn * 8 + cn) = la ++ ins ∧ Stands w wr tn cn L ∧ ∀ g, v.ownBlock = some g → Off g wr (w.heap.size + 1)) (fun _ i _ => ps.length - (intOf i).toNat)
      case atStart => exact ⟨0, [], L, by omega, rfl, Nat.le_refl _, hown0, by simpa using hla, hS1, fun g h => by cases h⟩
      case round =>
        obtain ⟨k, ins, L2, hk, rfl, hins, hown, hL2, hS2, hof⟩ := hrel
        clear hown0 hla hS1 hle hlb
        have hle := hS2.live.bel.size
        have hlb := hS2.live.sh.lt
        by_cases hlt : k < ps.length
        · have HW := Lib.hid hown
          have HL2 := Lib.hid hL2
          have HOF := Lib.hid hof
          obtain ⟨bp, op, rfl, hbp, qp⟩ : ∃ b off, pd = some ⟨b, off, none⟩ ∧ b < w.heap.size ∧ wr.cell? ⟨b, off + k, none⟩ = some (.int .u8 ps[k]) := by
            obtain ⟨a, c, e, _, hx⟩ := HP.out
            simp only [Value.slice.injEq] at e
            obtain ⟨rfl, _⟩ := e
            rcases hx with hx | ⟨b, off, rfl, hb, hx⟩
            · have : (intVals .u8 ps).length = 0 := by rw [hx]; rfl
              rw [intVals_len] at this; omega
            · refine ⟨b, off, rfl, hb, ?_⟩
              rw [hS2.live.bel.cell (p := ⟨b, off + k, none⟩) hb, hx k (by rw [intVals_len]; exact hlt), intVals_get _ _ _ hlt]
          have hpk := hps ps[k] (List.getElem_mem hlt)
          obtain ⟨x, hx⟩ : ∃ x, ps[k] = x := ⟨_, rfl⟩
          rw [hx] at hpk qp
          obtain ⟨x0, x1⟩ := hpk
          have i0 : (0 : Int) ≤ k := by omega
          have i1 : (k : Int) < ps.length := by omega
          have hSd : PlS w.heap.size bp (op + k) tn cn x wr.drew := ⟨hS2.box.cell 0 rfl, hS2.box.cell 1 rfl, qp⟩
          have hcv := IntWalk.i64_in x (by omega)
          have HCV := Lib.hid hcv
          clear hown hL2 hx hcv hps hof
          go_wp2_with fail
          refine wp_region_held_drew (S := PlS w.heap.size bp (op + k) tn cn x) (by kernel_rfl) hSd (fun hHeld => ?_)
          refine wpAnyH_take (i := 0) (v := ?_) rfl (by kernel_rfl) (by kernel_rfl) (by kernel_rfl) (fun _ _ _ h => h) (Or.inl ⟨by rfl, ?_⟩) (by assumption) ?_
          rotate_left
          · (intro Y hSw; (try dsimp only at hSw); obtain ⟨hS0, hS1, hS3⟩ := hSw; go_simp; try with_reducible rfl)
          try simp only [Act.put, List.getElem_toArray, List.getElem_cons_zero, List.getElem_cons_succ, List.setIfInBounds_toArray, List.set_cons_zero, List.set_cons_succ]
          refine wpAnyH_take (i := 1) (v := ?_) rfl (by kernel_rfl) (by kernel_rfl) (by kernel_rfl) (fun _ _ _ h => h) (Or.inl ⟨by rfl, ?_⟩) (by assumption) ?_
          rotate_left
          · (intro Y hSw; (try dsimp only at hSw); obtain ⟨hS0, hS1, hS3⟩ := hSw; go_simp; try with_reducible rfl)
          try simp only [Act.put, List.getElem_toArray, List.getElem_cons_zero, List.getElem_cons_succ, List.setIfInBounds_toArray, List.set_cons_zero, List.set_cons_succ]
          refine wpAnyH_take (i := 2) (v := ?_) rfl (by kernel_rfl) (by kernel_rfl) (by kernel_rfl) (fun _ _ _ h => h) (Or.inl ⟨by rfl, ?_⟩) (by assumption) ?_
          rotate_left
          · (intro Y hSw; (try dsimp only at hSw); obtain ⟨hS0, hS1, hS3⟩ := hSw; go_simp; try with_reducible rfl)
          try simp only [Act.put, List.getElem_toArray, List.getElem_cons_zero, List.getElem_cons_succ, List.setIfInBounds_toArray, List.set_cons_zero, List.set_cons_succ]
          refine wpAnyH_take (i := 3) (v := ?_) rfl (by kernel_rfl) (by kernel_rfl) (by kernel_rfl) (fun _ _ _ h => h) (Or.inl ⟨by rfl, ?_⟩) (by assumption) ?_
          rotate_left
          · (intro Y hSw; (try dsimp only at hSw); obtain ⟨hS0, hS1, hS3⟩ := hSw; go_simp; try with_reducible rfl)
          try simp only [Act.put, List.getElem_toArray, List.getElem_cons_zero, List.getElem_cons_succ, List.setIfInBounds_toArray, List.set_cons_zero, List.set_cons_succ]
          refine wpAnyH_take (i := 4) (v := ?_) rfl (by kernel_rfl) (by kernel_rfl) (by kernel_rfl) (fun _ _ _ h => h) (Or.inl ⟨by rfl, ?_⟩) (by assumption) ?_
          rotate_left
          · (intro Y hSw; (try dsimp only at hSw); obtain ⟨hS0, hS1, hS3⟩ := hSw; go_simp; try with_reducible rfl)
          try simp only [Act.put, List.getElem_toArray, List.getElem_cons_zero, List.getElem_cons_succ, List.setIfInBounds_toArray, List.set_cons_zero, List.set_cons_succ]
          refine wpAnyH_take (i := 5) (v := ?_) rfl (by kernel_rfl) (by kernel_rfl) (by kernel_rfl) (fun _ _ _ h => h) (Or.inl ⟨by rfl, ?_⟩) (by assumption) ?_
          rotate_left
          · (intro Y hSw; (try dsimp only at hSw); obtain ⟨hS0, hS1, hS3⟩ := hSw; go_simp; try with_reducible rfl)
          try simp only [Act.put, List.getElem_toArray, List.getElem_cons_zero, List.getElem_cons_succ, List.setIfInBounds_toArray, List.set_cons_zero, List.set_cons_succ]
          refine wpAnyH_take (i := 6) (v := ?_) rfl (by kernel_rfl) (by kernel_rfl) (by kernel_rfl) (fun _ _ _ h => h) (Or.inl ⟨by rfl, ?_⟩) (by assumption) ?_
          rotate_left
          · (intro Y hSw; (try dsimp only at hSw); obtain ⟨hS0, hS1, hS3⟩ := hSw; go_simp; try with_reducible rfl)
          try simp only [Act.put, List.getElem_toArray, List.getElem_cons_zero, List.getElem_cons_succ, List.setIfInBounds_toArray, List.set_cons_zero, List.set_cons_succ]
          refine wpAnyH_take (i := 7) (v := ?_) rfl (by kernel_rfl) (by kernel_rfl) (by kernel_rfl) (fun _ _ _ h => h) (Or.inl ⟨by rfl, ?_⟩) (by assumption) ?_
          rotate_left
          · (intro Y hSw; (try dsimp only at hSw); obtain ⟨hS0, hS1, hS3⟩ := hSw; go_simp; try with_reducible rfl)
          try simp only [Act.put, List.getElem_toArray, List.getElem_cons_zero, List.getElem_cons_succ, List.setIfInBounds_toArray, List.set_cons_zero, List.set_cons_succ]
          refine wpAnyH_take (i := 8) (v := ?_) rfl (by kernel_rfl) (by kernel_rfl) (by kernel_rfl) (fun _ _ _ h => h) (Or.inl ⟨by rfl, ?_⟩) (by assumption) ?_
          rotate_left
          · (intro Y hSw; (try dsimp only at hSw); obtain ⟨hS0, hS1, hS3⟩ := hSw; go_simp; try with_reducible rfl)
          try simp only [Act.put, List.getElem_toArray, List.getElem_cons_zero, List.getElem_cons_succ, List.setIfInBounds_toArray, List.set_cons_zero, List.set_cons_succ]
          refine wpAnyH_take (i := 9) (v := ?_) rfl (by kernel_rfl) (by kernel_rfl) (by kernel_rfl) (fun _ _ _ h => h) (Or.inl ⟨by rfl, ?_⟩) (by assumption) ?_
          rotate_left
          · (intro Y hSw; (try dsimp only at hSw); obtain ⟨hS0, hS1, hS3⟩ := hSw; go_simp; try with_reducible rfl)
          try simp only [Act.put, List.getElem_toArray, List.getElem_cons_zero, List.getElem_cons_succ, List.setIfInBounds_toArray, List.set_cons_zero, List.set_cons_succ]
          refine wpAnyH_ready (rs := [10]) (by kernel_rfl) (by simp) ?_
          refine AllReadyH.cons rfl (fun K hK => ?_) AllReadyH.nil
          go_simp
          rw [HCV.out]
          refine (Put_ok hS2.drew.live.sh hS2.good.few tn cn x).mono ?_; rintro e w1 ⟨rfl, p1, p2, p3⟩
          have hS3 := hS2.drew.to p1 p2 (hS2.good.putA tn cn x)
          have qp1 : w1.cell? ⟨bp, op + k, none⟩ = some (.int .u8 x) := (World.cell?_of_block (a := ⟨bp, op + k, none⟩) (p2.block bp (by show _ < wr.heap.size; omega) (by omega))).trans qp
          have ho1 := p2.owns (owns_below HW.out (Below.refl _ wr).drew (Nat.le_refl _)) (by omega)
          have hz1 := p2.size
          have hSx : PlS w.heap.size bp (op + k) tn cn x w1 := ⟨hS3.box.cell 0 rfl, hS3.box.cell 1 rfl, qp1⟩
          obtain ⟨q, hq⟩ : ∃ q, putErr L2 tn cn x = q := ⟨_, rfl⟩
          rw [hq]
          have HO1 := Lib.hid ho1
          have HQ := Lib.hid hq
          have hof1 : ∀ g, Value.ownBlock u9 = some g → Off g w1 (w.heap.size + 1) := fun g hg => p3 g (owns_block HW.out g hg).2 ((HOF.out g hg).of rfl)
          have HOF1 := Lib.hid hof1
          clear p1 p2 p3 qp ho1 hq hof1
          go_wp2_with fail
          refine hK.out _ _ (hSx) (fun hHeld => ?_)
          clear hK K
          try simp only [Act.put, List.getElem_toArray, List.getElem_cons_zero, List.getElem_cons_succ, List.setIfInBounds_toArray, List.set_cons_zero, List.set_cons_succ]
          refine wpAnyH_ready (rs := [11]) (by kernel_rfl) (by simp) ?_
          refine AllReadyH.cons rfl (fun K hK => ?_) AllReadyH.nil
          go_simp
          refine (num_calls _ _).mono ?_; rintro e _ ⟨rfl, rfl⟩
          go_wp2_with fail
          refine hK.out _ _ (hSx) (fun hHeld => ?_)
          clear hK K
          try simp only [Act.put, List.getElem_toArray, List.getElem_cons_zero, List.getElem_cons_succ, List.setIfInBounds_toArray, List.set_cons_zero, List.set_cons_succ]
          refine wpAnyH_take (i := 12) (v := ?_) rfl (by kernel_rfl) (by kernel_rfl) (by kernel_rfl) (fun _ _ _ h => h) (Or.inl ⟨by rfl, ?_⟩) (by assumption) ?_
          rotate_left
          · (intro Y hSw; (try dsimp only at hSw); obtain ⟨hS0, hS1, hS3⟩ := hSw; go_simp; try with_reducible rfl)
          try simp only [Act.put, List.getElem_toArray, List.getElem_cons_zero, List.getElem_cons_succ, List.setIfInBounds_toArray, List.set_cons_zero, List.set_cons_succ]
          refine wpAnyH_done (by kernel_rfl) ?_ _
          have hAf : putAfter L2 tn cn x = if q = 0 then upd L2 (tn * 8 + cn) (L2 (tn * 8 + cn) ++ [x]) else L2 := by unfold putAfter; rw [HQ.out, Int.toNat_natCast, Int.toNat_natCast]
          by_cases h9 : q = 0
          · subst h9
            rw [if_pos rfl] at hAf
            rw [hAf] at hS3
            have hcv := HCV.out
            clear hAf
            have ha1 := owns_below HO1.out ((Below.refl _ w1).alloc (Nat.le_refl _) (.cells #[.int .i64 x] 3)) (Nat.le_refl _)
            have hz0 : wr.drew.heap.size = wr.heap.size := rfl
            go_wp2_with (at_builtin; refine wpList_append_one rfl _ _ 35 rfl (w.heap.size + 2) Try.underlying35 info64 ins.length (intVals .i64 ins) rfl ha1 (w1.heap.size + 1) [.int .i64 x] rfl (RowAt.lit w1 #[.int .i64 x] 3 1 _ (by omega)) rfl ?c4 ?c5 ?c6 ?c7 ?_)
            case c4 => intro u hu; rw [List.mem_singleton.1 hu]; rfl
            case c5 => unfold maxLen; omega
            case c6 => omega
            case c7 => simp; omega
            intro v2 w2 ho2 hg2 hwh
            have hbx := (hS3.box.alloc (.cells #[.int .i64 x] 3)).appended ha1 hg2 (by omega)
            have kb2 : Below w.heap.size w w2 := (hS3.live.bel.alloc hS3.live.bel.size (.cells #[.int .i64 x] 3)).appended ha1 hg2 (by omega) (by simp; omega)
            have hown : ∀ g, Value.ownBlock u9 = some g → w.heap.size + 2 ≤ g := fun g hg => (owns_block ha1 g hg).1
            have hblk : ∀ k, k < w1.heap.size → some k ≠ Value.ownBlock u9 → w2.heap[k]? = w1.heap[k]? := fun k hk hne => (hg2.block k (by simp; omega) (fun e => hne e)).trans (Below.heap_alloc w1 _ k hk)
            have hzz : w1.heap.size ≤ w2.heap.size := by have := hg2.size; simp at this; omega
            have hsl := hS3.live.sh.lt
            have hsb := hblk (w.heap.size + 1) hsl (fun e => by have := hown _ e.symm; omega)
            have hsh : ShAt w2 (w.heap.size + 1) (upd L2 (tn * 8 + cn) (L2 (tn * 8 + cn) ++ [x])) := by
              obtain ⟨g, hg⟩ : ∃ g, g = (Value.ownBlock u9).getD (w1.heap.size + 7) := ⟨_, rfl⟩
              refine hS3.live.sh.turned (g := g) ?_ ?_ hzz (fun k hk hne => hblk k hk (fun e => ?_))
              · rw [hg]
                cases ho : Value.ownBlock u9 with
                | none => exact hS3.live.sh.off (by simp)
                | some g => exact HOF1.out g ho
              · rw [hg]
                cases ho : Value.ownBlock u9 with
                | none => simp; omega
                | some g => have := hown g ho; simp; omega
              · rw [hg, ← e] at hne
                exact hne rfl
            have hof2 : ∀ g, v2.ownBlock = some g → Off g w2 (w.heap.size + 1) := fun g hg => by
              refine Off.of ?_ hsb
              rcases hwh with h | h
              · exact HOF1.out g (h.symm.trans hg)
              · rw [h] at hg
                cases hg
                exact hS3.live.sh.off (by omega)
            have hS4 : Stands w w2 tn cn (upd L2 (tn * 8 + cn) (L2 (tn * 8 + cn) ++ [x])) := ⟨⟨hsh, kb2, by omega⟩, hS3.good, hbx⟩
            have HOF2 := Lib.hid hof2
            have HO2 := Lib.hid ho2
            clear hwh hown hblk hsb hsh hof2 ho2 hbx hS3 ha1 hcv hg2
            go_wp2_with fail
            refine ⟨⟨k + 1, ins ++ [x], _, by omega, by go_num, by simp; omega, ?_, ?_, hS4, HOF2.out⟩, by simp [intOf]; omega⟩
            · have := HO2.out
              rw [List.length_append]
              simpa [intVals] using this
            · show upd L2 (tn * 8 + cn) _ (tn * 8 + cn) = _
              unfold upd
              rw [if_pos rfl, HL2.out, List.append_assoc]
          · rw [if_neg h9] at hAf
            rw [hAf] at hS3
            have hq0 : (q == 0) = false := by simpa using h9
            clear hAf
            go_wp2_with fail
            exact ⟨⟨k + 1, ins, L2, by omega, by go_num, by omega, HO1.out, HL2.out, hS3, HOF1.out⟩, by simp [intOf]; omega⟩
        · obtain rfl : k = ps.length := by omega
          obtain ⟨W9, rfl⟩ : ∃ W9 : World, W9 = wr := ⟨_, rfl⟩
          have HO := Lib.hid hown
          have HL2 := Lib.hid hL2
          clear hown hL2 hof
          go_wp2_with fail
          go_loopw [11] (fun c wr => ∃ c' : Nat, c' ≤ 8 ∧ c = .int .i64 c' ∧ Below W9.heap.size W9 wr) (fun c _ => 8 - (intOf c).toNat)
          case atStart => exact ⟨0, by omega, rfl, Below.refl _ _⟩
          case round =>
            obtain ⟨c, hc, rfl, k3⟩ := hrel
            by_cases hltc : c < 8
            · have c0 : (0 : Int) ≤ c := by omega
              have c1 : (c : Int) < 8 := by omega
              obtain ⟨W3, rfl⟩ : ∃ W3 : World, W3 = wr := ⟨_, rfl⟩
              have hz9 := k3.size
              have hS3 := hS2.step k3
              have hB3 := Blk.new W3 Try.zeroCells39 39
              have kA := (Below.refl _ W3).alloc (Nat.le_refl W3.heap.size) (.cells Try.zeroCells39 39)
              have hse : Seen [] Try.zeroCells39 := by rw [show Try.zeroCells39 = Array.replicate 256 (.bool false) by kernel_rfl]; exact seen_none
              go_wp2_with fail
              go_loopw [13] (fun t wr => ∃ t' : Nat, t' ≤ 4 ∧ t = .int .i64 t' ∧ Below W3.heap.size W3 wr ∧ ∃ cs, Blk wr W3.heap.size cs 39 ∧ Seen (allOf L2 c t') cs) (fun t _ => 4 - (intOf t).toNat)
              case atStart => exact ⟨0, by omega, rfl, kA, _, hB3, hse⟩
              case round =>
                obtain ⟨t, ht, rfl, k4, cs, hBs, hSe⟩ := hrel
                clear kA hse hB3
                by_cases hltt : t < 4
                · obtain ⟨Wt, rfl⟩ : ∃ Wt : World, Wt = wr := ⟨_, rfl⟩
                  have t0' : (0 : Int) ≤ t := by omega
                  have t1' : (t : Int) < 4 := by omega
                  have hS4 := hS3.step k4
                  have hsbl := hBs.lt
                  go_wp2_with fail
                  refine (On_ok hS4.live.sh hS4.good.few t c).mono ?_; rintro e w1 ⟨v1, rfl, ho, k5⟩
                  have hL : onL L2 t c = L2 (t * 8 + c) := by
                    unfold onL
                    rw [if_pos (by unfold shErr; rw [show badIn (t : Int) 4 = false by simp [badIn]; omega, show badIn (c : Int) 8 = false by simp [badIn]; omega]; rfl), Int.toNat_natCast, Int.toNat_natCast]
                  rw [hL] at ho
                  have h8 := hS2.good.len (t * 8 + c)
                  have hfresh := fun i hi => hS2.good.fresh (c := c) (t := t) (i := i) hi
                  have hrng := hS2.good.rng (t * 8 + c)
                  have hall := allOf_succ L2 c t
                  clear hL
                  generalize L2 (t * 8 + c) = on at ho h8 hfresh hrng hall
                  have HF := Lib.hid hfresh
                  have HR := Lib.hid hrng
                  have HA := Lib.hid hall
                  obtain ⟨sa, sc, rfl, hsc⟩ := (RowAt.of_owns ho (Nat.le_refl _)).len
                  have hBs1 := hBs.below k5 hBs.lt
                  have k45 := k4.trans (k5.mono k4.size)
                  clear hfresh hrng hall
                  go_wp2_with fail
                  go_loopw [15] (fun i wr => ∃ i' : Nat, i' ≤ on.length ∧ i = .int .i64 i' ∧ Below W3.heap.size W3 wr ∧ wr.ownsRow Wt.heap.size 3 1 (.slice sa on.length sc) on.length (intVals .i64 on) ∧ ∃ cs, Blk wr W3.heap.size cs 39 ∧ Seen (allOf L2 c t ++ on.take i') cs) (fun i _ => on.length - (intOf i).toNat)
                  case atStart => exact ⟨0, by omega, rfl, k45, ho, cs, hBs1, by simpa using hSe⟩
                  case round =>
                    obtain ⟨i, hi, rfl, k6, ho6, cs6, hB6, hSe6⟩ := hrel
                    clear ho k45 hBs1 hSe hBs
                    by_cases hlti : i < on.length
                    · obtain ⟨b, off, rfl, _, qc⟩ := (RowAt.of_owns ho6 (Nat.le_refl _)).geti i hlti
                      have hxr := HR.out on[i] (List.getElem_mem hlti)
                      have hfx := HF.out i hlti
                      have htk := List.take_succ_eq_append_getElem hlti
                      obtain ⟨x, hx⟩ : ∃ x : Nat, on[i] = (x : Int) := ⟨on[i].toNat, by omega⟩
                      rw [hx] at qc hxr hfx htk
                      have qs := hB6.cell x (hSe6.2 x (by omega))
                      rw [decide_eq_false hfx] at qs
                      have fs := hB6.frozen x
                      have hSe7 := hSe6.set x (by omega)
                      rw [List.append_assoc, ← htk] at hSe7
                      have hB7 := hB6.set x (.bool true)
                      have k7 := k6.setCell (p := ⟨W3.heap.size, x, none⟩) (Nat.le_refl _) (.bool true)
                      have ho7 := ((Chg.refl _ wr).setc ⟨W3.heap.size, x, none⟩ (.bool true) rfl).owns ho6 hsbl
                      have i0 : (0 : Int) ≤ i := by omega
                      have i1 : (i : Int) < on.length := by omega
                      have x0 : (0 : Int) ≤ x := by omega
                      have x1 : (x : Int) < 256 := by omega
                      have x2 : decide ((255 : Int) < x) = false := decide_eq_false (by omega)
                      have x3 : decide ((x : Int) < 0) = false := decide_eq_false (by omega)
                      clear hx hfx htk hSe6 hB6 k6 ho6
                      go_wp2_with fail
                      exact ⟨⟨i + 1, by omega, by go_num, k7, ho7, _, hB7, hSe7⟩, by simp [intOf]; omega⟩
                    · obtain rfl : i = on.length := by omega
                      rw [List.take_length, ← HA.out] at hSe6
                      go_wp2_with fail
                      exact ⟨⟨t + 1, by omega, by go_num, k6, cs6, hB6, hSe6⟩, by simp [intOf]; omega⟩
                · obtain rfl : t = 4 := by omega
                  go_wp2_with fail
                  exact ⟨⟨c + 1, by omega, by go_num, k3.trans (k4.mono hz9)⟩, by simp [intOf]; omega⟩
            · have c8 : ¬ ((c : Int) < 8) := by omega
              have hS3 := hS2.step k3
              have ho3 := owns_below HO.out k3 (Nat.le_refl _)
              have hin : ins.length ≤ 20 := by omega
              obtain ⟨ia, ic, rfl, hic⟩ := (RowAt.of_owns ho3 (Nat.le_refl _)).len
              clear hS2 HO
              go_wp2_with fail
              go_loopw [16] (fun i wr => ∃ (k : Nat) (L : Nat → List Int) (j : Int), k ≤ ins.length ∧ i = .int .i64 j ∧ j = (k : Int) - 1 ∧ L (tn * 8 + cn) = la ++ ins.take k ∧ Stands w wr tn cn L ∧ wr.ownsRow (w.heap.size + 2) 3 1 (.slice ia ins.length ic) ins.length (intVals .i64 ins)) (fun i _ => (intOf i + 1).toNat)
              case atStart => exact ⟨ins.length, L2, _, Nat.le_refl _, rfl, rfl, by rw [List.take_length]; exact HL2.out, hS3, ho3⟩
              case round =>
                obtain ⟨k, L6, j, hk6, rfl, hj, hL6, hS6, ho6⟩ := hrel
                clear hS3 ho3 HL2
                cases k with
                | zero =>
                  obtain rfl : j = -1 := by omega
                  have kb := hS6.live.bel
                  clear hj hL6
                  go_wp2_with fail
                  refine (works_ok _).mono ?_; rintro e w1 ⟨rfl, k⟩
                  go_wp2_with fail
                  go_ret
                  exact ⟨rfl, kb.trans (k.mono kb.size)⟩
                | succ m =>
                  obtain rfl : j = (m : Int) := by omega
                  have hm : m < ins.length := by omega
                  rw [List.take_succ_eq_append_getElem hm, ← List.append_assoc] at hL6
                  obtain ⟨e1, e2, e3⟩ := tak_last (by omega) (by omega) hL6
                  obtain ⟨b, off, rfl, _, qc⟩ := (RowAt.of_owns ho6 (Nat.le_refl _)).geti m hm
                  have hblk := World.block_lt_of_cell? _ _ qc
                  have hbw : w.heap.size + 2 ≤ b := (owns_block ho6 b rfl).1
                  obtain ⟨x, hx⟩ : ∃ x, ins[m] = x := ⟨_, rfl⟩
                  rw [hx] at e2 qc
                  have b0 : wr.cell? ⟨w.heap.size, 0, none⟩ = some (.int .i64 tn) := hS6.box.cell 0 rfl
                  have b1 : wr.cell? ⟨w.heap.size, 1, none⟩ = some (.int .i64 cn) := hS6.box.cell 1 rfl
                  have m0 : (0 : Int) ≤ m := by omega
                  have m1 : (m : Int) < ins.length := by omega
                  clear hx hj hL6
                  go_wp2_with fail
                  refine (Take_ok hS6.live.sh hS6.good.few tn cn).mono ?_; rintro e w1 ⟨rfl, p1, p2⟩
                  rw [e1, e2]
                  have hS7 := hS6.to p1 p2 (hS6.good.takA tn cn)
                  rw [e3] at hS7
                  have ho7 := p2.owns ho6 (by omega)
                  have qc7 : w1.cell? ⟨b, off + m, none⟩ = some (.int .i64 x) := (World.cell?_of_block (a := ⟨b, off + m, none⟩) (p2.block b hblk (by omega))).trans qc
                  clear e1 e2 e3 p1 p2 hS6 ho6 qc
                  go_wp2_with fail
                  refine (num_calls _ _).mono ?_; rintro e _ ⟨rfl, rfl⟩
                  go_wp2_with fail
                  exact ⟨⟨m, _, _, by omega, rfl, by omega, by unfold upd; rw [if_pos rfl], hS7, ho7⟩, by simp [intOf]⟩
end Go.Proofs.Ytkilmppmghkigaa
