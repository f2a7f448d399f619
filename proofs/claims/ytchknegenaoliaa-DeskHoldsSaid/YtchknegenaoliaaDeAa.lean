/-
  Package pinfoldlaw21: num, tenants, same, ints. No condition.
-/
import Derived.Test.YtchknegenaoliaaDeY
namespace Go.Proofs.Ytchknegenaoliaa
open Go.RowKit
attribute [local go_sem] Oper.semAt_some
set_option maxHeartbeats 1000000
set_option maxRecDepth 4000

theorem num_calls (e : Int) (w : World) : Calls Try.prog 9 #[.int .i64 e] w fun x w' => x = .returned (.int .i64 e) ∧ w = w' := by
  go_enter Try.func9, Try.ntmps9
  go_wp2_with fail
  go_ret
  exact ⟨rfl, rfl⟩
theorem infoH : ElemInfo Try.prog 28 (.agg #[.int .i64 0, .int .i64 0]) 2 16 := elemInfo_of (by kernel_rfl) rfl (by decide)
theorem hndsV_snoc (l : List Hnd) (x : Hnd) : hndsV (l ++ [x]) = hndsV l ++ [.int .i64 x.s, .int .i64 x.g] := by simp [hndsV, hndV]
theorem hndsV_len (l : List Hnd) : (hndsV l).length = l.length * 2 := by
  induction l with
  | nil => rfl
  | cons x l ih =>
    have : hndsV (x :: l) = hndV x ++ hndsV l := rfl
    rw [this, List.length_append, ih, List.length_cons, show (hndV x).length = 2 from rfl]; omega
theorem hndsV_at : ∀ (l : List Hnd) (i : Nat) (h : i < l.length), (hndsV l)[i * 2]? = some (.int .i64 l[i].s) ∧ (hndsV l)[i * 2 + 1]? = some (.int .i64 l[i].g)
  | a :: r, 0, _ => ⟨rfl, rfl⟩
  | a :: r, i + 1, h => by
    have ih := hndsV_at r i (by simpa using h)
    have e1 : (i + 1) * 2 = i * 2 + 1 + 1 := by omega
    refine ⟨?_, ?_⟩
    · rw [e1]; exact ih.1
    · rw [e1]; exact ih.2
theorem RowAt.geth {B : Nat} {w : World} {ad : Option Addr} {cap n : Nat} {l : List Hnd} (h : RowAt B w (.slice ad n cap) n (hndsV l)) (k : Nat) (hk : k < l.length) :
    ∃ b off, ad = some ⟨b, off, none⟩ ∧ b < B ∧ w.cell? ⟨b, off + k * 2, none⟩ = some (.int .i64 l[k].s) ∧ w.cell? ⟨b, off + k * 2 + 1, none⟩ = some (.int .i64 l[k].g) := by
  obtain ⟨a, c, e, _, h⟩ := h
  simp only [Value.slice.injEq, true_and] at e
  obtain ⟨rfl, rfl⟩ := e
  have hl := hndsV_len l
  rcases h with h | ⟨b, off, rfl, hlt, hc⟩
  · rw [h] at hl; simp only [List.length_nil] at hl; omega
  · obtain ⟨h1, h2⟩ := hndsV_at l k hk
    refine ⟨b, off, rfl, hlt, ?_, ?_⟩
    · rw [hc _ (by omega), h1]
    · rw [Nat.add_assoc, hc _ (by omega), h2]
theorem tenants_ok {P : List Ten} {H : List Hnd} (hL : RefL P H) (w : World) :
    Calls Try.prog 23 #[.agg (refV P H)] w fun e w' => ∃ v, e = .returned v ∧ w'.ownsRow w.heap.size 28 2 v (tenL P).length (hndsV (tenL P)) ∧ Below w.heap.size w w' := by
  obtain ⟨w0, hw0⟩ : ∃ w0, w.alloc (.cells (refV P H) 52) = w0 := ⟨_, rfl⟩
  have k0 : Below w.heap.size w w0 := by rw [← hw0]; exact (Below.refl _ w).alloc (Nat.le_refl _) _
  have hA : Blk w0 w.heap.size (refV P H) 52 := by rw [← hw0]; exact Blk.new w _ _
  have z0 : w0.heap.size = w.heap.size + 1 := by rw [← hw0]; simp
  have hown0 : w0.ownsRow (w.heap.size + 1) 28 2 (.slice none 0 0) 0 [] := ⟨rfl, .inl ⟨rfl, rfl⟩⟩
  obtain ⟨s, hs⟩ : ∃ s, w.heap.size = s := ⟨_, rfl⟩
  have HS := Lib.hid hs
  rw [hs] at hA z0 hown0 k0
  go_enter Try.func23, Try.ntmps23
  go_wp2_with fail
  clear hw0 hs
  go_loopw [3, 4] (fun v i wr => ∃ k : Nat, k ≤ 4 ∧ i = .int .i64 k ∧ wr.ownsRow (s + 1) 28 2 v (tenTo P k).length (hndsV (tenTo P k)) ∧ Below (s + 1) w0 wr) (fun _ i _ => 4 - (intOf i).toNat)
  case atStart => exact ⟨0, by omega, rfl, hown0, Below.refl _ _⟩
  case round =>
    obtain ⟨k, hk, rfl, hown, hb⟩ := hrel
    clear hown0
    have hAr := hA.below hb (by omega)
    have hz := hb.size
    by_cases hlt : k < 4
    · have i0 : (0 : Int) ≤ k := by omega
      have i1 : (k : Int) < 4 := by omega
      obtain ⟨q0, q1, _, _⟩ := refV_ten hL k hlt
      have r0 := hAr.cell _ q0
      have r1 := hAr.cell _ q1
      have hst : tenTo P (k + 1) = if (tenD P k).t = true then tenTo P k ++ [⟨k, (tenD P k).g⟩] else tenTo P k := rfl
      have hlen := tenTo_len P k
      generalize tenD P k = x at r0 r1 hst
      obtain ⟨xg, xt, xq, xf⟩ := x
      dsimp only at r0 r1 hst
      clear q0 q1
      cases xt with
      | true =>
        rw [if_pos rfl] at hst
        have HST := Lib.hid hst
        generalize tenTo P k = ys at hown HST hlen
        have ha1 := owns_below hown ((Below.refl _ wr).alloc (Nat.le_refl _) (.cells #[.int .i64 k, .int .i64 xg] 28)) (Nat.le_refl _)
        clear hst
        go_wp2_with (at_builtin; refine wpList_append_row rfl _ _ 41 rfl (s + 1) Try.underlying41 infoH ys.length (hndsV ys) rfl ha1 (wr.heap.size + 1) 1 [.int .i64 k, .int .i64 xg] rfl (RowAt.lit wr #[.int .i64 k, .int .i64 xg] 28 1 _ (by omega)) rfl ?c4 ?c5 ?c6 ?c7 ?_)
        case c4 => first | exact ⟨rfl, rfl⟩ | (intro u hu; simp at hu; rcases hu with rfl | rfl <;> rfl)
        case c5 => unfold maxLen; omega
        case c6 => omega
        case c7 => first | omega | (simp; omega)
        intro v2 w2 ho2 hg2
        have k2 := (hb.alloc (by omega) (.cells #[.int .i64 k, .int .i64 xg] 28)).appended ha1 hg2 (Nat.le_refl _) (by simp; omega)
        clear ha1 hg2 hown
        go_wp2_with fail
        exact ⟨⟨k + 1, by omega, by go_num, by rw [HST.out, List.length_append, hndsV_snoc]; exact ho2, k2⟩, by simp [intOf]; omega⟩
      | false =>
        rw [if_neg (by decide)] at hst
        have HST := Lib.hid hst
        have HO := Lib.hid hown
        clear hst hown
        go_wp2_with fail
        exact ⟨⟨k + 1, by omega, by go_num, by rw [HST.out]; exact HO.out, hb⟩, by simp [intOf]; omega⟩
    · obtain rfl : k = 4 := by omega
      have HO := Lib.hid (owns_weaken hown (Nat.le_succ s))
      have hb9 := k0.trans (hb.mono (Nat.le_succ s))
      obtain ⟨a2, c2, e2, _⟩ := (RowAt.of_owns hown (Nat.le_refl _)).len
      subst e2
      clear hown
      go_wp2_with fail
      go_ret
      exact ⟨_, rfl, by rw [HS.out]; exact HO.out, by rw [HS.out]; exact hb9⟩
structure SmH (b1 o1 b2 o2 : Nat) (x : Hnd) (Y : World) : Prop where
  p0 : Y.cell? ⟨b1, o1, none⟩ = some (.int .i64 x.s)
  p1 : Y.cell? ⟨b1, o1 + 1, none⟩ = some (.int .i64 x.g)
  q0 : Y.cell? ⟨b2, o2, none⟩ = some (.int .i64 x.s)
  q1 : Y.cell? ⟨b2, o2 + 1, none⟩ = some (.int .i64 x.g)
theorem same_ok (v u : Value) (L : List Hnd) (n : Nat) (hn : n = L.length) (B : Nat) (w : World) (hB : B ≤ w.heap.size) (hl : n < 1000000) (hv : RowAt B w v n (hndsV L)) (hu : RowAt B w u n (hndsV L)) :
    Calls Try.prog 24 #[v, u] w fun e w' => e = .returned (.bool true) ∧ Below w.heap.size w w' := by
  have H1 := Lib.hid hv
  have H2 := Lib.hid hu
  obtain ⟨a1, c1, rfl, _⟩ := hv.len
  obtain ⟨a2, c2, rfl, _⟩ := hu.len
  have HN := Lib.hid hn
  clear hv hu hn
  go_enter Try.func24, Try.ntmps24
  go_wp2_with fail
  go_loopw [5] (fun i wr => ∃ c : Nat, c ≤ n ∧ i = .int .i64 c ∧ Below w.heap.size w wr) (fun i _ => n - (intOf i).toNat)
  case atStart => exact ⟨0, by omega, rfl, Below.refl _ _⟩
  case round =>
    obtain ⟨c, hc, rfl, k0⟩ := hrel
    by_cases hlt : c < n
    · have hlt' : c < L.length := by rw [← HN.out]; exact hlt
      obtain ⟨b1, o1, rfl, _, p0, p1⟩ := (H1.out.below k0 hB).geth c hlt'
      obtain ⟨b2, o2, rfl, _, q0, q1⟩ := (H2.out.below k0 hB).geth c hlt'
      have i0 : (0 : Int) ≤ c := by omega
      have i1 : (c : Int) < n := by omega
      generalize L[c] = x at p0 p1 q0 q1
      have hst : SmH b1 (o1 + c * 2) b2 (o2 + c * 2) x wr.drew := ⟨p0, p1, q0, q1⟩
      clear hlt' p0 p1 q0 q1
      go_wp2_with fail
      refine wp_onlyN ?_
      refine wp_region_held_drew (S := SmH b1 (o1 + c * 2) b2 (o2 + c * 2) x) (by kernel_rfl) hst (fun hHeld => ?_)
      refine wpAnyH_take (i := 0) (v := ?_) rfl (by kernel_rfl) (by kernel_rfl) (by kernel_rfl) (fun _ _ _ h => h) (Or.inl ⟨by rfl, ?_⟩) (by assumption) ?_
      rotate_left
      · (intro Y hSw; (try dsimp only at hSw); obtain ⟨hS0, hS1, hS2, hS3⟩ := hSw; go_simp; try with_reducible rfl)
      try simp only [Act.put, List.getElem_toArray, List.getElem_cons_zero, List.getElem_cons_succ, List.setIfInBounds_toArray, List.set_cons_zero, List.set_cons_succ]
      refine wpAnyH_take (i := 1) (v := ?_) rfl (by kernel_rfl) (by kernel_rfl) (by kernel_rfl) (fun _ _ _ h => h) (Or.inl ⟨by rfl, ?_⟩) (by assumption) ?_
      rotate_left
      · (intro Y hSw; (try dsimp only at hSw); obtain ⟨hS0, hS1, hS2, hS3⟩ := hSw; go_simp; try with_reducible rfl)
      try simp only [Act.put, List.getElem_toArray, List.getElem_cons_zero, List.getElem_cons_succ, List.setIfInBounds_toArray, List.set_cons_zero, List.set_cons_succ]
      refine wpAnyH_take (i := 2) (v := ?_) rfl (by kernel_rfl) (by kernel_rfl) (by kernel_rfl) (fun _ _ _ h => h) (Or.inl ⟨by rfl, ?_⟩) (by assumption) ?_
      rotate_left
      · (intro Y hSw; (try dsimp only at hSw); obtain ⟨hS0, hS1, hS2, hS3⟩ := hSw; go_simp; try with_reducible rfl)
      try simp only [Act.put, List.getElem_toArray, List.getElem_cons_zero, List.getElem_cons_succ, List.setIfInBounds_toArray, List.set_cons_zero, List.set_cons_succ]
      refine wpAnyH_take (i := 3) (v := ?_) rfl (by kernel_rfl) (by kernel_rfl) (by kernel_rfl) (fun _ _ _ h => h) (Or.inl ⟨by rfl, ?_⟩) (by assumption) ?_
      rotate_left
      · (intro Y hSw; (try dsimp only at hSw); obtain ⟨hS0, hS1, hS2, hS3⟩ := hSw; go_simp; try with_reducible rfl)
      try simp only [Act.put, List.getElem_toArray, List.getElem_cons_zero, List.getElem_cons_succ, List.setIfInBounds_toArray, List.set_cons_zero, List.set_cons_succ]
      refine wpAnyH_take (i := 4) (v := ?_) rfl (by kernel_rfl) (by kernel_rfl) (by kernel_rfl) (fun _ _ _ h => h) (Or.inl ⟨by rfl, ?_⟩) (by assumption) ?_
      rotate_left
      · (intro Y hSw; (try dsimp only at hSw); obtain ⟨hS0, hS1, hS2, hS3⟩ := hSw; go_simp; try with_reducible rfl)
      try simp only [Act.put, List.getElem_toArray, List.getElem_cons_zero, List.getElem_cons_succ, List.setIfInBounds_toArray, List.set_cons_zero, List.set_cons_succ]
      refine wpAnyH_take (i := 5) (v := ?_) rfl (by kernel_rfl) (by kernel_rfl) (by kernel_rfl) (fun _ _ _ h => h) (Or.inl ⟨by rfl, ?_⟩) (by assumption) ?_
      rotate_left
      · (intro Y hSw; (try dsimp only at hSw); obtain ⟨hS0, hS1, hS2, hS3⟩ := hSw; go_simp; try with_reducible rfl)
      try simp only [Act.put, List.getElem_toArray, List.getElem_cons_zero, List.getElem_cons_succ, List.setIfInBounds_toArray, List.set_cons_zero, List.set_cons_succ]
      refine wpAnyH_take (i := 6) (v := ?_) rfl (by kernel_rfl) (by kernel_rfl) (by kernel_rfl) (fun _ _ _ h => h) (Or.inl ⟨by rfl, ?_⟩) (by assumption) ?_
      rotate_left
      · (intro Y hSw; (try dsimp only at hSw); obtain ⟨hS0, hS1, hS2, hS3⟩ := hSw; go_simp; try with_reducible rfl)
      try simp only [Act.put, List.getElem_toArray, List.getElem_cons_zero, List.getElem_cons_succ, List.setIfInBounds_toArray, List.set_cons_zero, List.set_cons_succ]
      refine wpAnyH_take (i := 7) (v := ?_) rfl (by kernel_rfl) (by kernel_rfl) (by kernel_rfl) (fun _ _ _ h => h) (Or.inl ⟨by rfl, ?_⟩) (by assumption) ?_
      rotate_left
      · (intro Y hSw; (try dsimp only at hSw); obtain ⟨hS0, hS1, hS2, hS3⟩ := hSw; go_simp; try with_reducible rfl)
      try simp only [Act.put, List.getElem_toArray, List.getElem_cons_zero, List.getElem_cons_succ, List.setIfInBounds_toArray, List.set_cons_zero, List.set_cons_succ]
      refine wpAnyH_take (i := 8) (v := ?_) rfl (by kernel_rfl) (by kernel_rfl) (by kernel_rfl) (fun _ _ _ h => h) (Or.inl ⟨by rfl, ?_⟩) (by assumption) ?_
      rotate_left
      · (intro Y hSw; (try dsimp only at hSw); obtain ⟨hS0, hS1, hS2, hS3⟩ := hSw; go_simp; try with_reducible rfl)
      try simp only [Act.put, List.getElem_toArray, List.getElem_cons_zero, List.getElem_cons_succ, List.setIfInBounds_toArray, List.set_cons_zero, List.set_cons_succ]
      refine wpAnyH_done (by kernel_rfl) ?_ _
      rw [onlyN_normal]
      go_wp2_with fail
      exact ⟨⟨c + 1, by omega, by go_num, k0.drew⟩, by simp [intOf]; omega⟩
    · obtain rfl : c = n := by omega
      go_wp2_with fail
      go_ret
      exact ⟨rfl, k0⟩
structure SmI (b1 o1 b2 o2 : Nat) (x : Int) (Y : World) : Prop where
  p : Y.cell? ⟨b1, o1, none⟩ = some (.int .i64 x)
  q : Y.cell? ⟨b2, o2, none⟩ = some (.int .i64 x)
theorem ints_ok (v u : Value) (L : List Int) (n : Nat) (hn : n = L.length) (B : Nat) (w : World) (hB : B ≤ w.heap.size) (hl : n < 1000000) (hv : RowAt B w v n (intVals .i64 L)) (hu : RowAt B w u n (intVals .i64 L)) :
    Calls Try.prog 37 #[v, u] w fun e w' => e = .returned (.bool true) ∧ Below w.heap.size w w' := by
  have H1 := Lib.hid hv
  have H2 := Lib.hid hu
  obtain ⟨a1, c1, rfl, _⟩ := hv.len
  obtain ⟨a2, c2, rfl, _⟩ := hu.len
  have HN := Lib.hid hn
  clear hv hu hn
  go_enter Try.func37, Try.ntmps37
  go_wp2_with fail
  go_loopw [5] (fun i wr => ∃ c : Nat, c ≤ n ∧ i = .int .i64 c ∧ Below w.heap.size w wr) (fun i _ => n - (intOf i).toNat)
  case atStart => exact ⟨0, by omega, rfl, Below.refl _ _⟩
  case round =>
    obtain ⟨c, hc, rfl, k0⟩ := hrel
    by_cases hlt : c < n
    · have hlt' : c < L.length := by rw [← HN.out]; exact hlt
      obtain ⟨b1, o1, rfl, _, p0⟩ := (H1.out.below k0 hB).geti c hlt'
      obtain ⟨b2, o2, rfl, _, q0⟩ := (H2.out.below k0 hB).geti c hlt'
      have i0 : (0 : Int) ≤ c := by omega
      have i1 : (c : Int) < n := by omega
      generalize L[c] = x at p0 q0
      have hst : SmI b1 (o1 + c) b2 (o2 + c) x wr.drew := ⟨p0, q0⟩
      clear hlt' p0 q0
      go_wp2_with fail
      refine wp_onlyN ?_
      refine wp_region_held_drew (S := SmI b1 (o1 + c) b2 (o2 + c) x) (by kernel_rfl) hst (fun hHeld => ?_)
      refine wpAnyH_take (i := 0) (v := ?_) rfl (by kernel_rfl) (by kernel_rfl) (by kernel_rfl) (fun _ _ _ h => h) (Or.inl ⟨by rfl, ?_⟩) (by assumption) ?_
      rotate_left
      · (intro Y hSw; (try dsimp only at hSw); obtain ⟨hS0, hS1⟩ := hSw; go_simp; try with_reducible rfl)
      try simp only [Act.put, List.getElem_toArray, List.getElem_cons_zero, List.getElem_cons_succ, List.setIfInBounds_toArray, List.set_cons_zero, List.set_cons_succ]
      refine wpAnyH_take (i := 1) (v := ?_) rfl (by kernel_rfl) (by kernel_rfl) (by kernel_rfl) (fun _ _ _ h => h) (Or.inl ⟨by rfl, ?_⟩) (by assumption) ?_
      rotate_left
      · (intro Y hSw; (try dsimp only at hSw); obtain ⟨hS0, hS1⟩ := hSw; go_simp; try with_reducible rfl)
      try simp only [Act.put, List.getElem_toArray, List.getElem_cons_zero, List.getElem_cons_succ, List.setIfInBounds_toArray, List.set_cons_zero, List.set_cons_succ]
      refine wpAnyH_take (i := 2) (v := ?_) rfl (by kernel_rfl) (by kernel_rfl) (by kernel_rfl) (fun _ _ _ h => h) (Or.inl ⟨by rfl, ?_⟩) (by assumption) ?_
      rotate_left
      · (intro Y hSw; (try dsimp only at hSw); obtain ⟨hS0, hS1⟩ := hSw; go_simp; try with_reducible rfl)
      try simp only [Act.put, List.getElem_toArray, List.getElem_cons_zero, List.getElem_cons_succ, List.setIfInBounds_toArray, List.set_cons_zero, List.set_cons_succ]
      refine wpAnyH_take (i := 3) (v := ?_) rfl (by kernel_rfl) (by kernel_rfl) (by kernel_rfl) (fun _ _ _ h => h) (Or.inl ⟨by rfl, ?_⟩) (by assumption) ?_
      rotate_left
      · (intro Y hSw; (try dsimp only at hSw); obtain ⟨hS0, hS1⟩ := hSw; go_simp; try with_reducible rfl)
      try simp only [Act.put, List.getElem_toArray, List.getElem_cons_zero, List.getElem_cons_succ, List.setIfInBounds_toArray, List.set_cons_zero, List.set_cons_succ]
      refine wpAnyH_take (i := 4) (v := ?_) rfl (by kernel_rfl) (by kernel_rfl) (by kernel_rfl) (fun _ _ _ h => h) (Or.inl ⟨by rfl, ?_⟩) (by assumption) ?_
      rotate_left
      · (intro Y hSw; (try dsimp only at hSw); obtain ⟨hS0, hS1⟩ := hSw; go_simp; try with_reducible rfl)
      try simp only [Act.put, List.getElem_toArray, List.getElem_cons_zero, List.getElem_cons_succ, List.setIfInBounds_toArray, List.set_cons_zero, List.set_cons_succ]
      refine wpAnyH_take (i := 5) (v := ?_) rfl (by kernel_rfl) (by kernel_rfl) (by kernel_rfl) (fun _ _ _ h => h) (Or.inl ⟨by rfl, ?_⟩) (by assumption) ?_
      rotate_left
      · (intro Y hSw; (try dsimp only at hSw); obtain ⟨hS0, hS1⟩ := hSw; go_simp; try with_reducible rfl)
      try simp only [Act.put, List.getElem_toArray, List.getElem_cons_zero, List.getElem_cons_succ, List.setIfInBounds_toArray, List.set_cons_zero, List.set_cons_succ]
      refine wpAnyH_take (i := 6) (v := ?_) rfl (by kernel_rfl) (by kernel_rfl) (by kernel_rfl) (fun _ _ _ h => h) (Or.inl ⟨by rfl, ?_⟩) (by assumption) ?_
      rotate_left
      · (intro Y hSw; (try dsimp only at hSw); obtain ⟨hS0, hS1⟩ := hSw; go_simp; try with_reducible rfl)
      try simp only [Act.put, List.getElem_toArray, List.getElem_cons_zero, List.getElem_cons_succ, List.setIfInBounds_toArray, List.set_cons_zero, List.set_cons_succ]
      refine wpAnyH_take (i := 7) (v := ?_) rfl (by kernel_rfl) (by kernel_rfl) (by kernel_rfl) (fun _ _ _ h => h) (Or.inl ⟨by rfl, ?_⟩) (by assumption) ?_
      rotate_left
      · (intro Y hSw; (try dsimp only at hSw); obtain ⟨hS0, hS1⟩ := hSw; go_simp; try with_reducible rfl)
      try simp only [Act.put, List.getElem_toArray, List.getElem_cons_zero, List.getElem_cons_succ, List.setIfInBounds_toArray, List.set_cons_zero, List.set_cons_succ]
      refine wpAnyH_take (i := 8) (v := ?_) rfl (by kernel_rfl) (by kernel_rfl) (by kernel_rfl) (fun _ _ _ h => h) (Or.inl ⟨by rfl, ?_⟩) (by assumption) ?_
      rotate_left
      · (intro Y hSw; (try dsimp only at hSw); obtain ⟨hS0, hS1⟩ := hSw; go_simp; try with_reducible rfl)
      try simp only [Act.put, List.getElem_toArray, List.getElem_cons_zero, List.getElem_cons_succ, List.setIfInBounds_toArray, List.set_cons_zero, List.set_cons_succ]
      refine wpAnyH_done (by kernel_rfl) ?_ _
      rw [onlyN_normal]
      go_wp2_with fail
      exact ⟨⟨c + 1, by omega, by go_num, k0.drew⟩, by simp [intOf]; omega⟩
    · obtain rfl : c = n := by omega
      go_wp2_with fail
      go_ret
      exact ⟨rfl, k0⟩
end Go.Proofs.Ytchknegenaoliaa
