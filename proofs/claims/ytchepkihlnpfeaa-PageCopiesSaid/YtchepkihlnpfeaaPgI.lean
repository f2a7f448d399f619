/-
  Package pinfoldref08: Right, At, Free, Next, Of, Same. Conditions: rows, few.
-/
import Derived.Test.YtchepkihlnpfeaaPgH
namespace Go.Proofs.Ytchepkihlnpfeaa
open Go.RowKit
attribute [local go_sem] Oper.semAt_some
set_option maxHeartbeats 4000000
set_option maxRecDepth 8000

def rowT (D : Tb) : List Value := D.flatMap fun x => [.int .i64 x.1, .int .i64 x.2.o, .int .i64 x.2.m, .int .i64 x.2.f]
theorem rowT_len (D : Tb) : (rowT D).length = D.length * 4 := by
  induction D with
  | nil => rfl
  | cons a r ih => simp [rowT] at ih ⊢; omega
theorem rowT_cons (x : Int × Ent) (D : Tb) : rowT (x :: D) = [.int .i64 x.1, .int .i64 x.2.o, .int .i64 x.2.m, .int .i64 x.2.f] ++ rowT D := rfl
theorem rowT_append (D E : Tb) : rowT (D ++ E) = rowT D ++ rowT E := by simp [rowT]
theorem rowT_snoc (D : Tb) (x : Int × Ent) : rowT (D ++ [x]) = rowT D ++ [.int .i64 x.1, .int .i64 x.2.o, .int .i64 x.2.m, .int .i64 x.2.f] := rowT_append D [x]
theorem rowT_one (D : Tb) : ∀ u ∈ rowT D, u.oneCell' = true := by
  intro u hu
  obtain ⟨x, _, h⟩ := List.mem_flatMap.1 hu
  simp at h
  rcases h with rfl | rfl | rfl | rfl <;> rfl
theorem rowT_get : ∀ (D : Tb) (k : Nat) (h : k < D.length), (rowT D)[k * 4]? = some (.int .i64 D[k].1) ∧ (rowT D)[k * 4 + 1]? = some (.int .i64 D[k].2.o) ∧ (rowT D)[k * 4 + 2]? = some (.int .i64 D[k].2.m) ∧ (rowT D)[k * 4 + 3]? = some (.int .i64 D[k].2.f)
  | x :: D, 0, _ => ⟨rfl, rfl, rfl, rfl⟩
  | x :: D, k + 1, h => by
    have ih := rowT_get D k (by simpa using h)
    have e1 : (k + 1) * 4 = k * 4 + 4 := by omega
    rw [rowT_cons, e1, show k * 4 + 4 + 1 = (k * 4 + 1) + 4 by omega, show k * 4 + 4 + 2 = (k * 4 + 2) + 4 by omega, show k * 4 + 4 + 3 = (k * 4 + 3) + 4 by omega]
    exact ih
theorem infoRow : ElemInfo Try.prog 55 (.agg #[.int .i64 0, .int .i64 0, .int .i64 0, .int .i64 0]) 4 32 := elemInfo_of (by kernel_rfl) rfl (by decide)
structure RowC (W : World) (b off : Nat) (x : Int × Ent) : Prop where
  c0 : W.cell? ⟨b, off, none⟩ = some (.int .i64 x.1)
  c1 : W.cell? ⟨b, off + 1, none⟩ = some (.int .i64 x.2.o)
  c2 : W.cell? ⟨b, off + 2, none⟩ = some (.int .i64 x.2.m)
  c3 : W.cell? ⟨b, off + 3, none⟩ = some (.int .i64 x.2.f)
theorem RowAt.gett {B : Nat} {w : World} {ad : Option Addr} {cap : Nat} {D : Tb} (h : RowAt B w (.slice ad D.length cap) D.length (rowT D)) (k : Nat) (hk : k < D.length) : ∃ b off, ad = some ⟨b, off, none⟩ ∧ b < B ∧ RowC w b (off + k * 4) D[k] := by
  obtain ⟨a, c, e, _, h⟩ := h
  simp only [Value.slice.injEq, true_and] at e
  obtain ⟨rfl, rfl⟩ := e
  have hn := rowT_len D
  rcases h with h | ⟨b, off, rfl, hlt, hc⟩
  · rw [h] at hn; simp at hn; omega
  · obtain ⟨g0, g1, g2, g3⟩ := rowT_get D k hk
    refine ⟨b, off, rfl, hlt, ?_, ?_, ?_, ?_⟩
    · rw [hc _ (by omega), g0]
    · rw [Nat.add_assoc, hc _ (by omega), g1]
    · rw [Nat.add_assoc, hc _ (by omega), g2]
    · rw [Nat.add_assoc, hc _ (by omega), g3]
theorem RowC.below {W W' : World} {b off n : Nat} {x : Int × Ent} (h : RowC W b off x) (k : Below n W W') (hn : b < n) : RowC W' b off x :=
  ⟨(k.cell (p := ⟨b, off, none⟩) hn).trans h.c0, (k.cell (p := ⟨b, off + 1, none⟩) hn).trans h.c1, (k.cell (p := ⟨b, off + 2, none⟩) hn).trans h.c2, (k.cell (p := ⟨b, off + 3, none⟩) hn).trans h.c3⟩
/-! ### Right -/
def rightB (x : Ent) : Bool := !badM x.m && !badO x
theorem Right_ok (x : Ent) (w : World) : Calls Try.prog 28 #[.agg #[.int .i64 x.o, .int .i64 x.m, .int .i64 x.f]] w fun e w' => e = .returned (.bool (rightB x)) ∧ Below w.heap.size w w' := by
  obtain ⟨w0, hw0⟩ : ∃ w0, w.alloc (.cells #[.int .i64 x.o, .int .i64 x.m, .int .i64 x.f] 31) = w0 := ⟨_, rfl⟩
  have hX : Blk w0 w.heap.size #[.int .i64 x.o, .int .i64 x.m, .int .i64 x.f] 31 := by rw [← hw0]; exact Blk.new w _ _
  have k0 : Below w.heap.size w w0 := by rw [← hw0]; exact (Below.refl _ w).alloc (Nat.le_refl _) _
  have c0 : w0.cell? ⟨w.heap.size, 0, none⟩ = some (.int .i64 x.o) := hX.cell 0 rfl
  have c1 : w0.cell? ⟨w.heap.size, 1, none⟩ = some (.int .i64 x.m) := hX.cell 1 rfl
  have c2 : w0.cell? ⟨w.heap.size, 2, none⟩ = some (.int .i64 x.f) := hX.cell 2 rfl
  have hr : rightB x = decide (-1 ≤ x.o ∧ x.o ≤ 63 ∧ 0 ≤ x.m ∧ x.m ≤ 2 ∧ 0 ≤ x.f) := by
    unfold rightB badM badO
    rw [Bool.eq_iff_iff]
    simp only [Bool.and_eq_true, Bool.not_eq_true', decide_eq_false_iff_not, decide_eq_true_eq]
    omega
  have HR := Lib.hid hr
  clear hr
  by_cases h1 : -1 ≤ x.o
  · by_cases h2 : x.o ≤ 63
    · by_cases h3 : 0 ≤ x.m
      · by_cases h4 : x.m ≤ 2
        · by_cases h5 : 0 ≤ x.f
          · go_enter Try.func28, Try.ntmps28
            go_wp2_with fail
            go_ret
            exact ⟨by rw [HR.out, decide_eq_true (by omega)]; rfl, k0⟩
          · go_enter Try.func28, Try.ntmps28
            go_wp2_with fail
            go_ret
            exact ⟨by rw [HR.out, decide_eq_false (by omega)]; rfl, k0⟩
        · go_enter Try.func28, Try.ntmps28
          go_wp2_with fail
          go_ret
          exact ⟨by rw [HR.out, decide_eq_false (by omega)]; rfl, k0⟩
      · go_enter Try.func28, Try.ntmps28
        go_wp2_with fail
        go_ret
        exact ⟨by rw [HR.out, decide_eq_false (by omega)]; rfl, k0⟩
    · go_enter Try.func28, Try.ntmps28
      go_wp2_with fail
      go_ret
      exact ⟨by rw [HR.out, decide_eq_false (by omega)]; rfl, k0⟩
  · go_enter Try.func28, Try.ntmps28
    go_wp2_with fail
    go_ret
    exact ⟨by rw [HR.out, decide_eq_false (by omega)]; rfl, k0⟩
/-! ### At -/
def atI (D : Tb) (p : Int) : Int := if hasR D p = true then ((D.findIdx fun x => x.1 == p : Nat) : Int) else -1
theorem atI_hit {D : Tb} {p : Int} {c : Nat} (hc : c < D.length) (h : D[c].1 = p) (hn : ∀ j (hj : j < D.length), j < c → D[j].1 ≠ p) : atI D p = c := by
  unfold atI
  rw [if_pos (hasR_mem.2 (by rw [← h]; exact List.mem_map_of_mem (List.getElem_mem hc)))]
  have : (D.findIdx fun x => x.1 == p) = c := (List.findIdx_eq hc).2 ⟨by simpa using h, fun j hj => by simpa using hn j (by omega) hj⟩
  rw [this]
theorem atI_no {D : Tb} {p : Int} (hn : ∀ j (hj : j < D.length), D[j].1 ≠ p) : atI D p = -1 := by
  unfold atI
  rw [if_neg]
  intro h
  obtain ⟨x, hx, e⟩ := List.mem_map.1 (hasR_mem.1 h)
  obtain ⟨j, hj, rfl⟩ := List.getElem_of_mem hx
  exact hn j hj e
theorem At_ok (v : Value) (D : Tb) (B : Nat) (p : Int) (w : World) (hB : B ≤ w.heap.size) (hl : D.length < 1000000) (hv : RowAt B w v D.length (rowT D)) :
    Calls Try.prog 29 #[.agg #[v], .int .i64 p] w fun e w' => e = .returned (.int .i64 (atI D p)) ∧ Below w.heap.size w w' := by
  obtain ⟨a1, c1, rfl, _⟩ := hv.len
  obtain ⟨w0, hw0⟩ : ∃ w0, w.alloc (.cells #[.slice a1 D.length c1] 28) = w0 := ⟨_, rfl⟩
  have hX : Blk w0 w.heap.size #[.slice a1 D.length c1] 28 := by rw [← hw0]; exact Blk.new w _ _
  have k0 : Below w.heap.size w w0 := by rw [← hw0]; exact (Below.refl _ w).alloc (Nat.le_refl _) _
  have c0 : w0.cell? ⟨w.heap.size, 0, none⟩ = some (.slice a1 D.length c1) := hX.cell 0 rfl
  have H1 := Lib.hid (hv.below k0 hB)
  clear hv
  go_enter Try.func29, Try.ntmps29
  go_wp2_with fail
  clear hw0
  go_loopw [5] (fun i wr => ∃ c : Nat, c ≤ D.length ∧ i = .int .i64 c ∧ (∀ j (hj : j < D.length), j < c → D[j].1 ≠ p) ∧ wr = w0) (fun i _ => D.length - (intOf i).toNat)
  case atStart => exact ⟨0, by omega, rfl, fun j _ h => by omega, rfl⟩
  case round =>
    obtain ⟨c, hc, rfl, hn, rfl⟩ := hrel
    have HN := Lib.hid hn
    clear hn
    by_cases hlt : c < D.length
    · obtain ⟨b1, o1, rfl, _, q⟩ := H1.out.gett c hlt
      have q0 := q.c0
      have i0 : (0 : Int) ≤ c := by omega
      have i1 : (c : Int) < D.length := by omega
      clear q
      by_cases hp : D[c].1 = p
      · have ha := atI_hit hlt hp HN.out
        have HA := Lib.hid ha
        have hp' : (D[c].1 == p) = true := by simpa using hp
        obtain ⟨y, hy⟩ : ∃ y, D[c].1 = y := ⟨_, rfl⟩
        rw [hy] at q0 hp'
        clear ha hp hy
        go_wp2_with fail
        go_ret
        exact ⟨by rw [HA.out]; rfl, k0⟩
      · have hp' : (D[c].1 == p) = false := by simpa using hp
        have HP := Lib.hid hp
        obtain ⟨y, hy⟩ : ∃ y, D[c].1 = y := ⟨_, rfl⟩
        rw [hy] at q0 hp'
        clear hp hy
        go_wp2_with fail
        exact ⟨⟨c + 1, by omega, by go_num, fun j hj hjc => by rcases Nat.lt_or_ge j c with h | h; exact HN.out j hj h; (have : j = c := by omega); subst this; exact HP.out, trivial⟩, by simp [intOf]; omega⟩
    · obtain rfl : c = D.length := by omega
      have ha := atI_no fun j hj => HN.out j hj hj
      have HA := Lib.hid ha
      clear ha
      go_wp2_with fail
      go_ret
      exact ⟨by rw [HA.out]; rfl, k0⟩
/-! ### Free -/
theorem rFree_ok (v : Value) (D : Tb) (B : Nat) (f n : Int) (w : World) (hB : B ≤ w.heap.size) (hl : D.length < 1000000) (hg : Good D) (hf : 0 ≤ f) (hv : RowAt B w v D.length (rowT D)) :
    Calls Try.prog 43 #[.agg #[v], .int .i64 f, .int .i64 n] w fun e w' => e = .returned (.bool (freeB D f n)) ∧ Below w.heap.size w w' := by
  obtain ⟨a1, c1, rfl, _⟩ := hv.len
  obtain ⟨w0, hw0⟩ : ∃ w0, w.alloc (.cells #[.slice a1 D.length c1] 28) = w0 := ⟨_, rfl⟩
  have hX : Blk w0 w.heap.size #[.slice a1 D.length c1] 28 := by rw [← hw0]; exact Blk.new w _ _
  have k0 : Below w.heap.size w w0 := by rw [← hw0]; exact (Below.refl _ w).alloc (Nat.le_refl _) _
  have c0 : w0.cell? ⟨w.heap.size, 0, none⟩ = some (.slice a1 D.length c1) := hX.cell 0 rfl
  have H1 := Lib.hid (hv.below k0 hB)
  clear hv
  go_enter Try.func43, Try.ntmps43
  go_wp2_with fail
  clear hw0
  go_loopw [7] (fun i wr => ∃ c : Nat, c ≤ D.length ∧ i = .int .i64 c ∧ (∀ j (hj : j < D.length), j < c → ¬ (f ≤ D[j].1 ∧ D[j].1 - f < n)) ∧ wr = w0) (fun i _ => D.length - (intOf i).toNat)
  case atStart => exact ⟨0, by omega, rfl, fun j _ h => by omega, rfl⟩
  case round =>
    obtain ⟨c, hc, rfl, hn, rfl⟩ := hrel
    have HN := Lib.hid hn
    clear hn
    by_cases hlt : c < D.length
    · obtain ⟨b1, o1, rfl, _, q⟩ := H1.out.gett c hlt
      have q0 := q.c0
      have i0 : (0 : Int) ≤ c := by omega
      have i1 : (c : Int) < D.length := by omega
      have hpg := hg.pg D[c] (List.getElem_mem hlt)
      have hmem : D[c] ∈ D := List.getElem_mem hlt
      have HM := Lib.hid hmem
      obtain ⟨y, hy⟩ : ∃ y, D[c].1 = y := ⟨_, rfl⟩
      have HY := Lib.hid hy
      rw [hy] at q0 hpg
      clear q hmem hy
      by_cases h1 : f ≤ y
      · by_cases h2 : y - f < n
        · have hno : freeB D f n = false := by
            unfold freeB
            rw [Bool.not_eq_false', List.any_eq_true]
            exact ⟨D[c], HM.out, decide_eq_true (by rw [HY.out]; exact ⟨h1, h2⟩)⟩
          have HO := Lib.hid hno
          clear hno
          go_wp2_with fail
          go_ret
          exact ⟨by rw [HO.out]; rfl, k0⟩
        · go_wp2_with fail
          exact ⟨⟨c + 1, by omega, by go_num, fun j hj hjc => by rcases Nat.lt_or_ge j c with h | h; exact HN.out j hj h; (have : j = c := by omega); subst this; rw [HY.out]; omega, trivial⟩, by simp [intOf]; omega⟩
      · go_wp2_with fail
        exact ⟨⟨c + 1, by omega, by go_num, fun j hj hjc => by rcases Nat.lt_or_ge j c with h | h; exact HN.out j hj h; (have : j = c := by omega); subst this; rw [HY.out]; omega, trivial⟩, by simp [intOf]; omega⟩
    · obtain rfl : c = D.length := by omega
      have hyes : freeB D f n = true := by
        unfold freeB
        rw [Bool.not_eq_true', List.any_eq_false]
        intro x hx
        obtain ⟨j, hj, rfl⟩ := List.getElem_of_mem hx
        simpa using fun h => by have := HN.out j hj hj; omega
      have HO := Lib.hid hyes
      clear hyes
      go_wp2_with fail
      go_ret
      exact ⟨by rw [HO.out]; rfl, k0⟩
/-! ### Next -/
theorem rNext_ok (v : Value) (D : Tb) (B : Nat) (f n : Int) (w : World) (hB : B ≤ w.heap.size) (hl : D.length < 1000000) (hg : Good D) (hfm : f ≤ 9223372036854775807) (hv : RowAt B w v D.length (rowT D)) :
    Calls Try.prog 12 #[.agg #[v], .int .i64 f, .int .i64 n] w fun e w' => e = .returned (.int .i64 (nextI D f n)) ∧ Below w.heap.size w w' := by
  obtain ⟨a1, c1, rfl, _⟩ := hv.len
  obtain ⟨w0, hw0⟩ : ∃ w0, w.alloc (.cells #[.slice a1 D.length c1] 28) = w0 := ⟨_, rfl⟩
  have hX : Blk w0 w.heap.size #[.slice a1 D.length c1] 28 := by rw [← hw0]; exact Blk.new w _ _
  have k0 : Below w.heap.size w w0 := by rw [← hw0]; exact (Below.refl _ w).alloc (Nat.le_refl _) _
  have c0 : w0.cell? ⟨w.heap.size, 0, none⟩ = some (.slice a1 D.length c1) := hX.cell 0 rfl
  have H1 := Lib.hid (hv.below k0 hB)
  clear hv
  by_cases hbad : n < 1 ∨ 65536 < n
  · have hr : nextI D f n = -1 := by unfold nextI; rw [if_pos hbad]
    have HR := Lib.hid hr
    clear hr
    by_cases h9 : n < 1
    · go_enter Try.func12, Try.ntmps12
      go_wp2_with fail
      go_ret
      exact ⟨by rw [HR.out]; rfl, k0⟩
    · have h8 : 65536 < n := by omega
      go_enter Try.func12, Try.ntmps12
      go_wp2_with fail
      go_ret
      exact ⟨by rw [HR.out]; rfl, k0⟩
  · have h9 : ¬ n < 1 := by omega
    have h8 : ¬ 65536 < n := by omega
    have hr : nextI D f n = if 65536 - n < runN n (max 0 f) (D.map (·.1)) then -1 else runN n (max 0 f) (D.map (·.1)) := by unfold nextI; rw [if_neg hbad]
    have a0 : (0 : Int) ≤ max 0 f := by omega
    have a9 : max 0 f ≤ 9223372036854775807 := by omega
    have HR := Lib.hid hr
    clear hr hbad
    go_enter Try.func12, Try.ntmps12
    go_wp2_with fail
    clear hw0
    obtain ⟨st, hst⟩ : ∃ st, max 0 f = st := ⟨_, rfl⟩
    rw [hst] at HR a0 a9
    go_loopw [7, 8] (fun a i wr => ∃ c : Nat, c ≤ D.length ∧ i = .int .i64 c ∧ a = .int .i64 (runN n st ((D.map (·.1)).take c)) ∧ wr = w0) (fun _ i _ => D.length - (intOf i).toNat)
    case atStart => exact ⟨0, by omega, rfl, by rw [hst]; rfl, rfl⟩
    case round =>
      obtain ⟨c, hc, rfl, rfl, rfl⟩ := hrel
      have hge := runN_ge n ((D.map (·.1)).take c) st
      by_cases hlt : c < D.length
      · obtain ⟨b1, o1, rfl, _, q⟩ := H1.out.gett c hlt
        have q0 := q.c0
        have i0 : (0 : Int) ≤ c := by omega
        have i1 : (c : Int) < D.length := by omega
        have hpg := hg.pg D[c] (List.getElem_mem hlt)
        have htk : (D.map (·.1)).take (c + 1) = (D.map (·.1)).take c ++ [D[c].1] := by
          rw [List.take_succ_eq_append_getElem (by simpa using hlt)]; simp
        obtain ⟨y, hy⟩ : ∃ y, D[c].1 = y := ⟨_, rfl⟩
        rw [hy] at q0 hpg htk
        have hsn := runN_snoc n ((D.map (·.1)).take c) y st
        rw [← htk] at hsn
        obtain ⟨a, ha⟩ : ∃ a, runN n st ((D.map (·.1)).take c) = a := ⟨_, rfl⟩
        rw [ha] at hsn hge ⊢
        have HSN := Lib.hid hsn
        clear q hy htk hsn ha hst
        by_cases h1 : a ≤ y
        · by_cases h2 : y - a < n
          · have hs : runN n st ((D.map (·.1)).take (c + 1)) = y + 1 := by rw [HSN.out, if_pos ⟨h1, h2⟩]
            have HS := Lib.hid hs
            clear hs
            go_wp2_with fail
            exact ⟨⟨c + 1, by omega, by go_num, by rw [HS.out], trivial⟩, by simp [intOf]; omega⟩
          · have hs : runN n st ((D.map (·.1)).take (c + 1)) = a := by rw [HSN.out, if_neg (by omega)]
            have HS := Lib.hid hs
            clear hs
            go_wp2_with fail
            exact ⟨⟨c + 1, by omega, by go_num, by rw [HS.out], trivial⟩, by simp [intOf]; omega⟩
        · have hs : runN n st ((D.map (·.1)).take (c + 1)) = a := by rw [HSN.out, if_neg (by omega)]
          have HS := Lib.hid hs
          clear hs
          go_wp2_with fail
          exact ⟨⟨c + 1, by omega, by go_num, by rw [HS.out], trivial⟩, by simp [intOf]; omega⟩
      · obtain rfl : c = D.length := by omega
        rw [List.take_of_length_le (by simp)] at hge ⊢
        obtain ⟨a, ha⟩ : ∃ a, runN n st (D.map (·.1)) = a := ⟨_, rfl⟩
        rw [ha] at HR hge ⊢
        clear ha hst
        by_cases h7 : 65536 - n < a
        · have hv : nextI D f n = -1 := by rw [HR.out, if_pos h7]
          have HV := Lib.hid hv
          clear hv
          go_wp2_with fail
          go_ret
          exact ⟨by rw [HV.out]; rfl, k0⟩
        · have hv : nextI D f n = a := by rw [HR.out, if_neg h7]
          have HV := Lib.hid hv
          clear hv
          go_wp2_with fail
          go_ret
          exact ⟨by rw [HV.out]; rfl, k0⟩
end Go.Proofs.Ytchepkihlnpfeaa
