/-
  Package pinfoldref07: a pool by value; Owner, Taken, Room. Conditions: few frames; what is reserved is small.
-/
import Derived.Test.YtfmkjckckekliaaFrX
import Derived.Test.YtfmkjckckekliaaBSub
import Derived.Test.YtfmkjckckekliaaMid
namespace Go.Proofs.Ytfmkjckckekliaa
open Go.RowKit
attribute [local go_sem] Oper.semAt_some
set_option maxHeartbeats 1000000
set_option maxRecDepth 4000

def frV (L : List Df) : List Value := L.flatMap fun x => [.int .i64 x.1, .string (strOfNums x.2)]
theorem frV_len (L : List Df) : (frV L).length = L.length * 2 := by
  induction L with
  | nil => rfl
  | cons a r ih => simp [frV] at ih ⊢; omega
theorem frV_cons (x : Df) (L : List Df) : frV (x :: L) = [.int .i64 x.1, .string (strOfNums x.2)] ++ frV L := rfl
theorem frV_append (L M : List Df) : frV (L ++ M) = frV L ++ frV M := by simp [frV]
theorem frV_one (L : List Df) : ∀ u ∈ frV L, u.oneCell' = true := by
  intro u hu
  obtain ⟨x, _, h⟩ := List.mem_flatMap.1 hu
  simp at h
  rcases h with rfl | rfl <;> rfl
theorem frV_get : ∀ (L : List Df) (k : Nat) (h : k < L.length), (frV L)[k * 2]? = some (.int .i64 L[k].1) ∧ (frV L)[k * 2 + 1]? = some (.string (strOfNums L[k].2))
  | x :: L, 0, _ => ⟨rfl, rfl⟩
  | x :: L, k + 1, h => by
    have ih := frV_get L k (by simpa using h)
    rw [frV_cons, show (k + 1) * 2 = k * 2 + 2 by omega, show k * 2 + 2 + 1 = (k * 2 + 1) + 2 by omega]
    exact ih
theorem infoFr : ElemInfo Try.prog 93 (.agg #[.int .i64 0, .string (strOfNums [])]) 2 24 := elemInfo_of (by kernel_rfl) rfl (by decide)
structure FrC (W : World) (b off : Nat) (x : Df) : Prop where
  c0 : W.cell? ⟨b, off, none⟩ = some (.int .i64 x.1)
  c1 : W.cell? ⟨b, off + 1, none⟩ = some (.string (strOfNums x.2))
theorem RowAt.getf {B : Nat} {w : World} {ad : Option Addr} {cap : Nat} {L : List Df} (h : RowAt B w (.slice ad L.length cap) L.length (frV L)) (k : Nat) (hk : k < L.length) : ∃ b off, ad = some ⟨b, off, none⟩ ∧ b < B ∧ FrC w b (off + k * 2) L[k] := by
  obtain ⟨a, c, e, _, h⟩ := h
  simp only [Value.slice.injEq, true_and] at e
  obtain ⟨rfl, rfl⟩ := e
  have hn := frV_len L
  rcases h with h | ⟨b, off, rfl, hlt, hc⟩
  · rw [h] at hn; simp at hn; omega
  · obtain ⟨g0, g1⟩ := frV_get L k hk
    refine ⟨b, off, rfl, hlt, ?_, ?_⟩
    · rw [hc _ (by omega), g0]
    · rw [Nat.add_assoc, hc _ (by omega), g1]
theorem FrC.below {W W' : World} {b off n : Nat} {x : Df} (h : FrC W b off x) (k : Below n W W') (hn : b < n) : FrC W' b off x :=
  ⟨(k.cell (p := ⟨b, off, none⟩) hn).trans h.c0, (k.cell (p := ⟨b, off + 1, none⟩) hn).trans h.c1⟩
/-- A pool by value: its frames' slice, what is reserved. -/
def poolV (v : Value) (V : List Int) : Array Value := (v :: V.map fun n => Value.int .i64 n).toArray
theorem poolV_size (v : Value) {V : List Int} (h : V.length = 64) : (poolV v V).size = 65 := by simp [poolV, h]
theorem poolV_zero (v : Value) (V : List Int) : (poolV v V)[0]? = some v := rfl
theorem poolV_at (v : Value) {V : List Int} (i : Nat) (h : i < V.length) : (poolV v V)[1 + i]? = some (.int .i64 (V.getD i 0)) := by
  have : (poolV v V)[1 + i]? = (V.map fun n => Value.int .i64 n)[i]? := by unfold poolV; rw [List.getElem?_toArray, Nat.add_comm, List.getElem?_cons_succ]
  rw [this, List.getElem?_map, List.getElem?_eq_getElem h, List.getD_eq_getElem?_getD, List.getElem?_eq_getElem h]
  rfl
theorem poolV_one {v : Value} (hv : v.oneCell' = true) (V : List Int) : (poolV v V).all (·.oneCell') = true := by
  unfold poolV
  rw [List.all_toArray, List.all_cons, hv, Bool.true_and, List.all_eq_true]
  intro u hu
  obtain ⟨n, _, rfl⟩ := List.mem_map.1 hu
  rfl
theorem poolV_setV (v : Value) (V : List Int) (i : Nat) (n : Int) : (poolV v V).setIfInBounds (1 + i) (.int .i64 n) = poolV v (V.set i n) := by
  unfold poolV
  rw [List.setIfInBounds_toArray, Nat.add_comm, List.set_cons_succ, List.map_set]
theorem poolV_setL (v u : Value) (V : List Int) : (poolV v V).setIfInBounds 0 u = poolV u V := by
  unfold poolV
  rw [List.setIfInBounds_toArray, List.set_cons_zero]
theorem ty65 : RowTy Try.prog 54 65 := rowTy_of Try.underlying54 rfl (by kernel_rfl)
theorem rOwner_ok (n : Int) (w : World) : Calls Try.prog 47 #[.int .i64 n] w fun e w' => e = .returned (.bool (!badOwner n)) ∧ w = w' := by
  by_cases h0 : 0 ≤ n
  · by_cases h1 : n < 64
    · have : badOwner n = false := by unfold badOwner; exact decide_eq_false (by omega)
      rw [this]
      go_enter Try.func47, Try.ntmps47
      go_wp2_with fail
      go_ret
      exact ⟨rfl, rfl⟩
    · have : badOwner n = true := by unfold badOwner; exact decide_eq_true (by omega)
      rw [this]
      go_enter Try.func47, Try.ntmps47
      go_wp2_with fail
      go_ret
      exact ⟨rfl, rfl⟩
  · have : badOwner n = true := by unfold badOwner; exact decide_eq_true (by omega)
    rw [this]
    go_enter Try.func47, Try.ntmps47
    go_wp2_with fail
    go_ret
    exact ⟨rfl, rfl⟩
theorem takD_snoc (L : List Df) (o : Int) (k : Nat) (h : k < L.length) : takD (L.take (k + 1)) o = takD (L.take k) o + (if L[k].1 = o then 1 else 0) := by
  unfold takD
  rw [List.take_succ_eq_append_getElem h, List.countP_append]
  by_cases e : L[k].1 = o
  · rw [if_pos e]; simp [e]
  · rw [if_neg e]; simp [e]
theorem takD_le (L : List Df) (o : Int) : takD L o ≤ L.length := List.countP_le_length
theorem rTaken_ok (v : Value) (V : List Int) (L : List Df) (B : Nat) (o : Int) (w : World) (hB : B ≤ w.heap.size) (hl : L.length < 1000000) (hv : RowAt B w v L.length (frV L)) :
    Calls Try.prog 48 #[.agg (poolV v V), .int .i64 o] w fun e w' => e = .returned (.int .i64 (takD L o)) ∧ Below w.heap.size w w' := by
  obtain ⟨a1, c1, rfl, _⟩ := hv.len
  obtain ⟨w0, hw0⟩ : ∃ w0, w.alloc (.cells (poolV (.slice a1 L.length c1) V) 54) = w0 := ⟨_, rfl⟩
  have hX : Blk w0 w.heap.size (poolV (.slice a1 L.length c1) V) 54 := by rw [← hw0]; exact Blk.new w _ _
  have k0 : Below w.heap.size w w0 := by rw [← hw0]; exact (Below.refl _ w).alloc (Nat.le_refl _) _
  have c0 : w0.cell? ⟨w.heap.size, 0, none⟩ = some (.slice a1 L.length c1) := hX.cell 0 (poolV_zero _ _)
  have H1 := Lib.hid (hv.below k0 hB)
  clear hv hX
  go_enter Try.func48, Try.ntmps48
  go_wp2_with fail
  clear hw0
  go_loopw [5, 6] (fun n i wr => ∃ c : Nat, c ≤ L.length ∧ i = .int .i64 c ∧ n = .int .i64 (takD (L.take c) o : Nat) ∧ wr = w0) (fun _ i _ => L.length - (intOf i).toNat)
  case atStart => exact ⟨0, by omega, rfl, rfl, rfl⟩
  case round =>
    obtain ⟨c, hc, rfl, rfl, rfl⟩ := hrel
    by_cases hlt : c < L.length
    · obtain ⟨b1, o1, rfl, _, q⟩ := H1.out.getf c hlt
      have q0 := q.c0
      have i0 : (0 : Int) ≤ c := by omega
      have i1 : (c : Int) < L.length := by omega
      have hst := takD_snoc L o c hlt
      have hle := takD_le (L.take c) o
      rw [List.length_take] at hle
      clear q
      obtain ⟨t1, ht1⟩ : ∃ t1, takD (L.take c) o = t1 := ⟨_, rfl⟩
      obtain ⟨y, hy⟩ : ∃ y, L[c].1 = y := ⟨_, rfl⟩
      rw [hy] at q0 hst
      rw [ht1] at hst hle ⊢
      clear hy ht1
      by_cases hp : y = o
      · rw [if_pos hp] at hst
        have HST := Lib.hid hst
        have hp' : (y == o) = true := by simpa using hp
        clear hp hst
        go_wp2_with fail
        exact ⟨⟨c + 1, by omega, by go_num, by rw [HST.out]; go_num, trivial⟩, by simp [intOf]; omega⟩
      · rw [if_neg hp] at hst
        have HST := Lib.hid hst
        have hp' : (y == o) = false := by simpa using hp
        clear hp hst
        go_wp2_with fail
        exact ⟨⟨c + 1, by omega, by go_num, by rw [HST.out]; rfl, trivial⟩, by simp [intOf]; omega⟩
    · obtain rfl : c = L.length := by omega
      rw [List.take_length]
      go_wp2_with fail
      go_ret
      exact ⟨rfl, k0⟩
theorem sum_takeS (V : List Int) (k : Nat) (h : k < V.length) : (V.take (k + 1)).sum = (V.take k).sum + V.getD k 0 := by
  rw [List.take_succ_eq_append_getElem h, List.sum_append, List.getD_eq_getElem?_getD, List.getElem?_eq_getElem h]
  simp
theorem sum_take_bd {V : List Int} (h0 : ∀ x ∈ V, 0 ≤ x) (k : Nat) : 0 ≤ (V.take k).sum ∧ (V.take k).sum ≤ V.sum := by
  have hn : ∀ (l : List Int), (∀ x ∈ l, 0 ≤ x) → 0 ≤ l.sum := by
    intro l
    induction l with
    | nil => intro _; simp
    | cons a r ih => intro h; have := ih fun x hx => h x (List.mem_cons_of_mem _ hx); have := h a List.mem_cons_self; simp; omega
  have e : V.sum = (V.take k).sum + (V.drop k).sum := by rw [← List.sum_append, List.take_append_drop]
  have h1 := hn _ fun x (hx : x ∈ V.take k) => h0 x (List.mem_of_mem_take hx)
  have h2 := hn _ fun x (hx : x ∈ V.drop k) => h0 x (List.mem_of_mem_drop hx)
  omega
theorem rRoom_ok (v : Value) {V : List Int} (L : List Df) (B : Nat) (w : World) (hB : B ≤ w.heap.size) (hl : L.length < 1000000) (hV : V.length = 64) (h0 : ∀ x ∈ V, 0 ≤ x) (hs : V.sum ≤ 1000000) (hv : RowAt B w v L.length (frV L)) :
    Calls Try.prog 49 #[.agg (poolV v V)] w fun e w' => e = .returned (.int .i64 (roomD L V)) ∧ Below w.heap.size w w' := by
  obtain ⟨a1, c1, rfl, _⟩ := hv.len
  obtain ⟨w0, hw0⟩ : ∃ w0, w.alloc (.cells (poolV (.slice a1 L.length c1) V) 54) = w0 := ⟨_, rfl⟩
  have hX : Blk w0 w.heap.size (poolV (.slice a1 L.length c1) V) 54 := by rw [← hw0]; exact Blk.new w _ _
  have k0 : Below w.heap.size w w0 := by rw [← hw0]; exact (Below.refl _ w).alloc (Nat.le_refl _) _
  have c0 : w0.cell? ⟨w.heap.size, 0, none⟩ = some (.slice a1 L.length c1) := hX.cell 0 (poolV_zero _ _)
  have HX := Lib.hid hX
  have HV := Lib.hid hV
  have HB0 := Lib.hid h0
  clear hv hX hV h0
  go_enter Try.func49, Try.ntmps49
  go_wp2_with fail
  clear hw0
  go_loopw [3, 4] (fun n i wr => ∃ c : Nat, c ≤ 64 ∧ i = .int .i64 c ∧ n = .int .i64 (L.length - (V.take c).sum) ∧ wr = w0) (fun _ i _ => 64 - (intOf i).toNat)
  case atStart => exact ⟨0, by omega, rfl, by simp, rfl⟩
  case round =>
    obtain ⟨c, hc, rfl, rfl, rfl⟩ := hrel
    have hb1 := sum_take_bd HB0.out c
    by_cases hlt : c < 64
    · have i0 : (0 : Int) ≤ c := by omega
      have i1 : (c : Int) < 64 := by omega
      have q0 := HX.out.cell _ (poolV_at (.slice a1 L.length c1) c (by rw [HV.out]; exact hlt))
      have hst := sum_takeS V c (by rw [HV.out]; exact hlt)
      have hb2 := sum_take_bd HB0.out (c + 1)
      obtain ⟨s1, hs1⟩ : ∃ s1, (V.take c).sum = s1 := ⟨_, rfl⟩
      obtain ⟨y, hy⟩ : ∃ y, V.getD c 0 = y := ⟨_, rfl⟩
      rw [hy] at q0 hst
      rw [hs1] at hst hb1 ⊢
      rw [hst] at hb2
      have HST := Lib.hid hst
      have hwr : IntKind.i64.wrap ((L.length : Int) - s1 - y) = L.length - (s1 + y) := by rw [IntWalk.i64_in _ (by omega)]; omega
      clear hst hs1 hy hs
      go_wp2_with fail
      exact ⟨⟨c + 1, by omega, by go_num, by rw [HST.out], trivial⟩, by simp [intOf]; omega⟩
    · obtain rfl : c = 64 := by omega
      have e : V.take 64 = V := by rw [← HV.out]; exact List.take_length
      rw [e]
      go_wp2_with fail
      go_ret
      exact ⟨rfl, k0⟩
end Go.Proofs.Ytfmkjckckekliaa
