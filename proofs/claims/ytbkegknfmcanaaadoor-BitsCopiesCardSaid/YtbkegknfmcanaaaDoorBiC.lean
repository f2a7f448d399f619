/-
  Package bits: marks in memory; none, has, spot, Len, New. Conditions: at most 4096 places.
-/
import Derived.Test.YtbkegknfmcanaaaDoorBiB
namespace Go.Proofs.YtbkegknfmcanaaaDoor
open Go.RowKit
attribute [local go_sem] Oper.semAt_some
set_option maxHeartbeats 2000000
set_option maxRecDepth 8000

/-- Of what was there, nothing turns but blocks from lo on, below hi. -/
structure Tur (lo hi : Nat) (W W' : World) : Prop where
  os : W'.os = W.os
  tape : W'.tape = W.tape
  output : W'.output = W.output
  size : W.heap.size ≤ W'.heap.size
  block : ∀ k, k < W.heap.size → (k < lo ∨ hi ≤ k) → W'.heap[k]? = W.heap[k]?
theorem Tur.of_below {lo hi : Nat} {W W' : World} (h : Below W.heap.size W W') : Tur lo hi W W' := ⟨h.os, h.tape, h.output, h.size, fun k hk _ => h.block k hk⟩
theorem Tur.trans {lo hi : Nat} {X Y Z : World} (h : Tur lo hi X Y) (k : Tur lo hi Y Z) : Tur lo hi X Z := ⟨k.os.trans h.os, k.tape.trans h.tape, k.output.trans h.output, Nat.le_trans h.size k.size, fun i hi hc => (k.block i (Nat.lt_of_lt_of_le hi h.size) hc).trans (h.block i hi hc)⟩
theorem Tur.below {B lo hi : Nat} {W W' : World} (h : Tur lo hi W W') (hB : B ≤ lo) (hz : B ≤ W.heap.size) : Below B W W' := ⟨h.os, h.tape, h.output, h.size, fun k hk => h.block k (by omega) (.inl (by omega))⟩
theorem Tur.setc {lo hi : Nat} {W X : World} (h : Tur lo hi W X) (a : Addr) (v : Value) (h1 : lo ≤ a.block) (h2 : a.block < hi) : Tur lo hi W (X.setCell a v) := ⟨h.os, h.tape, h.output, by simpa using h.size, fun i hi hc => (Below.heap_setCell X a v i (by omega)).trans (h.block i hi hc)⟩
theorem Tur.row {lo hi B n : Nat} {W W' : World} {v : Value} {xs : List Value} (h : Tur lo hi W W') (hr : RowAt B W v n xs) (hv : ∀ b off m c, v = .slice (some ⟨b, off, none⟩) m c → m ≠ 0 → b < lo ∨ hi ≤ b) (h1 : xs.length = n) : RowAt B W' v n xs := by
  obtain ⟨a, c, rfl, hc, hx⟩ := hr
  refine ⟨a, c, rfl, hc, ?_⟩
  rcases hx with hx | ⟨b, off, rfl, hb, hx⟩
  · exact .inl hx
  · by_cases h0 : n = 0
    · left
      exact List.eq_nil_of_length_eq_zero (by omega)
    · refine .inr ⟨b, off, rfl, hb, fun i hi => ?_⟩
      have hcell := hx i hi
      rw [List.getElem?_eq_getElem hi] at hcell
      have hlt := World.block_lt_of_cell? W _ hcell
      exact (World.cell?_of_block (a := ⟨b, off + i, none⟩) (h.block b hlt (hv b off n c rfl h0))).trans (hx i hi)
/-- Marks whose two blocks lie from lo on, below hi. -/
def MkAt (lo hi : Nat) (W : World) (s : Nat) (L : List Bool) : Prop :=
  lo ≤ s ∧ s < hi ∧ hi ≤ W.heap.size ∧ ∃ v, Blk W s #[.int .i64 L.length, v, .bool true] 50 ∧ W.ownsRow lo 70 1 v (nW L.length) (intVals .u64 (wdsL L)) ∧ v.ownBlock ≠ some s ∧ ∀ g, v.ownBlock = some g → g < hi
theorem MkAt.of_same {lo hi : Nat} {W W' : World} {s : Nat} {l : List Bool} (h : MkAt lo hi W s l) (hz : W.heap.size ≤ W'.heap.size) (hb : ∀ k, lo ≤ k → k < hi → W'.heap[k]? = W.heap[k]?) : MkAt lo hi W' s l := by
  obtain ⟨h1, h2, h3, v, hB, ho, hn, hg⟩ := h
  refine ⟨h1, h2, Nat.le_trans h3 hz, v, (hb s h1 h2).trans hB, ⟨ho.1, ?_⟩, hn, hg⟩
  rcases ho.2 with h4 | ⟨g, cap, cur, rfl, hlo, hgb, rest⟩
  · exact .inl h4
  · exact .inr ⟨g, cap, cur, rfl, hlo, (hb g hlo (hg g rfl)).trans hgb, rest⟩
theorem MkAt.step {lo hi : Nat} {W W' : World} {s : Nat} {l : List Bool} (h : MkAt lo hi W s l) (k : Below W.heap.size W W') : MkAt lo hi W' s l :=
  h.of_same k.size fun i _ h2 => k.block i (by have := h.2.2.1; omega)
theorem MkAt.low {lo hi n : Nat} {W W' : World} {s : Nat} {l : List Bool} (h : MkAt lo hi W s l) (k : Below n W W') (hn : hi ≤ n) : MkAt lo hi W' s l :=
  h.of_same k.size fun i _ h2 => k.block i (by omega)
theorem MkAt.turned {lo hi a b : Nat} {W W' : World} {s : Nat} {l : List Bool} (h : MkAt lo hi W s l) (k : Tur a b W W') (hd : hi ≤ a ∨ b ≤ lo) : MkAt lo hi W' s l :=
  h.of_same k.size fun i h1 h2 => k.block i (by have := h.2.2.1; omega) (by omega)
theorem MkAt.lt {lo hi : Nat} {W : World} {s : Nat} {l : List Bool} (h : MkAt lo hi W s l) : s < W.heap.size := by have := h.2.1; have := h.2.2.1; omega
theorem MkAt.open {lo hi : Nat} {W : World} {s : Nat} {l : List Bool} (h : MkAt lo hi W s l) : ∃ a cap, W.cell? ⟨s, 0, none⟩ = some (.int .i64 l.length) ∧ W.cell? ⟨s, 1, none⟩ = some (.slice a (nW l.length) cap) ∧ W.cell? ⟨s, 2, none⟩ = some (.bool true) ∧
    RowAt hi W (.slice a (nW l.length) cap) (nW l.length) (intVals .u64 (wdsL l)) := by
  obtain ⟨h1, h2, h3, v, hB, ho, hn, hg⟩ := h
  have hr0 := RowAt.of_owns ho (Nat.le_refl _)
  obtain ⟨a, cap, rfl, hx⟩ := hr0
  refine ⟨a, cap, hB.cell 0 rfl, hB.cell 1 rfl, hB.cell 2 rfl, ⟨a, cap, rfl, hx.1, hx.2.imp id ?_⟩⟩
  rintro ⟨b, off, rfl, _, hc⟩
  exact ⟨b, off, rfl, hg b rfl, hc⟩
theorem RowAt.getu {B : Nat} {w : World} {ad : Option Addr} {cap n : Nat} {l : List Int} {kd : IntKind} (h : RowAt B w (.slice ad n cap) n (intVals kd l)) (hn : l.length = n) (k : Nat) (hk : k < n) : ∃ b off, ad = some ⟨b, off, none⟩ ∧ b < B ∧ w.cell? ⟨b, off + k, none⟩ = some (.int kd (l.getD k 0)) := by
  obtain ⟨a, c, e, _, hx⟩ := h
  simp only [Value.slice.injEq] at e
  obtain ⟨rfl, _⟩ := e
  rcases hx with hx | ⟨b, off, rfl, hb, hx⟩
  · have : (intVals kd l).length = 0 := by rw [hx]; rfl
    rw [intVals_len] at this; omega
  · refine ⟨b, off, rfl, hb, ?_⟩
    rw [hx k (by rw [intVals_len]; omega), intVals_get _ _ _ (by omega)]
    simp [List.getD, List.getElem?_eq_getElem (show k < l.length by omega)]
/-- The word of a place, in memory. -/
theorem MkAt.word {lo hi : Nat} {W : World} {s : Nat} {L : List Bool} (h : MkAt lo hi W s L) (k : Nat) (hk : k < L.length) : ∃ b off cap, W.cell? ⟨s, 1, none⟩ = some (.slice (some ⟨b, off, none⟩) (nW L.length) cap) ∧ W.cell? ⟨b, off + k / 64, none⟩ = some (.int .u64 ((wdL L (k / 64) : Nat) : Int)) ∧ b < hi := by
  obtain ⟨a, cap, c0, c1, c2, hr⟩ := h.open
  have hj : k / 64 < nW L.length := by unfold nW; omega
  obtain ⟨b, off, rfl, hb, q⟩ := hr.getu (wdsL_len L) (k / 64) hj
  refine ⟨b, off, cap, c1, ?_, hb⟩
  rw [q, List.getD_eq_getElem?_getD, List.getElem?_eq_getElem (show k / 64 < (wdsL L).length by rw [wdsL_len]; exact hj), wdsL_get]
  rfl
/-- A store that turns a place. -/
theorem MkAt.flip {lo hi : Nat} {W : World} {s : Nat} {L : List Bool} (h : MkAt lo hi W s L) {b off cap k : Nat} (hk : k < L.length) (hc : W.cell? ⟨s, 1, none⟩ = some (.slice (some ⟨b, off, none⟩) (nW L.length) cap)) :
    MkAt lo hi (W.setCell ⟨b, off + k / 64, none⟩ (.int .u64 ((wdL (L.set k (!L.getD k false)) (k / 64) : Nat) : Int))) s (L.set k (!L.getD k false)) ∧ W.frozen? ⟨b, off + k / 64, none⟩ = false ∧ Tur lo hi W (W.setCell ⟨b, off + k / 64, none⟩ (.int .u64 ((wdL (L.set k (!L.getD k false)) (k / 64) : Nat) : Int))) := by
  have hj : k / 64 < nW L.length := by unfold nW; omega
  have hws := wdsL_set L k hk
  obtain ⟨x, hx⟩ : ∃ x : Int, ((wdL (L.set k (!L.getD k false)) (k / 64) : Nat) : Int) = x := ⟨_, rfl⟩
  obtain ⟨L', hL'⟩ : ∃ L', L.set k (!L.getD k false) = L' := ⟨_, rfl⟩
  have hlen : L'.length = L.length := by rw [← hL', List.length_set]
  rw [hx, hL'] at hws
  rw [hx, hL']
  obtain ⟨h1, h2, h3, v, hB, ho, hn, hg⟩ := h
  have hv : v = .slice (some ⟨b, off, none⟩) (nW L.length) cap := by
    have := hB.cell 1 rfl
    rw [hc] at this
    exact (Option.some.inj this).symm
  rcases ho.2 with ⟨h4, _⟩ | ⟨g, cap', cur, e, hlo, hgb, hnc, hcm, hcs, htk⟩
  · rw [hv] at h4; cases h4
  · rw [hv] at e
    simp only [Value.slice.injEq, Option.some.injEq, Addr.mk.injEq, true_and, and_true] at e
    obtain ⟨⟨rfl, rfl⟩, rfl⟩ := e
    subst hv
    have hgb' : Blk W b cur 70 := hgb
    have hbs : b ≠ s := fun e => hn (by subst e; rfl)
    rw [Nat.zero_add]
    unfold MkAt
    rw [hlen]
    refine ⟨⟨h1, h2, by simpa using h3, _, hB.setOther ⟨b, k / 64, none⟩ _ (Ne.symm hbs), ⟨by rw [hws]; simp [intVals, wdsL_len], .inr ⟨b, cap, cur.setIfInBounds (k / 64) (.int .u64 x), by simp, hlo, hgb'.set (k / 64) _, by simpa using hnc, hcm, by simpa using hcs, ?_⟩⟩, by simpa using hn, by simpa using hg⟩, hgb'.frozen (k / 64), (Tur.of_below (Below.refl _ W)).setc _ _ hlo (hg b rfl)⟩
    rw [Array.toList_setIfInBounds, List.take_set, htk, hws]
    simp [intVals]
/-- No marks, or zero ones. -/
def NoMk (W : World) (p : Option Addr) : Prop := p = none ∨ ∃ s, p = some ⟨s, 0, none⟩ ∧ W.cell? ⟨s, 2, none⟩ = some (.bool false)
theorem NoMk.step {W W' : World} {p : Option Addr} (h : NoMk W p) (k : Below W.heap.size W W') : NoMk W' p := by
  rcases h with h | ⟨s, h1, h2⟩
  · exact .inl h
  · exact .inr ⟨s, h1, (k.cell (p := ⟨s, 2, none⟩) (World.block_lt_of_cell? W _ h2)).trans h2⟩
theorem none_none {w : World} {p : Option Addr} (h : NoMk w p) : Calls Tryd.prog 33 #[.pointer p] w fun e w' => e = .returned (.bool true) ∧ w = w' := by
  rcases h with rfl | ⟨s, rfl, c⟩
  · go_enter Tryd.func33, Tryd.ntmps33
    go_wp2_with fail
    go_ret
    exact ⟨rfl, rfl⟩
  · go_enter Tryd.func33, Tryd.ntmps33
    go_wp2_with fail
    go_ret
    exact ⟨rfl, rfl⟩
theorem none_live {lo hi : Nat} {w : World} {s : Nat} {l : List Bool} (h : MkAt lo hi w s l) : Calls Tryd.prog 33 #[.pointer (some ⟨s, 0, none⟩)] w fun e w' => e = .returned (.bool false) ∧ w = w' := by
  obtain ⟨a, cap, _, _, c2, _⟩ := h.open
  go_enter Tryd.func33, Tryd.ntmps33
  go_wp2_with fail
  go_ret
  exact ⟨rfl, rfl⟩
def inI (n : Nat) (at_ : Int) : Bool := decide (0 ≤ at_ ∧ at_ < n)
theorem inI_true {n : Nat} {i : Int} (h : inI n i = true) : ∃ k : Nat, i = k ∧ k < n := by
  have := of_decide_eq_true h
  exact ⟨i.toNat, by omega, by omega⟩
theorem inI_at {n k : Nat} (h : k < n) : inI n k = true := by unfold inI; exact decide_eq_true (by omega)
theorem has_calls (n : Nat) (i : Int) (w : World) : Calls Tryd.prog 43 #[.int .i64 n, .int .i64 i] w fun e w' => e = .returned (.bool (inI n i)) ∧ w = w' := by
  by_cases h0 : 0 ≤ i
  · by_cases h1 : i < n
    · have hb : inI n i = true := by simp [inI]; omega
      rw [hb]; clear hb
      go_enter Tryd.func43, Tryd.ntmps43
      go_wp2_with fail
      go_ret
      exact ⟨rfl, rfl⟩
    · have hb : inI n i = false := by simp [inI]; omega
      rw [hb]; clear hb
      go_enter Tryd.func43, Tryd.ntmps43
      go_wp2_with fail
      go_ret
      exact ⟨rfl, rfl⟩
  · have hb : inI n i = false := by simp [inI]; omega
    rw [hb]; clear hb
    go_enter Tryd.func43, Tryd.ntmps43
    go_wp2_with fail
    go_ret
    exact ⟨rfl, rfl⟩
theorem Len_none {w : World} {p : Option Addr} (h : NoMk w p) : Calls Tryd.prog 14 #[.pointer p] w fun e w' => e = .returned (.int .i64 0) ∧ w = w' := by
  go_enter Tryd.func14, Tryd.ntmps14
  go_wp2_with fail
  refine (none_none h).mono ?_; rintro e _ ⟨rfl, rfl⟩
  go_wp2_with fail
  go_ret
  exact ⟨rfl, rfl⟩
theorem Len_ok {lo hi : Nat} {w : World} {s : Nat} {l : List Bool} (h : MkAt lo hi w s l) : Calls Tryd.prog 14 #[.pointer (some ⟨s, 0, none⟩)] w fun e w' => e = .returned (.int .i64 l.length) ∧ w = w' := by
  obtain ⟨a, cap, c0, _, _, _⟩ := h.open
  go_enter Tryd.func14, Tryd.ntmps14
  go_wp2_with fail
  refine (none_live h).mono ?_; rintro e _ ⟨rfl, rfl⟩
  go_wp2_with fail
  go_ret
  exact ⟨rfl, rfl⟩
theorem spot_ok (k : Nat) (hk : k ≤ 1000000) (w : World) : Calls Tryd.prog 40 #[.int .i64 k] w fun e w' => e = .returned (.agg #[.int .i64 ((k / 64 : Nat) : Int), .int .i64 ((k % 64 : Nat) : Int)]) ∧ Below w.heap.size w w' := by
  have k0 : (0 : Int) ≤ k := by omega
  have k1 : (k : Int) ≤ 1000000 := by omega
  go_enter Tryd.func40, Tryd.ntmps40
  go_wp2_with fail
  have hB := Blk.new w #[.int .i64 ((k : Int) / 64), .int .i64 ((k : Int) % 64)] 81
  have c0 := hB.cell 0 rfl
  have c1 := hB.cell 1 rfl
  have kb : Below w.heap.size w (w.alloc (.cells #[.int .i64 ((k : Int) / 64), .int .i64 ((k : Int) % 64)] 81)) := (Below.refl _ w).alloc (Nat.le_refl _) _
  generalize w.alloc (.cells #[.int .i64 ((k : Int) / 64), .int .i64 ((k : Int) % 64)] 81) = w1 at c0 c1 kb ⊢
  refine bodyPost_ret (v := .agg #[.int .i64 ((k : Int) / 64), .int .i64 ((k : Int) % 64)]) ?_ rfl ⟨by push_cast; rfl, kb⟩
  simp [results, asAddr]
  simp [go_sem, c0, c1]
end Go.Proofs.YtbkegknfmcanaaaDoor
