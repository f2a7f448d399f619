/-
  Package state: sheets; New, Get, Len, Copy, Move. Conditions: sheets of fewer than a million slots.
-/
import Derived.Test.YtdhbhjkfcpglbaaDoorStC
namespace Go.Proofs.YtdhbhjkfcpglbaaDoor
open Go.RowKit
attribute [local go_sem] Oper.semAt_some
set_option maxHeartbeats 4000000
set_option maxRecDepth 8000

theorem infoSt : ElemInfo Tryd.prog 23 (.int .i64 0) 1 8 := elemInfo_of (by kernel_rfl) rfl (by decide)
theorem info64 : ElemInfo Tryd.prog 3 (.int .i64 0) 1 8 := elemInfo_of (by kernel_rfl) rfl (by decide)
/-- Of what was there, nothing turns but blocks from lo on, below hi. -/
structure Tur (lo hi : Nat) (W W' : World) : Prop where
  os : W'.os = W.os
  tape : W'.tape = W.tape
  output : W'.output = W.output
  size : W.heap.size ≤ W'.heap.size
  block : ∀ k, k < W.heap.size → (k < lo ∨ hi ≤ k) → W'.heap[k]? = W.heap[k]?
theorem Tur.of_below {lo hi : Nat} {W W' : World} (h : Below W.heap.size W W') : Tur lo hi W W' := ⟨h.os, h.tape, h.output, h.size, fun k hk _ => h.block k hk⟩
theorem Tur.trans {lo hi : Nat} {X Y Z : World} (h : Tur lo hi X Y) (k : Tur lo hi Y Z) : Tur lo hi X Z := ⟨k.os.trans h.os, k.tape.trans h.tape, k.output.trans h.output, Nat.le_trans h.size k.size, fun i hi hc => (k.block i (Nat.lt_of_lt_of_le hi h.size) hc).trans (h.block i hi hc)⟩
theorem Tur.below {B lo hi : Nat} {W W' : World} (h : Tur lo hi W W') (hB : B ≤ lo) (hz : B ≤ W.heap.size) : Below B W W' := ⟨h.os, h.tape, h.output, h.size, fun k hk => h.block k (by omega) (.inl (by omega))⟩
theorem Tur.setc {lo hi : Nat} {W X : World} (h : Tur lo hi W X) (a : Addr) (v : Value) (h1 : lo ≤ a.block) (h2 : a.block < hi) : Tur lo hi W (X.setCell a v) := ⟨h.os, h.tape, h.output, by simpa using h.size, fun i hi hc => (Below.heap_setCell X a v i (by omega)).trans (h.block i hi hc)⟩
theorem Tur.row {lo hi B n : Nat} {W W' : World} {v : Value} {xs : List Value} (h : Tur lo hi W W') (hr : RowAt B W v n xs) (hv : ∀ b off m c, v = .slice (some ⟨b, off, none⟩) m c → m ≠ 0 → b < lo ∨ hi ≤ b) (h1 : xs.length = n) : RowAt B W' v n xs := by
  obtain ⟨a, c, rfl, hc, hx⟩ := hr
  refine ⟨a, c, rfl, hc, ?_⟩
  rcases hx with hx | ⟨b, off, rfl, hb, hx⟩
  · exact .inl hx
  · by_cases h0 : n = 0
    · left
      exact List.eq_nil_of_length_eq_zero (by omega)
    · refine .inr ⟨b, off, rfl, hb, fun i hi => ?_⟩
      have hcell := hx i hi
      rw [List.getElem?_eq_getElem hi] at hcell
      have hlt := World.block_lt_of_cell? W _ hcell
      exact (World.cell?_of_block (a := ⟨b, off + i, none⟩) (h.block b hlt (hv b off n c rfl h0))).trans (hx i hi)
/-- A sheet whose two blocks lie from lo on, below hi. -/
def ShAt (lo hi : Nat) (W : World) (s : Nat) (l : List Int) : Prop :=
  lo ≤ s ∧ s < hi ∧ hi ≤ W.heap.size ∧ ∃ v, Blk W s #[v, .bool true] 52 ∧ W.ownsRow lo 23 1 v l.length (intVals .i64 l) ∧ v.ownBlock ≠ some s ∧ ∀ g, v.ownBlock = some g → g < hi
theorem ShAt.of_same {lo hi : Nat} {W W' : World} {s : Nat} {l : List Int} (h : ShAt lo hi W s l) (hz : W.heap.size ≤ W'.heap.size) (hb : ∀ k, lo ≤ k → k < hi → W'.heap[k]? = W.heap[k]?) : ShAt lo hi W' s l := by
  obtain ⟨h1, h2, h3, v, hB, ho, hn, hg⟩ := h
  refine ⟨h1, h2, Nat.le_trans h3 hz, v, (hb s h1 h2).trans hB, ⟨ho.1, ?_⟩, hn, hg⟩
  rcases ho.2 with h4 | ⟨g, cap, cur, rfl, hlo, hgb, rest⟩
  · exact .inl h4
  · exact .inr ⟨g, cap, cur, rfl, hlo, (hb g hlo (hg g rfl)).trans hgb, rest⟩
theorem ShAt.step {lo hi : Nat} {W W' : World} {s : Nat} {l : List Int} (h : ShAt lo hi W s l) (k : Below W.heap.size W W') : ShAt lo hi W' s l :=
  h.of_same k.size fun i _ h2 => k.block i (by have := h.2.2.1; omega)
theorem ShAt.turned {lo hi a b : Nat} {W W' : World} {s : Nat} {l : List Int} (h : ShAt lo hi W s l) (k : Tur a b W W') (hd : hi ≤ a ∨ b ≤ lo) : ShAt lo hi W' s l :=
  h.of_same k.size fun i h1 h2 => k.block i (by have := h.2.2.1; omega) (by omega)
theorem ShAt.lt {lo hi : Nat} {W : World} {s : Nat} {l : List Int} (h : ShAt lo hi W s l) : s < W.heap.size := by have := h.2.1; have := h.2.2.1; omega
/-- What a sheet's two cells hold. -/
theorem ShAt.open {lo hi : Nat} {W : World} {s : Nat} {l : List Int} (h : ShAt lo hi W s l) : ∃ a cap, W.cell? ⟨s, 0, none⟩ = some (.slice a l.length cap) ∧ W.cell? ⟨s, 1, none⟩ = some (.bool true) ∧ RowAt hi W (.slice a l.length cap) l.length (intVals .i64 l) ∧
    (∀ b off m c, (Value.slice a l.length cap) = .slice (some ⟨b, off, none⟩) m c → m ≠ 0 → lo ≤ b ∧ b < hi ∧ b ≠ s) := by
  obtain ⟨h1, h2, h3, v, hB, ho, hn, hg⟩ := h
  have hr0 := RowAt.of_owns ho (Nat.le_refl _)
  obtain ⟨a, cap, rfl, hx⟩ := hr0
  have hblk : ∀ b off m c, (Value.slice a l.length cap) = .slice (some ⟨b, off, none⟩) m c → lo ≤ b ∧ b < hi ∧ b ≠ s := by
    intro b off m c e
    simp only [Value.slice.injEq] at e
    obtain ⟨rfl, _⟩ := e
    have := owns_block ho b rfl
    exact ⟨this.1, hg b rfl, fun e => hn (by subst e; rfl)⟩
  refine ⟨a, cap, hB.cell 0 rfl, hB.cell 1 rfl, ⟨a, cap, rfl, hx.1, hx.2.imp id ?_⟩, fun b off m c e _ => hblk b off m c e⟩
  rintro ⟨b, off, rfl, _, hc⟩
  exact ⟨b, off, rfl, (hblk b off _ _ rfl).2.1, hc⟩
/-- An element of a row of ints. -/
theorem RowAt.geti {B : Nat} {w : World} {ad : Option Addr} {cap : Nat} {l : List Int} (h : RowAt B w (.slice ad l.length cap) l.length (intVals .i64 l)) (k : Nat) (hk : k < l.length) : ∃ b off, ad = some ⟨b, off, none⟩ ∧ b < B ∧ w.cell? ⟨b, off + k, none⟩ = some (.int .i64 l[k]) := by
  obtain ⟨a, c, e, _, hx⟩ := h
  simp only [Value.slice.injEq] at e
  obtain ⟨rfl, _⟩ := e
  rcases hx with hx | ⟨b, off, rfl, hb, hx⟩
  · have : (intVals .i64 l).length = 0 := by rw [hx]; rfl
    rw [intVals_len] at this; omega
  · refine ⟨b, off, rfl, hb, ?_⟩
    have := hx k (by rw [intVals_len]; exact hk)
    rw [this]
    exact intVals_get _ _ _ hk
/-- A store into a sheet's row. -/
theorem ShAt.set {lo hi : Nat} {W : World} {s : Nat} {l : List Int} (h : ShAt lo hi W s l) {b off cap : Nat} {k : Nat} (hk : k < l.length) (hc : W.cell? ⟨s, 0, none⟩ = some (.slice (some ⟨b, off, none⟩) l.length cap)) (x : Int) :
    ShAt lo hi (W.setCell ⟨b, off + k, none⟩ (.int .i64 x)) s (l.set k x) ∧ W.frozen? ⟨b, off + k, none⟩ = false ∧ Tur lo hi W (W.setCell ⟨b, off + k, none⟩ (.int .i64 x)) := by
  obtain ⟨h1, h2, h3, v, hB, ho, hn, hg⟩ := h
  have hv : v = .slice (some ⟨b, off, none⟩) l.length cap := by
    have := hB.cell 0 rfl
    rw [hc] at this
    exact (Option.some.inj this).symm
  rcases ho.2 with ⟨h4, _⟩ | ⟨g, cap', cur, e, hlo, hgb, hnc, hcm, hcs, htk⟩
  · rw [hv] at h4; cases h4
  · rw [hv] at e
    simp only [Value.slice.injEq, Option.some.injEq, Addr.mk.injEq, true_and, and_true] at e
    obtain ⟨⟨rfl, rfl⟩, rfl⟩ := e
    subst hv
    have hgb' : Blk W b cur 23 := hgb
    have hbs : b ≠ s := fun e => hn (by subst e; rfl)
    rw [Nat.zero_add]
    refine ⟨⟨h1, h2, by simpa using h3, _, hB.setOther ⟨b, k, none⟩ _ (Ne.symm hbs), ⟨by simp [intVals], .inr ⟨b, cap, cur.setIfInBounds k (.int .i64 x), by simp, hlo, hgb'.set k _, by simpa using hnc, hcm, by simpa using hcs, ?_⟩⟩, by simpa using hn, by simpa using hg⟩, hgb'.frozen k, (Tur.of_below (Below.refl _ W)).setc _ _ hlo (hg b rfl)⟩
    rw [Array.toList_setIfInBounds, List.take_set, List.length_set, htk]
    simp [intVals]
/-- No sheet, or a zero one. -/
def NoSh (W : World) (p : Option Addr) : Prop := p = none ∨ ∃ s, p = some ⟨s, 0, none⟩ ∧ W.cell? ⟨s, 1, none⟩ = some (.bool false)
theorem NoSh.step {W W' : World} {p : Option Addr} (h : NoSh W p) (k : Below W.heap.size W W') : NoSh W' p := by
  rcases h with h | ⟨s, h1, h2⟩
  · exact .inl h
  · exact .inr ⟨s, h1, (k.cell (p := ⟨s, 1, none⟩) (World.block_lt_of_cell? W _ h2)).trans h2⟩
theorem none_none {w : World} {p : Option Addr} (h : NoSh w p) : Calls Tryd.prog 34 #[.pointer p] w fun e w' => e = .returned (.bool true) ∧ w = w' := by
  rcases h with rfl | ⟨s, rfl, c⟩
  · go_enter Tryd.func34, Tryd.ntmps34
    go_wp2_with fail
    go_ret
    exact ⟨rfl, rfl⟩
  · go_enter Tryd.func34, Tryd.ntmps34
    go_wp2_with fail
    go_ret
    exact ⟨rfl, rfl⟩
theorem none_live {lo hi : Nat} {w : World} {s : Nat} {l : List Int} (h : ShAt lo hi w s l) : Calls Tryd.prog 34 #[.pointer (some ⟨s, 0, none⟩)] w fun e w' => e = .returned (.bool false) ∧ w = w' := by
  obtain ⟨a, cap, _, c1, _⟩ := h.open
  go_enter Tryd.func34, Tryd.ntmps34
  go_wp2_with fail
  go_ret
  exact ⟨rfl, rfl⟩
def inI (n : Nat) (at_ : Int) : Bool := decide (0 ≤ at_ ∧ at_ < n)
theorem has_calls (a : Option Addr) (n cap : Nat) (i : Int) (w : World) : Calls Tryd.prog 35 #[.slice a n cap, .int .i64 i] w fun e w' => e = .returned (.bool (inI n i)) ∧ w = w' := by
  by_cases h0 : 0 ≤ i
  · by_cases h1 : i < n
    · have hb : inI n i = true := by simp [inI]; omega
      rw [hb]; clear hb
      go_enter Tryd.func35, Tryd.ntmps35
      go_wp2_with fail
      go_ret
      exact ⟨rfl, rfl⟩
    · have hb : inI n i = false := by simp [inI]; omega
      rw [hb]; clear hb
      go_enter Tryd.func35, Tryd.ntmps35
      go_wp2_with fail
      go_ret
      exact ⟨rfl, rfl⟩
  · have hb : inI n i = false := by simp [inI]; omega
    rw [hb]; clear hb
    go_enter Tryd.func35, Tryd.ntmps35
    go_wp2_with fail
    go_ret
    exact ⟨rfl, rfl⟩
theorem New_no (many : Int) (w : World) (h : many < 0 ∨ 256 < many) : Calls Tryd.prog 13 #[.int .i64 many] w fun e w' => e = .returned (.tuple #[.pointer none, .int .i64 2]) ∧ w = w' := by
  by_cases h0 : many < 0
  · clear h
    go_enter Tryd.func13, Tryd.ntmps13
    go_wp2_with fail
    go_ret2
    exact ⟨rfl, rfl⟩
  · have h1 : 256 < many := by omega
    clear h
    go_enter Tryd.func13, Tryd.ntmps13
    go_wp2_with fail
    go_ret2
    exact ⟨rfl, rfl⟩
theorem New_ok (n : Nat) (w : World) (h : n ≤ 256) : Calls Tryd.prog 13 #[.int .i64 n] w fun e w' => ∃ s, e = .returned (.tuple #[.pointer (some ⟨s, 0, none⟩), .int .i64 0]) ∧ ShAt w.heap.size w'.heap.size w' s (List.replicate n 0) ∧ Below w.heap.size w w' := by
  obtain ⟨ii, hii, hiz, his, hib, _⟩ := infoSt
  have h0 : (0 : Int) ≤ n := by omega
  have h1 : (n : Int) ≤ 256 := by omega
  go_enter Tryd.func13, Tryd.ntmps13
  go_wp2_with (at_make; refine wpList_make_full _ rfl _ _ 50 rfl w.heap.size 23 ii (.int .i64 0) 1 Tryd.underlying50 hii hiz his .i64 .i64 n n n rfl rfl rfl rfl (by rw [hib]; omega) (by unfold maxLen; omega) (Nat.le_refl _) ?_)
  intro W1 ho1 hg1
  have k1 : Below w.heap.size w W1 := (Below.refl _ w).grown hg1 (Nat.le_refl _) (fun k e => by cases e)
  obtain ⟨_, hlt⟩ := owns_block ho1 w.heap.size rfl
  rw [show (madeCells #[Value.int IntKind.i64 0] n).toList = intVals .i64 (List.replicate n 0) by rw [made_one]; simp [intVals]] at ho1
  clear hg1
  go_wp2_with fail
  go_ret2
  refine ⟨_, rfl, ⟨k1.size, by simp, Nat.le_refl _, _, Blk.new W1 _ _, ?_, fun e => by simp only [Value.ownBlock, Option.some.injEq] at e; omega, fun g e => by simp only [Value.ownBlock, Option.some.injEq] at e; simp; omega⟩, k1.alloc k1.size _⟩
  rw [List.length_replicate]
  exact owns_below ho1 ((Below.refl _ W1).alloc (Nat.le_refl _) _) (Nat.le_refl _)
theorem Get_none {w : World} {p : Option Addr} (h : NoSh w p) (i : Int) : Calls Tryd.prog 15 #[.pointer p, .int .i64 i] w fun e w' => e = .returned (.tuple #[.int .i64 0, .bool false]) ∧ w = w' := by
  go_enter Tryd.func15, Tryd.ntmps15
  go_wp2_with fail
  refine (none_none h).mono ?_; rintro e _ ⟨rfl, rfl⟩
  go_wp2_with fail
  go_ret2
  exact ⟨rfl, rfl⟩
def getI (l : List Int) (i : Int) : Int := if inI l.length i = true then l.getD i.toNat 0 else 0
theorem inI_true {n : Nat} {i : Int} (h : inI n i = true) : ∃ k : Nat, i = k ∧ k < n := by
  have := of_decide_eq_true h
  exact ⟨i.toNat, by omega, by omega⟩
theorem getI_at {l : List Int} {k : Nat} (h : k < l.length) : getI l k = l[k] := by
  unfold getI
  rw [if_pos (by simp [inI]; omega)]
  simp [h]
theorem Get_ok {lo hi : Nat} {w : World} {s : Nat} {l : List Int} (h : ShAt lo hi w s l) (i : Int) (hl : l.length < 1000000) : Calls Tryd.prog 15 #[.pointer (some ⟨s, 0, none⟩), .int .i64 i] w fun e w' => e = .returned (.tuple #[.int .i64 (getI l i), .bool (inI l.length i)]) ∧ w = w' := by
  obtain ⟨a, cap, c0, c1, hr, _⟩ := h.open
  cases hb : inI l.length i with
  | false =>
    have hg : getI l i = 0 := by unfold getI; rw [hb]; rfl
    rw [hg]
    have HB := Lib.hid hb
    clear hb hg hr
    go_enter Tryd.func15, Tryd.ntmps15
    go_wp2_with fail
    refine (none_live h).mono ?_; rintro e _ ⟨rfl, rfl⟩
    go_wp2_with fail
    refine (has_calls _ _ _ _ _).mono ?_; rintro e _ ⟨rfl, rfl⟩
    rw [HB.out]
    go_wp2_with fail
    go_ret2
    exact ⟨rfl, rfl⟩
  | true =>
    obtain ⟨k, rfl, hk⟩ := inI_true hb
    rw [getI_at hk]
    obtain ⟨x, hx⟩ : ∃ x, l[k] = x := ⟨_, rfl⟩
    rw [hx]
    obtain ⟨b, off, rfl, _, q⟩ := hr.geti k hk
    rw [hx] at q
    have HB := Lib.hid hb
    have i0 : (0 : Int) ≤ k := by omega
    have i1 : (k : Int) < l.length := by omega
    clear hb hx hr
    go_enter Tryd.func15, Tryd.ntmps15
    go_wp2_with fail
    refine (none_live h).mono ?_; rintro e _ ⟨rfl, rfl⟩
    go_wp2_with fail
    refine (has_calls _ _ _ _ _).mono ?_; rintro e _ ⟨rfl, rfl⟩
    rw [HB.out]
    go_wp2_with fail
    go_ret2
    exact ⟨rfl, rfl⟩
theorem Len_none {w : World} {p : Option Addr} (h : NoSh w p) : Calls Tryd.prog 22 #[.pointer p] w fun e w' => e = .returned (.int .i64 0) ∧ w = w' := by
  go_enter Tryd.func22, Tryd.ntmps22
  go_wp2_with fail
  refine (none_none h).mono ?_; rintro e _ ⟨rfl, rfl⟩
  go_wp2_with fail
  go_ret
  exact ⟨rfl, rfl⟩
theorem Len_ok {lo hi : Nat} {w : World} {s : Nat} {l : List Int} (h : ShAt lo hi w s l) : Calls Tryd.prog 22 #[.pointer (some ⟨s, 0, none⟩)] w fun e w' => e = .returned (.int .i64 l.length) ∧ w = w' := by
  obtain ⟨a, cap, c0, c1, hr, _⟩ := h.open
  clear hr
  go_enter Tryd.func22, Tryd.ntmps22
  go_wp2_with fail
  refine (none_live h).mono ?_; rintro e _ ⟨rfl, rfl⟩
  go_wp2_with fail
  go_ret
  exact ⟨rfl, rfl⟩
theorem run_eql_slice_nil {P : Program} {t e : TypeId} (ht : P.underlying t = some (.slice e)) (a : Option Addr) (n c : Nat) (w : World) : (binOp .eql t (.slice a n c) (.slice none 0 0)).run P w = .ok (.bool a.isNone) w := by
  have h1 : ∀ d : Nat, (Op.equalIn (d + 1) t (.slice a n c) (.slice none 0 0)).run P w = .ok a.isNone w := fun d => by cases a <;> simp [Op.equalIn, run_underlying ht]
  simp only [binOp]
  simp [Op.equal, Op.maxDepth, h1 9999]
theorem clone_ok (v : Value) (l : List Int) (B : Nat) (w : World) (hB : B ≤ w.heap.size) (hl : l.length < 1000000) (hv : RowAt B w v l.length (intVals .i64 l)) :
    Calls Tryd.prog 43 #[v] w fun e w' => ∃ v', e = .returned v' ∧ w'.ownsRow w.heap.size 23 1 v' l.length (intVals .i64 l) ∧ Below w.heap.size w w' := by
  obtain ⟨ad, cap, rfl, hcap, hrow⟩ := id hv
  have HIL := Lib.hid (intVals_len .i64 l)
  cases ad with
  | none =>
    obtain ⟨e0, rfl⟩ := hcap.2 rfl
    obtain rfl : l = [] := List.eq_nil_of_length_eq_zero e0
    have he := run_eql_slice_nil (P := Tryd.prog) Tryd.underlying50 none 0 0 w
    go_enter Tryd.func43, Tryd.ntmps43
    go_wp2_with fail
    go_ret
    exact ⟨_, rfl, ⟨rfl, .inl ⟨rfl, rfl⟩⟩, Below.refl _ _⟩
  | some ad =>
    have he := run_eql_slice_nil (P := Tryd.prog) Tryd.underlying50 (some ad) l.length cap w
    go_enter Tryd.func43, Tryd.ntmps43
    go_wp2_with (at_builtin; refine wpList_append_row rfl _ _ 50 rfl w.heap.size Tryd.underlying50 infoSt 0 [] rfl ?c1 B l.length (intVals .i64 l) rfl ?c2 ?c3 ?c4 ?c5 ?c6 ?c7 ?_)
    case c1 => exact World.ownsRow_made w #[] 0 (Nat.le_refl _) (by decide) rfl
    case c2 => exact hv.below ((Below.refl _ w).alloc (Nat.le_refl _) _) hB
    case c3 => rw [HIL.out]; omega
    case c4 => exact intVals_one _ _
    case c5 => unfold maxLen; omega
    case c6 => omega
    case c7 => simp
    intro v1 w1 ho1 hg1
    have hb1 : Below w.heap.size w w1 := ((Below.refl _ w).alloc (Nat.le_refl _) _).grown hg1 (by simp) (fun k e => by cases e; exact Nat.le_refl _)
    clear hg1
    go_wp2_with fail
    go_ret
    exact ⟨_, rfl, by simpa using ho1, hb1⟩
theorem Copy_none {w : World} {p : Option Addr} (h : NoSh w p) : Calls Tryd.prog 24 #[.pointer p] w fun e w' => e = .returned (.pointer none) ∧ w = w' := by
  go_enter Tryd.func24, Tryd.ntmps24
  go_wp2_with fail
  refine (none_none h).mono ?_; rintro e _ ⟨rfl, rfl⟩
  go_wp2_with fail
  go_ret
  exact ⟨rfl, rfl⟩
theorem Copy_ok {lo hi : Nat} {w : World} {s : Nat} {l : List Int} (h : ShAt lo hi w s l) (hl : l.length < 1000000) : Calls Tryd.prog 24 #[.pointer (some ⟨s, 0, none⟩)] w fun e w' => ∃ c, e = .returned (.pointer (some ⟨c, 0, none⟩)) ∧ ShAt w.heap.size w'.heap.size w' c l ∧ Below w.heap.size w w' := by
  obtain ⟨a, cap, c0, c1, hr, _⟩ := h.open
  have HR := Lib.hid hr
  clear hr
  go_enter Tryd.func24, Tryd.ntmps24
  go_wp2_with fail
  refine (none_live h).mono ?_; rintro e _ ⟨rfl, rfl⟩
  go_wp2_with fail
  refine (clone_ok _ l hi w h.2.2.1 hl HR.out).mono ?_; rintro e w1 ⟨v, rfl, ho, k1⟩
  have hn : v.ownBlock ≠ some w1.heap.size := fun e => by have := (owns_block ho _ e).2; omega
  have hg : ∀ g, v.ownBlock = some g → g < w1.heap.size + 1 := fun g e => by have := (owns_block ho _ e).2; omega
  obtain ⟨sa, sc, rfl, _⟩ := (RowAt.of_owns ho (Nat.le_refl _)).len
  have HO := Lib.hid ho
  have HN := Lib.hid hn
  have HG := Lib.hid hg
  clear ho hn hg
  go_wp2_with fail
  go_ret
  exact ⟨_, rfl, ⟨k1.size, by simp, Nat.le_refl _, _, Blk.new w1 _ _, owns_below HO.out ((Below.refl _ w1).alloc (Nat.le_refl _) _) (Nat.le_refl _), HN.out, by simpa using HG.out⟩, k1.alloc k1.size _⟩
end Go.Proofs.YtdhbhjkfcpglbaaDoor
