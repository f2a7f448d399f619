/-
  Package pinfoldlaw21: calls in memory. No condition.
-/
import Derived.Test.YtchknegenaoliaaDeAk
import Derived.Test.YtchknegenaoliaaFrame
import Derived.Deep.Slices
namespace Go.Proofs.Ytchknegenaoliaa
open Go.ChangeShapes Go.WideShapes Go.ChangeAt Go.RowKit
attribute [local go_sem] Oper.semAt_some
set_option maxHeartbeats 4000000
set_option maxRecDepth 4000

theorem list_of {α : Type} {p : Nat → α → Prop} : ∀ (n : Nat), (∀ i, i < n → ∃ a, p i a) → ∃ l : List α, l.length = n ∧ ∀ i (h : i < l.length), p i l[i]
  | 0, _ => ⟨[], rfl, fun i h => absurd h (by simp)⟩
  | n + 1, h => by
    obtain ⟨l, hl, hp⟩ := list_of n fun i hi => h i (by omega)
    obtain ⟨a, ha⟩ := h n (by omega)
    refine ⟨l ++ [a], by simp [hl], fun i hi => ?_⟩
    by_cases e : i < l.length
    · rw [List.getElem_append_left e]; exact hp i e
    · obtain rfl : i = l.length := by simp at hi; omega
      rw [List.getElem_concat_length rfl, hl]; exact ha
/-- A call, as it lies in memory. -/
structure ActV where
  f0 : Int
  f1 : Int
  f2 : Int
  f3 : Int
  f4 : Int
  f5 : Int
structure ActAt (B : Nat) (W : World) (b off : Nat) (a : ActV) : Prop where
  c0 : W.cell? ⟨b, off, none⟩ = some (.int .i64 a.f0)
  c1 : W.cell? ⟨b, off + 1, none⟩ = some (.int .i64 a.f1)
  c2 : W.cell? ⟨b, off + 2, none⟩ = some (.int .i64 a.f2)
  c3 : W.cell? ⟨b, off + 3, none⟩ = some (.int .i64 a.f3)
  c4 : W.cell? ⟨b, off + 4, none⟩ = some (.int .i64 a.f4)
  c5 : W.cell? ⟨b, off + 5, none⟩ = some (.int .i64 a.f5)
  w0 : (Lit.int .i64 a.f0).wf = true
  w1 : (Lit.int .i64 a.f1).wf = true
  w2 : (Lit.int .i64 a.f2).wf = true
  w3 : (Lit.int .i64 a.f3).wf = true
  w4 : (Lit.int .i64 a.f4).wf = true
  w5 : (Lit.int .i64 a.f5).wf = true
  lt : b < B
theorem ActAt.below {B m : Nat} {W W' : World} {b off : Nat} {a : ActV} (h : ActAt B W b off a) (hb : Below m W W') (hm : B ≤ m) : ActAt B W' b off a := by
  have hl := h.lt
  exact ⟨(hb.cell (p := ⟨b, off, none⟩) (by dsimp only; omega)).trans h.c0, (hb.cell (p := ⟨b, off + 1, none⟩) (by dsimp only; omega)).trans h.c1, (hb.cell (p := ⟨b, off + 2, none⟩) (by dsimp only; omega)).trans h.c2, (hb.cell (p := ⟨b, off + 3, none⟩) (by dsimp only; omega)).trans h.c3, (hb.cell (p := ⟨b, off + 4, none⟩) (by dsimp only; omega)).trans h.c4, (hb.cell (p := ⟨b, off + 5, none⟩) (by dsimp only; omega)).trans h.c5, h.w0, h.w1, h.w2, h.w3, h.w4, h.w5, hl⟩
def ActsAt (B : Nat) (W : World) (v : Value) (l : List ActV) : Prop :=
  ∃ a cap, v = .slice a l.length cap ∧ l.length ≤ cap ∧ cap ≤ maxLen ∧ (l = [] ∨ ∃ b off, a = some ⟨b, off, none⟩ ∧ ∀ i (h : i < l.length), ActAt B W b (off + i * 6) l[i])
theorem ActsAt.below {B m : Nat} {W W' : World} {v : Value} {l : List ActV} (h : ActsAt B W v l) (hb : Below m W W') (hm : B ≤ m) : ActsAt B W' v l := by
  obtain ⟨a, cap, h1, h2, h4, h3⟩ := h
  refine ⟨a, cap, h1, h2, h4, h3.imp id ?_⟩
  rintro ⟨b, off, e, hc⟩
  exact ⟨b, off, e, fun i hi => (hc i hi).below hb hm⟩
theorem apihandle_of_cells {H : Type} {enc : TypeId × Value → H} {W : World} {base' fuel : Nat} {spare : Nat → Bool} {held : Bool} {c0 c1 : Value} {x : DataW H × List MemPlace} (hf : DataW.trod enc Try.prog W base' spare held fuel 28 [c0, c1] = some x) :
    ∃ n0 n1, c0 = .int .i64 n0 ∧ (Lit.int .i64 n0).wf = true ∧ c1 = .int .i64 n1 ∧ (Lit.int .i64 n1).wf = true := by
  obtain ⟨xs, n, rfl, _, _, hxl, hx⟩ := DataW.trod_struct Try.underlying28 hf
  have k0 : Try.prog.cellsOf 3 = 1 := by kernel_rfl
  have h0 : DataW.trod enc Try.prog W base' spare held n 3 (List.take (Try.prog.cellsOf 3) (List.drop 0 [c0, c1])) = xs[0]? := hx 0 _ rfl
  have h1 : DataW.trod enc Try.prog W base' spare held n 3 (List.take (Try.prog.cellsOf 3) (List.drop 1 [c0, c1])) = xs[1]? := hx 1 _ rfl
  have hsz : xs.length = 2 := hxl
  rw [List.getElem?_eq_getElem (by omega)] at h0 h1
  simp only [k0, List.drop_zero, List.drop_succ_cons, List.take_succ_cons, List.take_zero] at h0 h1
  obtain ⟨n0, e0, _, w0⟩ := DataW.trod_int Try.underlying3 h0
  simp only [List.cons.injEq, and_true] at e0
  obtain ⟨n1, e1, _, w1⟩ := DataW.trod_int Try.underlying3 h1
  simp only [List.cons.injEq, and_true] at e1
  exact ⟨n0, n1, e0, w0, e1, w1⟩
theorem pinfoldlaw21act_of_cells {H : Type} {enc : TypeId × Value → H} {W : World} {base' fuel : Nat} {spare : Nat → Bool} {held : Bool} {c0 c1 c2 c3 c4 c5 : Value} {x : DataW H × List MemPlace} (hf : DataW.trod enc Try.prog W base' spare held fuel 30 [c0, c1, c2, c3, c4, c5] = some x) :
    ∃ n0 n1 n2 n3 n4 n5, c0 = .int .i64 n0 ∧ (Lit.int .i64 n0).wf = true ∧ c1 = .int .i64 n1 ∧ (Lit.int .i64 n1).wf = true ∧ c2 = .int .i64 n2 ∧ (Lit.int .i64 n2).wf = true ∧ c3 = .int .i64 n3 ∧ (Lit.int .i64 n3).wf = true ∧ c4 = .int .i64 n4 ∧ (Lit.int .i64 n4).wf = true ∧ c5 = .int .i64 n5 ∧ (Lit.int .i64 n5).wf = true := by
  obtain ⟨xs, n, rfl, _, _, hxl, hx⟩ := DataW.trod_struct Try.underlying30 hf
  have k0 : Try.prog.cellsOf 3 = 1 := by kernel_rfl
  have k1 : Try.prog.cellsOf 28 = 2 := by kernel_rfl
  have h0 : DataW.trod enc Try.prog W base' spare held n 3 (List.take (Try.prog.cellsOf 3) (List.drop 0 [c0, c1, c2, c3, c4, c5])) = xs[0]? := hx 0 _ rfl
  have h1 : DataW.trod enc Try.prog W base' spare held n 3 (List.take (Try.prog.cellsOf 3) (List.drop 1 [c0, c1, c2, c3, c4, c5])) = xs[1]? := hx 1 _ rfl
  have h2 : DataW.trod enc Try.prog W base' spare held n 3 (List.take (Try.prog.cellsOf 3) (List.drop 2 [c0, c1, c2, c3, c4, c5])) = xs[2]? := hx 2 _ rfl
  have h3 : DataW.trod enc Try.prog W base' spare held n 3 (List.take (Try.prog.cellsOf 3) (List.drop 3 [c0, c1, c2, c3, c4, c5])) = xs[3]? := hx 3 _ rfl
  have h4 : DataW.trod enc Try.prog W base' spare held n 28 (List.take (Try.prog.cellsOf 28) (List.drop 4 [c0, c1, c2, c3, c4, c5])) = xs[4]? := hx 4 _ rfl
  have hsz : xs.length = 5 := hxl
  rw [List.getElem?_eq_getElem (by omega)] at h0 h1 h2 h3 h4
  simp only [k0, k1, List.drop_zero, List.drop_succ_cons, List.take_succ_cons, List.take_zero] at h0 h1 h2 h3 h4
  obtain ⟨n0, e0, _, w0⟩ := DataW.trod_int Try.underlying3 h0
  simp only [List.cons.injEq, and_true] at e0
  obtain ⟨n1, e1, _, w1⟩ := DataW.trod_int Try.underlying3 h1
  simp only [List.cons.injEq, and_true] at e1
  obtain ⟨n2, e2, _, w2⟩ := DataW.trod_int Try.underlying3 h2
  simp only [List.cons.injEq, and_true] at e2
  obtain ⟨n3, e3, _, w3⟩ := DataW.trod_int Try.underlying3 h3
  simp only [List.cons.injEq, and_true] at e3
  obtain ⟨n4, n5, e4, w4, e5, w5⟩ := apihandle_of_cells h4
  exact ⟨n0, n1, n2, n3, n4, n5, e0, w0, e1, w1, e2, w2, e3, w3, e4, w4, e5, w5⟩
theorem open_act {H : Type} {enc : TypeId × Value → H} {W : World} {base' fuel : Nat} {spare : Nat → Bool} {held : Bool} {b off : Nat} {cs : List Value} {x : DataW H × List MemPlace} (hc : W.cells? base' ⟨b, off, none⟩ 6 = some cs) (hf : DataW.trod enc Try.prog W base' spare held fuel 30 cs = some x) :
    ∃ a : ActV, ActAt W.heap.size W b off a := by
  obtain ⟨_, hlen, hcell⟩ := World.cells?_some hc
  match cs, hlen with
  | [v0, v1, v2, v3, v4, v5], _ =>
    obtain ⟨n0, n1, n2, n3, n4, n5, rfl, w0, rfl, w1, rfl, w2, rfl, w3, rfl, w4, rfl, w5⟩ := pinfoldlaw21act_of_cells hf
    refine ⟨⟨n0, n1, n2, n3, n4, n5⟩, ?_, ?_, ?_, ?_, ?_, ?_, w0, w1, w2, w3, w4, w5, ?_⟩
    · simpa [Addr.add] using hcell 0 (by omega)
    · simpa [Addr.add] using hcell 1 (by omega)
    · simpa [Addr.add] using hcell 2 (by omega)
    · simpa [Addr.add] using hcell 3 (by omega)
    · simpa [Addr.add] using hcell 4 (by omega)
    · simpa [Addr.add] using hcell 5 (by omega)
    · have := World.block_lt_of_cell? W _ (hcell 0 (by omega))
      simpa [Addr.add] using this
theorem spot_none' {W : World} {a : Addr} {v : Value} (hc : W.cell? (a.add 0) = some v) : a.spot = none ∧ a.block < W.heap.size := by
  obtain ⟨b, off, spot⟩ := a
  have hsp : spot = none := by
    cases spot with
    | none => rfl
    | some s => simp [World.cell?, Addr.add] at hc; split at hc <;> simp at hc
  subst hsp
  exact ⟨rfl, by simpa [Addr.add] using World.block_lt_of_cell? W _ hc⟩
theorem open_acts {H : Type} {enc : TypeId × Value → H} {W : World} {base base' : Nat} {spare : Nat → Bool} {held : Bool} {v : Value} {d : DataW H} {p : List MemPlace}
    (hv : Value.okWide Try.prog W .any base 22 v) (h : DataW.Trod enc Try.prog W base' spare held 22 v d p) : ∃ l : List ActV, ActsAt W.heap.size W v l := by
  obtain ⟨a0, n0, c0, rfl⟩ := okWide_slice Try.underlying22 hv
  obtain ⟨fuel, hf⟩ := h
  rcases Deep.open_slice Try.underlying22 hf with ⟨hcs, _⟩ | ⟨a, len, cap, m, n, D, Pl, hcs, hb, hl, hm, hmm, _, hel⟩
  · have hcs' : Value.slice a0 n0 c0 = .slice none 0 0 := by simpa [Value.cells] using hcs
    rw [hcs']
    exact ⟨[], none, 0, rfl, Nat.le_refl _, by simp, .inl rfl⟩
  · have hcs' : Value.slice a0 n0 c0 = .slice (some a) len cap := by simpa [Value.cells] using hcs
    rw [hcs']
    have hlm : len ≤ m := by rw [hmm]; split <;> omega
    have k5 : Try.prog.cellsOf 30 = 6 := by kernel_rfl
    rw [k5] at hel
    by_cases h0 : len = 0
    · subst h0
      exact ⟨[], some a, cap, rfl, by simp, hm, .inl rfl⟩
    · obtain ⟨cs0, hc0, _⟩ := hel 0 (by omega)
      obtain ⟨_, hl0, hx0⟩ := World.cells?_some hc0
      have hx := hx0 0 (by omega)
      rw [List.getElem?_eq_getElem (by omega)] at hx
      have hsp : a.spot = none := by
        have hx' : W.cell? (a.add 0) = some cs0[0] := by simpa [Addr.add] using hx
        exact (spot_none' hx').1
      obtain ⟨b, off, spot⟩ := a
      dsimp only at hsp
      subst hsp
      obtain ⟨l, hll, hp⟩ := list_of (p := fun i a => ActAt W.heap.size W b (off + i * 6) a) len (fun i hi => by
        obtain ⟨cs, hc, hf⟩ := hel i (by omega)
        have hadd : (⟨b, off, none⟩ : Addr).add (i * 6) = ⟨b, off + i * 6, none⟩ := by unfold Addr.add; split <;> simp_all
        rw [hadd] at hc
        exact open_act hc hf)
      subst hll
      exact ⟨l, _, cap, rfl, hl, hm, .inr ⟨b, off, rfl, hp⟩⟩
theorem open_two {H : Type} {enc : TypeId × Value → H} {W : World} {base base' : Nat} {spare : Nat → Bool} {held : Bool} {v : Value} {d : DataW H} {p : List MemPlace}
    (hv : Value.okWide Try.prog W .any base 58 v) (h : DataW.Trod enc Try.prog W base' spare held 58 v d p) :
    ∃ x y : ActV, v = .agg #[.int .i64 x.f0, .int .i64 x.f1, .int .i64 x.f2, .int .i64 x.f3, .int .i64 x.f4, .int .i64 x.f5, .int .i64 y.f0, .int .i64 y.f1, .int .i64 y.f2, .int .i64 y.f3, .int .i64 y.f4, .int .i64 y.f5] := by
  have hct : Try.prog.cellsOf 58 = 12 := by kernel_rfl
  have hce : Try.prog.cellsOf 30 = 6 := by kernel_rfl
  simp only [Value.okWide, Try.underlying58] at hv
  obtain ⟨cs, rfl, hsz, _⟩ := hv
  rw [hct] at hsz
  obtain ⟨fuel, hf⟩ := h
  obtain ⟨xs, m, _, _, _, hl, hxs⟩ := DataW.trod_array Try.underlying58 hf
  have h0 := hxs 0 (by omega)
  have h1 := hxs 1 (by omega)
  rw [hce] at h0 h1
  obtain ⟨l⟩ := cs
  match l, hsz with
  | [c0, c1, c2, c3, c4, c5, c6, c7, c8, c9, c10, c11], _ =>
    have h0' : DataW.trod enc Try.prog W base' spare held m 30 [c0, c1, c2, c3, c4, c5] = some xs[0] := by simpa [Value.cells, hl] using h0
    have h1' : DataW.trod enc Try.prog W base' spare held m 30 [c6, c7, c8, c9, c10, c11] = some xs[1] := by simpa [Value.cells, hl] using h1
    obtain ⟨n0, n1, n2, n3, n4, n5, rfl, _, rfl, _, rfl, _, rfl, _, rfl, _, rfl, _⟩ := pinfoldlaw21act_of_cells h0'
    obtain ⟨m0, m1, m2, m3, m4, m5, rfl, _, rfl, _, rfl, _, rfl, _, rfl, _, rfl, _⟩ := pinfoldlaw21act_of_cells h1'
    exact ⟨⟨n0, n1, n2, n3, n4, n5⟩, ⟨m0, m1, m2, m3, m4, m5⟩, rfl⟩
end Go.Proofs.Ytchknegenaoliaa
