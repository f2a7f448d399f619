/-
  Package pinfoldlaw04: calls in memory. No condition.
-/
import Derived.Test.YtbkegknfmcanaaaDoorBiT
import Derived.Test.YtbkegknfmcanaaaDoorFrame
import Derived.Deep.Slices
namespace Go.Proofs.YtbkegknfmcanaaaDoor
open Go.ChangeShapes Go.WideShapes Go.ChangeAt Go.RowKit
set_option maxHeartbeats 4000000
set_option maxRecDepth 8000

theorem list_of {α : Type} {p : Nat → α → Prop} : ∀ (n : Nat), (∀ i, i < n → ∃ a, p i a) → ∃ l : List α, l.length = n ∧ ∀ i (h : i < l.length), p i l[i]
  | 0, _ => ⟨[], rfl, fun i h => absurd h (by simp)⟩
  | n + 1, h => by
    obtain ⟨l, hl, hp⟩ := list_of n fun i hi => h i (by omega)
    obtain ⟨a, ha⟩ := h n (by omega)
    refine ⟨l ++ [a], by simp [hl], fun i hi => ?_⟩
    by_cases e : i < l.length
    · rw [List.getElem_append_left e]; exact hp i e
    · obtain rfl : i = l.length := by simp at hi; omega
      rw [List.getElem_concat_length rfl, hl]; exact ha
/-- A call, as it lies in memory. -/
structure ActV where
  f0 : Bool
  f1 : Int
  f2 : Bool
structure ActAt (B : Nat) (W : World) (b off : Nat) (a : ActV) : Prop where
  c0 : W.cell? ⟨b, off, none⟩ = some (.bool a.f0)
  c1 : W.cell? ⟨b, off + 1, none⟩ = some (.int .i64 a.f1)
  c2 : W.cell? ⟨b, off + 2, none⟩ = some (.bool a.f2)
  w1 : (Lit.int .i64 a.f1).wf = true
  lt : b < B
theorem ActAt.below {B m : Nat} {W W' : World} {b off : Nat} {a : ActV} (h : ActAt B W b off a) (hb : Below m W W') (hm : B ≤ m) : ActAt B W' b off a := by
  have hl := h.lt
  exact ⟨(hb.cell (p := ⟨b, off, none⟩) (by dsimp only; omega)).trans h.c0, (hb.cell (p := ⟨b, off + 1, none⟩) (by dsimp only; omega)).trans h.c1, (hb.cell (p := ⟨b, off + 2, none⟩) (by dsimp only; omega)).trans h.c2, h.w1, hl⟩
def ActsAt (B : Nat) (W : World) (v : Value) (l : List ActV) : Prop :=
  ∃ a cap, v = .slice a l.length cap ∧ l.length ≤ cap ∧ cap ≤ maxLen ∧ (l = [] ∨ ∃ b off, a = some ⟨b, off, none⟩ ∧ ∀ i (h : i < l.length), ActAt B W b (off + i * 3) l[i])
theorem ActsAt.below {B m : Nat} {W W' : World} {v : Value} {l : List ActV} (h : ActsAt B W v l) (hb : Below m W W') (hm : B ≤ m) : ActsAt B W' v l := by
  obtain ⟨a, cap, h1, h2, h4, h3⟩ := h
  refine ⟨a, cap, h1, h2, h4, h3.imp id ?_⟩
  rintro ⟨b, off, e, hc⟩
  exact ⟨b, off, e, fun i hi => (hc i hi).below hb hm⟩
theorem open_act {H : Type} {enc : TypeId × Value → H} {W : World} {base' fuel : Nat} {spare : Nat → Bool} {held : Bool} {b off : Nat} {cs : List Value} {x : DataW H × List MemPlace} (hc : W.cells? base' ⟨b, off, none⟩ 3 = some cs) (hf : DataW.trod enc Tryd.prog W base' spare held fuel 57 cs = some x) :
    ∃ a : ActV, ActAt W.heap.size W b off a := by
  obtain ⟨_, hlen, hcell⟩ := World.cells?_some hc
  obtain ⟨xs, n, rfl, _, _, hxl, hx⟩ := DataW.trod_struct Tryd.underlying57 hf
  match cs, hlen with
  | [v0, v1, v2], _ =>
    have k3 : Tryd.prog.cellsOf 3 = 1 := by kernel_rfl
    have k0 : Tryd.prog.cellsOf 4 = 1 := by kernel_rfl
    have h0 : DataW.trod enc Tryd.prog W base' spare held n 4 (List.take (Tryd.prog.cellsOf 4) (List.drop 0 [v0, v1, v2])) = xs[0]? := hx 0 _ rfl
    have h1 : DataW.trod enc Tryd.prog W base' spare held n 3 (List.take (Tryd.prog.cellsOf 3) (List.drop 1 [v0, v1, v2])) = xs[1]? := hx 1 _ rfl
    have h2 : DataW.trod enc Tryd.prog W base' spare held n 4 (List.take (Tryd.prog.cellsOf 4) (List.drop 2 [v0, v1, v2])) = xs[2]? := hx 2 _ rfl
    have hsz : xs.length = 3 := hxl
    rw [List.getElem?_eq_getElem (by omega)] at h0 h1 h2
    simp only [k3, k0, List.drop_zero, List.drop_succ_cons, List.take_succ_cons, List.take_zero] at h0 h1 h2
    obtain ⟨n0, e0, _⟩ := DataW.trod_bool Tryd.underlying4 h0
    obtain ⟨n1, e1, _, w1⟩ := DataW.trod_int Tryd.underlying3 h1
    obtain ⟨n2, e2, _⟩ := DataW.trod_bool Tryd.underlying4 h2
    simp only [List.cons.injEq, and_true] at e0 e1 e2
    subst e0 e1 e2
    refine ⟨⟨n0, n1, n2⟩, ?_, ?_, ?_, w1, ?_⟩
    · simpa [Addr.add] using hcell 0 (by omega)
    · simpa [Addr.add] using hcell 1 (by omega)
    · simpa [Addr.add] using hcell 2 (by omega)
    · have := World.block_lt_of_cell? W _ (hcell 0 (by omega))
      simpa [Addr.add] using this
theorem spot_none' {W : World} {a : Addr} {v : Value} (hc : W.cell? (a.add 0) = some v) : a.spot = none ∧ a.block < W.heap.size := by
  obtain ⟨b, off, spot⟩ := a
  have hsp : spot = none := by
    cases spot with
    | none => rfl
    | some s => simp [World.cell?, Addr.add] at hc; split at hc <;> simp at hc
  subst hsp
  exact ⟨rfl, by simpa [Addr.add] using World.block_lt_of_cell? W _ hc⟩
theorem open_acts {H : Type} {enc : TypeId × Value → H} {W : World} {base base' : Nat} {spare : Nat → Bool} {held : Bool} {v : Value} {d : DataW H} {p : List MemPlace}
    (hv : Value.okWide Tryd.prog W .any base 45 v) (h : DataW.Trod enc Tryd.prog W base' spare held 45 v d p) : ∃ l : List ActV, ActsAt W.heap.size W v l := by
  obtain ⟨a0, n0, c0, rfl⟩ := okWide_slice Tryd.underlying45 hv
  obtain ⟨fuel, hf⟩ := h
  rcases Deep.open_slice Tryd.underlying45 hf with ⟨hcs, _⟩ | ⟨a, len, cap, m, n, D, Pl, hcs, hb, hl, hm, hmm, _, hel⟩
  · have hcs' : Value.slice a0 n0 c0 = .slice none 0 0 := by simpa [Value.cells] using hcs
    rw [hcs']
    exact ⟨[], none, 0, rfl, Nat.le_refl _, by simp, .inl rfl⟩
  · have hcs' : Value.slice a0 n0 c0 = .slice (some a) len cap := by simpa [Value.cells] using hcs
    rw [hcs']
    have hlm : len ≤ m := by rw [hmm]; split <;> omega
    have k5 : Tryd.prog.cellsOf 57 = 3 := by kernel_rfl
    rw [k5] at hel
    by_cases h0 : len = 0
    · subst h0
      exact ⟨[], some a, cap, rfl, by simp, hm, .inl rfl⟩
    · obtain ⟨cs0, hc0, _⟩ := hel 0 (by omega)
      obtain ⟨_, hl0, hx0⟩ := World.cells?_some hc0
      have hx := hx0 0 (by omega)
      rw [List.getElem?_eq_getElem (by omega)] at hx
      have hsp : a.spot = none := by
        have hx' : W.cell? (a.add 0) = some cs0[0] := by simpa [Addr.add] using hx
        exact (spot_none' hx').1
      obtain ⟨b, off, spot⟩ := a
      dsimp only at hsp
      subst hsp
      obtain ⟨l, hll, hp⟩ := list_of (p := fun i a => ActAt W.heap.size W b (off + i * 3) a) len (fun i hi => by
        obtain ⟨cs, hc, hf⟩ := hel i (by omega)
        have hadd : (⟨b, off, none⟩ : Addr).add (i * 3) = ⟨b, off + i * 3, none⟩ := by unfold Addr.add; split <;> simp_all
        rw [hadd] at hc
        exact open_act hc hf)
      subst hll
      exact ⟨l, _, cap, rfl, hl, hm, .inr ⟨b, off, rfl, hp⟩⟩
theorem act_of_cells {H : Type} {enc : TypeId × Value → H} {W : World} {base' fuel : Nat} {spare : Nat → Bool} {held : Bool} {c0 c1 c2 : Value} {x : DataW H × List MemPlace} (hf : DataW.trod enc Tryd.prog W base' spare held fuel 57 [c0, c1, c2] = some x) :
    ∃ a : ActV, c0 = .bool a.f0 ∧ c1 = .int .i64 a.f1 ∧ c2 = .bool a.f2 := by
  obtain ⟨xs, n, rfl, _, _, hxl, hx⟩ := DataW.trod_struct Tryd.underlying57 hf
  have k3 : Tryd.prog.cellsOf 3 = 1 := by kernel_rfl
  have k0 : Tryd.prog.cellsOf 4 = 1 := by kernel_rfl
  have h0 : DataW.trod enc Tryd.prog W base' spare held n 4 (List.take (Tryd.prog.cellsOf 4) (List.drop 0 [c0, c1, c2])) = xs[0]? := hx 0 _ rfl
  have h1 : DataW.trod enc Tryd.prog W base' spare held n 3 (List.take (Tryd.prog.cellsOf 3) (List.drop 1 [c0, c1, c2])) = xs[1]? := hx 1 _ rfl
  have h2 : DataW.trod enc Tryd.prog W base' spare held n 4 (List.take (Tryd.prog.cellsOf 4) (List.drop 2 [c0, c1, c2])) = xs[2]? := hx 2 _ rfl
  have hsz : xs.length = 3 := hxl
  rw [List.getElem?_eq_getElem (by omega)] at h0 h1 h2
  simp only [k3, k0, List.drop_zero, List.drop_succ_cons, List.take_succ_cons, List.take_zero] at h0 h1 h2
  obtain ⟨n0, e0, _⟩ := DataW.trod_bool Tryd.underlying4 h0
  obtain ⟨n1, e1, _, w1⟩ := DataW.trod_int Tryd.underlying3 h1
  obtain ⟨n2, e2, _⟩ := DataW.trod_bool Tryd.underlying4 h2
  simp only [List.cons.injEq, and_true] at e0 e1 e2
  exact ⟨⟨n0, n1, n2⟩, e0, e1, e2⟩
theorem open_two {H : Type} {enc : TypeId × Value → H} {W : World} {base base' : Nat} {spare : Nat → Bool} {held : Bool} {v : Value} {d : DataW H} {p : List MemPlace}
    (hv : Value.okWide Tryd.prog W .any base 59 v) (h : DataW.Trod enc Tryd.prog W base' spare held 59 v d p) :
    ∃ x y : ActV, v = .agg #[.bool x.f0, .int .i64 x.f1, .bool x.f2, .bool y.f0, .int .i64 y.f1, .bool y.f2] := by
  have hct : Tryd.prog.cellsOf 59 = 6 := by kernel_rfl
  have hce : Tryd.prog.cellsOf 57 = 3 := by kernel_rfl
  simp only [Value.okWide, Tryd.underlying59] at hv
  obtain ⟨cs, rfl, hsz, _⟩ := hv
  rw [hct] at hsz
  obtain ⟨fuel, hf⟩ := h
  obtain ⟨xs, m, _, _, _, hl, hxs⟩ := DataW.trod_array Tryd.underlying59 hf
  have h0 := hxs 0 (by omega)
  have h1 := hxs 1 (by omega)
  rw [hce] at h0 h1
  obtain ⟨l⟩ := cs
  match l, hsz with
  | [c0, c1, c2, c3, c4, c5], _ =>
    have h0' : DataW.trod enc Tryd.prog W base' spare held m 57 [c0, c1, c2] = some xs[0] := by simpa [Value.cells, hl] using h0
    have h1' : DataW.trod enc Tryd.prog W base' spare held m 57 [c3, c4, c5] = some xs[1] := by simpa [Value.cells, hl] using h1
    obtain ⟨x, rfl, rfl, rfl⟩ := act_of_cells h0'
    obtain ⟨y, rfl, rfl, rfl⟩ := act_of_cells h1'
    exact ⟨x, y, rfl⟩
/-- A row that lies outside a sheet's blocks; one that lies from n on. -/
def OffV (lo hi : Nat) (v : Value) : Prop := ∀ b off m c, v = .slice (some ⟨b, off, none⟩) m c → m ≠ 0 → b < lo ∨ hi ≤ b
def FarV (n : Nat) (v : Value) : Prop := ∀ b off m c, v = .slice (some ⟨b, off, none⟩) m c → m ≠ 0 → n ≤ b
theorem FarV.off {n lo hi : Nat} {v : Value} (h : FarV n v) (hn : hi ≤ n) : OffV lo hi v := fun b off m c e h0 => .inr (Nat.le_trans hn (h b off m c e h0))
theorem FarV.mono {n m : Nat} {v : Value} (h : FarV n v) (hn : m ≤ n) : FarV m v := fun b off k c e h0 => Nat.le_trans hn (h b off k c e h0)
theorem FarV.of_owns {W : World} {base n : Nat} {e : TypeId} {size : Nat} {v : Value} {xs : List Value} (h : W.ownsRow base e size v n xs) : FarV base v := by
  rintro b off m c rfl _
  exact (owns_block h b rfl).1
theorem RowAt.offLow {B n lo hi : Nat} {W : World} {v : Value} {xs : List Value} (h : RowAt B W v n xs) (hx : xs.length = n) (hB : B ≤ lo) : OffV lo hi v := by
  rintro b off m c rfl h0
  obtain ⟨a, cap, e, _, h1⟩ := h
  simp only [Value.slice.injEq] at e
  obtain ⟨e1, rfl, rfl⟩ := e
  rcases h1 with h1 | ⟨b', off', e2, hb, _⟩
  · rw [h1] at hx; exact absurd hx.symm h0
  · rw [e2] at e1
    simp only [Option.some.injEq, Addr.mk.injEq, and_true] at e1
    exact .inl (by omega)
end Go.Proofs.YtbkegknfmcanaaaDoor
