/-
  Package pinfoldlaw07: calls in memory; few. No condition.
-/
import Derived.Test.YtfmkjckckekliaaBFrQ
import Derived.Test.YtfmkjckckekliaaFrame
import Derived.Deep.Slices
namespace Go.Proofs.Ytfmkjckckekliaa
open Go.ChangeShapes Go.WideShapes Go.ChangeAt Go.RowKit
attribute [local go_sem] Oper.semAt_some
set_option maxHeartbeats 4000000
set_option maxRecDepth 4000

theorem list_of {α : Type} {p : Nat → α → Prop} : ∀ (n : Nat), (∀ i, i < n → ∃ a, p i a) → ∃ l : List α, l.length = n ∧ ∀ i (h : i < l.length), p i l[i]
  | 0, _ => ⟨[], rfl, fun i h => absurd h (by simp)⟩
  | n + 1, h => by
    obtain ⟨l, hl, hp⟩ := list_of n fun i hi => h i (by omega)
    obtain ⟨a, ha⟩ := h n (by omega)
    refine ⟨l ++ [a], by simp [hl], fun i hi => ?_⟩
    by_cases e : i < l.length
    · rw [List.getElem_append_left e]; exact hp i e
    · obtain rfl : i = l.length := by simp at hi; omega
      rw [List.getElem_concat_length rfl, hl]; exact ha
/-- A call, as it lies in memory. -/
structure ActV where
  what : Int
  who : Int
  n : Int
  at_ : Int
  v : Value
  bs : List Int
structure ActAt (B : Nat) (W : World) (b off : Nat) (a : ActV) : Prop where
  c0 : W.cell? ⟨b, off, none⟩ = some (.int .i64 a.what)
  c1 : W.cell? ⟨b, off + 1, none⟩ = some (.int .i64 a.who)
  c2 : W.cell? ⟨b, off + 2, none⟩ = some (.int .i64 a.n)
  c3 : W.cell? ⟨b, off + 3, none⟩ = some (.int .i64 a.at_)
  c4 : W.cell? ⟨b, off + 4, none⟩ = some a.v
  row : RowAt B W a.v a.bs.length (intVals .u8 a.bs)
  lt : b < B
  bw : ∀ y ∈ a.bs, 0 ≤ y ∧ y < 256
theorem ActAt.below {B m : Nat} {W W' : World} {b off : Nat} {a : ActV} (h : ActAt B W b off a) (hb : Below m W W') (hm : B ≤ m) : ActAt B W' b off a := by
  have hl := h.lt
  exact ⟨(hb.cell (p := ⟨b, off, none⟩) (by dsimp only; omega)).trans h.c0, (hb.cell (p := ⟨b, off + 1, none⟩) (by dsimp only; omega)).trans h.c1, (hb.cell (p := ⟨b, off + 2, none⟩) (by dsimp only; omega)).trans h.c2, (hb.cell (p := ⟨b, off + 3, none⟩) (by dsimp only; omega)).trans h.c3, (hb.cell (p := ⟨b, off + 4, none⟩) (by dsimp only; omega)).trans h.c4, h.row.below hb hm, hl, h.bw⟩
def ActsAt (B : Nat) (W : World) (v : Value) (l : List ActV) : Prop :=
  ∃ a cap, v = .slice a l.length cap ∧ l.length ≤ cap ∧ cap ≤ maxLen ∧ (l = [] ∨ ∃ b off, a = some ⟨b, off, none⟩ ∧ ∀ i (h : i < l.length), ActAt B W b (off + i * 5) l[i])
theorem ActsAt.below {B m : Nat} {W W' : World} {v : Value} {l : List ActV} (h : ActsAt B W v l) (hb : Below m W W') (hm : B ≤ m) : ActsAt B W' v l := by
  obtain ⟨a, cap, h1, h2, h4, h3⟩ := h
  refine ⟨a, cap, h1, h2, h4, h3.imp id ?_⟩
  rintro ⟨b, off, e, hc⟩
  exact ⟨b, off, e, fun i hi => (hc i hi).below hb hm⟩
theorem open_act {H : Type} {enc : TypeId × Value → H} {W : World} {base' fuel : Nat} {spare : Nat → Bool} {held : Bool} {b off : Nat} {cs : List Value} {x : DataW H × List MemPlace} (hc : W.cells? base' ⟨b, off, none⟩ 5 = some cs) (hf : DataW.trod enc Try.prog W base' spare held fuel 38 cs = some x) :
    ∃ a : ActV, ActAt W.heap.size W b off a := by
  obtain ⟨_, hlen, hcell⟩ := World.cells?_some hc
  obtain ⟨xs, n, rfl, _, _, hxl, hx⟩ := DataW.trod_struct Try.underlying38 hf
  match cs, hlen with
  | [v0, v1, v2, v3, v4], _ =>
    have k3 : Try.prog.cellsOf 3 = 1 := by kernel_rfl
    have k36 : Try.prog.cellsOf 36 = 1 := by kernel_rfl
    have h0 : DataW.trod enc Try.prog W base' spare held n 3 (List.take (Try.prog.cellsOf 3) (List.drop 0 [v0, v1, v2, v3, v4])) = xs[0]? := hx 0 _ rfl
    have h1 : DataW.trod enc Try.prog W base' spare held n 3 (List.take (Try.prog.cellsOf 3) (List.drop 1 [v0, v1, v2, v3, v4])) = xs[1]? := hx 1 _ rfl
    have h2 : DataW.trod enc Try.prog W base' spare held n 3 (List.take (Try.prog.cellsOf 3) (List.drop 2 [v0, v1, v2, v3, v4])) = xs[2]? := hx 2 _ rfl
    have h3 : DataW.trod enc Try.prog W base' spare held n 3 (List.take (Try.prog.cellsOf 3) (List.drop 3 [v0, v1, v2, v3, v4])) = xs[3]? := hx 3 _ rfl
    have h4 : DataW.trod enc Try.prog W base' spare held n 36 (List.take (Try.prog.cellsOf 36) (List.drop 4 [v0, v1, v2, v3, v4])) = xs[4]? := hx 4 _ rfl
    have hsz : xs.length = 5 := hxl
    rw [List.getElem?_eq_getElem (by omega)] at h0 h1 h2 h3 h4
    simp only [k3, k36, List.drop_zero, List.drop_succ_cons, List.take_succ_cons, List.take_zero] at h0 h1 h2 h3 h4
    obtain ⟨n0, e0, _⟩ := DataW.trod_int Try.underlying3 h0
    obtain ⟨n1, e1, _⟩ := DataW.trod_int Try.underlying3 h1
    obtain ⟨n2, e2, _⟩ := DataW.trod_int Try.underlying3 h2
    obtain ⟨n3, e3, _⟩ := DataW.trod_int Try.underlying3 h3
    obtain ⟨bs, hr, hbw, _⟩ := open_rowT Try.underlying36 Try.underlying5 (by kernel_rfl) h4
    simp only [List.cons.injEq, and_true] at e0 e1 e2 e3
    subst e0 e1 e2 e3
    refine ⟨⟨n0, n1, n2, n3, v4, bs⟩, ?_, ?_, ?_, ?_, ?_, hr, ?_, fun y hy => u8_bd (hbw y hy)⟩
    · simpa [Addr.add] using hcell 0 (by omega)
    · simpa [Addr.add] using hcell 1 (by omega)
    · simpa [Addr.add] using hcell 2 (by omega)
    · simpa [Addr.add] using hcell 3 (by omega)
    · simpa [Addr.add] using hcell 4 (by omega)
    · have := World.block_lt_of_cell? W _ (hcell 0 (by omega))
      simpa [Addr.add] using this
theorem spot_none' {W : World} {a : Addr} {v : Value} (hc : W.cell? (a.add 0) = some v) : a.spot = none ∧ a.block < W.heap.size := by
  obtain ⟨b, off, spot⟩ := a
  have hsp : spot = none := by
    cases spot with
    | none => rfl
    | some s => simp [World.cell?, Addr.add] at hc; split at hc <;> simp at hc
  subst hsp
  exact ⟨rfl, by simpa [Addr.add] using World.block_lt_of_cell? W _ hc⟩
theorem open_acts {H : Type} {enc : TypeId × Value → H} {W : World} {base base' : Nat} {spare : Nat → Bool} {held : Bool} {v : Value} {d : DataW H} {p : List MemPlace}
    (hv : Value.okWide Try.prog W .any base 33 v) (h : DataW.Trod enc Try.prog W base' spare held 33 v d p) : ∃ l : List ActV, ActsAt W.heap.size W v l := by
  obtain ⟨a0, n0, c0, rfl⟩ := okWide_slice Try.underlying33 hv
  obtain ⟨fuel, hf⟩ := h
  rcases Deep.open_slice Try.underlying33 hf with ⟨hcs, _⟩ | ⟨a, len, cap, m, n, D, Pl, hcs, hb, hl, hm, hmm, _, hel⟩
  · have hcs' : Value.slice a0 n0 c0 = .slice none 0 0 := by simpa [Value.cells] using hcs
    rw [hcs']
    exact ⟨[], none, 0, rfl, Nat.le_refl _, by simp, .inl rfl⟩
  · have hcs' : Value.slice a0 n0 c0 = .slice (some a) len cap := by simpa [Value.cells] using hcs
    rw [hcs']
    have hlm : len ≤ m := by rw [hmm]; split <;> omega
    have k5 : Try.prog.cellsOf 38 = 5 := by kernel_rfl
    rw [k5] at hel
    by_cases h0 : len = 0
    · subst h0
      exact ⟨[], some a, cap, rfl, by simp, hm, .inl rfl⟩
    · obtain ⟨cs0, hc0, _⟩ := hel 0 (by omega)
      obtain ⟨_, hl0, hx0⟩ := World.cells?_some hc0
      have hx := hx0 0 (by omega)
      rw [List.getElem?_eq_getElem (by omega)] at hx
      have hsp : a.spot = none := by
        have hx' : W.cell? (a.add 0) = some cs0[0] := by simpa [Addr.add] using hx
        exact (spot_none' hx').1
      obtain ⟨b, off, spot⟩ := a
      dsimp only at hsp
      subst hsp
      obtain ⟨l, hll, hp⟩ := list_of (p := fun i a => ActAt W.heap.size W b (off + i * 5) a) len (fun i hi => by
        obtain ⟨cs, hc, hf⟩ := hel i (by omega)
        have hadd : (⟨b, off, none⟩ : Addr).add (i * 5) = ⟨b, off + i * 5, none⟩ := by unfold Addr.add; split <;> simp_all
        rw [hadd] at hc
        exact open_act hc hf)
      subst hll
      exact ⟨l, _, cap, rfl, hl, hm, .inr ⟨b, off, rfl, hp⟩⟩
def fewI (l : List ActV) (most : Int) : Bool := decide (∀ a ∈ l, (a.bs.length : Int) ≤ 300) && decide ((l.length : Int) ≤ most)
theorem few_ok (v : Value) (l : List ActV) (most : Int) (B : Nat) (w : World) (hv : ActsAt B w v l) : Calls Try.prog 13 #[v, .int .i64 most] w fun e w' => e = .returned (.bool (fewI l most)) ∧ w = w' := by
  obtain ⟨a, cap, rfl, hl, hm, hc⟩ := hv
  have HC := Lib.hid hc
  clear hc
  have hml : l.length ≤ 9223372036854775807 := by unfold maxLen at hm; omega
  go_enter Try.func13, Try.ntmps13
  go_wp2_with fail
  go_loopw [5] (fun i wr => ∃ k : Nat, k ≤ l.length ∧ i = .int .i64 k ∧ (∀ j (hj : j < l.length), j < k → (l[j].bs.length : Int) ≤ 300) ∧ w = wr) (fun i _ => l.length - (intOf i).toNat)
  case atStart => exact ⟨0, by omega, rfl, fun j _ hj => by omega, rfl⟩
  case round =>
    obtain ⟨k, hk, rfl, hn, rfl⟩ := hrel
    have HN := Lib.hid hn
    clear hn
    by_cases hlt : k < l.length
    · obtain ⟨b, off, rfl, hA⟩ : ∃ b off, a = some ⟨b, off, none⟩ ∧ ∀ i (h : i < l.length), ActAt B w b (off + i * 5) l[i] := by
        rcases HC.out with h | h
        · rw [h] at hlt; simp at hlt
        · exact h
      have q4 := (hA k hlt).c4
      obtain ⟨ba, bc, hbv, _⟩ := (hA k hlt).row
      rw [hbv] at q4
      have i0 : (0 : Int) ≤ k := by omega
      have i1 : (k : Int) < l.length := by omega
      clear hA hbv
      by_cases h3 : 300 < (l[k].bs.length : Int)
      · have hres : fewI l most = false := by
          unfold fewI
          rw [Bool.and_eq_false_iff]
          left
          rw [decide_eq_false_iff_not]
          intro h
          have := h l[k] (List.getElem_mem hlt)
          omega
        have HRES := Lib.hid hres
        clear hres
        go_wp2_with fail
        go_ret
        exact ⟨by rw [HRES.out]; rfl, rfl⟩
      · go_wp2_with fail
        refine ⟨⟨k + 1, by omega, by go_num, fun j hj hjk => ?_, trivial⟩, by simp [intOf]; omega⟩
        by_cases e : j = k
        · subst e; omega
        · exact HN.out j hj (by omega)
    · obtain rfl : k = l.length := by omega
      have hres : fewI l most = decide ((l.length : Int) ≤ most) := by
        unfold fewI
        rw [show decide (∀ a ∈ l, (a.bs.length : Int) ≤ 300) = true by
          rw [decide_eq_true_eq]
          intro a ha
          obtain ⟨j, hj, rfl⟩ := List.getElem_of_mem ha
          exact HN.out j hj hj]
        rfl
      have HRES := Lib.hid hres
      clear hres
      go_wp2_with fail
      go_ret
      exact ⟨by rw [HRES.out]; rfl, rfl⟩
end Go.Proofs.Ytfmkjckckekliaa
