/-
  Package pinfoldref18: shelves by value; Index, Has. Conditions: shelves of fewer than a million.
-/
import Derived.Test.YtkilmppmghkigaaCaM
namespace Go.Proofs.Ytkilmppmghkigaa
open Go.RowKit
attribute [local go_sem] Oper.semAt_some
set_option maxHeartbeats 4000000
set_option maxRecDepth 8000

/-- An address that is no spot of a map. -/
def plainA (a : Option Addr) : Prop := ∀ ad, a = some ad → ad.spot = none
theorem plain_none : plainA none := fun _ h => by cases h
theorem plain_some (b off : Nat) : plainA (some ⟨b, off, none⟩) := fun _ h => by cases h; rfl
theorem owns_plain {W : World} {base : Nat} {e : TypeId} {size : Nat} {a : Option Addr} {n c m : Nat} {xs : List Value} (h : W.ownsRow base e size (.slice a n c) m xs) : plainA a := by
  rcases h.2 with ⟨h1, _⟩ | ⟨g, cap, cur, h1, _⟩
  · cases h1; exact plain_none
  · cases h1; exact plain_some _ _
/-- Shelves by value: 32 slices, whose rows lie below B. -/
structure RefV (B : Nat) (W : World) (cs : Array Value) (R : Nat → List Int) : Prop where
  size : cs.size = 32
  row : ∀ i, i < 32 → ∃ a c, cs[i]? = some (.slice a (R i).length c) ∧ RowAt B W (.slice a (R i).length c) (R i).length (intVals .i64 (R i)) ∧ plainA a
theorem RefV.below {B n : Nat} {W W' : World} {cs : Array Value} {R : Nat → List Int} (h : RefV B W cs R) (k : Below n W W') (hn : B ≤ n) : RefV B W' cs R :=
  ⟨h.size, fun i hi => by obtain ⟨a, c, h1, h2, h3⟩ := h.row i hi; exact ⟨a, c, h1, h2.below k hn, h3⟩⟩
theorem RefV.mono {B B' : Nat} {W : World} {cs : Array Value} {R : Nat → List Int} (h : RefV B W cs R) (hB : B ≤ B') : RefV B' W cs R :=
  ⟨h.size, fun i hi => by obtain ⟨a, c, h1, h2, h3⟩ := h.row i hi; exact ⟨a, c, h1, h2.mono hB, h3⟩⟩
theorem RefV.set {B : Nat} {W : World} {cs : Array Value} {R : Nat → List Int} (h : RefV B W cs R) (i : Nat) (hi : i < 32) {a : Option Addr} {n c : Nat} (xs : List Int) (hn : n = xs.length) (hr : RowAt B W (.slice a n c) n (intVals .i64 xs)) (hp : plainA a) : RefV B W (cs.setIfInBounds i (.slice a n c)) (upd R i xs) := by
  subst hn
  refine ⟨by simpa using h.size, fun j hj => ?_⟩
  by_cases e : j = i
  · subst e
    refine ⟨a, c, ?_, ?_, hp⟩
    · rw [Array.getElem?_setIfInBounds_self_of_lt (by rw [h.size]; exact hi)]
      simp [upd]
    · simpa [upd] using hr
  · obtain ⟨a', c', h1, h2, h3⟩ := h.row j hj
    refine ⟨a', c', ?_, ?_, h3⟩
    · rw [Array.getElem?_setIfInBounds_ne (Ne.symm e), h1]
      simp [upd, e]
    · simpa [upd, e] using h2
theorem RefV.one {B : Nat} {W : World} {cs : Array Value} {R : Nat → List Int} (h : RefV B W cs R) : cs.all (·.oneCell') = true := by
  rw [Array.all_eq_true]
  intro i hi
  obtain ⟨a, c, h1, _⟩ := h.row i (by rw [← h.size]; exact hi)
  rw [Array.getElem?_eq_getElem hi] at h1
  rw [Option.some.inj h1]
  rfl
theorem ShAt.noInt {W : World} {s : Nat} {L : Nat → List Int} (h : ShAt W s L) (off : Nat) (x : Int) : W.cell? ⟨s, off, none⟩ ≠ some (.int .i64 x) := by
  intro h1
  obtain ⟨vs, hl, hB, hR⟩ := h
  have h2 : W.cell? ⟨s, off, none⟩ = (vs ++ [Value.bool true])[off]? := by
    have := cell_of_row W s off _ _ _ hB
    simpa using this
  rw [h2] at h1
  by_cases h3 : off < vs.length
  · rw [List.getElem?_append_left h3, List.getElem?_eq_getElem h3, Option.some.injEq] at h1
    obtain ⟨_, _, e, _⟩ := hR off h3
    rw [e] at h1; cases h1
  · rw [List.getElem?_append_right (by omega)] at h1
    cases hq : off - vs.length with
    | zero => rw [hq] at h1; simp at h1
    | succ q => rw [hq] at h1; simp at h1
/-- Rows of numbers lie in no block of shelves. -/
theorem RowAt.turned {B n : Nat} {W W' : World} {s : Nat} {L : Nat → List Int} {v : Value} {xs : List Int} (h : RowAt B W v n (intVals .i64 xs)) (hS : ShAt W s L) (k : Chg s W W') : RowAt B W' v n (intVals .i64 xs) := by
  obtain ⟨a, c, rfl, h1, h2⟩ := h
  refine ⟨a, c, rfl, h1, ?_⟩
  rcases h2 with h2 | ⟨b, off, rfl, hb, hc⟩
  · exact .inl h2
  · by_cases h0 : xs.length = 0
    · left; rw [List.length_eq_zero_iff.1 h0]; rfl
    · refine .inr ⟨b, off, rfl, hb, fun i hi => ?_⟩
      rw [intVals_len] at hi
      have hi' := hc i (by rw [intVals_len]; exact hi)
      rw [intVals_get _ _ _ hi] at hi'
      have hlt := World.block_lt_of_cell? W _ hi'
      have hne : b ≠ s := by
        intro e
        subst e
        exact hS.noInt _ _ hi'
      rw [intVals_get _ _ _ hi]
      exact (World.cell?_of_block (a := ⟨b, off + i, none⟩) (k.block b hlt hne)).trans hi'
theorem RefV.turned {B : Nat} {W W' : World} {s : Nat} {L : Nat → List Int} {cs : Array Value} {R : Nat → List Int} (h : RefV B W cs R) (hS : ShAt W s L) (k : Chg s W W') : RefV B W' cs R :=
  ⟨h.size, fun i hi => by obtain ⟨a, c, h1, h2, h3⟩ := h.row i hi; exact ⟨a, c, h1, h2.turned hS k, h3⟩⟩
def hasI (R : Nat → List Int) (c : Nat) (x : Int) : Int := match hasT R c x with | some t => (t : Int) | none => -1
theorem Index_calls (n : Int) (w : World) : Calls Try.prog 55 #[.int .i64 n] w fun e w' => e = .returned (.bool (!badIn n 256)) ∧ w = w' := by
  by_cases h0 : n < 0
  · have hb : badIn n 256 = true := by simp [badIn, h0]
    rw [hb]
    clear hb
    go_enter Try.func55, Try.ntmps55
    go_wp2_with fail
    go_ret
    exact ⟨rfl, rfl⟩
  · by_cases h1 : n < 256
    · have hb : badIn n 256 = false := by simp [badIn]; omega
      rw [hb]
      clear hb
      go_enter Try.func55, Try.ntmps55
      go_wp2_with fail
      go_ret
      exact ⟨rfl, rfl⟩
    · have hb : badIn n 256 = true := by simp [badIn]; omega
      rw [hb]
      clear hb
      go_enter Try.func55, Try.ntmps55
      go_wp2_with fail
      go_ret
      exact ⟨rfl, rfl⟩
theorem rHas_ok {B : Nat} {w : World} {cs : Array Value} {R : Nat → List Int} (hV : RefV B w cs R) (hB : B ≤ w.heap.size) (hR : ∀ i, (R i).length < 1000000) (c : Nat) (hc : c < 8) (x : Int) :
    Calls Try.prog 23 #[.agg cs, .int .i64 c, .int .i64 x] w fun e w' => e = .returned (.int .i64 (hasI R c x)) ∧ Below w.heap.size w w' := by
  obtain ⟨w0, hw0⟩ : ∃ w0, w.alloc (.cells cs 44) = w0 := ⟨_, rfl⟩
  have hb0 : Below w.heap.size w w0 := by rw [← hw0]; exact (Below.refl _ w).alloc (Nat.le_refl _) _
  have hB0 : Blk w0 w.heap.size cs 44 := by rw [← hw0]; exact Blk.new w _ _
  have HV := Lib.hid (hV.below hb0 hB)
  have HR := Lib.hid hR
  have HB0 := Lib.hid hB0
  obtain ⟨d, hd⟩ : ∃ d, hasI R c x = d := ⟨_, rfl⟩
  rw [hd]
  have HD := Lib.hid hd
  have c0 : (0 : Int) ≤ c := by omega
  have c1 : (c : Int) < 8 := by omega
  clear hV hR hd hB0
  go_enter Try.func23, Try.ntmps23
  go_wp2_with fail
  clear hw0
  go_loopw [7] (fun t wr => ∃ k : Nat, k ≤ 4 ∧ t = .int .i64 k ∧ w0 = wr ∧ ∀ j, j < k → x ∉ R (j * 8 + c)) (fun t _ => 4 - (intOf t).toNat)
  case atStart => exact ⟨0, by omega, rfl, rfl, fun j hj => by omega⟩
  case round =>
    obtain ⟨k, hk, rfl, rfl, hn⟩ := hrel
    have HN := Lib.hid hn
    clear hn
    by_cases hlt : k < 4
    · obtain ⟨a, cp, hg, hr, _⟩ := HV.out.row (k * 8 + c) (by omega)
      have q := HB0.out.cell (k * 8 + c) hg
      have hlm := HR.out (k * 8 + c)
      obtain ⟨l, hl⟩ : ∃ l, R (k * 8 + c) = l := ⟨_, rfl⟩
      rw [hl] at hr q hlm
      have HL := Lib.hid hl
      have k0 : (0 : Int) ≤ k := by omega
      have k1 : (k : Int) < 4 := by omega
      have HRW := Lib.hid hr
      clear hg hr hl
      go_wp2_with fail
      go_loopw [8] (fun i wr => ∃ m : Nat, m ≤ l.length ∧ i = .int .i64 m ∧ w0 = wr ∧ ∀ j (h : j < l.length), j < m → l[j] ≠ x) (fun i _ => l.length - (intOf i).toNat)
      case atStart => exact ⟨0, by omega, rfl, rfl, fun j _ hj => by omega⟩
      case round =>
        obtain ⟨m, hm, rfl, rfl, hn⟩ := hrel
        have HN2 := Lib.hid hn
        clear hn
        by_cases hlt2 : m < l.length
        · obtain ⟨b, off, rfl, _, qc⟩ := HRW.out.geti m hlt2
          have m0 : (0 : Int) ≤ m := by omega
          have m1 : (m : Int) < l.length := by omega
          obtain ⟨y, hy⟩ : ∃ y, l[m] = y := ⟨_, rfl⟩
          rw [hy] at qc
          by_cases hx : y = x
          · subst hx
            have hd' : d = k := by
              rw [← HD.out]
              unfold hasI
              rw [hasT_at (pre := List.range k) (suf := (List.range (3 - k)).map (· + (k + 1))) (t := k) ?_ (fun j hj => HN.out j (List.mem_range.1 hj)) (by rw [HL.out]; exact hy ▸ List.getElem_mem hlt2)]
              match k, hlt with
              | 0, _ => rfl
              | 1, _ => rfl
              | 2, _ => rfl
              | 3, _ => rfl
            subst hd'
            clear hy
            go_wp2_with fail
            go_ret
            exact ⟨rfl, hb0⟩
          · have hx' : (y == x) = false := by simpa using hx
            clear hx
            go_wp2_with fail
            refine ⟨⟨m + 1, by omega, by go_num, trivial, fun j h1 hj => ?_⟩, by simp [intOf]; omega⟩
            by_cases e : j = m
            · subst e; rw [hy]; simpa using hx'
            · exact HN2.out j h1 (by omega)
        · obtain rfl : m = l.length := by omega
          go_wp2_with fail
          refine ⟨⟨k + 1, by omega, by go_num, trivial, fun j hj => ?_⟩, by simp [intOf]; omega⟩
          by_cases e : j = k
          · subst e
            rw [HL.out]
            intro hm
            obtain ⟨i, hi, e⟩ := List.getElem_of_mem hm
            exact HN2.out i hi hi e
          · exact HN.out j (by omega)
    · obtain rfl : k = 4 := by omega
      have hd' : d = -1 := by
        rw [← HD.out]
        unfold hasI
        rw [hasT_no fun j hj => HN.out j (List.mem_range.1 hj)]
      subst hd'
      go_wp2_with fail
      go_ret
      exact ⟨rfl, hb0⟩
end Go.Proofs.Ytkilmppmghkigaa
