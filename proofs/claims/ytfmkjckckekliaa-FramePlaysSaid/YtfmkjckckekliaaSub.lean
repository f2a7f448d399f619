/-
  Groundwork: the first k of a row. No condition.
-/
import Derived.Test.YtfmkjckckekliaaCore
namespace Go.Proofs.Ytfmkjckckekliaa
open Go.RowKit
variable {P : Program}

theorem addr_add0 (a : Addr) : a.add 0 = a := by simp [Addr.add]
theorem opt_add0 (ad : Option Addr) (m s : Nat) : (if m = 0 then ad else ad.map (·.add (0 * s))) = ad := by
  rw [Nat.zero_mul]
  have : (ad.map (·.add 0)) = ad := by cases ad <;> simp [addr_add0]
  rw [this]; split <;> rfl
theorem slice_head {t : TypeId} {s : Nat} (ht : P.underlying t = some (.slice (P.elem t))) (hs : ∀ w, (sizeOf (P.elem t)).run P w = .ok s w) {B : Nat} {W : World} {ad : Option Addr} {n cap : Nat} {xs : List Value} (h : RowAt B W (.slice ad n cap) n xs) (k : Nat) (hk : k ≤ n) :
    (∀ Y, (Instr.slice t (.slice ad n cap) none (some (.int .i64 (k : Int))) none).run P Y = .ok (.slice ad k cap) Y) ∧ RowAt B W (.slice ad k cap) k (xs.take (k * s)) := by
  obtain ⟨a, c, e, ⟨h1, h2⟩, h3⟩ := h
  simp only [Value.slice.injEq, true_and] at e
  obtain ⟨rfl, rfl⟩ := e
  refine ⟨fun Y => ?_, ad, cap, rfl, ⟨by omega, fun ha => by have := h2 ha; omega⟩, ?_⟩
  · rw [run_slice_h Y t ad n cap ht .i64 k (by omega) (by omega), hs]
    simp only [Result.andThen, sliced, Int.toNat_natCast, Nat.sub_zero]
    rw [show (if cap = 0 then ad else ad.map (·.add (0 * s))) = ad from opt_add0 ad cap s]
  · rcases h3 with rfl | ⟨b, off, e, hb, hc⟩
    · exact .inl (by simp)
    · by_cases hz : xs.take (k * s) = []
      · exact .inl hz
      · refine .inr ⟨b, off, e, hb, fun i hi => ?_⟩
        rw [List.length_take] at hi
        rw [hc i (by omega), List.getElem?_take_of_lt (by omega)]
theorem RowAt.len' {B n : Nat} {W : World} {v : Value} {xs : List Value} (h : RowAt B W v n xs) : ∃ a cap, v = .slice a n cap ∧ n ≤ cap := by
  obtain ⟨a, c, e, h, _⟩ := h
  exact ⟨a, c, e, h.1⟩
end Go.Proofs.Ytfmkjckckekliaa
