/-
  Groundwork: the first k of a row. No condition.
-/
import Derived.Test.YtlpchcdalfkfcaaGreatCore
import Derived.Test.YtlpchcdalfkfcaaGreatChgs
namespace Go.Proofs.YtlpchcdalfkfcaaGreat
open Go.RowKit
variable {P : Program}

theorem addr_add0 (a : Addr) : a.add 0 = a := by simp [Addr.add]
theorem opt_add0 (ad : Option Addr) (m s : Nat) : (if m = 0 then ad else ad.map (·.add (0 * s))) = ad := by
  rw [Nat.zero_mul]
  have : (ad.map (·.add 0)) = ad := by cases ad <;> simp [addr_add0]
  rw [this]; split <;> rfl
theorem slice_head {t : TypeId} {s : Nat} (ht : P.underlying t = some (.slice (P.elem t))) (hs : ∀ w, (sizeOf (P.elem t)).run P w = .ok s w) {B : Nat} {W : World} {ad : Option Addr} {n cap : Nat} {xs : List Value} (h : RowAt B W (.slice ad n cap) n xs) (k : Nat) (hk : k ≤ n) :
    (∀ Y, (Instr.slice t (.slice ad n cap) none (some (.int .i64 (k : Int))) none).run P Y = .ok (.slice ad k cap) Y) ∧ RowAt B W (.slice ad k cap) k (xs.take (k * s)) := by
  obtain ⟨a, c, e, ⟨h1, h2⟩, h3⟩ := h
  simp only [Value.slice.injEq, true_and] at e
  obtain ⟨rfl, rfl⟩ := e
  refine ⟨fun Y => ?_, ad, cap, rfl, ⟨by omega, fun ha => by have := h2 ha; omega⟩, ?_⟩
  · rw [run_slice_h Y t ad n cap ht .i64 k (by omega) (by omega), hs]
    simp only [Result.andThen, sliced, Int.toNat_natCast, Nat.sub_zero]
    rw [show (if cap = 0 then ad else ad.map (·.add (0 * s))) = ad from opt_add0 ad cap s]
  · rcases h3 with rfl | ⟨b, off, e, hb, hc⟩
    · exact .inl (by simp)
    · by_cases hz : xs.take (k * s) = []
      · exact .inl hz
      · refine .inr ⟨b, off, e, hb, fun i hi => ?_⟩
        rw [List.length_take] at hi
        rw [hc i (by omega), List.getElem?_take_of_lt (by omega)]
theorem RowAt.len' {B n : Nat} {W : World} {v : Value} {xs : List Value} (h : RowAt B W v n xs) : ∃ a cap, v = .slice a n cap ∧ n ≤ cap := by
  obtain ⟨a, c, e, h, _⟩ := h
  exact ⟨a, c, e, h.1⟩
end Go.Proofs.YtlpchcdalfkfcaaGreat

/-
  Groundwork: what is left of a row behind its first k; an append of any row, as one operation. No condition.
-/
namespace Go.Proofs.YtlpchcdalfkfcaaGreat
open Go.RowKit
variable {P : Program}

theorem slice_tail {t : TypeId} {s : Nat} (ht : P.underlying t = some (.slice (P.elem t))) (hs : ∀ w, (sizeOf (P.elem t)).run P w = .ok s w) {B : Nat} {W : World} {ad : Option Addr} {n cap : Nat} {xs : List Value} (h : RowAt B W (.slice ad n cap) n xs) (hx : xs.length = n * s) (k : Nat) (hk : k ≤ n) :
    ∃ ad', (∀ Y, (Instr.slice t (.slice ad n cap) (some (.int .i64 (k : Int))) none none).run P Y = .ok (.slice ad' (n - k) (cap - k)) Y) ∧ RowAt B W (.slice ad' (n - k) (cap - k)) (n - k) (xs.drop (k * s)) := by
  obtain ⟨a, c, e, ⟨h1, h2⟩, h3⟩ := h
  simp only [Value.slice.injEq, true_and] at e
  obtain ⟨rfl, rfl⟩ := e
  refine ⟨if cap = k then ad else ad.map (·.add (k * s)), fun Y => ?_, _, cap - k, rfl, ⟨by omega, fun ha => ?_⟩, ?_⟩
  · rw [run_slice_l Y t ad n cap ht .i64 k (by omega) (by omega), hs]
    simp only [Result.andThen, sliced, Int.toNat_natCast]
  · have hn : ad = none := by
      split at ha
      · exact ha
      · simpa using ha
    have := h2 hn
    omega
  · by_cases hz : xs.drop (k * s) = []
    · exact .inl hz
    · rcases h3 with rfl | ⟨b, off, e, hb, hc⟩
      · exact absurd (by simp) hz
      · have hlt : k * s < xs.length := by
          rcases Nat.lt_or_ge (k * s) xs.length with h | h
          · exact h
          · exact absurd (List.drop_eq_nil_of_le h) hz
        have hkn : k ≠ cap := by
          intro e9
          have : k = n := by omega
          rw [this, ← hx] at hlt
          omega
        have hadd : (⟨b, off, none⟩ : Addr).add (k * s) = ⟨b, off + k * s, none⟩ := by unfold Addr.add; split <;> simp_all
        refine .inr ⟨b, off + k * s, ?_, hb, fun i hi => ?_⟩
        · rw [if_neg (fun e => hkn e.symm), e]
          simp [hadd]
        · rw [List.length_drop] at hi
          rw [Nat.add_assoc, hc _ (by omega), List.getElem?_drop]
theorem wp_append_any {o : Oper} {a : Act} {K : Act → World → Prop} {Q : Exit → Act → World → Prop} {w : World} (s x : Operand) (t : TypeId)
    (ho : o.op = .call { callee := .builtin .append, args := #[s, x], argTypes := #[t, t] }) (base : Nat) {e : TypeId} {z : Value} {size bytes : Nat} (ht : P.underlying t = some (.slice e)) (hE : ElemInfo P e z size bytes)
    {v : Value} (n : Nat) (xs : List Value) (hs : a.eval s = v) (hown : w.ownsRow base e size v n xs)
    (B : Nat) {ad : Option Addr} {cap : Nat} (m : Nat) (news : List Value) (hx : a.eval x = .slice ad m cap) (hrow : RowAt B w (.slice ad m cap) m news) (hl : news.length = m * size) (h1 : ∀ u ∈ news, u.oneCell' = true)
    (h63 : n + m ≤ maxLen) (hbytes : (n + m) * bytes ≤ 140737488355328) (hbase : base ≤ w.heap.size)
    (h : ∀ v' w', w'.ownsRow base e size v' (n + m) (xs ++ news) → w.grownBy w' v.ownBlock → K (a.put o.dst v') w') : o.wp P a w K Q := by
  cases ad with
  | some ad => exact wp_append_rowO s x t ho base ht hE n xs hs hown B m news hx hrow hl h1 h63 hbytes hbase h
  | none =>
    obtain ⟨a', c', e', hc, _⟩ := hrow
    simp only [Value.slice.injEq] at e'
    obtain ⟨rfl, _, rfl⟩ := e'
    obtain ⟨rfl, rfl⟩ := hc.2 rfl
    obtain rfl : news = [] := List.eq_nil_of_length_eq_zero (by omega)
    obtain ⟨i, hi, hz, hsize, hby, hzs, hsz⟩ := hE
    have hrun := run_append_owned_none (P := P) (w := w) base t o.type e i size ht hi v n xs hown
    unfold Oper.wp
    simp [execOp, ho, resolve, invoke, builtin, hs, hx, hrun, Result.andThen]
    exact h v w (by simpa using hown) (World.grownBy.refl _ _)
end Go.Proofs.YtlpchcdalfkfcaaGreat
