/-
  Package pinfoldlaw07: calls in a row of cells; their weight; two calls by value. No condition.
-/
import Derived.Test.YtfmkjckckekliaaFrDz
namespace Go.Proofs.Ytfmkjckckekliaa
open Go.ChangeShapes Go.WideShapes Go.ChangeAt Go.RowKit
attribute [local go_sem] Oper.semAt_some
set_option maxHeartbeats 4000000
set_option maxRecDepth 4000

def actC (a : ActV) : List Value := [.int .i64 a.what, .int .i64 a.who, .int .i64 a.n, .int .i64 a.at_, a.v]
def actCs (l : List ActV) : List Value := l.flatMap actC
theorem actCs_len (l : List ActV) : (actCs l).length = l.length * 5 := by
  induction l with
  | nil => rfl
  | cons a l ih => simp only [actCs, List.flatMap_cons, List.length_append, List.length_cons] at ih ⊢; rw [ih]; simp [actC]; omega
theorem actCs_append (l m : List ActV) : actCs (l ++ m) = actCs l ++ actCs m := by simp [actCs]
theorem actCs_get : ∀ (l : List ActV) (k : Nat) (h : k < l.length) (j : Nat), j < 5 → (actCs l)[k * 5 + j]? = (actC l[k])[j]?
  | a :: l, 0, _, j, hj => by
    show (actC a ++ actCs l)[0 * 5 + j]? = _
    rw [List.getElem?_append_left (by simp [actC]; omega)]
    simp
  | a :: l, k + 1, h, j, hj => by
    show (actC a ++ actCs l)[(k + 1) * 5 + j]? = _
    rw [List.getElem?_append_right (by simp [actC]; omega), show (k + 1) * 5 + j - (actC a).length = k * 5 + j by simp [actC]; omega, actCs_get l k (by simpa using h) j hj]
    rfl
theorem acts_row {B : Nat} {W : World} {v : Value} {l : List ActV} (h : ActsAt B W v l) (hn : ∀ n c, v = .slice none n c → n = 0 ∧ c = 0) : RowAt B W v l.length (actCs l) := by
  obtain ⟨a, cap, rfl, hl, _, hc⟩ := h
  refine ⟨a, cap, rfl, ⟨hl, fun e => by subst e; exact hn _ _ rfl⟩, ?_⟩
  by_cases h0 : l = []
  · left; subst h0; rfl
  · right
    rcases hc with h1 | ⟨b, off, rfl, hA⟩
    · exact absurd h1 h0
    · have hlt : b < B := by
        have : 0 < l.length := by cases l <;> simp_all
        exact (hA 0 this).lt
      refine ⟨b, off, rfl, hlt, fun i hi => ?_⟩
      rw [actCs_len] at hi
      obtain ⟨k, j, rfl, hj⟩ : ∃ k j, i = k * 5 + j ∧ j < 5 := ⟨i / 5, i % 5, by omega, by omega⟩
      have hk : k < l.length := by omega
      rw [actCs_get l k hk j hj]
      have hq := hA k hk
      obtain rfl | rfl | rfl | rfl | rfl : j = 0 ∨ j = 1 ∨ j = 2 ∨ j = 3 ∨ j = 4 := by omega
      · exact hq.c0
      · rw [show off + (k * 5 + 1) = off + k * 5 + 1 by omega]; exact hq.c1
      · rw [show off + (k * 5 + 2) = off + k * 5 + 2 by omega]; exact hq.c2
      · rw [show off + (k * 5 + 3) = off + k * 5 + 3 by omega]; exact hq.c3
      · rw [show off + (k * 5 + 4) = off + k * 5 + 4 by omega]; exact hq.c4
theorem acts_of {B : Nat} {W : World} {a : Option Addr} {n cap : Nat} {l : List ActV} (h : RowAt B W (.slice a n cap) n (actCs l)) (hn : n = l.length) (hm : cap ≤ maxLen) (hr : ∀ x ∈ l, RowAt B W x.v x.bs.length (intVals .u8 x.bs)) (hb : ∀ x ∈ l, ∀ y ∈ x.bs, 0 ≤ y ∧ y < 256) : ActsAt B W (.slice a n cap) l := by
  subst hn
  obtain ⟨a', cap', e, ⟨hl, _⟩, hc⟩ := h
  simp only [Value.slice.injEq] at e
  obtain ⟨rfl, _, rfl⟩ := e
  refine ⟨a, cap, rfl, hl, hm, ?_⟩
  by_cases h0 : l = []
  · exact .inl h0
  · right
    rcases hc with h1 | ⟨b, off, rfl, hlt, hc⟩
    · exfalso
      have := congrArg List.length h1
      rw [actCs_len] at this
      cases l <;> simp_all
    · refine ⟨b, off, rfl, fun k hk => ?_⟩
      have hx := List.getElem_mem hk
      have hq : ∀ j, j < 5 → W.cell? ⟨b, off + k * 5 + j, none⟩ = (actC l[k])[j]? := fun j hj => by
        rw [← actCs_get l k hk j hj, Nat.add_assoc]
        exact hc _ (by rw [actCs_len]; omega)
      exact ⟨hq 0 (by omega), hq 1 (by omega), hq 2 (by omega), hq 3 (by omega), hq 4 (by omega), hr _ hx, hlt, hb _ hx⟩
theorem open_acts2 {H : Type} {enc : TypeId × Value → H} {W : World} {base base' : Nat} {spare : Nat → Bool} {held : Bool} {v : Value} {d : DataW H} {p : List MemPlace}
    (hv : Value.okWide Try.prog W .any base 33 v) (h : DataW.Trod enc Try.prog W base' spare held 33 v d p) {ts : List TypeId} {ds : List (DataW H)} (hz : (DataW.weightsEach Try.prog (33 :: ts) (d :: ds)).all (· ≤ reachBytes) = true) :
    (∀ n c, v = .slice none n c → n = 0 ∧ c = 0) ∧ ∀ a n c, v = .slice a n c → n * 56 ≤ reachBytes := by
  obtain ⟨a0, n0, c0, rfl⟩ := okWide_slice Try.underlying33 hv
  obtain ⟨fuel, hf⟩ := h
  rcases Deep.open_slice Try.underlying33 hf with ⟨hcs, _⟩ | ⟨a, len, cap, m, n, D, Pl, hcs, hb, hl, hm, hmm, hx, hel⟩
  · have hcs' : Value.slice a0 n0 c0 = .slice none 0 0 := by simpa [Value.cells] using hcs
    rw [hcs']
    refine ⟨fun n c e => by cases e; exact ⟨rfl, rfl⟩, fun a n c e => by cases e; simp⟩
  · have hcs' : Value.slice a0 n0 c0 = .slice (some a) len cap := by simpa [Value.cells] using hcs
    rw [hcs']
    simp only [Prod.mk.injEq] at hx
    obtain ⟨rfl, _⟩ := hx
    refine ⟨fun n c e => (by cases e), fun a n c e => ?_⟩
    have h1 := sized_slice hz (j := 0) rfl rfl Try.underlying33
    have k56 : Try.prog.bytesOf 38 = 56 := by kernel_rfl
    rw [k56] at h1
    simp at h1
    cases e
    omega
theorem open_two {H : Type} {enc : TypeId × Value → H} {W : World} {base base' : Nat} {spare : Nat → Bool} {held : Bool} {v : Value} {d : DataW H} {p : List MemPlace}
    (hv : Value.okWide Try.prog W .any base 63 v) (h : DataW.Trod enc Try.prog W base' spare held 63 v d p) :
    ∃ x y : ActV, v = .agg #[.int .i64 x.what, .int .i64 x.who, .int .i64 x.n, .int .i64 x.at_, x.v, .int .i64 y.what, .int .i64 y.who, .int .i64 y.n, .int .i64 y.at_, y.v] ∧
      (RowAt W.heap.size W x.v x.bs.length (intVals .u8 x.bs) ∧ ∀ z ∈ x.bs, 0 ≤ z ∧ z < 256) ∧ (RowAt W.heap.size W y.v y.bs.length (intVals .u8 y.bs) ∧ ∀ z ∈ y.bs, 0 ≤ z ∧ z < 256) := by
  have hct : Try.prog.cellsOf 63 = 10 := by kernel_rfl
  have hce : Try.prog.cellsOf 38 = 5 := by kernel_rfl
  simp only [Value.okWide, Try.underlying63] at hv
  obtain ⟨cs, rfl, hsz, _⟩ := hv
  rw [hct] at hsz
  obtain ⟨fuel, hf⟩ := h
  obtain ⟨xs, m, _, _, _, hl, hxs⟩ := DataW.trod_array Try.underlying63 hf
  have h0 := hxs 0 (by omega)
  have h1 := hxs 1 (by omega)
  rw [hce] at h0 h1
  obtain ⟨l⟩ := cs
  match l, hsz with
  | [c0, c1, c2, c3, c4, c5, c6, c7, c8, c9], _ =>
    have h0' : DataW.trod enc Try.prog W base' spare held m 38 [c0, c1, c2, c3, c4] = some xs[0] := by simpa [Value.cells, hl] using h0
    have h1' : DataW.trod enc Try.prog W base' spare held m 38 [c5, c6, c7, c8, c9] = some xs[1] := by simpa [Value.cells, hl] using h1
    have one : ∀ {v0 v1 v2 v3 v4 : Value} {x : DataW H × List MemPlace}, DataW.trod enc Try.prog W base' spare held m 38 [v0, v1, v2, v3, v4] = some x →
        ∃ a : ActV, v0 = .int .i64 a.what ∧ v1 = .int .i64 a.who ∧ v2 = .int .i64 a.n ∧ v3 = .int .i64 a.at_ ∧ v4 = a.v ∧ RowAt W.heap.size W a.v a.bs.length (intVals .u8 a.bs) ∧ ∀ z ∈ a.bs, 0 ≤ z ∧ z < 256 := by
      intro v0 v1 v2 v3 v4 x hf
      obtain ⟨xs, n, rfl, _, _, hxl, hx⟩ := DataW.trod_struct Try.underlying38 hf
      have k3 : Try.prog.cellsOf 3 = 1 := by kernel_rfl
      have k36 : Try.prog.cellsOf 36 = 1 := by kernel_rfl
      have h0 : DataW.trod enc Try.prog W base' spare held n 3 (List.take (Try.prog.cellsOf 3) (List.drop 0 [v0, v1, v2, v3, v4])) = xs[0]? := hx 0 _ rfl
      have h1 : DataW.trod enc Try.prog W base' spare held n 3 (List.take (Try.prog.cellsOf 3) (List.drop 1 [v0, v1, v2, v3, v4])) = xs[1]? := hx 1 _ rfl
      have h2 : DataW.trod enc Try.prog W base' spare held n 3 (List.take (Try.prog.cellsOf 3) (List.drop 2 [v0, v1, v2, v3, v4])) = xs[2]? := hx 2 _ rfl
      have h3 : DataW.trod enc Try.prog W base' spare held n 3 (List.take (Try.prog.cellsOf 3) (List.drop 3 [v0, v1, v2, v3, v4])) = xs[3]? := hx 3 _ rfl
      have h4 : DataW.trod enc Try.prog W base' spare held n 36 (List.take (Try.prog.cellsOf 36) (List.drop 4 [v0, v1, v2, v3, v4])) = xs[4]? := hx 4 _ rfl
      have hsz : xs.length = 5 := hxl
      rw [List.getElem?_eq_getElem (by omega)] at h0 h1 h2 h3 h4
      simp only [k3, k36, List.drop_zero, List.drop_succ_cons, List.take_succ_cons, List.take_zero] at h0 h1 h2 h3 h4
      obtain ⟨n0, e0, _⟩ := DataW.trod_int Try.underlying3 h0
      obtain ⟨n1, e1, _⟩ := DataW.trod_int Try.underlying3 h1
      obtain ⟨n2, e2, _⟩ := DataW.trod_int Try.underlying3 h2
      obtain ⟨n3, e3, _⟩ := DataW.trod_int Try.underlying3 h3
      obtain ⟨bs, hr, hbw, _⟩ := open_rowT Try.underlying36 Try.underlying5 (by kernel_rfl) h4
      simp only [List.cons.injEq, and_true] at e0 e1 e2 e3
      subst e0 e1 e2 e3
      exact ⟨⟨n0, n1, n2, n3, v4, bs⟩, rfl, rfl, rfl, rfl, rfl, hr, fun y hy => u8_bd (hbw y hy)⟩
    obtain ⟨x, rfl, rfl, rfl, rfl, rfl, q1, q2⟩ := one h0'
    obtain ⟨y, rfl, rfl, rfl, rfl, rfl, q3, q4⟩ := one h1'
    exact ⟨x, y, rfl, ⟨q1, q2⟩, ⟨q3, q4⟩⟩
theorem infoAct : ElemInfo Try.prog 38 (.agg #[.int .i64 0, .int .i64 0, .int .i64 0, .int .i64 0, .slice none 0 0]) 5 56 := elemInfo_of (by kernel_rfl) rfl (by decide)
theorem fewI_snoc {l : List ActV} {x y : ActV} {m : Int} (h : fewI (l ++ [x, y]) (m + 2) = true) : fewI l m = true ∧ x.bs.length ≤ 300 ∧ y.bs.length ≤ 300 := by
  unfold fewI at h ⊢
  rw [Bool.and_eq_true, decide_eq_true_iff, decide_eq_true_iff] at h ⊢
  obtain ⟨h1, h2⟩ := h
  have hx := h1 x (by simp)
  have hy := h1 y (by simp)
  refine ⟨⟨fun a ha => h1 a (by simp [ha]), ?_⟩, by omega, by omega⟩
  simp only [List.length_append, List.length_cons, List.length_nil] at h2
  omega
end Go.Proofs.Ytfmkjckckekliaa
