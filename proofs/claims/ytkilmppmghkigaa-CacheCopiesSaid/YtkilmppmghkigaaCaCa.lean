/-
  Package pinfoldlaw18: what CacheCopies needs beside CachePlays. No condition.
-/
import Derived.Test.YtkilmppmghkigaaCaPl
import Derived.Test.YtkilmppmghkigaaCaT
namespace Go.Proofs.Ytkilmppmghkigaa
open Go.ChangeShapes Go.WideShapes Go.ChangeAt Go.RowKit
attribute [local go_sem] Oper.semAt_some
set_option maxHeartbeats 4000000
set_option maxRecDepth 8000

theorem act_of_cells {H : Type} {enc : TypeId × Value → H} {W : World} {base' fuel : Nat} {spare : Nat → Bool} {held : Bool} {v0 v1 v2 v3 : Value} {z : DataW H × List MemPlace} (hf : DataW.trod enc Try.prog W base' spare held fuel 30 [v0, v1, v2, v3] = some z) :
    ∃ a : ActV, v0 = .int .i64 a.f0 ∧ v1 = .int .i64 a.f1 ∧ v2 = .int .i64 a.f2 ∧ v3 = .int .i64 a.f3 := by
  obtain ⟨xs, n, rfl, _, _, hxl, hx⟩ := DataW.trod_struct Try.underlying30 hf
  have k3 : Try.prog.cellsOf 3 = 1 := by kernel_rfl
  have h0 : DataW.trod enc Try.prog W base' spare held n 3 (List.take (Try.prog.cellsOf 3) (List.drop 0 [v0, v1, v2, v3])) = xs[0]? := hx 0 _ rfl
  have h1 : DataW.trod enc Try.prog W base' spare held n 3 (List.take (Try.prog.cellsOf 3) (List.drop 1 [v0, v1, v2, v3])) = xs[1]? := hx 1 _ rfl
  have h2 : DataW.trod enc Try.prog W base' spare held n 3 (List.take (Try.prog.cellsOf 3) (List.drop 2 [v0, v1, v2, v3])) = xs[2]? := hx 2 _ rfl
  have h3 : DataW.trod enc Try.prog W base' spare held n 3 (List.take (Try.prog.cellsOf 3) (List.drop 3 [v0, v1, v2, v3])) = xs[3]? := hx 3 _ rfl
  have hsz : xs.length = 4 := hxl
  rw [List.getElem?_eq_getElem (by omega)] at h0 h1 h2 h3
  simp only [k3, List.drop_zero, List.drop_succ_cons, List.take_succ_cons, List.take_zero] at h0 h1 h2 h3
  obtain ⟨n0, e0, _, w0⟩ := DataW.trod_int Try.underlying3 h0
  obtain ⟨n1, e1, _, w1⟩ := DataW.trod_int Try.underlying3 h1
  obtain ⟨n2, e2, _, w2⟩ := DataW.trod_int Try.underlying3 h2
  obtain ⟨n3, e3, _, w3⟩ := DataW.trod_int Try.underlying3 h3
  simp only [List.cons.injEq, and_true] at e0 e1 e2 e3
  exact ⟨⟨n0, n1, n2, n3⟩, e0, e1, e2, e3⟩
theorem open_two {H : Type} {enc : TypeId × Value → H} {W : World} {base base' : Nat} {spare : Nat → Bool} {held : Bool} {v : Value} {d : DataW H} {p : List MemPlace}
    (hv : Value.okWide Try.prog W .any base 51 v) (h : DataW.Trod enc Try.prog W base' spare held 51 v d p) :
    ∃ x y : ActV, v = .agg #[.int .i64 x.f0, .int .i64 x.f1, .int .i64 x.f2, .int .i64 x.f3, .int .i64 y.f0, .int .i64 y.f1, .int .i64 y.f2, .int .i64 y.f3] := by
  have hct : Try.prog.cellsOf 51 = 8 := by kernel_rfl
  have hce : Try.prog.cellsOf 30 = 4 := by kernel_rfl
  simp only [Value.okWide, Try.underlying51] at hv
  obtain ⟨cs, rfl, hsz, _⟩ := hv
  rw [hct] at hsz
  obtain ⟨fuel, hf⟩ := h
  obtain ⟨xs, m, _, _, _, hl, hxs⟩ := DataW.trod_array Try.underlying51 hf
  have h0 := hxs 0 (by omega)
  have h1 := hxs 1 (by omega)
  rw [hce] at h0 h1
  obtain ⟨l⟩ := cs
  match l, hsz with
  | [c0, c1, c2, c3, c4, c5, c6, c7], _ =>
    have h0' : DataW.trod enc Try.prog W base' spare held m 30 [c0, c1, c2, c3] = some xs[0] := by simpa [Value.cells, hl] using h0
    have h1' : DataW.trod enc Try.prog W base' spare held m 30 [c4, c5, c6, c7] = some xs[1] := by simpa [Value.cells, hl] using h1
    obtain ⟨x, rfl, rfl, rfl, rfl⟩ := act_of_cells h0'
    obtain ⟨y, rfl, rfl, rfl, rfl⟩ := act_of_cells h1'
    exact ⟨x, y, rfl⟩
/-! ### What is gone over -/
/-- The last slot that was told; -1: none. -/
def lastK (pre : List (Int × Int)) : Int := (pre.getLast?.map (·.1)).getD (-1)
theorem lastK_snoc (pre : List (Int × Int)) (x : Int × Int) : lastK (pre ++ [x]) = x.1 := by simp [lastK]
theorem all_fst (m : List (Int × Int)) : (allL m).map (·.1) = (m.map (·.1)).mergeSort leI := by
  unfold allL srt encP
  rw [List.map_map, List.map_map]
  simp [Function.comp_def]
theorem allL_sorted {m : List (Int × Int)} (hnd : (m.map (·.1)).Nodup) : ((allL m).map (·.1)).Pairwise (· < ·) := by
  rw [all_fst]
  have h1 : ((m.map (·.1)).mergeSort leI).Pairwise (fun a b => leI a b = true) := List.pairwise_mergeSort (by unfold leI; intro a b c; simp; omega) (by unfold leI; intro a b; simp; omega) _
  have h2 : ((m.map (·.1)).mergeSort leI).Nodup := (List.mergeSort_perm _ _).nodup_iff.2 hnd
  refine (List.pairwise_and_iff.2 ⟨h1, h2⟩).imp ?_
  rintro a b ⟨h, h'⟩
  unfold leI at h
  have : a ≤ b := by simpa using h
  omega
theorem allL_next {m pre suf : List (Int × Int)} {x : Int × Int} (hnd : (m.map (·.1)).Nodup) (h0 : ∀ y ∈ m, 0 ≤ y.1) (hxs : allL m = pre ++ x :: suf) : lastK pre < x.1 := by
  have hs := allL_sorted hnd
  rw [hxs, List.map_append, List.pairwise_append] at hs
  have hx0 : 0 ≤ x.1 := by
    obtain ⟨y, hy, e⟩ := allL_key (m := m) (x := x) (by rw [hxs]; simp)
    rw [← e]; exact h0 y hy
  unfold lastK
  cases h : pre.getLast? with
  | none => simp; omega
  | some y =>
    have hy := List.mem_of_getLast? h
    exact hs.2.2 y.1 (List.mem_map_of_mem hy) x.1 (by simp)
theorem has_all (L : Nat → List Int) (c : Nat) {x : Int × Int} (hx : x ∈ allL (pTo (colL L c) 4)) : hasI L c x.1 = x.2 := by
  have hk : x.1 ∈ (pTo (colL L c) 4).map (·.1) := (all_keys _ _).1 (List.mem_map_of_mem hx)
  have h2 : x.2 = whoP (pTo (colL L c) 4) x.1 := by
    unfold allL at hx
    obtain ⟨k, _, rfl⟩ := List.mem_map.1 hx
    rfl
  rw [h2, who_col]
  obtain ⟨y, hy, e⟩ := List.mem_map.1 hk
  have hf := find_pTo L c x.1
  cases hh : hasT L c x.1 with
  | some t => unfold hasI; rw [hh]; rfl
  | none =>
    rw [hh] at hf
    have := List.find?_eq_none.1 hf y hy
    simp [e] at this
def lenTo (L : Nat → List Int) (a : Nat) : Nat := (pTo (colL L 0) a).length
theorem lenTo_succ (L : Nat → List Int) (a : Nat) : lenTo L (a + 1) = lenTo L a + (L (a * 8)).length := by
  unfold lenTo
  rw [pTo_succ, List.length_append, List.length_map]
  rfl
theorem wpListIn_load32 {F : Fence} {d : Nat} {ops : Array Oper} {rest : List Oper} {o : Oper} {a : Act} {w : World} {Q : Exit → Act → World → Prop} (hw : Region.wanted o (yielded ops a.tmps) = true) (x : Operand) (ho : o.op = .load 44 x)
    (g : Nat) (hx : a.eval x = .pointer (some ⟨g, 0, none⟩)) {cs : Array Value} (hB : Blk w g cs 44) (hs : cs.size = 32)
    (h : wpListIn F d Try.prog ops Q rest (a.put o.dst (.agg cs)) w) : wpListIn F d Try.prog ops Q (o :: rest) a w := by
  refine wpListIn_step fun K hK => ?_
  rw [if_pos hw]
  refine ⟨fun f hf => ?_, ?_⟩
  · simp [Oper.about, ho] at hf
  · have e : o.semAt F.round a.eval = execOp a.eval o := by
      cases F.round with
      | none => rfl
      | some l => exact Oper.semAt_some _ _ _ (by rw [ho]; intro c h; cases h)
    rw [e, exec_load32 x ho g hx hB hs]
    exact hK _ _ h
end Go.Proofs.Ytkilmppmghkigaa
