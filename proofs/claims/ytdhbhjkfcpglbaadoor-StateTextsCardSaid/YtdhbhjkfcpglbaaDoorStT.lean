/-
  Package pinfoldlaw14: two calls as they come in; texts that are alike; what a turned sheet leaves. No condition.
-/
import Derived.Test.YtdhbhjkfcpglbaaDoorStR
namespace Go.Proofs.YtdhbhjkfcpglbaaDoor
open Go.ChangeShapes Go.WideShapes Go.ChangeAt Go.RowKit
set_option maxHeartbeats 1000000
set_option maxRecDepth 8000

theorem act_of_cells {H : Type} {enc : TypeId × Value → H} {W : World} {base' fuel : Nat} {spare : Nat → Bool} {held : Bool} {c0 c1 c2 : Value} {x : DataW H × List MemPlace} (hf : DataW.trod enc Tryd.prog W base' spare held fuel 38 [c0, c1, c2] = some x) :
    ∃ a : ActV, c0 = .bool a.f0 ∧ c1 = .int .i64 a.f1 ∧ c2 = .int .i64 a.f2 := by
  obtain ⟨xs, n, rfl, _, _, hxl, hx⟩ := DataW.trod_struct Tryd.underlying38 hf
  have k3 : Tryd.prog.cellsOf 3 = 1 := by kernel_rfl
  have k0 : Tryd.prog.cellsOf 4 = 1 := by kernel_rfl
  have h0 : DataW.trod enc Tryd.prog W base' spare held n 4 (List.take (Tryd.prog.cellsOf 4) (List.drop 0 [c0, c1, c2])) = xs[0]? := hx 0 _ rfl
  have h1 : DataW.trod enc Tryd.prog W base' spare held n 3 (List.take (Tryd.prog.cellsOf 3) (List.drop 1 [c0, c1, c2])) = xs[1]? := hx 1 _ rfl
  have h2 : DataW.trod enc Tryd.prog W base' spare held n 3 (List.take (Tryd.prog.cellsOf 3) (List.drop 2 [c0, c1, c2])) = xs[2]? := hx 2 _ rfl
  have hsz : xs.length = 3 := hxl
  rw [List.getElem?_eq_getElem (by omega)] at h0 h1 h2
  simp only [k3, k0, List.drop_zero, List.drop_succ_cons, List.take_succ_cons, List.take_zero] at h0 h1 h2
  obtain ⟨n0, e0, _⟩ := DataW.trod_bool Tryd.underlying4 h0
  obtain ⟨n1, e1, _, w1⟩ := DataW.trod_int Tryd.underlying3 h1
  obtain ⟨n2, e2, _, w2⟩ := DataW.trod_int Tryd.underlying3 h2
  simp only [List.cons.injEq, and_true] at e0 e1 e2
  exact ⟨⟨n0, n1, n2⟩, e0, e1, e2⟩
theorem open_two {H : Type} {enc : TypeId × Value → H} {W : World} {base base' : Nat} {spare : Nat → Bool} {held : Bool} {v : Value} {d : DataW H} {p : List MemPlace}
    (hv : Value.okWide Tryd.prog W .any base 60 v) (h : DataW.Trod enc Tryd.prog W base' spare held 60 v d p) :
    ∃ x y : ActV, v = .agg #[.bool x.f0, .int .i64 x.f1, .int .i64 x.f2, .bool y.f0, .int .i64 y.f1, .int .i64 y.f2] := by
  have hct : Tryd.prog.cellsOf 60 = 6 := by kernel_rfl
  have hce : Tryd.prog.cellsOf 38 = 3 := by kernel_rfl
  simp only [Value.okWide, Tryd.underlying60] at hv
  obtain ⟨cs, rfl, hsz, _⟩ := hv
  rw [hct] at hsz
  obtain ⟨fuel, hf⟩ := h
  obtain ⟨xs, m, _, _, _, hl, hxs⟩ := DataW.trod_array Tryd.underlying60 hf
  have h0 := hxs 0 (by omega)
  have h1 := hxs 1 (by omega)
  rw [hce] at h0 h1
  obtain ⟨l⟩ := cs
  match l, hsz with
  | [c0, c1, c2, c3, c4, c5], _ =>
    have h0' : DataW.trod enc Tryd.prog W base' spare held m 38 [c0, c1, c2] = some xs[0] := by simpa [Value.cells, hl] using h0
    have h1' : DataW.trod enc Tryd.prog W base' spare held m 38 [c3, c4, c5] = some xs[1] := by simpa [Value.cells, hl] using h1
    obtain ⟨x, rfl, rfl, rfl⟩ := act_of_cells h0'
    obtain ⟨y, rfl, rfl, rfl⟩ := act_of_cells h1'
    exact ⟨x, y, rfl⟩
theorem txt_inj {l m : List Int} (hl : ∀ x ∈ l, isSt x = true) (hm : ∀ x ∈ m, isSt x = true) : ((⟨(txtL l).toArray⟩ : ByteArray) = ⟨(txtL m).toArray⟩) ↔ l = m := by
  refine ⟨fun e => ?_, fun e => by rw [e]⟩
  have e2 : txtL l = txtL m := by
    have := congrArg (fun b : ByteArray => b.data.toList) e
    simpa using this
  rw [← (par_txt l hl).1, ← (par_txt m hm).1, e2]
theorem st_par {bs : List UInt8} (h : allLet bs = true) : ∀ x ∈ parL bs, isSt x = true := by
  intro x hx
  obtain ⟨b, hb, rfl⟩ := List.mem_map.1 hx
  have := List.all_eq_true.1 h b hb
  rcases st_cases b with ⟨_, h0, h1⟩ | ⟨h0, _⟩
  · unfold isSt; exact decide_eq_true ⟨h0, h1⟩
  · rw [h0] at this; cases this
theorem parL_len (bs : List UInt8) : (parL bs).length = bs.length := by simp [parL]
theorem Run.turned {B : Nat} {w0 W W' : World} {lo hi s a b : Nat} {L : List Int} (h : Run B w0 W lo hi s L) (k : Tur a b W W') (hB : B ≤ a) (hd : hi ≤ a ∨ b ≤ lo) : Run B w0 W' lo hi s L :=
  ⟨h.sh.turned k hd, h.bel.trans (k.below hB h.big), h.low, Nat.le_trans h.big k.size, h.few, h.st⟩
theorem AllV.turned {B a b : Nat} {W W' : World} {bw bx : Nat} {v : Value} {x : Int} {l : List Int} (h : AllV B W bw bx v x l) (k : Tur a b W W') (hb : b ≤ B) : AllV B W' bw bx v x l :=
  ⟨(k.block bw h.was.lt (.inr (Nat.le_trans hb h.lo.1))).trans h.was, (k.block bx h.st.lt (.inr (Nat.le_trans hb h.lo.2))).trans h.st,
    (k.row h.row (fun c off m d e h0 => .inr (Nat.le_trans hb (h.far c off m d e h0))) (intVals_len _ _)).mono k.size, h.lo, h.far⟩
theorem Blk.tur {W W' : World} {a b k : Nat} {cs : Array Value} {t : TypeId} (h : Blk W k cs t) (hT : Tur a b W W') (hd : k < a ∨ b ≤ k) : Blk W' k cs t := (hT.block k h.lt hd).trans h
end Go.Proofs.YtdhbhjkfcpglbaaDoor
