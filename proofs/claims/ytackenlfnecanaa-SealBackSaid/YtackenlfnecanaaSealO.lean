/-
  The parameters of the laws of layer 6, taken apart. No condition.
-/
import Derived.Test.YtackenlfnecanaaFrame
import Derived.Test.YtackenlfnecanaaSealW
import Derived.ChangeSame
import Derived.Deep.Strs
namespace Go.Proofs.Ytackenlfnecanaa
open Go.ChangeShapes Go.WideShapes Go.ChangeAt Go.RowKit
set_option maxHeartbeats 1000000
set_option maxRecDepth 8000

variable {H : Type} {enc : TypeId × Value → H} {W : World} {base base' : Nat} {spare : Nat → Bool} {held : Bool}
theorem cells2 {cs : Array Value} (h : cs.size = 2) : ∃ a b, cs = #[a, b] := by
  obtain ⟨l⟩ := cs
  match l, h with
  | [a, b], _ => exact ⟨a, b, rfl⟩
theorem cells3 {cs : Array Value} (h : cs.size = 3) : ∃ a b c, cs = #[a, b, c] := by
  obtain ⟨l⟩ := cs
  match l, h with
  | [a, b, c], _ => exact ⟨a, b, c, rfl⟩
theorem cells6 {cs : Array Value} (h : cs.size = 6) : ∃ a b c d e f, cs = #[a, b, c, d, e, f] := by
  obtain ⟨l⟩ := cs
  match l, h with
  | [a, b, c, d, e, f], _ => exact ⟨a, b, c, d, e, f, rfl⟩
theorem open_place {v : Value} {d : DataW H} {p : List MemPlace} (hv : Value.okWide Try.prog W .any base 25 v) (h : DataW.Trod enc Try.prog W base' spare held 25 v d p) :
    ∃ key at_ : Int, v = .agg #[.int .u64 key, .int .u32 at_] ∧ (0 ≤ key ∧ key < 18446744073709551616) ∧ 0 ≤ at_ ∧ at_ < 4294967296 := by
  simp only [Value.okWide, Try.underlying25] at hv
  obtain ⟨cs, rfl, hsz, _⟩ := hv
  obtain ⟨a, b, rfl⟩ := cells2 (hsz.trans (by kernel_rfl))
  obtain ⟨fuel, hf⟩ := h
  obtain ⟨y0, y1, m, _, _, h0, h1⟩ := trod_struct2 Try.underlying25 hf
  have c64 : Try.prog.cellsOf 22 = 1 := by kernel_rfl
  have c32 : Try.prog.cellsOf 23 = 1 := by kernel_rfl
  simp only [Value.cells, c64, c32, List.drop_zero, List.drop_succ_cons, List.take_succ_cons, List.take_zero] at h0 h1
  obtain ⟨k, e0, _, wk⟩ := DataW.trod_int Try.underlying22 h0
  obtain ⟨x, e1, _, wx⟩ := DataW.trod_int Try.underlying23 h1
  simp at e0 e1
  subst e0 e1
  exact ⟨k, x, rfl, u64_bd wk, u32_bd wx⟩
theorem open_tagT {fuel : Nat} {a b c : Value} {x : DataW H × List MemPlace} (hf : DataW.trod enc Try.prog W base' spare held fuel 27 [a, b, c] = some x) :
    ∃ k s n : Int, a = .int .i64 k ∧ b = .int .i64 s ∧ c = .int .u32 n ∧ 0 ≤ n ∧ n < 4294967296 := by
  obtain ⟨y0, y1, y2, m, _, _, h0, h1, h2⟩ := Go.Deep.trod_struct3 Try.underlying27 hf
  have c64 : Try.prog.cellsOf 3 = 1 := by kernel_rfl
  have c32 : Try.prog.cellsOf 23 = 1 := by kernel_rfl
  simp only [c64, c32, List.drop_zero, List.drop_succ_cons, List.take_succ_cons, List.take_zero] at h0 h1 h2
  obtain ⟨k, e0, _, _⟩ := DataW.trod_int Try.underlying3 h0
  obtain ⟨s, e1, _, _⟩ := DataW.trod_int Try.underlying3 h1
  obtain ⟨n, e2, _, wn⟩ := DataW.trod_int Try.underlying23 h2
  simp at e0 e1 e2
  exact ⟨k, s, n, e0, e1, e2, u32_bd wn⟩
theorem open_tag {v : Value} {d : DataW H} {p : List MemPlace} (hv : Value.okWide Try.prog W .any base 27 v) (h : DataW.Trod enc Try.prog W base' spare held 27 v d p) :
    ∃ k s n : Int, v = .agg #[.int .i64 k, .int .i64 s, .int .u32 n] ∧ 0 ≤ n ∧ n < 4294967296 := by
  simp only [Value.okWide, Try.underlying27] at hv
  obtain ⟨cs, rfl, hsz, _⟩ := hv
  obtain ⟨a, b, c, rfl⟩ := cells3 (hsz.trans (by kernel_rfl))
  obtain ⟨fuel, hf⟩ := h
  obtain ⟨k, s, n, rfl, rfl, rfl, h⟩ := open_tagT hf
  exact ⟨k, s, n, rfl, h⟩
theorem open_tags2 {v : Value} {d : DataW H} {p : List MemPlace} (hv : Value.okWide Try.prog W .any base 49 v) (h : DataW.Trod enc Try.prog W base' spare held 49 v d p) :
    ∃ k s n k' s' n' : Int, v = .agg #[.int .i64 k, .int .i64 s, .int .u32 n, .int .i64 k', .int .i64 s', .int .u32 n'] ∧ (0 ≤ n ∧ n < 4294967296) ∧ 0 ≤ n' ∧ n' < 4294967296 := by
  simp only [Value.okWide, Try.underlying49] at hv
  obtain ⟨cs, rfl, hsz, _⟩ := hv
  obtain ⟨a, b, c, a', b', c', rfl⟩ := cells6 (hsz.trans (by kernel_rfl))
  obtain ⟨fuel, hf⟩ := h
  obtain ⟨xs, m, _, _, _, hl, hxs⟩ := DataW.trod_array Try.underlying49 hf
  have h0 := hxs 0 (by omega)
  have h1 := hxs 1 (by omega)
  rw [show Try.prog.cellsOf 27 = 3 from by kernel_rfl] at h0 h1
  have h0' : DataW.trod enc Try.prog W base' spare held m 27 [a, b, c] = some xs[0] := by simpa [Value.cells, hl] using h0
  have h1' : DataW.trod enc Try.prog W base' spare held m 27 [a', b', c'] = some xs[1] := by simpa [Value.cells, hl] using h1
  obtain ⟨k, s, n, rfl, rfl, rfl, hn⟩ := open_tagT h0'
  obtain ⟨k', s', n', rfl, rfl, rfl, hn'⟩ := open_tagT h1'
  exact ⟨k, s, n, k', s', n', rfl, hn, hn'⟩
end Go.Proofs.Ytackenlfnecanaa
