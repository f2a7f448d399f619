/-
 'MetaHolds' returns true for every input, and leaves what it is given as it was. No condition.
-/
import Derived.Test.YtlpchcdalfkfcaaGreatBPgA
import Derived.Test.YtlpchcdalfkfcaaGreatBMeBr
namespace Go.Proofs.YtlpchcdalfkfcaaGreat.metaHolds
open Go.ChangeShapes Go.WideShapes Go.ChangeAt Go.RowKit Go.Proofs.YtlpchcdalfkfcaaGreat
set_option linter.unusedVariables false
set_option maxHeartbeats 1000000
set_option maxRecDepth 8000

section
variable {H : Type} {enc : TypeId × Value → H} {W : World} {base base' fuel : Nat} {spare : Nat → Bool} {held : Bool}
theorem rec_of_cells {c0 c1 c2 : Value} {x : DataW H × List MemPlace} (hf : DataW.trod enc Tryz.prog W base' spare held fuel 47 [c0, c1, c2] = some x) :
  ∃ n0 n1 n2, c0 = .int .i64 n0 ∧ c1 = .int .i64 n1 ∧ c2 = .int .u32 n2 ∧ 0 ≤ n2 ∧ n2 < 4294967296 := by
 obtain ⟨xs, n, rfl, _, _, hxl, hx⟩ := DataW.trod_struct Tryz.underlying47 hf
 have k0 : Tryz.prog.cellsOf 3 = 1 := by kernel_rfl
 have k1 : Tryz.prog.cellsOf 45 = 1 := by kernel_rfl
 have k2 : Tryz.prog.cellsOf 24 = 1 := by kernel_rfl
 have h0 : DataW.trod enc Tryz.prog W base' spare held n 45 (List.take (Tryz.prog.cellsOf 45) (List.drop 0 [c0, c1, c2])) = xs[0]? := hx 0 _ rfl
 have h1 : DataW.trod enc Tryz.prog W base' spare held n 3 (List.take (Tryz.prog.cellsOf 3) (List.drop 1 [c0, c1, c2])) = xs[1]? := hx 1 _ rfl
 have h2 : DataW.trod enc Tryz.prog W base' spare held n 24 (List.take (Tryz.prog.cellsOf 24) (List.drop 2 [c0, c1, c2])) = xs[2]? := hx 2 _ rfl
 have hsz : xs.length = 3 := hxl
 rw [List.getElem?_eq_getElem (by omega)] at h0 h1 h2
 simp only [k0, k1, k2, List.drop_zero, List.drop_succ_cons, List.take_succ_cons, List.take_zero] at h0 h1 h2
 obtain ⟨n0, e0, _, w0⟩ := DataW.trod_int Tryz.underlying45 h0
 simp only [List.cons.injEq, and_true] at e0
 obtain ⟨n1, e1, _, w1⟩ := DataW.trod_int Tryz.underlying3 h1
 simp only [List.cons.injEq, and_true] at e1
 obtain ⟨n2, e2, _, w2⟩ := DataW.trod_int Tryz.underlying24 h2
 simp only [List.cons.injEq, and_true] at e2
 obtain ⟨b0, b1⟩ := u32_bd w2
 exact ⟨n0, n1, n2, e0, e1, e2, b0, b1⟩
theorem grt_of_cells {c0 c1 c2 c3 : Value} {x : DataW H × List MemPlace} (hf : DataW.trod enc Tryz.prog W base' spare held fuel 54 [c0, c1, c2, c3] = some x) :
  ∃ n0 n1 n2 n3, c0 = .int .i64 n0 ∧ c1 = .int .i64 n1 ∧ c2 = .int .i64 n2 ∧ c3 = .int .i64 n3 := by
 obtain ⟨xs, n, rfl, _, _, hxl, hx⟩ := DataW.trod_struct Tryz.underlying54 hf
 have k0 : Tryz.prog.cellsOf 3 = 1 := by kernel_rfl
 have k1 : Tryz.prog.cellsOf 45 = 1 := by kernel_rfl
 have h0 : DataW.trod enc Tryz.prog W base' spare held n 45 (List.take (Tryz.prog.cellsOf 45) (List.drop 0 [c0, c1, c2, c3])) = xs[0]? := hx 0 _ rfl
 have h1 : DataW.trod enc Tryz.prog W base' spare held n 3 (List.take (Tryz.prog.cellsOf 3) (List.drop 1 [c0, c1, c2, c3])) = xs[1]? := hx 1 _ rfl
 have h2 : DataW.trod enc Tryz.prog W base' spare held n 3 (List.take (Tryz.prog.cellsOf 3) (List.drop 2 [c0, c1, c2, c3])) = xs[2]? := hx 2 _ rfl
 have h3 : DataW.trod enc Tryz.prog W base' spare held n 3 (List.take (Tryz.prog.cellsOf 3) (List.drop 3 [c0, c1, c2, c3])) = xs[3]? := hx 3 _ rfl
 have hsz : xs.length = 4 := hxl
 rw [List.getElem?_eq_getElem (by omega)] at h0 h1 h2 h3
 simp only [k0, k1, List.drop_zero, List.drop_succ_cons, List.take_succ_cons, List.take_zero] at h0 h1 h2 h3
 obtain ⟨n0, e0, _, w0⟩ := DataW.trod_int Tryz.underlying45 h0
 simp only [List.cons.injEq, and_true] at e0
 obtain ⟨n1, e1, _, w1⟩ := DataW.trod_int Tryz.underlying3 h1
 simp only [List.cons.injEq, and_true] at e1
 obtain ⟨n2, e2, _, w2⟩ := DataW.trod_int Tryz.underlying3 h2
 simp only [List.cons.injEq, and_true] at e2
 obtain ⟨n3, e3, _, w3⟩ := DataW.trod_int Tryz.underlying3 h3
 simp only [List.cons.injEq, and_true] at e3
 exact ⟨n0, n1, n2, n3, e0, e1, e2, e3⟩
theorem open_great {v : Value} {d : DataW H} {p : List MemPlace}
  (hv : Value.okWide Tryz.prog W .any base 54 v) (h : DataW.Trod enc Tryz.prog W base' spare held 54 v d p) :
  ∃ a b c e : Int, v = .agg #[.int .i64 a, .int .i64 b, .int .i64 c, .int .i64 e] := by
 have hct : Tryz.prog.cellsOf 54 = 4 := by kernel_rfl
 simp only [Value.okWide, Tryz.underlying54] at hv
 obtain ⟨cs, rfl, hsz, _⟩ := hv
 rw [hct] at hsz
 obtain ⟨fuel, hf⟩ := h
 obtain ⟨l⟩ := cs
 match l, hsz with
 | [c0, c1, c2, c3], _ =>
  obtain ⟨n0, n1, n2, n3, rfl, rfl, rfl, rfl⟩ := grt_of_cells hf
  exact ⟨n0, n1, n2, n3, rfl⟩
theorem open_spots {v : Value} {d : DataW H} {p : List MemPlace}
  (hv : Value.okWide Tryz.prog W .any base 60 v) (h : DataW.Trod enc Tryz.prog W base' spare held 60 v d p) :
  ∃ a b c a' b' c' : Int, v = .agg #[.int .i64 a, .int .i64 b, .int .i64 c, .int .i64 a', .int .i64 b', .int .i64 c'] := by
 have hct : Tryz.prog.cellsOf 60 = 6 := by kernel_rfl
 have hce : Tryz.prog.cellsOf 23 = 3 := by kernel_rfl
 simp only [Value.okWide, Tryz.underlying60] at hv
 obtain ⟨cs, rfl, hsz, _⟩ := hv
 rw [hct] at hsz
 obtain ⟨fuel, hf⟩ := h
 obtain ⟨xs, m, _, _, _, hl, hxs⟩ := DataW.trod_array Tryz.underlying60 hf
 obtain ⟨l⟩ := cs
 match l, hsz with
 | [c0, c1, c2, c3, c4, c5], _ =>
  have h0 := hxs 0 (by decide)
  have h1 := hxs 1 (by decide)
  rw [hce, List.getElem?_eq_getElem (by omega)] at h0 h1
  obtain ⟨a, b, c, rfl, rfl, rfl⟩ := spot_of_cells (by simpa [Value.cells] using h0)
  obtain ⟨a', b', c', rfl, rfl, rfl⟩ := spot_of_cells (by simpa [Value.cells] using h1)
  exact ⟨a, b, c, a', b', c', rfl⟩
theorem open_recs {v : Value} {d : DataW H} {p : List MemPlace}
  (hv : Value.okWide Tryz.prog W .any base 61 v) (h : DataW.Trod enc Tryz.prog W base' spare held 61 v d p) :
  ∃ a b c a' b' c' : Int, v = .agg #[.int .i64 a, .int .i64 b, .int .u32 c, .int .i64 a', .int .i64 b', .int .u32 c'] ∧ (0 ≤ c ∧ c < 4294967296) ∧ 0 ≤ c' ∧ c' < 4294967296 := by
 have hct : Tryz.prog.cellsOf 61 = 6 := by kernel_rfl
 have hce : Tryz.prog.cellsOf 47 = 3 := by kernel_rfl
 simp only [Value.okWide, Tryz.underlying61] at hv
 obtain ⟨cs, rfl, hsz, _⟩ := hv
 rw [hct] at hsz
 obtain ⟨fuel, hf⟩ := h
 obtain ⟨xs, m, _, _, _, hl, hxs⟩ := DataW.trod_array Tryz.underlying61 hf
 obtain ⟨l⟩ := cs
 match l, hsz with
 | [c0, c1, c2, c3, c4, c5], _ =>
  have h0 := hxs 0 (by decide)
  have h1 := hxs 1 (by decide)
  rw [hce, List.getElem?_eq_getElem (by omega)] at h0 h1
  obtain ⟨a, b, c, rfl, rfl, rfl, p0, p1⟩ := rec_of_cells (by simpa [Value.cells] using h0)
  obtain ⟨a', b', c', rfl, rfl, rfl, q0, q1⟩ := rec_of_cells (by simpa [Value.cells] using h1)
  exact ⟨a, b, c, a', b', c', rfl, ⟨p0, p1⟩, q0, q1⟩
end
theorem walk (H : Type) (enc : TypeId × Value → H) (W : World) (base : Nat) (args : Array Value) (ds : List (DataW H)) (p : List MemPlace)
  (hval : ∀ (j : Nat) t v, Tryz.f6.params[j]? = some t → args[j]? = some v → Value.okWide Tryz.prog W .any base t v)
  (hA : DataW.TrodAll enc Tryz.prog W 0 (fun _ => true) true Tryz.f6.params.toList args.toList ds p) (hlt : ∀ x ∈ p, x.block < W.heap.size) :
  Calls Tryz.prog 6 args W (fun e W' => e = .returned (.bool true) ∧ Below W.heap.size W W') ∧ ∃ d0 d1 d2, ds = [d0, d1, d2] := by
 rw [Tryz.params6] at hA hval
 obtain ⟨v0, vs0, d0, ds0, p0, q0, hargs, rfl, rfl, h0, r0⟩ := trodAll_cons hA
 obtain ⟨v1, vs1, d1, ds1, p1, q1, rfl, rfl, rfl, h1, r1⟩ := trodAll_cons r0
 obtain ⟨v2, vs2, d2, ds2, p2, q2, rfl, rfl, rfl, h2, r2⟩ := trodAll_cons r1
 obtain ⟨rfl, rfl, rfl⟩ := trodAll_nil r2
 obtain rfl : args = #[v0, v1, v2] := by cases args; simp_all
 obtain ⟨sa, ca, ia, sb, cb, ib, rfl⟩ := open_spots (hval 0 60 v0 rfl rfl) h0
 obtain ⟨x0, z0, n0, x1, z1, n1, rfl, b0, b1⟩ := open_recs (hval 1 61 v1 rfl rfl) h1
 obtain ⟨gs, gp, gz, gf, rfl⟩ := open_great (hval 2 54 v2 rfl rfl) h2
 exact ⟨holds_bodyM sa ca ia sb cb ib x0 z0 n0 x1 z1 n1 gs gp gz gf b0 b1 W, _, _, _, rfl⟩

theorem own : ownKnob Tryz.prog.godebug = none := by kernel_rfl
set_option maxRecDepth 100000 in
theorem lifted (os : Os) (started : os.Started) (H : Type) (enc : TypeId × Value → H) :
  ReturnsInHanded {} Tryz.checked os 6 .any (Rows.metaHoldsSpec.pre6 enc Tryz.prog Tryz.f6 Rows.metaHoldsRow.domain false) (Rows.metaHoldsSpec.post enc Tryz.prog Tryz.f6 false true false false) := by
 refine returnsInHanded_of_change (C := Tryz.checked) own started (by kernel_rfl) Tryz.func6
  (ChangeSpec.witness6 (enc := enc) (C := Tryz.checked) false ⟨#[], #[.agg #[.int .i64 0, .int .i64 0, .int .i64 0, .int .i64 0, .int .i64 0, .int .i64 0], .agg #[.int .i64 0, .int .i64 0, .int .u32 0, .int .i64 0, .int .i64 0, .int .u32 0], .agg #[.int .i64 0, .int .i64 0, .int .i64 0, .int .i64 0]], []⟩ 8 (by kernel_rfl) (by kernel_rfl) (by kernel_rfl) (by kernel_rfl)) ?_
 intro W base args ds gs before hval hW hcnd _
 have hW' := hW
 obtain ⟨p, q, hA, hV, rfl, hfz, hnd⟩ := hW
 obtain ⟨rfl, rfl⟩ := trodVars_none hV
 have hlt : ∀ x ∈ p, x.block < W.heap.size := fun x hx => hW'.lt x (List.mem_append_left _ hx)
 obtain ⟨hc, d0, d1, d2, rfl⟩ := walk H enc W base args ds p hval hA hlt
 refine hc.mono fun e W' ⟨he, hb⟩ => ?_
 subst he
 exact ⟨_, rfl, law_post (by kernel_rfl) (by kernel_rfl) rfl (by kernel_rfl) rfl rfl rfl rfl hW' hA hlt hb⟩

theorem over : Rows.metaHoldsRow.holds Tryz.pinned (OpenSpec.ofChange Rows.metaHoldsSpec) :=
 OpenClaim.holds_of_wide 6 Tryz.f6 rfl rfl rfl rfl rfl rfl rfl ⟨rfl, rfl, rfl, rfl, rfl⟩ rfl rfl rfl rfl rfl (by kernel_rfl) Tryz.func6 (by kernel_rfl)
  (of_decide_eq_true (by kernel_rfl)) (by unfold Func.isWrapper; first | (rw [if_pos (by decide +kernel)]; kernel_rfl) | (rw [if_neg (by decide +kernel)]; exact ⟨rfl, rfl⟩))
  (fun os started H enc _ => lifted os started H enc)

theorem proved : Rows.MetaHoldsSaid :=
 over

end Go.Proofs.YtlpchcdalfkfcaaGreat.metaHolds

