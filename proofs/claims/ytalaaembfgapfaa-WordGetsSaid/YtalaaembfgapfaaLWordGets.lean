/-
  'WordGets' returns true for every input, and leaves what it is given as it was. No condition.
-/
import Derived.Test.YtalaaembfgapfaaFrame
import Derived.Test.YtalaaembfgapfaaWordG
import Derived.SizedLaws
namespace Go.Proofs.Ytalaaembfgapfaa.wordGets
open Go.ChangeShapes Go.WideShapes Go.ChangeAt Go.RowKit Go.Proofs.Ytalaaembfgapfaa
set_option linter.unusedVariables false
set_option maxHeartbeats 400000

theorem row_sized {H : Type} {enc : TypeId × Value → H} {P : Program} {W : World} {base' : Nat} {spare : Nat → Bool} {held : Bool} {t e : TypeId} {k : IntKind} {a : Option Addr} {n cap : Nat} {d : DataW H} {p : List MemPlace} (ht : P.underlying t = some (.slice e)) (he : P.underlying e = some (.int k)) (hc : P.cellsOf e = 1) (hby : P.bytesOf e = 1)
    (h : DataW.Trod enc P W base' spare held t (.slice a n cap) d p) (hz : (DataW.weightsEach P [t] [d]).all (· ≤ reachBytes) = true) : n ≤ reachBytes := by
  obtain ⟨fuel, hf⟩ := h
  rcases open_ints ht he hc hf with ⟨hcs, hx⟩ | ⟨a', len, cap', zs, hcs, _, hl, hm, hlz, hx, _, _⟩
  · simp [Value.cells] at hcs; omega
  · simp only [Value.cells, List.cons.injEq, Value.slice.injEq, and_true] at hcs
    obtain ⟨_, rfl, _⟩ := hcs
    simp only [Prod.mk.injEq] at hx
    obtain ⟨rfl, _⟩ := hx
    have h1 := sized_slice hz (j := 0) rfl rfl ht
    have hlen : n ≤ zs.length := by rw [hlz]; split <;> omega
    rw [hby] at h1
    simp [lits] at h1
    omega
theorem arg (v : Value) (l : List Int) (w : World) (hl : l.length < 140737488355328) (h : isW l.length = false) (hv : RowAt w.heap.size w v l.length (intVals .u8 l)) :
    Calls Try.prog 4 #[v] w fun e w' => e = .returned (.bool true) ∧ Below w.heap.size w w' := by
  obtain ⟨ad, cap, rfl, _, _⟩ := id hv
  go_enter Try.func4, Try.ntmps4
  go_wp2_with fail
  refine (lentAt _ l _ _ (Nat.le_refl _) hl hv).mono ?_; rintro e w1 ⟨g, cp, rfl, hL1, _, h1⟩
  have z1 := h1.size
  have hv1 := hv.below h1 (Nat.le_refl _)
  go_wp2_with fail
  refine (Get_arg _ l _ _ h hL1.row).mono ?_; rintro e w2 ⟨rfl, h2⟩
  have z2 := h2.size
  have hL2 := hL1.below h2 (Nat.le_refl _)
  have hv2 := hv1.below h2 z1
  go_wp2_with fail
  refine (rGet_arg _ l _ _ h hv2).mono ?_; rintro e w' ⟨rfl, rfl⟩
  go_wp2_with fail
  refine (num_calls _ _).mono ?_; rintro e w' ⟨rfl, rfl⟩
  go_wp2_with fail
  refine (keptAt hL2 hv2).mono ?_; rintro e w' ⟨rfl, rfl⟩
  go_wp2_with fail
  refine (works_ok _).mono ?_; rintro e w6 ⟨rfl, h6⟩
  go_wp2_with fail
  go_ret
  exact ⟨rfl, (h1.trans (h2.mono (by omega))).trans (h6.mono (by omega))⟩
theorem fit (v : Value) (l : List Int) (hw : ∀ x ∈ l, 0 ≤ x ∧ x < 256) (w : World) (h : isW l.length = true) (hv : RowAt w.heap.size w v l.length (intVals .u8 l)) :
    Calls Try.prog 4 #[v] w fun e w' => e = .returned (.bool true) ∧ Below w.heap.size w w' := by
  obtain ⟨ad, cap, rfl, _, _⟩ := id hv
  have hk := isW_cases h
  have hbd := valI_bd l hw
  have h64 : valI l < 18446744073709551616 := by
    have hm : l.length ≤ 8 := by omega
    have h30 : (256 : Nat) ^ l.length ≤ 18446744073709551616 := Nat.le_trans (Nat.pow_le_pow_right (by decide) hm) (by decide)
    have h31 : (256 : Int) ^ l.length = ((256 ^ l.length : Nat) : Int) := by rw [Int.natCast_pow]; rfl
    omega
  have hf : fitsI l.length (valI l) = true := by simp [fitsI]; exact hbd.2
  have hbv := Lib.hid (bytes_valI l hw)
  have hb0 := hbd.1
  clear hbd
  have hm : l.length ≤ maxLen := by unfold maxLen; omega
  go_enter Try.func4, Try.ntmps4
  go_wp2_with fail
  refine (lentAt _ l _ _ (Nat.le_refl _) (by omega) hv).mono ?_; rintro e w1 ⟨g, cp, rfl, hL1, _, h1⟩
  have z1 := h1.size
  have hv1 := hv.below h1 (Nat.le_refl _)
  go_wp2_with fail
  refine (Get_ok _ l hw _ _ (Nat.le_refl _) h hL1.row).mono ?_; rintro e w2 ⟨rfl, h2⟩
  have z2 := h2.size
  have hL2 := hL1.below h2 (Nat.le_refl _)
  have hv2 := hv1.below h2 z1
  go_wp2_with fail
  refine (rGet_ok _ l hw _ _ (by omega) h hv2).mono ?_; rintro e w3 ⟨rfl, h3⟩
  have z3 := h3.size
  have hL3 := hL2.below h3 (by omega)
  have hv3 := hv2.below h3 (by omega)
  go_wp2_with fail
  refine (num_calls _ _).mono ?_; rintro e w' ⟨rfl, rfl⟩
  go_wp2_with fail
  refine (keptAt hL3 hv3).mono ?_; rintro e w' ⟨rfl, rfl⟩
  go_wp2_with fail
  refine (Put_ok (valI l) l.length hb0 h64 h hf _).mono ?_; rintro e w4 ⟨v4, rfl, ho4, h4⟩
  have z4 := h4.size
  have hr4 : RowAt w4.heap.size w4 v4 l.length (intVals .u8 l) := by have := RowAt.of_owns ho4 (Nat.le_refl _); rwa [hbv.out] at this
  have hv4 := hv3.below h4 (by omega)
  have g1 := run_convert_row (P := Try.prog) l hr4 Try.underlying23 Try.underlying5 Try.underlying9
  have g2 := run_convert_row (P := Try.prog) l hv4 Try.underlying23 Try.underlying5 Try.underlying9
  go_wp2_with fail
  refine (num_calls _ _).mono ?_; rintro e w' ⟨rfl, rfl⟩
  go_wp2_with fail
  refine (works_ok _).mono ?_; rintro e w5 ⟨rfl, h5⟩
  go_wp2_with fail
  go_ret
  exact ⟨rfl, (((h1.trans (h2.mono (by omega))).trans (h3.mono (by omega))).trans (h4.mono (by omega))).trans (h5.mono (by omega))⟩

theorem walk (H : Type) (enc : TypeId × Value → H) (W : World) (base : Nat) (args : Array Value) (ds : List (DataW H)) (p : List MemPlace)
    (hval : ∀ (j : Nat) t v, Try.f4.params[j]? = some t → args[j]? = some v → Value.okWide Try.prog W .any base t v)
    (hA : DataW.TrodAll enc Try.prog W 0 (fun _ => true) true Try.f4.params.toList args.toList ds p) (hlt : ∀ x ∈ p, x.block < W.heap.size)
    (hz : (DataW.weightsEach Try.prog Try.f4.params.toList ds).all (· ≤ reachBytes) = true) :
    Calls Try.prog 4 args W (fun e W' => e = .returned (.bool true) ∧ Below W.heap.size W W') ∧ ∃ d0, ds = [d0] := by
  rw [Try.params4] at hA hval hz
  obtain ⟨v0, vs0, d0, ds0, p0, q0, hargs, rfl, rfl, h0, r0⟩ := trodAll_cons hA
  obtain ⟨rfl, rfl, rfl⟩ := trodAll_nil r0
  obtain rfl : args = #[v0] := by cases args; simp_all
  obtain ⟨l, hrow, hw, _⟩ := open_row Try.underlying23 Try.underlying5 (by kernel_rfl) (hval 0 23 v0 rfl rfl) h0
  refine ⟨?_, _, rfl⟩
  obtain ⟨ad, cap, hv0, _, _⟩ := id hrow
  have hlen : l.length ≤ reachBytes := by
    rw [hv0] at h0
    exact row_sized Try.underlying23 Try.underlying5 (by kernel_rfl) (by kernel_rfl) h0 hz
  have hlt : l.length < 140737488355328 := Nat.lt_of_le_of_lt hlen (by decide)
  by_cases h : isW l.length = true
  · exact fit v0 l (fun x hx => u8_bd (hw x hx)) W h hrow
  · exact arg v0 l W hlt (by simpa using h) hrow

theorem own : ownKnob Try.prog.godebug = none := by kernel_rfl
set_option maxRecDepth 100000 in
theorem lifted (os : Os) (started : os.Started) (H : Type) (enc : TypeId × Value → H) :
    ReturnsInHanded {} Try.checked os 4 .any (Rows.wordGetsSpec.pre6 enc Try.prog Try.f4 Rows.wordGetsRow.domain false) (Rows.wordGetsSpec.post enc Try.prog Try.f4 false true false false) := by
  refine returnsInHanded_of_change_sized (C := Try.checked) own started (by kernel_rfl) Try.func4
    (ChangeSpec.witness6 (enc := enc) (C := Try.checked) false ⟨#[], #[.slice none 0 0], []⟩ 8 (by kernel_rfl) (by kernel_rfl) (by kernel_rfl) (by kernel_rfl)) ?_
  intro W base args ds gs before hval hW hcnd hzs _
  have hW' := hW
  obtain ⟨p, q, hA, hV, rfl, hfz, hnd⟩ := hW
  obtain ⟨rfl, rfl⟩ := trodVars_none hV
  have hlt : ∀ x ∈ p, x.block < W.heap.size := fun x hx => hW'.lt x (List.mem_append_left _ hx)
  obtain ⟨hc, d0, rfl⟩ := walk H enc W base args ds p hval hA hlt (by have h := hzs; rw [show Rows.wordGetsSpec.plain.varTypes Try.checked.prog = [] from rfl, List.append_nil, List.append_nil] at h; exact h)
  refine hc.mono fun e W' ⟨he, hb⟩ => ?_
  subst he
  exact ⟨_, rfl, law_post (by kernel_rfl) (by kernel_rfl) rfl (by kernel_rfl) rfl rfl rfl rfl hW' hA hlt hb⟩

theorem over : Rows.wordGetsRow.holds Try.pinned (OpenSpec.ofChange Rows.wordGetsSpec) :=
  OpenClaim.holds_of_wide 4 Try.f4 rfl rfl rfl rfl rfl rfl rfl ⟨rfl, rfl, rfl, rfl, rfl⟩ rfl rfl rfl rfl rfl (by kernel_rfl) Try.func4 (by kernel_rfl)
    (of_decide_eq_true (by kernel_rfl)) (by unfold Func.isWrapper; first | (rw [if_pos (by decide +kernel)]; kernel_rfl) | (rw [if_neg (by decide +kernel)]; exact ⟨rfl, rfl⟩))
    (fun os started H enc _ => lifted os started H enc)

theorem proved : Rows.WordGetsSaid :=
  over

end Go.Proofs.Ytalaaembfgapfaa.wordGets
