/-
  Rows of ints: Contains, Clone; the shelf's question; On. No condition.
-/
import Derived.Test.YtkilmppmghkigaaCaB
namespace Go.Proofs.Ytkilmppmghkigaa
open Go.RowKit
attribute [local go_sem] Oper.semAt_some
set_option maxHeartbeats 4000000
set_option maxRecDepth 4000

theorem info64 : ElemInfo Try.prog 3 (.int .i64 0) 1 8 := elemInfo_of (by kernel_rfl) rfl (by decide)
theorem run_eql_slice_nil {P : Program} {t e : TypeId} (ht : P.underlying t = some (.slice e)) (a : Option Addr) (n c : Nat) (w : World) : (binOp .eql t (.slice a n c) (.slice none 0 0)).run P w = .ok (.bool a.isNone) w := by
  have h1 : ∀ d : Nat, (Op.equalIn (d + 1) t (.slice a n c) (.slice none 0 0)).run P w = .ok a.isNone w := fun d => by cases a <;> simp [Op.equalIn, run_underlying ht]
  simp only [binOp]
  simp [Op.equal, Op.maxDepth, h1 9999]
theorem clone_ok (v : Value) (l : List Int) (B : Nat) (w : World) (hB : B ≤ w.heap.size) (hl : l.length < 1000000) (hv : RowAt B w v l.length (intVals .i64 l)) :
    Calls Try.prog 32 #[v] w fun e w' => ∃ v', e = .returned v' ∧ w'.ownsRow w.heap.size 3 1 v' l.length (intVals .i64 l) ∧ Below w.heap.size w w' := by
  obtain ⟨ad, cap, rfl, hcap, hrow⟩ := id hv
  have HIL := Lib.hid (intVals_len .i64 l)
  cases ad with
  | none =>
    obtain ⟨e0, rfl⟩ := hcap.2 rfl
    obtain rfl : l = [] := List.eq_nil_of_length_eq_zero e0
    have he := run_eql_slice_nil (P := Try.prog) Try.underlying35 none 0 0 w
    go_enter Try.func32, Try.ntmps32
    go_wp2_with fail
    go_ret
    exact ⟨_, rfl, ⟨rfl, .inl ⟨rfl, rfl⟩⟩, Below.refl _ _⟩
  | some ad =>
    have he := run_eql_slice_nil (P := Try.prog) Try.underlying35 (some ad) l.length cap w
    go_enter Try.func32, Try.ntmps32
    go_wp2_with (at_builtin; refine wpList_append_row rfl _ _ 35 rfl w.heap.size Try.underlying35 info64 0 [] rfl ?c1 B l.length (intVals .i64 l) rfl ?c2 ?c3 ?c4 ?c5 ?c6 ?c7 ?_)
    case c1 => exact World.ownsRow_made w #[] 0 (Nat.le_refl _) (by decide) rfl
    case c2 => exact hv.below ((Below.refl _ w).alloc (Nat.le_refl _) _) hB
    case c3 => rw [HIL.out]; omega
    case c4 => exact intVals_one _ _
    case c5 => unfold maxLen; omega
    case c6 => omega
    case c7 => simp
    intro v1 w1 ho1 hg1
    have hb1 : Below w.heap.size w w1 := ((Below.refl _ w).alloc (Nat.le_refl _) _).grown hg1 (by simp) (fun k e => by cases e; exact Nat.le_refl _)
    clear hg1
    go_wp2_with fail
    go_ret
    exact ⟨_, rfl, by simpa using ho1, hb1⟩
/-- An element of a row of ints. -/
theorem RowAt.geti {B : Nat} {w : World} {ad : Option Addr} {cap : Nat} {l : List Int} (h : RowAt B w (.slice ad l.length cap) l.length (intVals .i64 l)) (k : Nat) (hk : k < l.length) : ∃ b off, ad = some ⟨b, off, none⟩ ∧ b < B ∧ w.cell? ⟨b, off + k, none⟩ = some (.int .i64 l[k]) := by
  obtain ⟨a, c, e, _, hx⟩ := h
  simp only [Value.slice.injEq] at e
  obtain ⟨rfl, _⟩ := e
  rcases hx with hx | ⟨b, off, rfl, hb, hx⟩
  · have : (intVals .i64 l).length = 0 := by rw [hx]; rfl
    rw [intVals_len] at this; omega
  · exact ⟨b, off, rfl, hb, by rw [hx k (by rw [intVals_len]; exact hk), intVals_get _ _ _ hk]⟩
theorem index_ok (v : Value) (l : List Int) (x : Int) (B : Nat) (w : World) (hl : l.length < 1000000) (hv : RowAt B w v l.length (intVals .i64 l)) :
    Calls Try.prog 60 #[v, .int .i64 x] w fun e w' => ∃ i : Int, e = .returned (.int .i64 i) ∧ (0 ≤ i ↔ x ∈ l) ∧ w = w' := by
  have HV := Lib.hid hv
  obtain ⟨ad, cap, rfl, _, _⟩ := hv
  go_enter Try.func60, Try.ntmps60
  go_wp2_with fail
  go_loopw [8] (fun i wr => ∃ k : Nat, k ≤ l.length ∧ i = .int .i64 k ∧ (∀ j (hj : j < l.length), j < k → l[j] ≠ x) ∧ w = wr) (fun i _ => l.length - (intOf i).toNat)
  case atStart => exact ⟨0, by omega, rfl, fun j _ hj => by omega, rfl⟩
  case round =>
    obtain ⟨k, hk, rfl, hn, rfl⟩ := hrel
    have HN := Lib.hid hn
    clear hn
    by_cases hlt : k < l.length
    · obtain ⟨b, off, rfl, _, hc⟩ := HV.out.geti k hlt
      have i0 : (0 : Int) ≤ k := by omega
      have i1 : (k : Int) < l.length := by omega
      by_cases he : x = l[k]
      · have hb : (x == l[k]) = true := by simpa using he
        have hmem : x ∈ l := by rw [he]; exact List.getElem_mem hlt
        have HM := Lib.hid hmem
        clear he hmem
        go_wp2_with fail
        go_ret
        exact ⟨k, rfl, ⟨fun _ => HM.out, fun _ => by omega⟩, rfl⟩
      · have hb : (x == l[k]) = false := by simpa using he
        have HE := Lib.hid he
        clear he
        go_wp2_with fail
        refine ⟨⟨k + 1, by omega, by go_num, fun j hj hjk => ?_, trivial⟩, by simp [intOf]; omega⟩
        by_cases e : j = k
        · subst e; exact fun h => HE.out h.symm
        · exact HN.out j hj (by omega)
    · obtain rfl : k = l.length := by omega
      go_wp2_with fail
      go_ret
      refine ⟨-1, rfl, ⟨fun h => by omega, fun h => ?_⟩, rfl⟩
      obtain ⟨j, hj, e⟩ := List.getElem_of_mem h
      exact absurd e (HN.out j hj hj)
theorem contains_ok (v : Value) (l : List Int) (x : Int) (B : Nat) (w : World) (hl : l.length < 1000000) (hv : RowAt B w v l.length (intVals .i64 l)) :
    Calls Try.prog 52 #[v, .int .i64 x] w fun e w' => e = .returned (.bool (decide (x ∈ l))) ∧ w = w' := by
  go_enter Try.func52, Try.ntmps52
  go_wp2_with fail
  refine (index_ok v l x B w hl hv).mono ?_; rintro e w1 ⟨i, rfl, hi, rfl⟩
  have hd : decide (x ∈ l) = decide (0 ≤ i) := by simp [hi]
  have HD := Lib.hid hd
  clear hd hi
  go_wp2_with fail
  go_ret
  exact ⟨by rw [HD.out]; rfl, rfl⟩
end Go.Proofs.Ytkilmppmghkigaa
