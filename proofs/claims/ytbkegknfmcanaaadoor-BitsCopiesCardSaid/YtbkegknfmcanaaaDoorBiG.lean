/-
  Package bits: Copy, Same. Conditions: at most 4096 places.
-/
import Derived.Test.YtbkegknfmcanaaaDoorBiF
namespace Go.Proofs.YtbkegknfmcanaaaDoor
open Go.RowKit
attribute [local go_sem] Oper.semAt_some
set_option maxHeartbeats 2000000
set_option maxRecDepth 8000

theorem run_eql_slice_nil {P : Program} {t e : TypeId} (ht : P.underlying t = some (.slice e)) (a : Option Addr) (n c : Nat) (w : World) : (binOp .eql t (.slice a n c) (.slice none 0 0)).run P w = .ok (.bool a.isNone) w := by
  have h1 : ∀ d : Nat, (Op.equalIn (d + 1) t (.slice a n c) (.slice none 0 0)).run P w = .ok a.isNone w := fun d => by cases a <;> simp [Op.equalIn, run_underlying ht]
  simp only [binOp]
  simp [Op.equal, Op.maxDepth, h1 9999]
theorem clone_ok (v : Value) (l : List Int) (n : Nat) (B : Nat) (w : World) (hB : B ≤ w.heap.size) (hn : l.length = n) (hl : n < 1000000) (hv : RowAt B w v n (intVals .u64 l)) :
    Calls Tryd.prog 44 #[v] w fun e w' => ∃ v', e = .returned v' ∧ w'.ownsRow w.heap.size 70 1 v' n (intVals .u64 l) ∧ Below w.heap.size w w' := by
  obtain ⟨ad, cap, rfl, hcap, hrow⟩ := id hv
  have HIL := Lib.hid (intVals_len .u64 l)
  have HN := Lib.hid hn
  cases ad with
  | none =>
    obtain ⟨e0, rfl⟩ := hcap.2 rfl
    subst e0
    obtain rfl : l = [] := List.eq_nil_of_length_eq_zero hn
    have he := run_eql_slice_nil (P := Tryd.prog) Tryd.underlying48 none 0 0 w
    clear hn
    go_enter Tryd.func44, Tryd.ntmps44
    go_wp2_with fail
    go_ret
    exact ⟨_, rfl, ⟨rfl, .inl ⟨rfl, rfl⟩⟩, Below.refl _ _⟩
  | some ad =>
    have he := run_eql_slice_nil (P := Tryd.prog) Tryd.underlying48 (some ad) n cap w
    clear hn
    go_enter Tryd.func44, Tryd.ntmps44
    go_wp2_with (at_builtin; refine wpList_append_row rfl _ _ 48 rfl w.heap.size Tryd.underlying48 infoU64 0 [] rfl ?c1 B n (intVals .u64 l) rfl ?c2 ?c3 ?c4 ?c5 ?c6 ?c7 ?_)
    case c1 => exact World.ownsRow_made w #[] 0 (Nat.le_refl _) (by decide) rfl
    case c2 => exact hv.below ((Below.refl _ w).alloc (Nat.le_refl _) _) hB
    case c3 => rw [HIL.out, HN.out]; omega
    case c4 => exact intVals_one _ _
    case c5 => unfold maxLen; omega
    case c6 => omega
    case c7 => simp
    intro v1 w1 ho1 hg1
    have hb1 : Below w.heap.size w w1 := ((Below.refl _ w).alloc (Nat.le_refl _) _).grown hg1 (by simp) (fun k e => by cases e; exact Nat.le_refl _)
    clear hg1
    go_wp2_with fail
    go_ret
    exact ⟨_, rfl, by simpa using ho1, hb1⟩
theorem equal_calls (v1 v2 : Value) (l1 l2 : List Int) (n : Nat) (B1 B2 : Nat) (w : World) (hn1 : l1.length = n) (hn2 : l2.length = n) (hn : n < 1000000) (hv1 : RowAt B1 w v1 n (intVals .u64 l1)) (hv2 : RowAt B2 w v2 n (intVals .u64 l2)) (hB1 : B1 ≤ w.heap.size) (hB2 : B2 ≤ w.heap.size) :
    Calls Tryd.prog 42 #[v1, v2] w fun e w' => e = .returned (.bool (decide (l1 = l2))) ∧ Below w.heap.size w w' := by
  obtain ⟨d, hd⟩ : ∃ d, decide (l1 = l2) = d := ⟨_, rfl⟩
  rw [hd]
  have HD := Lib.hid hd
  have H1 := Lib.hid hv1
  have H2 := Lib.hid hv2
  have N1 := Lib.hid hn1
  have N2 := Lib.hid hn2
  obtain ⟨a1, c1, rfl, _⟩ := hv1.len
  obtain ⟨a2, c2, rfl, _⟩ := hv2.len
  clear hd hv1 hv2 hn1 hn2
  go_enter Tryd.func42, Tryd.ntmps42
  go_wp2_with fail
  go_loopw [13] (fun i wr => ∃ k : Nat, k ≤ n ∧ i = .int .i64 k ∧ (∀ j, j < k → l1.getD j 0 = l2.getD j 0) ∧ Below w.heap.size w wr) (fun i _ => n - (intOf i).toNat)
  case atStart => exact ⟨0, by omega, rfl, fun j hj => by omega, Below.refl _ _⟩
  case round =>
    obtain ⟨k, hk, rfl, hn', hb⟩ := hrel
    have HN := Lib.hid hn'
    clear hn'
    by_cases hlt : k < n
    · obtain ⟨b1, o1, rfl, _, q1⟩ := (H1.out.below hb hB1).getu N1.out k hlt
      obtain ⟨b2, o2, rfl, _, q2⟩ := (H2.out.below hb hB2).getu N2.out k hlt
      have i0 : (0 : Int) ≤ k := by omega
      have i1 : (k : Int) < n := by omega
      obtain ⟨y1, hy1⟩ : ∃ y, l1.getD k 0 = y := ⟨_, rfl⟩
      obtain ⟨y2, hy2⟩ : ∃ y, l2.getD k 0 = y := ⟨_, rfl⟩
      rw [hy1] at q1
      rw [hy2] at q2
      have HY1 := Lib.hid hy1
      have HY2 := Lib.hid hy2
      clear hy1 hy2
      by_cases hx : y1 = y2
      · have hx' : (y1 != y2) = false := by simpa using hx
        have HX := Lib.hid hx
        clear hx
        go_wp2_with fail
        go_quiet (fail)
        go_wp2_with fail
        refine ⟨⟨k + 1, by omega, by go_num, fun j hj => ?_, hb.drewN _⟩, by simp [intOf]; omega⟩
        by_cases e : j = k
        · subst e; rw [HY1.out, HY2.out]; exact HX.out
        · exact HN.out j (by omega)
      · have hx' : (y1 != y2) = true := by simpa using hx
        have hdf : d = false := by
          rw [← HD.out, decide_eq_false_iff_not]
          intro e
          exact hx (by rw [← HY1.out, ← HY2.out, e])
        subst hdf
        clear hx
        go_wp2_with fail
        go_quiet (fail)
        go_wp2_with fail
        go_ret
        exact ⟨rfl, hb.drewN _⟩
    · obtain rfl : k = n := by omega
      have hdt : d = true := by
        rw [← HD.out, decide_eq_true_eq]
        refine List.ext_getElem (N1.out.trans N2.out.symm) fun j h1 h2 => ?_
        have := HN.out j (by have := N1.out; omega)
        rwa [List.getD_eq_getElem?_getD, List.getD_eq_getElem?_getD, List.getElem?_eq_getElem h1, List.getElem?_eq_getElem h2] at this
      subst hdt
      go_wp2_with fail
      go_ret
      exact ⟨rfl, hb⟩
end Go.Proofs.YtbkegknfmcanaaaDoor
