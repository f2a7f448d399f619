/-
  Package pinfoldlaw14: is. Conditions: a sheet of states, its list beside it.
-/
import Derived.Test.YtdhbhjkfcpglbaaDoorStO
namespace Go.Proofs.YtdhbhjkfcpglbaaDoor
open Go.RowKit
attribute [local go_sem] Oper.semAt_some
set_option maxHeartbeats 1000000
set_option maxRecDepth 8000

theorem is_ok {B : Nat} {w0 w : World} {lo hi s : Nat} {L : List Int} {v : Value} (h : Run B w0 w lo hi s L) (hv : RowAt w.heap.size w v L.length (intVals .i64 L)) :
    Calls Tryd.prog 26 #[.pointer (some ⟨s, 0, none⟩), v] w fun e w' => e = .returned (.bool true) ∧ Below w.heap.size w w' := by
  have H := Lib.hid h
  have HV := Lib.hid hv
  have hfew := h.few
  obtain ⟨va, vc, rfl, _⟩ := hv.len
  clear h hv
  have l0 : (0 : Int) ≤ L.length := by omega
  have l1 : (L.length : Int) ≤ 256 := by omega
  go_enter Tryd.func26, Tryd.ntmps26
  go_wp2_with fail
  go_loopw [5] (fun i wr => ∃ j : Int, -1 ≤ j ∧ j ≤ L.length + 1 ∧ i = .int .i64 j ∧ w = wr) (fun i _ => (L.length + 1 - intOf i).toNat)
  case atStart => exact ⟨-1, by omega, by omega, rfl, rfl⟩
  case round =>
    obtain ⟨j, j0, j1, rfl, rfl⟩ := hrel
    by_cases h1 : j = L.length + 1
    · subst h1
      go_wp2_with fail
      go_loopw [8] (fun i wr => ∃ j : Int, -1 ≤ j ∧ j ≤ 6 ∧ i = .int .i64 j ∧ Below w.heap.size w wr) (fun i _ => (6 - intOf i).toNat)
      case atStart => exact ⟨-1, by omega, by omega, rfl, Below.refl _ _⟩
      case round =>
        obtain ⟨j, j0, j1, rfl, k1⟩ := hrel
        by_cases h2 : j = 6
        · subst h2
          have HS := H.out.step k1
          have HR := HV.out.below k1 (Nat.le_refl _)
          have hst := HS.st
          go_wp2_with fail
          refine (Len_ok HS.sh).mono ?_; rintro e _ ⟨rfl, rfl⟩
          go_wp2_with fail
          refine (Text_ok HS.sh hfew hst).mono ?_; rintro e w1 ⟨rfl, k2⟩
          have HR2 := HR.below (k2.mono k1.size) (Nat.le_refl _)
          have k3 := k1.trans (k2.mono k1.size)
          obtain ⟨tx, htx⟩ : ∃ tx : ByteArray, (⟨(txtL L).toArray⟩ : ByteArray) = tx := ⟨_, rfl⟩
          have HT := rText_ok (.slice va L.length vc) L w.heap.size w1 k3.size hfew hst HR2
          rw [htx] at HT ⊢
          have HT2 := Lib.hid HT
          clear htx HT hst
          go_wp2_with fail
          refine HT2.out.mono ?_; rintro e w2 ⟨rfl, k4⟩
          have k5 := k3.trans (k4.mono k3.size)
          go_wp2_with fail
          go_ret
          exact ⟨rfl, k5⟩
        · have HS := H.out.step k1
          have HR := HV.out.below k1 (Nat.le_refl _)
          have j2 : j ≤ 5 := by omega
          have hbig : L.length < 1000000 := by omega
          have hpl := plcL_len L j
          have hpc := cntI_len L j
          obtain ⟨P, hP⟩ : ∃ P, plcL L j = P := ⟨_, rfl⟩
          have HPL := Places_ok (.slice va L.length vc) L w.heap.size j wr k1.size hbig HR
          have HAL := fun (W : World) (k : Below wr.heap.size wr W) => all_ok (Alls.ok (HS.sh.step k) hbig j) hbig 300 (by omega) (by decide)
          rw [hP] at HPL HAL hpl hpc
          have HC := Lib.hid hpl.symm
          clear hpl
          have HPL2 := Lib.hid HPL
          have HAL2 := Lib.hid HAL
          clear HPL HAL hP
          go_wp2_with fail
          refine HPL2.out.mono ?_; rintro e w1 ⟨v1, rfl, o1, k2⟩
          have r1 : RowAt w1.heap.size w1 v1 P.length (intVals .i64 P) := RowAt.of_owns o1 (Nat.le_refl _)
          obtain ⟨pa, pc, rfl, _⟩ := r1.len
          have p1 : (P.length : Int) ≤ 256 := by omega
          clear o1
          go_wp2_with fail
          refine (HAL2.out w1 k2).mono ?_; rintro e w2 ⟨v2, rfl, o2, k3⟩
          have r2 : RowAt w2.heap.size w2 v2 P.length (intVals .i64 P) := RowAt.of_owns o2 (Nat.le_refl _)
          obtain ⟨qa, qc, rfl, _⟩ := r2.len
          have r1' := r1.below k3 (Nat.le_refl _)
          have k4 := k2.trans (k3.mono k2.size)
          clear o2
          go_wp2_with fail
          refine (ints_ok _ _ P w2.heap.size w1.heap.size w2 (by omega) r2 r1' (Nat.le_refl _) k3.size).mono ?_; rintro e w3 ⟨rfl, k5⟩
          have k6 := k4.trans (k5.mono k4.size)
          go_wp2_with fail
          refine (Count_ok (HS.step k6).sh hbig j).mono ?_; rintro e w4 ⟨rfl, k7⟩
          rw [HC.out]
          have k8 := k6.trans (k7.mono k6.size)
          have k9 := k1.trans (k8.mono k1.size)
          go_wp2_with fail
          exact ⟨⟨j + 1, by omega, by omega, by go_num, k9⟩, by simp [intOf]; omega⟩
    · have H1 := Lib.hid (Get_ok H.out.sh j H.out.big')
      by_cases h2 : j < 0
      · have hj : j = -1 := by omega
        subst hj
        have e1 : inI L.length (-1) = false := by unfold inI; exact decide_eq_false (by omega)
        have e2 : getI L (-1) = 0 := by unfold getI; rw [e1]; rfl
        have H2 := H1.out
        rw [e1, e2] at H2
        have H3 := Lib.hid H2
        clear e1 e2 H2
        go_wp2_with fail
        refine H3.out.mono ?_; rintro e _ ⟨rfl, rfl⟩
        go_wp2_with fail
        exact ⟨⟨0, by omega, by omega, by go_num, trivial⟩, by simp [intOf] <;> omega⟩
      by_cases h3 : j = L.length
      · have e1 : inI L.length j = false := by unfold inI; exact decide_eq_false (by omega)
        have e2 : getI L j = 0 := by unfold getI; rw [e1]; rfl
        have H2 := H1.out
        rw [e1, e2] at H2
        subst h3
        have H3 := Lib.hid H2
        clear e1 e2 H2 h1 h2 j0 j1
        go_wp2_with fail
        refine H3.out.mono ?_; rintro e _ ⟨rfl, rfl⟩
        go_wp2_with fail
        exact ⟨⟨(L.length : Int) + 1, by omega, by omega, by go_num, trivial⟩, by simp [intOf] <;> omega⟩
      · obtain ⟨k, rfl⟩ : ∃ k : Nat, j = k := ⟨j.toNat, by omega⟩
        have hk : k < L.length := by omega
        have e1 : inI L.length k = true := by unfold inI; exact decide_eq_true (by omega)
        have e2 : getI L k = L[k] := getI_at hk
        obtain ⟨b, off, rfl, _, q⟩ := HV.out.geti k hk
        have H2 := H1.out
        obtain ⟨y, hy⟩ : ∃ y, L[k] = y := ⟨_, rfl⟩
        rw [hy] at e2 q
        rw [e1, e2] at H2
        have H3 := Lib.hid H2
        have i1 : (k : Int) < L.length := by omega
        have i2 : ((k : Int) == (L.length : Int)) = false := by simpa using h3
        clear e1 e2 H2 h1 h2 h3 hy
        go_wp2_with fail
        refine H3.out.mono ?_; rintro e _ ⟨rfl, rfl⟩
        go_wp2_with fail
        exact ⟨⟨(k : Int) + 1, by omega, by omega, by go_num, trivial⟩, by simp [intOf] <;> omega⟩
end Go.Proofs.YtdhbhjkfcpglbaaDoor
