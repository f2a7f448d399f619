/-
  Package word: the reference's First and Differ.
-/
import Derived.Test.YtalaaembfgapfaaWordD
namespace Go.Proofs.Ytalaaembfgapfaa
open Go.RowKit
attribute [local go_sem] Oper.semAt_some
set_option maxHeartbeats 400000

/-- A cell of a slice that is read. -/
theorem RowAt.get {B : Nat} {w : World} {ad : Option Addr} {cap : Nat} {l : List Int} (h : RowAt B w (.slice ad l.length cap) l.length (intVals .u8 l)) (k : Nat) (hk : k < l.length) :
    ∃ b off : Nat, ad = some ⟨b, off, none⟩ ∧ b < B ∧ ∀ W, Below B w W → W.cell? ⟨b, off + k, none⟩ = some (.int .u8 l[k]) := by
  obtain ⟨ad', cap', he, _, hrow⟩ := h
  cases he
  rcases hrow with h0 | ⟨b, off, rfl, hbB, hc⟩
  · exfalso; have := congrArg List.length h0; simp [intVals] at this; subst this; simp at hk
  · refine ⟨b, off, rfl, hbB, fun W hW => ?_⟩
    rw [hW.cell (p := ⟨b, off + k, none⟩) hbB, hc k (by simpa [intVals] using hk), intVals_get _ _ _ hk]
theorem rFirst_ok (v : Value) (l : List Int) (B : Nat) (w : World) (hB : B ≤ w.heap.size) (hl : l.length ≤ maxLen) (hv : RowAt B w v l.length (intVals .u8 l)) :
    Calls Try.prog 18 #[v] w fun e w' => e = .returned (.int .i64 (firstI l)) ∧ Below w.heap.size w w' := by
  unfold maxLen at hl
  obtain ⟨ad, cap, rfl, _, _⟩ := id hv
  go_enter Try.func18, Try.ntmps18
  go_wp2_with fail
  go_loopw [3] (fun i wr => ∃ k : Nat, k ≤ l.length ∧ i = .int .i64 k ∧ (∀ j, j < k → (fun i => l.getD i 0 != 0) j = false) ∧ Below w.heap.size w wr) (fun i _ => l.length - (intOf i).toNat)
  case atStart => exact ⟨0, by omega, rfl, fun j hj => by omega, Below.refl _ _⟩
  case round =>
    obtain ⟨k, hk, rfl, hn, hb⟩ := hrel
    have HN := Lib.hid hn
    clear hn
    have i0 : (0 : Int) ≤ k := by omega
    by_cases hlt : k < l.length
    · obtain ⟨b, off, rfl, _, hc⟩ := hv.get k hlt
      have hck := hc wr (hb.mono hB)
      clear hc
      have i1 : (k : Int) < l.length := by omega
      by_cases hp : l[k] = 0
      · rw [hp] at hck
        have HP := Lib.hid (show (fun i => l.getD i 0 != 0) k = false by simp [List.getD, hlt, hp])
        clear hp
        go_wp2_with fail
        go_roundw
        case rel => exact ⟨k + 1, by omega, by go_num, fun j hj => by rcases Nat.lt_or_ge j k with h | h; exact HN.out j h; rw [show j = k by omega]; exact HP.out, hb⟩
        case measure => simp [intOf]; omega
      · have hr := Lib.hid (findFrom_hit (fun i => l.getD i 0 != 0) l.length l.length 0 (by omega) k (by omega) hlt (by simp [List.getD, hlt, hp]) fun j _ hj => HN.out j hj)
        go_wp2_with fail
        go_ret
        exact ⟨by unfold firstI; rw [hr.out]; rfl, hb⟩
    · obtain rfl : k = l.length := by omega
      go_wp2_with fail
      go_ret
      exact ⟨by unfold firstI; rw [findFrom_miss _ l.length 0 fun j _ hj => HN.out j (by omega)]; rfl, hb⟩
theorem rDiffer_ok (va vb : Value) (a b : List Int) (B : Nat) (w : World) (hB : B ≤ w.heap.size) (ha : a.length ≤ maxLen) (hb : b.length ≤ maxLen) (hva : RowAt B w va a.length (intVals .u8 a)) (hvb : RowAt B w vb b.length (intVals .u8 b)) :
    Calls Try.prog 20 #[va, vb] w fun e w' => e = .returned (.int .i64 (differI a b)) ∧ Below w.heap.size w w' := by
  unfold maxLen at ha hb
  obtain ⟨ada, capa, rfl, _, _⟩ := id hva
  obtain ⟨adb, capb, rfl, _, _⟩ := id hvb
  obtain ⟨M, hM⟩ : ∃ M, max a.length b.length = M := ⟨_, rfl⟩
  have hM1 : a.length ≤ M := by omega
  have hM2 : b.length ≤ M := by omega
  have hM3 : M ≤ 9223372036854775807 := by omega
  have hM4 : ∀ k, k < M → k < a.length ∨ k < b.length := by intro k hk; omega
  have HM := Lib.hid hM
  have HM4 := Lib.hid hM4
  clear hM hM4
  go_enter Try.func20, Try.ntmps20
  go_wp2_with fail
  go_loopw [5] (fun i wr => ∃ k : Nat, k ≤ M ∧ i = .int .i64 k ∧ (∀ j, j < k → differP a b j = false) ∧ Below w.heap.size w wr) (fun i _ => M - (intOf i).toNat)
  case atStart => exact ⟨0, by omega, rfl, fun j hj => by omega, Below.refl _ _⟩
  case round =>
    obtain ⟨k, hk, rfl, hn, hbw⟩ := hrel
    have HN := Lib.hid hn
    clear hn
    have i0 : (0 : Int) ≤ k := by omega
    by_cases hlt : k < M
    · by_cases hka : k < a.length
      · have d1 : (k : Int) < a.length := by omega
        by_cases hkb : k < b.length
        · have d2 : (k : Int) < b.length := by omega
          obtain ⟨b1, o1, rfl, _, hc1⟩ := hva.get k hka
          obtain ⟨b2, o2, rfl, _, hc2⟩ := hvb.get k hkb
          have hck1 := hc1 wr (hbw.mono hB)
          have hck2 := hc2 wr (hbw.mono hB)
          clear hc1 hc2
          by_cases hp : a[k] = b[k]
          · rw [hp] at hck1
            have HP := Lib.hid (show differP a b k = false by simp [differP, List.getD, hka, hkb, hp])
            clear hp
            have e1 : decide (b.length ≤ k) = false := by simp; omega
            have e2 : decide (a.length ≤ k) = false := by simp; omega
            go_wp2_with fail
            go_quiet (fail)
            go_wp2_with fail
            exact ⟨⟨k + 1, by omega, by go_num, fun j hj => by rcases Nat.lt_or_ge j k with h | h; exact HN.out j h; rw [show j = k by omega]; exact HP.out, hbw.drewN _⟩, by simp [intOf]; omega⟩
          · have hr := Lib.hid (findFrom_hit (differP a b) M M 0 (by omega) k (by omega) hlt (by simp [differP, List.getD, hka, hkb, hp]) fun j _ hj => HN.out j hj)
            have hp1 : (a[k] == b[k]) = false := by simpa using hp
            have hp2 : (a[k] != b[k]) = true := by simpa using hp
            have e1 : decide (b.length ≤ k) = false := by simp; omega
            have e2 : decide (a.length ≤ k) = false := by simp; omega
            go_wp2_with fail
            go_quiet (fail)
            go_wp2_with fail
            go_ret
            exact ⟨by unfold differI; rw [HM.out, hr.out]; rfl, hbw.drewN _⟩
        · have d2 : ¬ (k : Int) < b.length := by omega
          have hr := Lib.hid (findFrom_hit (differP a b) M M 0 (by omega) k (by omega) hlt (by simp [differP]; right; left; omega) fun j _ hj => HN.out j hj)
          go_wp2_with fail
          have e1 : decide (b.length ≤ k) = true := by simp; omega
          have e2 : decide (a.length ≤ k) = false := by simp; omega
          go_quiet (fail)
          go_wp2_with fail
          go_ret
          exact ⟨by unfold differI; rw [HM.out, hr.out]; rfl, hbw.drewN _⟩
      · have d1 : ¬ (k : Int) < a.length := by omega
        have d2 : (k : Int) < b.length := by have := HM4.out k hlt; omega
        have hr := Lib.hid (findFrom_hit (differP a b) M M 0 (by omega) k (by omega) hlt (by simp [differP]; left; omega) fun j _ hj => HN.out j hj)
        go_wp2_with fail
        have e2 : decide (a.length ≤ k) = true := by simp; omega
        have e1 : decide (b.length ≤ k) = false := by simp; omega
        go_quiet (fail)
        go_wp2_with fail
        go_ret
        exact ⟨by unfold differI; rw [HM.out, hr.out]; rfl, hbw.drewN _⟩
    · obtain rfl : k = M := by omega
      have d1 : ¬ (k : Int) < a.length := by omega
      have d2 : ¬ (k : Int) < b.length := by omega
      have hk' := Nat.lt_irrefl k
      go_wp2_with fail
      go_ret
      exact ⟨by unfold differI; rw [HM.out, findFrom_miss _ k 0 fun j _ hj => HN.out j (by omega)]; rfl, hbw⟩
end Go.Proofs.Ytalaaembfgapfaa
