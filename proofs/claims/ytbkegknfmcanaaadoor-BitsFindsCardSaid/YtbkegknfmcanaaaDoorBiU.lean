/-
  Package pinfoldlaw04: BitsFinds. No condition.
-/
import Derived.Test.YtbkegknfmcanaaaDoorBiT
namespace Go.Proofs.YtbkegknfmcanaaaDoor
open Go.RowKit
attribute [local go_sem] Oper.semAt_some
set_option maxHeartbeats 4000000
set_option maxRecDepth 8000

theorem finds_body (bs : List UInt8) (k f : Int) (w : World) (hlen : bs.length ≤ 9223372036854775807) (hk : k ≤ 9223372036854775807) (hf : f ≤ 9223372036854775807) :
    Calls Tryd.prog 4 #[.string ⟨bs.toArray⟩, .int .i64 k, .int .i64 f] w fun e w' => e = .returned (.bool true) ∧ Below w.heap.size w w' := by
  have kb : Below w.heap.size w w := Below.refl _ _
  have hsz : (⟨bs.toArray⟩ : ByteArray).size = bs.length := by simp [ByteArray.size]
  have HP := Lib.hid (fun (W : World) => rParse_ok bs W hlen)
  have HQ := Lib.hid (fun (W : World) => Parse_no ⟨bs.toArray⟩ W (by rw [hsz]; exact hlen))
  have HK := Lib.hid (fun (W : World) => Parse_ok ⟨bs.toArray⟩ W)
  obtain ⟨S, hS⟩ : ∃ S : ByteArray, (⟨bs.toArray⟩ : ByteArray) = S := ⟨_, rfl⟩
  have hdt : S.data.toList = bs := by rw [← hS]
  rw [hS] at HP HQ HK hsz ⊢
  clear hS
  by_cases h3 : 600 < bs.length
  · have h3' : (600 : Int) < S.size := by omega
    go_enter Tryd.func4, Tryd.ntmps4
    go_wp2_with fail
    refine (works_ok _).mono ?_; rintro e w9 ⟨rfl, k9⟩
    go_wp2_with fail
    go_ret
    exact ⟨rfl, kb.trans (k9.mono kb.size)⟩
  have h3' : (S.size : Int) ≤ 600 := by omega
  cases hall : allB bs with
  | false =>
    have HB := Lib.hid (fun W => HQ.out W (.inl (by rw [hdt]; exact hall)))
    clear hdt hsz
    go_enter Tryd.func4, Tryd.ntmps4
    go_wp2_with fail
    refine (HB.out _).mono ?_; rintro e w1 ⟨rfl, k1⟩
    replace kb := kb.trans (k1.mono kb.size)
    go_wp2_with fail
    refine (HP.out _).mono ?_; rintro e w2 ⟨⟨rfl, _⟩ | ⟨v, rfl, _, _, hn2⟩, k2⟩
    · replace kb := kb.trans (k2.mono kb.size)
      go_wp2_with fail
      refine (num_calls _ _).mono ?_; rintro e _ ⟨rfl, rfl⟩
      go_wp2_with fail
      refine (works_ok _).mono ?_; rintro e w9 ⟨rfl, k9⟩
      go_wp2_with fail
      go_ret
      exact ⟨rfl, kb.trans (k9.mono kb.size)⟩
    · rw [hall] at hn2; cases hn2
  | true =>
    have HB := Lib.hid (fun W => HK.out W (by omega) (by rw [hdt]; exact hall))
    obtain ⟨L, hL⟩ : ∃ L, parB bs = L := ⟨_, rfl⟩
    have hLl : L.length = bs.length := by rw [← hL]; exact parB_len bs
    rw [hdt, hL] at HB
    rw [hL] at HP
    have HLL := Lib.hid hLl
    have hfew : L.length ≤ 4096 := by omega
    clear hdt hsz hLl hL
    go_enter Tryd.func4, Tryd.ntmps4
    go_wp2_with fail
    refine (HB.out _).mono ?_; rintro e w1 ⟨s, lo, hi, rfl, hlo, hM, k1⟩
    have r1 := Lib.hid (⟨hM, k1, hlo, k1.size, hfew⟩ : Run w.heap.size w w1 lo hi s L)
    clear hM k1
    go_wp2_with fail
    refine (HP.out _).mono ?_; rintro e w2 ⟨⟨rfl, hno⟩ | ⟨v, rfl, ho, _, _⟩, k2⟩
    · exfalso
      rcases hno with h | h
      · omega
      · rw [hall] at h; cases h
    have r2 := Lib.hid (r1.out.step k2)
    rw [← HLL.out] at ho
    have hv : RowAt w2.heap.size w2 v L.length (bvals L) := RowAt.of_owns ho (Nat.le_refl _)
    obtain ⟨va, vc, rfl, _⟩ := hv.len
    have HV := Lib.hid hv
    clear ho hv k2 r1
    go_wp2_with fail
    refine (num_calls _ _).mono ?_; rintro e _ ⟨rfl, rfl⟩
    go_wp2_with fail
    refine (finds_ok r2.out HV.out k f true hk hf).mono ?_; rintro e w3 ⟨rfl, k3⟩
    have r3 := Lib.hid (r2.out.step k3)
    have HV3 := Lib.hid ((HV.out.below k3 (Nat.le_refl _)).mono k3.size)
    go_wp2_with fail
    refine (finds_ok r3.out HV3.out k f false hk hf).mono ?_; rintro e w4 ⟨rfl, k4⟩
    have r4 := Lib.hid (r3.out.step k4)
    have HV4 := Lib.hid ((HV3.out.below k4 (Nat.le_refl _)).mono k4.size)
    go_wp2_with fail
    refine (is_ok r4.out HV4.out).mono ?_; rintro e w5 ⟨rfl, k5⟩
    have r5 := r4.out.step k5
    replace kb := r5.bel
    go_wp2_with fail
    refine (works_ok _).mono ?_; rintro e w9 ⟨rfl, k9⟩
    go_wp2_with fail
    go_ret
    exact ⟨rfl, kb.trans (k9.mono kb.size)⟩
end Go.Proofs.YtbkegknfmcanaaaDoor
