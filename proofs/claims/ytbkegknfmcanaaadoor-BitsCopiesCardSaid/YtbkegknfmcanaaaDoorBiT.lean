/-
  Package pinfoldref04: Parse; package pinfoldlaw04: finds. Conditions: few marks.
-/
import Derived.Test.YtbkegknfmcanaaaDoorBiS
namespace Go.Proofs.YtbkegknfmcanaaaDoor
open Go.RowKit
attribute [local go_sem] Oper.semAt_some
set_option maxHeartbeats 4000000
set_option maxRecDepth 8000

theorem allB_take (bs : List UInt8) (k : Nat) (hk : k < bs.length) : allB (bs.take (k + 1)) = (allB (bs.take k) && zo.contains bs[k]) := by
  unfold allB
  rw [List.take_succ_eq_append_getElem hk, List.all_append]
  simp
theorem parB_take (bs : List UInt8) (k : Nat) (hk : k < bs.length) : (parB bs).take (k + 1) = (parB bs).take k ++ [bs[k] == 49] := by
  unfold parB
  rw [List.take_succ_eq_append_getElem (by simpa using hk)]
  simp
structure ParI (w wr : World) (v : Value) (bs : List UInt8) (k : Nat) : Prop where
  own : wr.ownsRow w.heap.size 4 1 v k (bvals ((parB bs).take k))
  bel : Below w.heap.size w wr
  all : allB (bs.take k) = true
theorem rParse_ok (bs : List UInt8) (w : World) (hs : bs.length ≤ 9223372036854775807) : Calls Tryd.prog 16 #[.string ⟨bs.toArray⟩] w fun e w' =>
    ((e = .returned (.tuple #[.slice none 0 0, .int .i64 140]) ∧ (4096 < bs.length ∨ allB bs = false)) ∨
      ∃ v, e = .returned (.tuple #[v, .int .i64 0]) ∧ w'.ownsRow w.heap.size 4 1 v bs.length (bvals (parB bs)) ∧ bs.length ≤ 4096 ∧ allB bs = true) ∧ Below w.heap.size w w' := by
  obtain ⟨S, hS⟩ : ∃ S : ByteArray, (⟨bs.toArray⟩ : ByteArray) = S := ⟨_, rfl⟩
  have hsz : S.size = bs.length := by rw [← hS]; simp [ByteArray.size]
  have hix : ∀ (k : Nat) (hk : k < bs.length) (W : World), (Instr.index 9 (.string S) (.int .i64 (k : Int))).run Tryd.prog W = .ok (.int .u8 ((bs[k].toNat : Nat) : Int)) W := by
    intro k hk W
    rw [run_index_string _ _ _ _ _ Tryd.underlying9, dif_pos (by omega)]
    subst hS
    rfl
  rw [hS]
  have HIX := Lib.hid hix
  clear hix hS
  by_cases h1 : 4096 < bs.length
  · have h1' : (4096 : Int) < S.size := by omega
    go_enter Tryd.func16, Tryd.ntmps16
    go_wp2_with fail
    go_ret2
    exact ⟨.inl ⟨rfl, .inl h1⟩, Below.refl _ _⟩
  have h2 : (S.size : Int) ≤ 4096 := by omega
  have h0 : ParI w w (.slice none 0 0) bs 0 := ⟨⟨rfl, .inl ⟨rfl, rfl⟩⟩, Below.refl _ _, rfl⟩
  go_enter Tryd.func16, Tryd.ntmps16
  go_wp2_with fail
  go_loopw [4, 5] (fun v i wr => ∃ k : Nat, k ≤ bs.length ∧ i = .int .i64 k ∧ ParI w wr v bs k) (fun _ i _ => bs.length - (intOf i).toNat)
  case atStart => exact ⟨0, by omega, rfl, h0⟩
  case round =>
    obtain ⟨k, hk, rfl, hP⟩ := hrel
    clear h0
    by_cases hlt : k < bs.length
    · have hix := HIX.out k hlt
      have hat := allB_take bs k hlt
      have hpt := parB_take bs k hlt
      have hmem : bs[k] ∈ bs := List.getElem_mem hlt
      obtain ⟨y, hy⟩ : ∃ y, bs[k] = y := ⟨_, rfl⟩
      have i0 : (0 : Int) ≤ k := by omega
      have i1 : (k : Int) < S.size := by omega
      by_cases h48 : y = 48
      · subst h48
        have hix2 : ∀ W : World, (Instr.index 9 (.string S) (.int .i64 (k : Int))).run Tryd.prog W = .ok (.int .u8 48) W := fun W => by rw [hix W, hy]; rfl
        clear hix
        have HT : allB (bs.take (k + 1)) = true := by rw [hat, hP.all, hy]; rfl
        have HPT := Lib.hid (show (parB bs).take (k + 1) = (parB bs).take k ++ [false] by rw [hpt, hy]; rfl)
        have hown := hP.own
        have hb := hP.bel
        have hzY := hb.size
        have ha1 := owns_below hown ((Below.refl _ wr).alloc (Nat.le_refl _) (.cells #[.bool false] 4)) (Nat.le_refl _)
        clear hat hpt hP hy hmem
        go_wp2_with (at_builtin; refine wpList_append_row rfl _ _ 34 rfl w.heap.size Tryd.underlying34 infoB k (bvals ((parB bs).take k)) rfl ha1 (wr.heap.size + 1) 1 [.bool false] rfl (RowAt.lit wr #[.bool false] 4 1 _ (by omega)) rfl ?c4 ?c5 ?c6 ?c7 ?_)
        case c4 => intro u hu; rw [List.mem_singleton.1 hu]; rfl
        case c5 => unfold maxLen; omega
        case c6 => omega
        case c7 => simp; omega
        intro v2 w2 ho2 hg2
        have k2 := (hb.alloc hzY (.cells #[.bool false] 4)).appended ha1 hg2 (Nat.le_refl _) (by simp; omega)
        clear ha1 hg2 hown
        go_wp2_with fail
        exact ⟨⟨k + 1, by omega, by go_num, ⟨by rw [HPT.out]; simpa [bvals] using ho2, k2, HT⟩⟩, by simp [intOf]; omega⟩
      by_cases h49 : y = 49
      · subst h49
        have hix2 : ∀ W : World, (Instr.index 9 (.string S) (.int .i64 (k : Int))).run Tryd.prog W = .ok (.int .u8 49) W := fun W => by rw [hix W, hy]; rfl
        clear hix
        have HT : allB (bs.take (k + 1)) = true := by rw [hat, hP.all, hy]; rfl
        have HPT := Lib.hid (show (parB bs).take (k + 1) = (parB bs).take k ++ [true] by rw [hpt, hy]; rfl)
        have hown := hP.own
        have hb := hP.bel
        have hzY := hb.size
        have ha1 := owns_below hown ((Below.refl _ wr).alloc (Nat.le_refl _) (.cells #[.bool true] 4)) (Nat.le_refl _)
        clear hat hpt hP hy hmem
        go_wp2_with (at_builtin; refine wpList_append_row rfl _ _ 34 rfl w.heap.size Tryd.underlying34 infoB k (bvals ((parB bs).take k)) rfl ha1 (wr.heap.size + 1) 1 [.bool true] rfl (RowAt.lit wr #[.bool true] 4 1 _ (by omega)) rfl ?c4 ?c5 ?c6 ?c7 ?_)
        case c4 => intro u hu; rw [List.mem_singleton.1 hu]; rfl
        case c5 => unfold maxLen; omega
        case c6 => omega
        case c7 => simp; omega
        intro v2 w2 ho2 hg2
        have k2 := (hb.alloc hzY (.cells #[.bool true] 4)).appended ha1 hg2 (Nat.le_refl _) (by simp; omega)
        clear ha1 hg2 hown
        go_wp2_with fail
        exact ⟨⟨k + 1, by omega, by go_num, ⟨by rw [HPT.out]; simpa [bvals] using ho2, k2, HT⟩⟩, by simp [intOf]; omega⟩
      · have hz : zo.contains y = false := by simp [zo, h48, h49]
        obtain ⟨c, hc⟩ : ∃ c : Int, ((y.toNat : Nat) : Int) = c := ⟨_, rfl⟩
        have hix2 : ∀ W : World, (Instr.index 9 (.string S) (.int .i64 (k : Int))).run Tryd.prog W = .ok (.int .u8 c) W := fun W => by rw [hix W, hy, hc]
        have hx1 : (c != 48) = true := by
          rw [bne_iff_ne]; intro e; exact h48 (UInt8.toNat_inj.1 (by show y.toNat = 48; omega))
        have hx2 : (c != 49) = true := by
          rw [bne_iff_ne]; intro e; exact h49 (UInt8.toNat_inj.1 (by show y.toNat = 49; omega))
        have hno : allB bs = false := by
          unfold allB
          rw [List.all_eq_false]
          exact ⟨y, hy ▸ hmem, by rw [hz]; decide⟩
        have hb := hP.bel
        clear hix hat hpt hP hmem hy hc
        go_wp2_with fail
        go_ret2
        exact ⟨.inl ⟨rfl, .inr hno⟩, hb⟩
    · obtain rfl : k = bs.length := by omega
      obtain ⟨ho, hb, hl⟩ := hP
      rw [List.take_of_length_le (by simp [parB])] at ho
      rw [List.take_length] at hl
      have HO := Lib.hid ho
      obtain ⟨a2, c2, rfl, _⟩ := (RowAt.of_owns ho (Nat.le_refl _)).len
      clear ho
      go_wp2_with fail
      go_ret2
      exact ⟨.inr ⟨_, rfl, HO.out, by omega, hl⟩, hb⟩
theorem nxt_facts (l : List Int) (h : ∀ x ∈ l, 0 ≤ x) : nthV l 0 = max 0 (nxtI l) ∧ nthB l 0 = decide (0 ≤ nxtI l) := by
  cases l with
  | nil => exact ⟨rfl, rfl⟩
  | cons x l =>
    have hx := h x (by simp)
    obtain ⟨e1, e2⟩ := nth_at (pre := []) (k := 0) (l := x :: l) rfl rfl
    rw [e1, e2]
    show x = max 0 x ∧ true = decide (0 ≤ x)
    exact ⟨by omega, (decide_eq_true hx).symm⟩
theorem finds_ok {B : Nat} {w0 w : World} {lo hi s : Nat} {L : List Bool} {v : Value} (h : Run B w0 w lo hi s L) (hv : RowAt w.heap.size w v L.length (bvals L)) (k f : Int) (b : Bool) (hk : k ≤ 9223372036854775807) (hf : f ≤ 9223372036854775807) :
    Calls Tryd.prog 17 #[.pointer (some ⟨s, 0, none⟩), v, .int .i64 k, .int .i64 f, .bool b] w fun e w' => e = .returned (.bool true) ∧ Below w.heap.size w w' := by
  have hfew := h.few
  have hle := sucL_le L 0 b
  obtain ⟨n1, n2⟩ := nxt_facts (sucL L f b) (suc_nonneg L f b L.length)
  have HP := Lib.hid (Places_ok v L w.heap.size b w (Nat.le_refl _) (by omega) hv)
  have HN := Lib.hid (fun W (k9 : Below w.heap.size w W) => Nth_ok (h.step k9).v k b hk)
  have HX := Lib.hid (fun W (k9 : Below w.heap.size w W) => Next_ok (h.step k9).v f b hf)
  have HR := Lib.hid (fun W (k9 : Below w.heap.size w W) => rNext_ok v L w.heap.size f b W k9.size hfew (hv.below k9 (Nat.le_refl _)))
  rw [n1, n2] at HX
  obtain ⟨va, vc, rfl, _⟩ := hv.len
  obtain ⟨P, hP⟩ : ∃ P, sucL L 0 b = P := ⟨_, rfl⟩
  rw [hP] at HP HN hle
  obtain ⟨nx, hnx⟩ : ∃ nx, nxtI (sucL L f b) = nx := ⟨_, rfl⟩
  rw [hnx] at HX HR
  clear h hv hP n1 n2 hnx
  have l2 : (P.length : Int) ≤ 4096 := by omega
  by_cases hno : k < 0 ∨ (P.length : Int) ≤ k
  · obtain ⟨e1, e2⟩ := nth_no hno
    rw [e1, e2] at HN
    by_cases hneg : k < 0
    · clear hno e1 e2
      go_enter Tryd.func17, Tryd.ntmps17
      go_wp2_with fail
      refine HP.out.mono ?_; rintro e w1 ⟨v1, rfl, o1, k1⟩
      have r1 : RowAt w1.heap.size w1 v1 P.length (intVals .i64 P) := RowAt.of_owns o1 (Nat.le_refl _)
      obtain ⟨pa, pc, rfl, _⟩ := r1.len
      have R1 := Lib.hid r1
      clear o1 r1
      go_wp2_with fail
      refine (HN.out _ k1).mono ?_; rintro e w2 ⟨rfl, k2⟩
      have K2 := k1.trans (k2.mono k1.size)
      go_wp2_with fail
      refine (HX.out _ K2).mono ?_; rintro e w3 ⟨rfl, k3⟩
      have K3 := K2.trans (k3.mono K2.size)
      go_wp2_with fail
      refine (HR.out _ K3).mono ?_; rintro e _ ⟨rfl, rfl⟩
      go_wp2_with fail
      go_ret
      exact ⟨rfl, K3⟩
    · have hge : (P.length : Int) ≤ k := by omega
      clear hno e1 e2
      go_enter Tryd.func17, Tryd.ntmps17
      go_wp2_with fail
      refine HP.out.mono ?_; rintro e w1 ⟨v1, rfl, o1, k1⟩
      have r1 : RowAt w1.heap.size w1 v1 P.length (intVals .i64 P) := RowAt.of_owns o1 (Nat.le_refl _)
      obtain ⟨pa, pc, rfl, _⟩ := r1.len
      have R1 := Lib.hid r1
      clear o1 r1
      go_wp2_with fail
      refine (HN.out _ k1).mono ?_; rintro e w2 ⟨rfl, k2⟩
      have K2 := k1.trans (k2.mono k1.size)
      go_wp2_with fail
      refine (HX.out _ K2).mono ?_; rintro e w3 ⟨rfl, k3⟩
      have K3 := K2.trans (k3.mono K2.size)
      go_wp2_with fail
      refine (HR.out _ K3).mono ?_; rintro e _ ⟨rfl, rfl⟩
      go_wp2_with fail
      go_ret
      exact ⟨rfl, K3⟩
  · obtain ⟨q, rfl⟩ : ∃ q : Nat, k = q := ⟨k.toNat, by omega⟩
    have hq : q < P.length := by omega
    have e1 : nthB P q = true := by unfold nthB; exact decide_eq_true (by omega)
    have e2 : nthV P q = P[q] := by unfold nthV; rw [if_pos e1, Int.toNat_natCast, List.getD_eq_getElem?_getD, List.getElem?_eq_getElem hq]; rfl
    rw [e1, e2] at HN
    have i1 : (q : Int) < P.length := by omega
    obtain ⟨x, hx⟩ : ∃ x, P[q] = x := ⟨_, rfl⟩
    rw [hx] at HN
    have HXX := Lib.hid hx
    clear hno e1 e2 hx
    go_enter Tryd.func17, Tryd.ntmps17
    go_wp2_with fail
    refine HP.out.mono ?_; rintro e w1 ⟨v1, rfl, o1, k1⟩
    have r1 : RowAt w1.heap.size w1 v1 P.length (intVals .i64 P) := RowAt.of_owns o1 (Nat.le_refl _)
    obtain ⟨pa, pc, rfl, _⟩ := r1.len
    have R1 := Lib.hid r1
    clear o1 r1
    go_wp2_with fail
    refine (HN.out _ k1).mono ?_; rintro e w2 ⟨rfl, k2⟩
    have K2 := k1.trans (k2.mono k1.size)
    obtain ⟨b1, o1, rfl, _, q1⟩ := (R1.out.below k2 (Nat.le_refl _)).geti q hq
    rw [HXX.out] at q1
    go_wp2_with fail
    refine (HX.out _ K2).mono ?_; rintro e w3 ⟨rfl, k3⟩
    have K3 := K2.trans (k3.mono K2.size)
    go_wp2_with fail
    refine (HR.out _ K3).mono ?_; rintro e _ ⟨rfl, rfl⟩
    go_wp2_with fail
    go_ret
    exact ⟨rfl, K3⟩
end Go.Proofs.YtbkegknfmcanaaaDoor
