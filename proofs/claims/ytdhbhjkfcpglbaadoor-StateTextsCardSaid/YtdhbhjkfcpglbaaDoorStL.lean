/-
  Package pinfoldref14: Parse. Conditions: a text that may be.
-/
import Derived.Test.YtdhbhjkfcpglbaaDoorStK
namespace Go.Proofs.YtdhbhjkfcpglbaaDoor
open Go.RowKit
attribute [local go_sem] Oper.semAt_some
set_option maxHeartbeats 4000000
set_option maxRecDepth 8000

theorem st_cases (b : UInt8) : (lets.contains b = true ∧ 0 ≤ stOf b ∧ stOf b ≤ 4) ∨ (lets.contains b = false ∧ stOf b = -1) := by
  by_cases h0 : b = 102
  · subst h0; exact .inl (by decide)
  by_cases h1 : b = 107
  · subst h1; exact .inl (by decide)
  by_cases h2 : b = 108
  · subst h2; exact .inl (by decide)
  by_cases h3 : b = 104
  · subst h3; exact .inl (by decide)
  by_cases h4 : b = 103
  · subst h4; exact .inl (by decide)
  exact .inr ⟨by simp [lets, h0, h1, h2, h3, h4], by rw [stOf_eq]; simp [h0, h1, h2, h3, h4]⟩
/-- What the letters below k say. -/
def parN (b : UInt8) (k : Nat) : Int := if 0 ≤ stOf b ∧ stOf b < k then stOf b else -1
theorem parN_s (b c : UInt8) (j : Nat) (hc : lets[j]? = some c) : parN b (j + 1) = if b = c then (j : Int) else parN b j := by
  have hj : j < 5 := (List.getElem?_eq_some_iff.1 hc).1
  have h5 : j = 0 ∨ j = 1 ∨ j = 2 ∨ j = 3 ∨ j = 4 := by omega
  by_cases h0 : b = 102
  · subst h0; rcases h5 with rfl | rfl | rfl | rfl | rfl <;> (cases hc; decide)
  by_cases h1 : b = 107
  · subst h1; rcases h5 with rfl | rfl | rfl | rfl | rfl <;> (cases hc; decide)
  by_cases h2 : b = 108
  · subst h2; rcases h5 with rfl | rfl | rfl | rfl | rfl <;> (cases hc; decide)
  by_cases h3 : b = 104
  · subst h3; rcases h5 with rfl | rfl | rfl | rfl | rfl <;> (cases hc; decide)
  by_cases h4 : b = 103
  · subst h4; rcases h5 with rfl | rfl | rfl | rfl | rfl <;> (cases hc; decide)
  have e : stOf b = -1 := by rw [stOf_eq]; simp [h0, h1, h2, h3, h4]
  have hn : ∀ k, parN b k = -1 := fun k => by unfold parN; rw [e]; exact if_neg (by omega)
  rw [hn, hn]
  rcases h5 with rfl | rfl | rfl | rfl | rfl <;> (cases hc; simp [h0, h1, h2, h3, h4])
theorem parN_zero (b : UInt8) : parN b 0 = -1 := by unfold parN; exact if_neg (by omega)
theorem parN_all (b : UInt8) : parN b 5 = stOf b := by
  unfold parN
  rcases st_cases b with ⟨_, h0, h1⟩ | ⟨_, h⟩
  · exact if_pos (by omega)
  · rw [h]; rfl
theorem u8_ne {b c : UInt8} {n : Int} (hc : ((c.toNat : Nat) : Int) = n) : (n == ((b.toNat : Nat) : Int)) = decide (b = c) := by
  subst hc
  by_cases h : b = c
  · subst h; simp
  · rw [decide_eq_false h, beq_eq_false_iff_ne]
    intro e
    exact h (UInt8.toNat_inj.1 (by omega))
theorem allLet_take (bs : List UInt8) (k : Nat) (hk : k < bs.length) : allLet (bs.take (k + 1)) = (allLet (bs.take k) && lets.contains bs[k]) := by
  unfold allLet
  rw [List.take_succ_eq_append_getElem hk, List.all_append]
  simp
theorem parL_take (bs : List UInt8) (k : Nat) (hk : k < bs.length) : (parL bs).take (k + 1) = (parL bs).take k ++ [stOf bs[k]] := by
  unfold parL
  rw [List.take_succ_eq_append_getElem (by simpa using hk)]
  simp
structure ParI (w wr : World) (v : Value) (bs : List UInt8) (k : Nat) : Prop where
  own : wr.ownsRow w.heap.size 3 1 v k (intVals .i64 ((parL bs).take k))
  bel : Below w.heap.size w wr
  let_ : allLet (bs.take k) = true
theorem ParI.drewN {w wr : World} {v : Value} {bs : List UInt8} {k : Nat} (h : ParI w wr v bs k) (n : Nat) : ParI w (wr.drewN n) v bs k := ⟨h.own, h.bel.drewN n, h.let_⟩
theorem rParse_ok (bs : List UInt8) (w : World) (hs : bs.length ≤ 9223372036854775807) : Calls Tryd.prog 27 #[.string ⟨bs.toArray⟩] w fun e w' =>
    ((e = .returned (.tuple #[.slice none 0 0, .int .i64 241]) ∧ (256 < bs.length ∨ allLet bs = false)) ∨
      ∃ v, e = .returned (.tuple #[v, .int .i64 0]) ∧ w'.ownsRow w.heap.size 3 1 v bs.length (intVals .i64 (parL bs)) ∧ bs.length ≤ 256 ∧ allLet bs = true) ∧ Below w.heap.size w w' := by
  obtain ⟨S, hS⟩ : ∃ S : ByteArray, (⟨bs.toArray⟩ : ByteArray) = S := ⟨_, rfl⟩
  have hsz : S.size = bs.length := by rw [← hS]; simp [ByteArray.size]
  have hix : ∀ (k : Nat) (hk : k < bs.length) (W : World), (Instr.index 9 (.string S) (.int .i64 (k : Int))).run Tryd.prog W = .ok (.int .u8 ((bs[k].toNat : Nat) : Int)) W := by
    intro k hk W
    rw [run_index_string _ _ _ _ _ Tryd.underlying9, dif_pos (by omega)]
    subst hS
    rfl
  rw [hS]
  have HIX := Lib.hid hix
  clear hix hS
  by_cases h1 : 256 < bs.length
  · have h1' : (256 : Int) < S.size := by omega
    go_enter Tryd.func27, Tryd.ntmps27
    go_wp2_with fail
    go_ret2
    exact ⟨.inl ⟨rfl, .inl h1⟩, Below.refl _ _⟩
  have h2 : (S.size : Int) ≤ 256 := by omega
  have h0 : ParI w w (.slice none 0 0) bs 0 := ⟨⟨rfl, .inl ⟨rfl, rfl⟩⟩, Below.refl _ _, rfl⟩
  go_enter Tryd.func27, Tryd.ntmps27
  go_wp2_with fail
  go_loopw [4, 5] (fun v i wr => ∃ k : Nat, k ≤ bs.length ∧ i = .int .i64 k ∧ ParI w wr v bs k) (fun _ i _ => bs.length - (intOf i).toNat)
  case atStart => exact ⟨0, by omega, rfl, h0⟩
  case round =>
    obtain ⟨k, hk, rfl, hP⟩ := hrel
    clear h0
    by_cases hlt : k < bs.length
    · have hix := HIX.out k hlt
      have hat := allLet_take bs k hlt
      have hpt := parL_take bs k hlt
      have hmem : bs[k] ∈ bs := List.getElem_mem hlt
      obtain ⟨b, hb⟩ : ∃ b, bs[k] = b := ⟨_, rfl⟩
      rw [hb] at hix hat hpt hmem
      have HAT := Lib.hid hat
      have HPT := Lib.hid hpt
      have i0 : (0 : Int) ≤ k := by omega
      have i1 : (k : Int) < S.size := by omega
      obtain ⟨va, vc, rfl, _⟩ := (RowAt.of_owns hP.own (Nat.le_refl _)).len
      have HP := Lib.hid hP
      clear hat hpt hb hP
      go_wp2_with fail
      go_loopw [6, 7] (fun n x wr2 => ∃ j : Nat, j ≤ 5 ∧ x = .int .i64 j ∧ n = .int .i64 (parN b j) ∧ ParI w wr2 (.slice va k vc) bs k) (fun _ x _ => 5 - (intOf x).toNat)
      case atStart => exact ⟨0, by omega, rfl, by rw [parN_zero], HP.out⟩
      case round =>
        obtain ⟨j, hj, rfl, rfl, hP⟩ := hrel
        clear HP
        have HP := Lib.hid hP
        clear hP
        by_cases hj5 : j < 5
        · have h5 : j = 0 ∨ j = 1 ∨ j = 2 ∨ j = 3 ∨ j = 4 := by omega
          clear hj5 hj
          rcases h5 with rfl | rfl | rfl | rfl | rfl
          · have hcx : ∀ W : World, (Instr.index 9 (.string ⟨#[102, 107, 108, 104, 103]⟩) (.int .i64 ((0 : Nat) : Int))).run Tryd.prog W = .ok (.int .u8 102) W := fun W => by kernel_rfl
            have hcy : ∀ W : World, (Instr.index 9 (.string ⟨#[102, 107, 108, 104, 103]⟩) (.int .i64 0)).run Tryd.prog W = .ok (.int .u8 102) W := fun W => by kernel_rfl
            by_cases hbc : b = 102
            · have hx' : ((102 : Int) == ((b.toNat : Nat) : Int)) = true := by rw [u8_ne (c := 102) (by rfl)]; simpa using hbc
              have hst := parN_s b 102 0 rfl
              rw [if_pos hbc] at hst
              have HST := Lib.hid hst
              clear hst hbc
              go_wp2_with fail
              go_quiet (fail)
              go_wp2_with fail
              exact ⟨⟨0 + 1, by omega, by go_num, by rw [HST.out], HP.out.drewN _⟩, by simp [intOf]⟩
            · have hx' : ((102 : Int) == ((b.toNat : Nat) : Int)) = false := by rw [u8_ne (c := 102) (by rfl)]; simpa using hbc
              have hst := parN_s b 102 0 rfl
              rw [if_neg hbc] at hst
              have HST := Lib.hid hst
              obtain ⟨pn, hpn⟩ : ∃ pn, parN b 0 = pn := ⟨_, rfl⟩
              rw [hpn] at hst ⊢
              have HPN := Lib.hid hpn
              clear hst hbc hpn
              go_wp2_with fail
              go_quiet (fail)
              go_wp2_with fail
              exact ⟨⟨0 + 1, by omega, by go_num, by rw [HST.out, HPN.out], HP.out.drewN _⟩, by simp [intOf]⟩
          · have hcx : ∀ W : World, (Instr.index 9 (.string ⟨#[102, 107, 108, 104, 103]⟩) (.int .i64 ((1 : Nat) : Int))).run Tryd.prog W = .ok (.int .u8 107) W := fun W => by kernel_rfl
            have hcy : ∀ W : World, (Instr.index 9 (.string ⟨#[102, 107, 108, 104, 103]⟩) (.int .i64 1)).run Tryd.prog W = .ok (.int .u8 107) W := fun W => by kernel_rfl
            by_cases hbc : b = 107
            · have hx' : ((107 : Int) == ((b.toNat : Nat) : Int)) = true := by rw [u8_ne (c := 107) (by rfl)]; simpa using hbc
              have hst := parN_s b 107 1 rfl
              rw [if_pos hbc] at hst
              have HST := Lib.hid hst
              clear hst hbc
              go_wp2_with fail
              go_quiet (fail)
              go_wp2_with fail
              exact ⟨⟨1 + 1, by omega, by go_num, by rw [HST.out], HP.out.drewN _⟩, by simp [intOf]⟩
            · have hx' : ((107 : Int) == ((b.toNat : Nat) : Int)) = false := by rw [u8_ne (c := 107) (by rfl)]; simpa using hbc
              have hst := parN_s b 107 1 rfl
              rw [if_neg hbc] at hst
              have HST := Lib.hid hst
              obtain ⟨pn, hpn⟩ : ∃ pn, parN b 1 = pn := ⟨_, rfl⟩
              rw [hpn] at hst ⊢
              have HPN := Lib.hid hpn
              clear hst hbc hpn
              go_wp2_with fail
              go_quiet (fail)
              go_wp2_with fail
              exact ⟨⟨1 + 1, by omega, by go_num, by rw [HST.out, HPN.out], HP.out.drewN _⟩, by simp [intOf]⟩
          · have hcx : ∀ W : World, (Instr.index 9 (.string ⟨#[102, 107, 108, 104, 103]⟩) (.int .i64 ((2 : Nat) : Int))).run Tryd.prog W = .ok (.int .u8 108) W := fun W => by kernel_rfl
            have hcy : ∀ W : World, (Instr.index 9 (.string ⟨#[102, 107, 108, 104, 103]⟩) (.int .i64 2)).run Tryd.prog W = .ok (.int .u8 108) W := fun W => by kernel_rfl
            by_cases hbc : b = 108
            · have hx' : ((108 : Int) == ((b.toNat : Nat) : Int)) = true := by rw [u8_ne (c := 108) (by rfl)]; simpa using hbc
              have hst := parN_s b 108 2 rfl
              rw [if_pos hbc] at hst
              have HST := Lib.hid hst
              clear hst hbc
              go_wp2_with fail
              go_quiet (fail)
              go_wp2_with fail
              exact ⟨⟨2 + 1, by omega, by go_num, by rw [HST.out], HP.out.drewN _⟩, by simp [intOf]⟩
            · have hx' : ((108 : Int) == ((b.toNat : Nat) : Int)) = false := by rw [u8_ne (c := 108) (by rfl)]; simpa using hbc
              have hst := parN_s b 108 2 rfl
              rw [if_neg hbc] at hst
              have HST := Lib.hid hst
              obtain ⟨pn, hpn⟩ : ∃ pn, parN b 2 = pn := ⟨_, rfl⟩
              rw [hpn] at hst ⊢
              have HPN := Lib.hid hpn
              clear hst hbc hpn
              go_wp2_with fail
              go_quiet (fail)
              go_wp2_with fail
              exact ⟨⟨2 + 1, by omega, by go_num, by rw [HST.out, HPN.out], HP.out.drewN _⟩, by simp [intOf]⟩
          · have hcx : ∀ W : World, (Instr.index 9 (.string ⟨#[102, 107, 108, 104, 103]⟩) (.int .i64 ((3 : Nat) : Int))).run Tryd.prog W = .ok (.int .u8 104) W := fun W => by kernel_rfl
            have hcy : ∀ W : World, (Instr.index 9 (.string ⟨#[102, 107, 108, 104, 103]⟩) (.int .i64 3)).run Tryd.prog W = .ok (.int .u8 104) W := fun W => by kernel_rfl
            by_cases hbc : b = 104
            · have hx' : ((104 : Int) == ((b.toNat : Nat) : Int)) = true := by rw [u8_ne (c := 104) (by rfl)]; simpa using hbc
              have hst := parN_s b 104 3 rfl
              rw [if_pos hbc] at hst
              have HST := Lib.hid hst
              clear hst hbc
              go_wp2_with fail
              go_quiet (fail)
              go_wp2_with fail
              exact ⟨⟨3 + 1, by omega, by go_num, by rw [HST.out], HP.out.drewN _⟩, by simp [intOf]⟩
            · have hx' : ((104 : Int) == ((b.toNat : Nat) : Int)) = false := by rw [u8_ne (c := 104) (by rfl)]; simpa using hbc
              have hst := parN_s b 104 3 rfl
              rw [if_neg hbc] at hst
              have HST := Lib.hid hst
              obtain ⟨pn, hpn⟩ : ∃ pn, parN b 3 = pn := ⟨_, rfl⟩
              rw [hpn] at hst ⊢
              have HPN := Lib.hid hpn
              clear hst hbc hpn
              go_wp2_with fail
              go_quiet (fail)
              go_wp2_with fail
              exact ⟨⟨3 + 1, by omega, by go_num, by rw [HST.out, HPN.out], HP.out.drewN _⟩, by simp [intOf]⟩
          · have hcx : ∀ W : World, (Instr.index 9 (.string ⟨#[102, 107, 108, 104, 103]⟩) (.int .i64 ((4 : Nat) : Int))).run Tryd.prog W = .ok (.int .u8 103) W := fun W => by kernel_rfl
            have hcy : ∀ W : World, (Instr.index 9 (.string ⟨#[102, 107, 108, 104, 103]⟩) (.int .i64 4)).run Tryd.prog W = .ok (.int .u8 103) W := fun W => by kernel_rfl
            by_cases hbc : b = 103
            · have hx' : ((103 : Int) == ((b.toNat : Nat) : Int)) = true := by rw [u8_ne (c := 103) (by rfl)]; simpa using hbc
              have hst := parN_s b 103 4 rfl
              rw [if_pos hbc] at hst
              have HST := Lib.hid hst
              clear hst hbc
              go_wp2_with fail
              go_quiet (fail)
              go_wp2_with fail
              exact ⟨⟨4 + 1, by omega, by go_num, by rw [HST.out], HP.out.drewN _⟩, by simp [intOf]⟩
            · have hx' : ((103 : Int) == ((b.toNat : Nat) : Int)) = false := by rw [u8_ne (c := 103) (by rfl)]; simpa using hbc
              have hst := parN_s b 103 4 rfl
              rw [if_neg hbc] at hst
              have HST := Lib.hid hst
              obtain ⟨pn, hpn⟩ : ∃ pn, parN b 4 = pn := ⟨_, rfl⟩
              rw [hpn] at hst ⊢
              have HPN := Lib.hid hpn
              clear hst hbc hpn
              go_wp2_with fail
              go_quiet (fail)
              go_wp2_with fail
              exact ⟨⟨4 + 1, by omega, by go_num, by rw [HST.out, HPN.out], HP.out.drewN _⟩, by simp [intOf]⟩
        · obtain rfl : j = 5 := by omega
          rw [parN_all]
          rcases st_cases b with ⟨hc, s0, s1⟩ | ⟨hc, hst⟩
          · have HT : allLet (bs.take (k + 1)) = true := by rw [HAT.out, HP.out.let_, hc]; rfl
            obtain ⟨n, hn⟩ : ∃ n, stOf b = n := ⟨_, rfl⟩
            have hpt := HPT.out
            rw [hn] at s0 s1 hpt ⊢
            have HPT2 := Lib.hid hpt
            have hown := HP.out.own
            have hb := HP.out.bel
            have hzY := hb.size
            have ha1 := owns_below hown ((Below.refl _ wr).alloc (Nat.le_refl _) (.cells #[.int .i64 n] 3)) (Nat.le_refl _)
            clear hpt hn hc
            go_wp2_with (at_builtin; refine wpList_append_row rfl _ _ 46 rfl w.heap.size Tryd.underlying46 info64 k (intVals .i64 ((parL bs).take k)) rfl ha1 (wr.heap.size + 1) 1 [.int .i64 n] rfl (RowAt.lit wr #[.int .i64 n] 3 1 _ (by omega)) rfl ?c4 ?c5 ?c6 ?c7 ?_)
            case c4 => intro u hu; rw [List.mem_singleton.1 hu]; rfl
            case c5 => unfold maxLen; omega
            case c6 => omega
            case c7 => simp; omega
            intro v2 w2 ho2 hg2
            have k2 := (hb.alloc hzY (.cells #[.int .i64 n] 3)).appended ha1 hg2 (Nat.le_refl _) (by simp; omega)
            clear ha1 hg2 hown
            go_wp2_with fail
            exact ⟨⟨k + 1, by omega, by go_num, ⟨by rw [HPT2.out]; simpa [intVals] using ho2, k2, HT⟩⟩, by simp [intOf]; omega⟩
          · rw [hst]
            go_wp2_with fail
            go_ret2
            refine ⟨.inl ⟨rfl, .inr ?_⟩, HP.out.bel⟩
            unfold allLet
            rw [List.all_eq_false]
            exact ⟨b, hmem, by rw [hc]; decide⟩
    · obtain rfl : k = bs.length := by omega
      obtain ⟨ho, hb, hl⟩ := hP
      rw [List.take_of_length_le (by simp [parL])] at ho
      rw [List.take_length] at hl
      have HO := Lib.hid ho
      obtain ⟨a2, c2, rfl, _⟩ := (RowAt.of_owns ho (Nat.le_refl _)).len
      clear ho
      go_wp2_with fail
      go_ret2
      exact ⟨.inr ⟨_, rfl, HO.out, by omega, hl⟩, hb⟩
end Go.Proofs.YtdhbhjkfcpglbaaDoor
