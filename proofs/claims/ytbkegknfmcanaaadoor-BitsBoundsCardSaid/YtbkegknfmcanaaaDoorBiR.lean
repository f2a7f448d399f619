/-
  Package pinfoldlaw04: BitsBounds. No condition.
-/
import Derived.Test.YtbkegknfmcanaaaDoorBiP
import Derived.Laws.IdiomStrings
namespace Go.Proofs.YtbkegknfmcanaaaDoor
open Go.RowKit
attribute [local go_sem] Oper.semAt_some
set_option maxHeartbeats 600000
set_option maxRecDepth 8000

theorem owns_blk {W : World} {base g n : Nat} {e : TypeId} {xs : List Value} (h : W.ownsRow base e 1 (.slice (some ⟨g, 0, none⟩) n n) n xs) : Blk W g xs.toArray e := by
  obtain ⟨_, hx⟩ := h
  rcases hx with ⟨h1, _⟩ | ⟨g', cap, cur, hv, _, hg, _, _, hsz, htk⟩
  · cases h1
  · simp only [Value.slice.injEq, Option.some.injEq, Addr.mk.injEq, true_and, and_true] at hv
    obtain ⟨rfl, rfl⟩ := hv
    rw [Nat.mul_one] at hsz htk
    rw [List.take_of_length_le (by simp [hsz])] at htk
    rw [← htk]
    exact hg
theorem getD_rep (n i : Nat) : (List.replicate n true).getD i false = decide (i < n) := by
  rw [List.getD_eq_getElem?_getD, List.getElem?_replicate]; split <;> simp_all
theorem cntB_rep (n : Nat) : ∀ k, k ≤ n → cntB (List.replicate n true) k = k
  | 0, _ => rfl
  | k + 1, h => by
    have ih := cntB_rep n k (by omega)
    unfold cntB at ih ⊢
    rw [cntN, ih, getD_rep, decide_eq_true (show k < n by omega)]; rfl
theorem sucF_rep (n : Nat) (f : Int) : ∀ k, k ≤ n → sucTo (List.replicate n true) f false k = []
  | 0, _ => rfl
  | k + 1, h => by
    have ih := sucF_rep n f k (by omega)
    rw [sucTo, getD_rep, decide_eq_true (show k < n by omega), if_neg (fun e => by cases e.2), ih]
theorem par_rep (n : Nat) : parB (List.replicate n 49) = List.replicate n true := by simp [parB]
theorem all_rep (n : Nat) : allB (List.replicate n 49) = true := by
  unfold allB
  rw [List.all_eq_true]
  intro x hx
  rw [List.eq_of_mem_replicate hx]; rfl
/-- As the bytes are filled. -/
structure Fil (w1 W : World) (bb n k : Nat) : Prop where
  row : ∃ cs, Blk W bb cs 5 ∧ cs.size = n ∧ ∀ j, j < k → cs[j]? = some (.int .u8 49)
  bel : Below bb w1 W
theorem bounds_body (more : Int) (w : World) : Calls Tryd.prog 3 #[.int .i64 more] w fun e w' => e = .returned (.bool true) ∧ Below w.heap.size w w' := by
  have kb : Below w.heap.size w w := Below.refl _ _
  by_cases h1 : more < -1
  · go_enter Tryd.func3, Tryd.ntmps3
    go_wp2_with fail
    refine (works_ok _).mono ?_; rintro e w9 ⟨rfl, k9⟩
    go_wp2_with fail
    go_ret
    exact ⟨rfl, kb.trans (k9.mono kb.size)⟩
  by_cases h2 : 1 < more
  · go_enter Tryd.func3, Tryd.ntmps3
    go_wp2_with fail
    refine (works_ok _).mono ?_; rintro e w9 ⟨rfl, k9⟩
    go_wp2_with fail
    go_ret
    exact ⟨rfl, kb.trans (k9.mono kb.size)⟩
  obtain ⟨g, hg⟩ : ∃ g : Int, 4096 + more = g := ⟨_, rfl⟩
  obtain ⟨n, hn⟩ : ∃ n : Nat, g = n := ⟨g.toNat, by omega⟩
  have g0 : 4095 ≤ g := by omega
  have g1 : g ≤ 4097 := by omega
  obtain ⟨S, hS⟩ : ∃ S : ByteArray, (⟨(List.replicate n 49).toArray⟩ : ByteArray) = S := ⟨_, rfl⟩
  have hdt : S.data.toList = List.replicate n 49 := by rw [← hS]
  have hsz : S.size = n := by rw [← hS]; simp [ByteArray.size]
  have HSS := Lib.hid hS
  obtain ⟨ii, hii, hiz, his, hib, _⟩ := info8
  have HN := Lib.hid hn
  have hnb9 : n ≤ 4097 := by omega
  by_cases hp : 0 < more
  · have HNew := Lib.hid (fun W => New_no g W (.inr (by omega)))
    have HPar := Lib.hid (fun W => Parse_no S W (by omega) (.inr (by omega)))
    clear hS hdt hsz hn
    go_enter Tryd.func3, Tryd.ntmps3
    go_wp2_with fail
    refine (HNew.out _).mono ?_; rintro e _ ⟨rfl, rfl⟩
    go_wp2_with (at_make; refine wpList_make_full _ rfl _ _ 27 rfl w.heap.size 5 ii (.int .u8 0) 1 Tryd.underlying27 hii hiz his .i64 .i64 g g n rfl rfl HN.out HN.out (by rw [hib]; omega) (by unfold maxLen; omega) (Nat.le_refl _) ?_)
    intro W1 ho1 hg1
    have j1 : Below w.heap.size w W1 := (Below.refl _ w).grown hg1 (Nat.le_refl _) (fun k e => by cases e)
    have bg := owns_blk ho1
    obtain ⟨bb, hbb⟩ : ∃ bb, w.heap.size = bb := ⟨_, rfl⟩
    rw [hbb] at bg j1
    have hF : Fil w W1 bb n 0 := ⟨⟨_, bg, by have := ho1.1; simpa using this, fun j hj => by omega⟩, j1⟩
    rw [hbb]
    clear ho1 hg1 bg j1
    go_wp2_with fail
    go_loopw [7] (fun i wr => ∃ k : Nat, k ≤ n ∧ i = .int .i64 k ∧ Fil w wr bb n k) (fun i _ => n - (intOf i).toNat)
    case atStart => exact ⟨0, by omega, rfl, hF⟩
    case round =>
      obtain ⟨k, hk, rfl, hFk⟩ := hrel
      clear hF
      obtain ⟨⟨cs, bk, hcz, hcj⟩, hbel⟩ := hFk
      by_cases hlt : k < n
      · have i0 : (0 : Int) ≤ k := by omega
        have i1 : (k : Int) < g := by have := HN.out; omega
        have i2 : (k : Int) < n := by omega
        have ck : wr.cell? ⟨bb, k, none⟩ = cs[k]? := by
          rw [Array.getElem?_eq_getElem (by omega)]; exact bk.cell k (Array.getElem?_eq_getElem (by omega))
        rw [Array.getElem?_eq_getElem (by omega)] at ck
        have fk := bk.frozen k
        have e2 := bk.set k (.int .u8 49)
        have ke := hbel.setCell (p := ⟨bb, k, none⟩) (Nat.le_refl _) (.int .u8 49)
        have HCJ := Lib.hid hcj
        clear bk hbel hcj
        go_wp2_with fail
        refine ⟨⟨k + 1, by omega, by go_num, ⟨_, e2, by simpa using hcz, fun j hj => ?_⟩, ke⟩, by simp [intOf]; omega⟩
        by_cases e : j = k
        · subst e; rw [Array.getElem?_setIfInBounds_self_of_lt (by omega)]
        · rw [Array.getElem?_setIfInBounds_ne (Ne.symm e)]; exact HCJ.out j (by omega)
      · obtain rfl : k = n := by omega
        have hgk : ¬ (k : Int) < g := by have := HN.out; omega
        have hcv : (convert 27 9 (.slice (some ⟨bb, 0, none⟩) k k)).run Tryd.prog wr = .ok (.string S) wr := by
          have := run_convert_bytes_back (P := Tryd.prog) wr 27 9 5 ⟨bb, 0, none⟩ k (List.replicate k 49) Tryd.underlying27 Tryd.underlying5 Tryd.underlying9 (fun j hj => by
            have hj' : j < k := by simpa using hj
            rw [show (⟨bb, 0, none⟩ : Addr).add j = ⟨bb, j, none⟩ by unfold Addr.add; split <;> simp_all, bk.cell j (hcj j hj')]
            simp)
          rw [List.length_replicate] at this
          rw [this, ← HSS.out]
        clear hcj bk
        go_wp2_with fail
        refine (HPar.out _).mono ?_; rintro e w2 ⟨rfl, k2⟩
        replace kb := (hbel.mono (Nat.le_of_eq hbb)).trans (k2.mono (by have := hbel.size; omega))
        go_wp2_with fail
        refine (num_calls _ _).mono ?_; rintro e _ ⟨rfl, rfl⟩
        go_wp2_with fail
        refine (num_calls _ _).mono ?_; rintro e _ ⟨rfl, rfl⟩
        go_wp2_with fail
        refine (works_ok _).mono ?_; rintro e w9 ⟨rfl, k9⟩
        go_wp2_with fail
        go_ret
        exact ⟨rfl, kb.trans (k9.mono kb.size)⟩
  · have hn1 : n ≤ 4096 := by omega
    have hn0 : 1 ≤ n := by omega
    have HNew := Lib.hid (fun W => New_ok n W hn1)
    have HPar := Lib.hid (fun W => Parse_ok S W (by omega) (by rw [hdt]; exact all_rep n))
    rw [hdt, par_rep] at HPar
    rw [← hn] at HNew
    have hlen : (List.replicate n true).length = n := List.length_replicate ..
    have hc1 := cntB_rep n n (Nat.le_refl _)
    have hc2 := cntB_rep n (n - 1) (by omega)
    have hna := nth_ahead (List.replicate n true) (n - 1) (by omega) true (by rw [getD_rep]; exact decide_eq_true (by omega)) (n - 1) (by rw [if_pos rfl, hc2])
    have hnb : nthV (sucL (List.replicate n true) 0 false) 0 = 0 ∧ nthB (sucL (List.replicate n true) 0 false) 0 = false := by
      have : sucL (List.replicate n true) 0 false = [] := by unfold sucL; rw [hlen]; exact sucF_rep n 0 n (Nat.le_refl _)
      rw [this]; exact ⟨rfl, rfl⟩
    have hn9 : g - 1 = ((n - 1 : Nat) : Int) := by omega
    have HNth := Lib.hid (fun (W : World) (lo hi s : Nat) (h : Run w.heap.size w W lo hi s (List.replicate n true)) => nth_ok (k := g - 1) (x := g - 1) (b := true) (t := true) h (by omega) (by rw [hn9]; exact hna.1) (by rw [hn9]; exact hna.2))
    have HNext := Lib.hid (fun (W : World) (lo hi s : Nat) (h : Run w.heap.size w W lo hi s (List.replicate n true)) => next_ok (f := 0) (x := 0) (b := false) (t := false) h (by decide) hnb.1 hnb.2)
    have HCnt := Lib.hid (fun (W : World) (lo hi s : Nat) (h : Run w.heap.size w W lo hi s (List.replicate n true)) => count_ok (n := n) h (by rw [hlen, hc1]))
    rw [← hn] at HCnt
    have HLen := Lib.hid (fun (W : World) (lo hi s : Nat) (h : MkAt lo hi W s (List.replicate n false)) => Len_ok h)
    rw [List.length_replicate, ← hn] at HLen
    clear hS hdt hsz hlen hc1 hc2 hna hnb hn9 hn
    go_enter Tryd.func3, Tryd.ntmps3
    go_wp2_with fail
    refine (HNew.out _).mono ?_; rintro e w1 ⟨m, rfl, hM, k1⟩
    have z1 := k1.size
    have hh := hM.2.2.1
    go_wp2_with (at_make; refine wpList_make_full _ rfl _ _ 27 rfl w1.heap.size 5 ii (.int .u8 0) 1 Tryd.underlying27 hii hiz his .i64 .i64 g g n rfl rfl HN.out HN.out (by rw [hib]; omega) (by unfold maxLen; omega) (Nat.le_refl _) ?_)
    intro W1 ho1 hg1
    have j1 : Below w1.heap.size w1 W1 := (Below.refl _ w1).grown hg1 (Nat.le_refl _) (fun k e => by cases e)
    have bg := owns_blk ho1
    obtain ⟨bb, hbb⟩ : ∃ bb, w1.heap.size = bb := ⟨_, rfl⟩
    rw [hbb] at bg j1
    have hF : Fil w1 W1 bb n 0 := ⟨⟨_, bg, by have := ho1.1; simpa using this, fun j hj => by omega⟩, j1⟩
    rw [hbb]
    clear ho1 hg1 bg j1
    go_wp2_with fail
    go_loopw [7] (fun i wr => ∃ k : Nat, k ≤ n ∧ i = .int .i64 k ∧ Fil w1 wr bb n k) (fun i _ => n - (intOf i).toNat)
    case atStart => exact ⟨0, by omega, rfl, hF⟩
    case round =>
      obtain ⟨k, hk, rfl, hFk⟩ := hrel
      clear hF
      obtain ⟨⟨cs, bk, hcz, hcj⟩, hbel⟩ := hFk
      by_cases hlt : k < n
      · have i0 : (0 : Int) ≤ k := by omega
        have i1 : (k : Int) < g := by have := HN.out; omega
        have i2 : (k : Int) < n := by omega
        have ck : wr.cell? ⟨bb, k, none⟩ = cs[k]? := by
          rw [Array.getElem?_eq_getElem (by omega)]; exact bk.cell k (Array.getElem?_eq_getElem (by omega))
        rw [Array.getElem?_eq_getElem (by omega)] at ck
        have fk := bk.frozen k
        have e2 := bk.set k (.int .u8 49)
        have ke := hbel.setCell (p := ⟨bb, k, none⟩) (Nat.le_refl _) (.int .u8 49)
        have HCJ := Lib.hid hcj
        clear bk hbel hcj
        go_wp2_with fail
        refine ⟨⟨k + 1, by omega, by go_num, ⟨_, e2, by simpa using hcz, fun j hj => ?_⟩, ke⟩, by simp [intOf]; omega⟩
        by_cases e : j = k
        · subst e; rw [Array.getElem?_setIfInBounds_self_of_lt (by omega)]
        · rw [Array.getElem?_setIfInBounds_ne (Ne.symm e)]; exact HCJ.out j (by omega)
      · obtain rfl : k = n := by omega
        have hgk : ¬ (k : Int) < g := by have := HN.out; omega
        have hcv : (convert 27 9 (.slice (some ⟨bb, 0, none⟩) k k)).run Tryd.prog wr = .ok (.string S) wr := by
          have := run_convert_bytes_back (P := Tryd.prog) wr 27 9 5 ⟨bb, 0, none⟩ k (List.replicate k 49) Tryd.underlying27 Tryd.underlying5 Tryd.underlying9 (fun j hj => by
            have hj' : j < k := by simpa using hj
            rw [show (⟨bb, 0, none⟩ : Addr).add j = ⟨bb, j, none⟩ by unfold Addr.add; split <;> simp_all, bk.cell j (hcj j hj')]
            simp)
          rw [List.length_replicate] at this
          rw [this, ← HSS.out]
        clear hcj bk
        go_wp2_with fail
        refine (HPar.out _).mono ?_; rintro e w2 ⟨c, lo, hi, rfl, hlo, hC, k2⟩
        have kb1 : Below w1.heap.size w1 w2 := (hbel.mono (Nat.le_of_eq hbb)).trans (k2.mono (by have := hbel.size; omega))
        have kb2 : Below w.heap.size w w2 := k1.trans (kb1.mono z1)
        have hM2 := Lib.hid (hM.step kb1)
        have hzr := hbel.size
        have R2 := Lib.hid (⟨hC, kb2, by omega, by have := k2.size; omega, by rw [List.length_replicate]; exact hn1⟩ : Run w.heap.size w w2 lo hi c (List.replicate k true))
        clear hM hC
        go_wp2_with fail
        refine (HNth.out _ _ _ _ R2.out).mono ?_; rintro e w3 ⟨rfl, _, k3⟩
        have R3 := Lib.hid (R2.out.step k3)
        have hM3 := Lib.hid (hM2.out.step k3)
        go_wp2_with fail
        refine (HNext.out _ _ _ _ R3.out).mono ?_; rintro e w4 ⟨rfl, _, k4⟩
        have R4 := Lib.hid (R3.out.step k4)
        have hM4 := Lib.hid (hM3.out.step k4)
        go_wp2_with fail
        refine (num_calls _ _).mono ?_; rintro e _ ⟨rfl, rfl⟩
        go_wp2_with fail
        refine (num_calls _ _).mono ?_; rintro e _ ⟨rfl, rfl⟩
        go_wp2_with fail
        refine (HLen.out _ _ _ _ hM4.out).mono ?_; rintro e _ ⟨rfl, rfl⟩
        go_wp2_with fail
        refine (HCnt.out _ _ _ _ R4.out).mono ?_; rintro e w5 ⟨rfl, _, k5⟩
        have R5 := R4.out.step k5
        replace kb := R5.bel
        go_wp2_with fail
        refine (works_ok _).mono ?_; rintro e w9 ⟨rfl, k9⟩
        go_wp2_with fail
        go_ret
        exact ⟨rfl, kb.trans (k9.mono kb.size)⟩
end Go.Proofs.YtbkegknfmcanaaaDoor
