/-
  Package pinfoldref04: New, Text, Next, Same. Conditions: few marks.
-/
import Derived.Test.YtbkegknfmcanaaaDoorBiP
import Derived.Laws.IdiomStrings
import Derived.Laws.BytesArg
namespace Go.Proofs.YtbkegknfmcanaaaDoor
open Go.RowKit
attribute [local go_sem] Oper.semAt_some
set_option maxHeartbeats 4000000
set_option maxRecDepth 8000

theorem rNew_no (many : Int) (w : World) (h : many < 0 ∨ 4096 < many) : Calls Tryd.prog 23 #[.int .i64 many] w fun e w' => e = .returned (.tuple #[.slice none 0 0, .int .i64 2]) ∧ w = w' := by
  by_cases h0 : many < 0
  · clear h
    go_enter Tryd.func23, Tryd.ntmps23
    go_wp2_with fail
    go_ret2
    exact ⟨rfl, rfl⟩
  · have h1 : 4096 < many := by omega
    clear h
    go_enter Tryd.func23, Tryd.ntmps23
    go_wp2_with fail
    go_ret2
    exact ⟨rfl, rfl⟩
theorem rNew_ok (n : Nat) (w : World) (h : n ≤ 4096) : Calls Tryd.prog 23 #[.int .i64 n] w fun e w' => ∃ v, e = .returned (.tuple #[v, .int .i64 0]) ∧ w'.ownsRow w.heap.size 4 1 v n (bvals (List.replicate n false)) ∧ Below w.heap.size w w' := by
  obtain ⟨ii, hii, hiz, his, hib, _⟩ := infoB
  have h0 : (0 : Int) ≤ n := by omega
  have h1 : (n : Int) ≤ 4096 := by omega
  go_enter Tryd.func23, Tryd.ntmps23
  go_wp2_with (at_make; refine wpList_make_full _ rfl _ _ 34 rfl w.heap.size 4 ii (.bool false) 1 Tryd.underlying34 hii hiz his .i64 .i64 n n n rfl rfl rfl rfl (by rw [hib]; omega) (by unfold maxLen; omega) (Nat.le_refl _) ?_)
  intro W1 ho1 hg1
  have k1 : Below w.heap.size w W1 := (Below.refl _ w).grown hg1 (Nat.le_refl _) (fun k e => by cases e)
  rw [show (madeCells #[Value.bool false] n).toList = bvals (List.replicate n false) by rw [made_one]; simp [bvals]] at ho1
  clear hg1
  go_wp2_with fail
  go_ret2
  exact ⟨_, rfl, ho1, k1⟩
theorem conv_row {W : World} {base n : Nat} {v : Value} {bs : List UInt8} (h : W.ownsRow base 5 1 v n (Lib.byteCells bs)) (hn : bs.length = n) : (convert 27 9 v).run Tryd.prog W = .ok (.string ⟨bs.toArray⟩) W := by
  subst hn
  by_cases h0 : 0 < bs.length
  · obtain ⟨g, cap, rfl, _, _⟩ := World.ownsRow.form h h0
    exact run_convert_bytes_back (P := Tryd.prog) W 27 9 5 ⟨g, 0, none⟩ cap bs Tryd.underlying27 Tryd.underlying5 Tryd.underlying9 (fun j hj => by
      rw [show (⟨g, 0, none⟩ : Addr).add j = ⟨g, j, none⟩ by unfold Addr.add; split <;> simp_all, World.ownsRow.cellAt h j (by omega)]
      simp [Lib.byteCells, hj])
  · obtain rfl : bs = [] := List.eq_nil_of_length_eq_zero (by omega)
    obtain ⟨a, c, rfl, _⟩ := (RowAt.of_owns h (Nat.le_refl _)).len
    cases a with
    | none => exact run_convert_bytes_nil (P := Tryd.prog) W 27 5 Tryd.underlying27 Tryd.underlying5 0 c 9 Tryd.underlying9
    | some a =>
      obtain ⟨b, off, spot⟩ := a
      have hsp : spot = none := by
        rcases h.2 with ⟨h1, _⟩ | ⟨g, cap, cur, e, _⟩
        · cases h1
        · simp only [Value.slice.injEq, Option.some.injEq, Addr.mk.injEq] at e; exact e.1.2.2
      subst hsp
      exact run_convert_bytes_back (P := Tryd.prog) W 27 9 5 ⟨b, off, none⟩ c [] Tryd.underlying27 Tryd.underlying5 Tryd.underlying9 (fun j hj => by simp at hj)
theorem rText_ok (v : Value) (L : List Bool) (B : Nat) (w : World) (hB : B ≤ w.heap.size) (hl : L.length ≤ 4096) (hv : RowAt B w v L.length (bvals L)) :
    Calls Tryd.prog 38 #[v] w fun e w' => e = .returned (.string ⟨(txtB L).toArray⟩) ∧ Below w.heap.size w w' := by
  have H1 := Lib.hid hv
  obtain ⟨a1, c1, rfl, _⟩ := hv.len
  have hown0 : w.ownsRow w.heap.size 5 1 (.slice none 0 0) 0 (Lib.byteCells (txtB (L.take 0))) := ⟨rfl, .inl ⟨rfl, rfl⟩⟩
  clear hv
  go_enter Tryd.func38, Tryd.ntmps38
  go_wp2_with fail
  go_loopw [3, 4] (fun v i wr => ∃ k : Nat, k ≤ L.length ∧ i = .int .i64 k ∧ wr.ownsRow w.heap.size 5 1 v k (Lib.byteCells (txtB (L.take k))) ∧ Below w.heap.size w wr) (fun _ i _ => L.length - (intOf i).toNat)
  case atStart => exact ⟨0, by omega, rfl, hown0, Below.refl _ _⟩
  case round =>
    obtain ⟨k, hk, rfl, hown, hb⟩ := hrel
    clear hown0
    by_cases hlt : k < L.length
    · obtain ⟨b1, o1, rfl, _, q1⟩ := (H1.out.below hb hB).getb k hlt
      have i0 : (0 : Int) ≤ k := by omega
      have i1 : (k : Int) < L.length := by omega
      have htk : L.take (k + 1) = L.take k ++ [L.getD k false] := by rw [List.take_succ_eq_append_getElem hlt]; simp [List.getD, List.getElem?_eq_getElem hlt]
      cases hd : L.getD k false with
      | true =>
        rw [hd] at q1 htk
        have hst : txtB (L.take (k + 1)) = txtB (L.take k) ++ [49] := by rw [htk]; simp [txtB, txtU]
        have HST := Lib.hid hst
        have ha1 := owns_below hown ((Below.refl _ wr).alloc (Nat.le_refl _) (.cells #[.int .u8 49] 5)) (Nat.le_refl _)
        have hzY := hb.size
        clear hst htk hd
        go_wp2_with (at_builtin; refine wpList_append_row rfl _ _ 27 rfl w.heap.size Tryd.underlying27 info8 k (Lib.byteCells (txtB (L.take k))) rfl ha1 (wr.heap.size + 1) 1 [.int .u8 49] rfl (RowAt.lit wr #[.int .u8 49] 5 1 _ (by omega)) rfl ?c4 ?c5 ?c6 ?c7 ?_)
        case c4 => intro u hu; rw [List.mem_singleton.1 hu]; rfl
        case c5 => unfold maxLen; omega
        case c6 => omega
        case c7 => simp; omega
        intro v2 w2 ho2 hg2
        have k2 := (hb.alloc hzY (.cells #[.int .u8 49] 5)).appended ha1 hg2 (Nat.le_refl _) (by simp; omega)
        clear ha1 hg2 hown
        go_wp2_with fail
        exact ⟨⟨k + 1, by omega, by go_num, by rw [HST.out, byteCells_snoc]; exact ho2, k2⟩, by simp [intOf]; omega⟩
      | false =>
        rw [hd] at q1 htk
        have hst : txtB (L.take (k + 1)) = txtB (L.take k) ++ [48] := by rw [htk]; simp [txtB, txtU]
        have HST := Lib.hid hst
        have ha1 := owns_below hown ((Below.refl _ wr).alloc (Nat.le_refl _) (.cells #[.int .u8 48] 5)) (Nat.le_refl _)
        have hzY := hb.size
        clear hst htk hd
        go_wp2_with (at_builtin; refine wpList_append_row rfl _ _ 27 rfl w.heap.size Tryd.underlying27 info8 k (Lib.byteCells (txtB (L.take k))) rfl ha1 (wr.heap.size + 1) 1 [.int .u8 48] rfl (RowAt.lit wr #[.int .u8 48] 5 1 _ (by omega)) rfl ?c4 ?c5 ?c6 ?c7 ?_)
        case c4 => intro u hu; rw [List.mem_singleton.1 hu]; rfl
        case c5 => unfold maxLen; omega
        case c6 => omega
        case c7 => simp; omega
        intro v2 w2 ho2 hg2
        have k2 := (hb.alloc hzY (.cells #[.int .u8 48] 5)).appended ha1 hg2 (Nat.le_refl _) (by simp; omega)
        clear ha1 hg2 hown
        go_wp2_with fail
        exact ⟨⟨k + 1, by omega, by go_num, by rw [HST.out, byteCells_snoc]; exact ho2, k2⟩, by simp [intOf]; omega⟩
    · obtain rfl : k = L.length := by omega
      rw [List.take_length] at hown
      have hcv := conv_row hown (txtB_len L)
      obtain ⟨a2, c2, rfl, _⟩ := (RowAt.of_owns hown (Nat.le_refl _)).len
      clear hown
      go_wp2_with fail
      go_ret
      exact ⟨rfl, hb⟩
def nxtI (l : List Int) : Int := l.headD (-1)
theorem rNext_ok (v : Value) (L : List Bool) (B : Nat) (f : Int) (b : Bool) (w : World) (hB : B ≤ w.heap.size) (hl : L.length ≤ 4096) (hv : RowAt B w v L.length (bvals L)) :
    Calls Tryd.prog 37 #[v, .int .i64 f, .bool b] w fun e w' => e = .returned (.int .i64 (nxtI (sucL L f b))) ∧ w = w' := by
  have H1 := Lib.hid hv
  obtain ⟨a1, c1, rfl, _⟩ := hv.len
  clear hv
  go_enter Tryd.func37, Tryd.ntmps37
  go_wp2_with fail
  go_loopw [7] (fun i wr => ∃ k : Nat, k ≤ L.length ∧ i = .int .i64 k ∧ sucTo L f b k = [] ∧ w = wr) (fun i _ => L.length - (intOf i).toNat)
  case atStart => exact ⟨0, by omega, rfl, rfl, rfl⟩
  case round =>
    obtain ⟨k, hk, rfl, hnil, rfl⟩ := hrel
    by_cases hlt : k < L.length
    · obtain ⟨b1, o1, rfl, _, q1⟩ := H1.out.getb k hlt
      have i0 : (0 : Int) ≤ k := by omega
      have i1 : (k : Int) < L.length := by omega
      have hst : sucTo L f b (k + 1) = if f ≤ k ∧ L.getD k false = b then sucTo L f b k ++ [(k : Int)] else sucTo L f b k := rfl
      have hsp := suc_split L f b k hlt
      obtain ⟨d, hd⟩ : ∃ d, L.getD k false = d := ⟨_, rfl⟩
      rw [hd] at q1 hst hsp
      by_cases hf : f ≤ k
      · by_cases hdb : d = b
        · obtain ⟨suf, hs⟩ := hsp ⟨hf, hdb⟩
          rw [hnil] at hs
          have hdx : (d == b) = true := by simpa using hdb
          have HS := Lib.hid (show nxtI (sucL L f b) = k by rw [hs]; rfl)
          clear hs hsp hst hnil hd hdb
          go_wp2_with fail
          go_ret
          exact ⟨by rw [HS.out]; rfl, rfl⟩
        · rw [if_neg (fun h => hdb h.2), hnil] at hst
          have hdx : (d == b) = false := by simpa using hdb
          have HST := Lib.hid hst
          clear hsp hst hnil hd hdb
          go_wp2_with fail
          exact ⟨⟨k + 1, by omega, by go_num, HST.out, trivial⟩, by simp [intOf]; omega⟩
      · rw [if_neg (fun h => hf h.1), hnil] at hst
        have HST := Lib.hid hst
        have hf' : (k : Int) < f := by omega
        clear hsp hst hnil hd hf
        go_wp2_with fail
        exact ⟨⟨k + 1, by omega, by go_num, HST.out, trivial⟩, by simp [intOf]; omega⟩
    · obtain rfl : k = L.length := by omega
      have HS := Lib.hid (show nxtI (sucL L f b) = -1 by unfold sucL; rw [hnil]; rfl)
      clear hnil
      go_wp2_with fail
      go_ret
      exact ⟨by rw [HS.out]; rfl, rfl⟩
theorem suc_nonneg (L : List Bool) (f : Int) (b : Bool) : ∀ k, ∀ x ∈ sucTo L f b k, 0 ≤ x
  | 0, x, h => by simp [sucTo] at h
  | k + 1, x, h => by
    rw [sucTo] at h
    split at h
    · rcases List.mem_append.1 h with h | h
      · exact suc_nonneg L f b k x h
      · rw [List.mem_singleton.1 h]; omega
    · exact suc_nonneg L f b k x h
theorem txt_eq (L M : List Bool) : ((⟨(txtB L).toArray⟩ : ByteArray).toList == (⟨(txtB M).toArray⟩ : ByteArray).toList) = decide (L = M) := by
  by_cases h : L = M
  · subst h; simp
  · rw [decide_eq_false h, beq_eq_false_iff_ne]
    intro e
    rw [ByteArray.toList_eq, ByteArray.toList_eq] at e
    have e2 : txtB L = txtB M := by simpa using e
    exact h (by rw [← par_txt L, ← par_txt M, e2])
theorem rSame_ok (v u : Value) (L M : List Bool) (B : Nat) (w : World) (hB : B ≤ w.heap.size) (hl : L.length ≤ 4096) (hm : M.length ≤ 4096) (hv : RowAt B w v L.length (bvals L)) (hu : RowAt B w u M.length (bvals M)) :
    Calls Tryd.prog 28 #[v, u] w fun e w' => e = .returned (.bool (decide (L = M))) ∧ Below w.heap.size w w' := by
  have H1 := Lib.hid (fun W (k : Below w.heap.size w W) => rText_ok v L B W (Nat.le_trans hB k.size) hl (hv.below k hB))
  have H2 := Lib.hid (fun W (k : Below w.heap.size w W) => rText_ok u M B W (Nat.le_trans hB k.size) hm (hu.below k hB))
  have he := txt_eq L M
  obtain ⟨t1, h1⟩ : ∃ t, (⟨(txtB L).toArray⟩ : ByteArray) = t := ⟨_, rfl⟩
  obtain ⟨t2, h2⟩ : ∃ t, (⟨(txtB M).toArray⟩ : ByteArray) = t := ⟨_, rfl⟩
  rw [h1] at H1 he
  rw [h2] at H2 he
  obtain ⟨d, hd⟩ : ∃ d, decide (L = M) = d := ⟨_, rfl⟩
  rw [hd] at he ⊢
  obtain ⟨a1, c1, rfl, _⟩ := hv.len
  obtain ⟨a2, c2, rfl, _⟩ := hu.len
  clear h1 h2 hd hv hu
  go_enter Tryd.func28, Tryd.ntmps28
  go_wp2_with fail
  refine (H1.out w (Below.refl _ _)).mono ?_; rintro e w1 ⟨rfl, k1⟩
  go_wp2_with fail
  refine (H2.out w1 k1).mono ?_; rintro e w2 ⟨rfl, k2⟩
  go_wp2_with fail
  go_ret
  exact ⟨rfl, k1.trans (k2.mono k1.size)⟩
end Go.Proofs.YtbkegknfmcanaaaDoor
