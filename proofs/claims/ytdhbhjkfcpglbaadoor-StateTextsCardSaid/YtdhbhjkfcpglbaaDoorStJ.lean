/-
  Package pinfoldref14, and ints of pinfoldlaw14: lists of states. Conditions: few states.
-/
import Derived.Test.YtdhbhjkfcpglbaaDoorStI
import Derived.StillTailTactics
namespace Go.Proofs.YtdhbhjkfcpglbaaDoor
open Go.RowKit
attribute [local go_sem] Oper.semAt_some
set_option maxHeartbeats 4000000
set_option maxRecDepth 8000

theorem ints_ok (v1 v2 : Value) (l : List Int) (B1 B2 : Nat) (w : World) (hl : l.length < 1000000) (hv1 : RowAt B1 w v1 l.length (intVals .i64 l)) (hv2 : RowAt B2 w v2 l.length (intVals .i64 l)) (hB1 : B1 ≤ w.heap.size) (hB2 : B2 ≤ w.heap.size) :
    Calls Tryd.prog 30 #[v1, v2] w fun e w' => e = .returned (.bool true) ∧ Below w.heap.size w w' := by
  have H1 := Lib.hid hv1
  have H2 := Lib.hid hv2
  obtain ⟨a1, c1, rfl, _⟩ := hv1.len
  obtain ⟨a2, c2, rfl, _⟩ := hv2.len
  clear hv1 hv2
  go_enter Tryd.func30, Tryd.ntmps30
  go_wp2_with fail
  go_loopw [5] (fun i wr => ∃ k : Nat, k ≤ l.length ∧ i = .int .i64 k ∧ Below w.heap.size w wr) (fun i _ => l.length - (intOf i).toNat)
  case atStart => exact ⟨0, by omega, rfl, Below.refl _ _⟩
  case round =>
    obtain ⟨k, hk, rfl, hb⟩ := hrel
    by_cases hlt : k < l.length
    · obtain ⟨b1, o1, rfl, _, q1⟩ := (H1.out.below hb hB1).geti k hlt
      obtain ⟨b2, o2, rfl, _, q2⟩ := (H2.out.below hb hB2).geti k hlt
      have i0 : (0 : Int) ≤ k := by omega
      have i1 : (k : Int) < l.length := by omega
      obtain ⟨y, hy⟩ : ∃ y, l[k] = y := ⟨_, rfl⟩
      rw [hy] at q1 q2
      have hx' : (y != y) = false := by simp
      clear hy
      go_wp2_with fail
      go_quiet (fail)
      go_wp2_with fail
      exact ⟨⟨k + 1, by omega, by go_num, hb.drewN _⟩, by simp [intOf]; omega⟩
    · obtain rfl : k = l.length := by omega
      go_wp2_with fail
      go_ret
      exact ⟨rfl, hb⟩

theorem rNew_no (many : Int) (w : World) (h : many < 0 ∨ 256 < many) : Calls Tryd.prog 21 #[.int .i64 many] w fun e w' => e = .returned (.tuple #[.slice none 0 0, .int .i64 2]) ∧ w = w' := by
  by_cases h0 : many < 0
  · clear h
    go_enter Tryd.func21, Tryd.ntmps21
    go_wp2_with fail
    go_ret2
    exact ⟨rfl, rfl⟩
  · have h1 : 256 < many := by omega
    clear h
    go_enter Tryd.func21, Tryd.ntmps21
    go_wp2_with fail
    go_ret2
    exact ⟨rfl, rfl⟩
theorem rNew_ok (n : Nat) (w : World) (h : n ≤ 256) : Calls Tryd.prog 21 #[.int .i64 n] w fun e w' => ∃ v, e = .returned (.tuple #[v, .int .i64 0]) ∧ w'.ownsRow w.heap.size 3 1 v n (intVals .i64 (List.replicate n 0)) ∧ Below w.heap.size w w' := by
  obtain ⟨ii, hii, hiz, his, hib, _⟩ := info64
  have h0 : (0 : Int) ≤ n := by omega
  have h1 : (n : Int) ≤ 256 := by omega
  go_enter Tryd.func21, Tryd.ntmps21
  go_wp2_with (at_make; refine wpList_make_full _ rfl _ _ 46 rfl w.heap.size 3 ii (.int .i64 0) 1 Tryd.underlying46 hii hiz his .i64 .i64 n n n rfl rfl rfl rfl (by rw [hib]; omega) (by unfold maxLen; omega) (Nat.le_refl _) ?_)
  intro W1 ho1 hg1
  have k1 : Below w.heap.size w W1 := (Below.refl _ w).grown hg1 (Nat.le_refl _) (fun k e => by cases e)
  rw [show (madeCells #[Value.int IntKind.i64 0] n).toList = intVals .i64 (List.replicate n 0) by rw [made_one]; simp [intVals]] at ho1
  clear hg1
  go_wp2_with fail
  go_ret2
  exact ⟨_, rfl, ho1, k1⟩

/-- The places below k that are that. -/
def plcTo (l : List Int) (x : Int) : Nat → List Int
  | 0 => []
  | k + 1 => if l.getD k 0 = x then plcTo l x k ++ [(k : Int)] else plcTo l x k
theorem plcTo_len (l : List Int) (x : Int) : ∀ k, (plcTo l x k).length ≤ k
  | 0 => Nat.le_refl _
  | k + 1 => by
    have := plcTo_len l x k
    rw [plcTo]; split <;> simp <;> omega
theorem plcTo_cnt (l : List Int) (x : Int) : ∀ k, k ≤ l.length → (plcTo l x k).length = cntI (l.take k) x
  | 0, _ => by simp [plcTo, cntI]
  | k + 1, h => by
    have ih := plcTo_cnt l x k (by omega)
    have e : l.getD k 0 = l[k] := by simp [List.getD, List.getElem?_eq_getElem (show k < l.length by omega)]
    rw [plcTo, e, List.take_succ_eq_append_getElem (by omega)]
    unfold cntI at ih ⊢
    rw [List.countP_append, ← ih]
    by_cases hx : l[k] = x
    · rw [if_pos hx]; simp [hx]
    · rw [if_neg hx]; simp [Ne.symm hx]
def plcL (l : List Int) (x : Int) : List Int := plcTo l x l.length
theorem plcL_len (l : List Int) (x : Int) : (plcL l x).length = cntI l x := by
  unfold plcL; rw [plcTo_cnt l x _ (Nat.le_refl _), List.take_length]
theorem Places_ok (v : Value) (l : List Int) (B : Nat) (x : Int) (w : World) (hB : B ≤ w.heap.size) (hl : l.length < 1000000) (hv : RowAt B w v l.length (intVals .i64 l)) :
    Calls Tryd.prog 31 #[v, .int .i64 x] w fun e w' => ∃ v', e = .returned v' ∧ w'.ownsRow w.heap.size 3 1 v' (plcL l x).length (intVals .i64 (plcL l x)) ∧ Below w.heap.size w w' := by
  have H1 := Lib.hid hv
  obtain ⟨a1, c1, rfl, _⟩ := hv.len
  have hown0 : w.ownsRow w.heap.size 3 1 (.slice none 0 0) 0 [] := ⟨rfl, .inl ⟨rfl, rfl⟩⟩
  clear hv
  go_enter Tryd.func31, Tryd.ntmps31
  go_wp2_with fail
  go_loopw [5, 6] (fun v i wr => ∃ k : Nat, k ≤ l.length ∧ i = .int .i64 k ∧ wr.ownsRow w.heap.size 3 1 v (plcTo l x k).length (intVals .i64 (plcTo l x k)) ∧ Below w.heap.size w wr) (fun _ i _ => l.length - (intOf i).toNat)
  case atStart => exact ⟨0, by omega, rfl, hown0, Below.refl _ _⟩
  case round =>
    obtain ⟨k, hk, rfl, hown, hb⟩ := hrel
    clear hown0
    by_cases hlt : k < l.length
    · obtain ⟨b1, o1, rfl, _, q1⟩ := (H1.out.below hb hB).geti k hlt
      have i0 : (0 : Int) ≤ k := by omega
      have i1 : (k : Int) < l.length := by omega
      have hst : plcTo l x (k + 1) = if l[k] = x then plcTo l x k ++ [(k : Int)] else plcTo l x k := by
        rw [plcTo, show l.getD k 0 = l[k] by simp [List.getD, List.getElem?_eq_getElem hlt]]
      have hlen := plcTo_len l x k
      obtain ⟨y, hy⟩ : ∃ y, l[k] = y := ⟨_, rfl⟩
      rw [hy] at q1 hst
      by_cases hx : y = x
      · rw [if_pos hx] at hst
        have HST := Lib.hid hst
        generalize plcTo l x k = ys at hown hlen HST
        have ha1 := owns_below hown ((Below.refl _ wr).alloc (Nat.le_refl _) (.cells #[.int .i64 (k : Int)] 3)) (Nat.le_refl _)
        subst hx
        have hzY := hb.size
        clear hst hy
        go_wp2_with (at_builtin; refine wpList_append_row rfl _ _ 46 rfl w.heap.size Tryd.underlying46 info64 ys.length (intVals .i64 ys) rfl ha1 (wr.heap.size + 1) 1 [.int .i64 (k : Int)] rfl (RowAt.lit wr #[.int .i64 (k : Int)] 3 1 _ (by omega)) rfl ?c4 ?c5 ?c6 ?c7 ?_)
        case c4 => intro u hu; rw [List.mem_singleton.1 hu]; rfl
        case c5 => unfold maxLen; omega
        case c6 => omega
        case c7 => simp; omega
        intro v2 w2 ho2 hg2
        have k2 := (hb.alloc hzY (.cells #[.int .i64 (k : Int)] 3)).appended ha1 hg2 (Nat.le_refl _) (by simp; omega)
        clear ha1 hg2 hown
        go_wp2_with fail
        exact ⟨⟨k + 1, by omega, by go_num, by rw [HST.out, List.length_append]; simpa [intVals] using ho2, k2⟩, by simp [intOf]; omega⟩
      · rw [if_neg hx] at hst
        have HST := Lib.hid hst
        have HO := Lib.hid hown
        have hx' : (y == x) = false := by simpa using hx
        clear hst hown hy
        go_wp2_with fail
        exact ⟨⟨k + 1, by omega, by go_num, by rw [HST.out]; exact HO.out, hb⟩, by simp [intOf]; omega⟩
    · obtain rfl : k = l.length := by omega
      have HO := Lib.hid hown
      obtain ⟨a2, c2, rfl, _⟩ := (RowAt.of_owns hown (Nat.le_refl _)).len
      clear hown
      go_wp2_with fail
      go_ret
      exact ⟨_, rfl, HO.out, hb⟩

theorem txt_snoc (l : List Int) (x : Int) : (⟨(txtL (l ++ [x])).toArray⟩ : ByteArray) = ⟨(txtL l).toArray⟩ ++ ⟨#[letU x]⟩ := by
  apply ByteArray.ext
  simp [txtL]
theorem rText_ok (v : Value) (l : List Int) (B : Nat) (w : World) (hB : B ≤ w.heap.size) (hl : l.length ≤ 256) (hs : ∀ x ∈ l, isSt x = true) (hv : RowAt B w v l.length (intVals .i64 l)) :
    Calls Tryd.prog 29 #[v] w fun e w' => e = .returned (.string ⟨(txtL l).toArray⟩) ∧ Below w.heap.size w w' := by
  have H1 := Lib.hid hv
  obtain ⟨a1, c1, rfl, _⟩ := hv.len
  have HS := Lib.hid hs
  clear hv hs
  go_enter Tryd.func29, Tryd.ntmps29
  go_wp2_with fail
  go_loopw [3, 4] (fun v i wr => ∃ k : Nat, k ≤ l.length ∧ i = .int .i64 k ∧ v = .string ⟨(txtL (l.take k)).toArray⟩ ∧ Below w.heap.size w wr) (fun _ i _ => l.length - (intOf i).toNat)
  case atStart => exact ⟨0, by omega, rfl, rfl, Below.refl _ _⟩
  case round =>
    obtain ⟨k, hk, rfl, rfl, hb⟩ := hrel
    by_cases hlt : k < l.length
    · obtain ⟨b1, o1, rfl, _, q1⟩ := (H1.out.below hb hB).geti k hlt
      have i0 : (0 : Int) ≤ k := by omega
      have i1 : (k : Int) < l.length := by omega
      have htk : l.take (k + 1) = l.take k ++ [l[k]] := List.take_succ_eq_append_getElem hlt
      have hst := HS.out l[k] (List.getElem_mem hlt)
      obtain ⟨y, hy⟩ : ∃ y, l[k] = y := ⟨_, rfl⟩
      rw [hy] at q1 htk hst
      have HTK := Lib.hid htk
      have hsz : (⟨(txtL (l.take k)).toArray⟩ : ByteArray).size ≤ 256 := by show (txtL (l.take k)).toArray.size ≤ 256; simp [txtL]; omega
      obtain ⟨bs, hbs⟩ : ∃ bs, (⟨(txtL (l.take k)).toArray⟩ : ByteArray) = bs := ⟨_, rfl⟩
      rw [hbs] at hsz ⊢
      have HBS := Lib.hid hbs
      clear hbs
      clear htk hy
      rcases isSt_cases hst with hx | hx | hx | hx | hx
      all_goals clear hst
      · subst hx
        go_wp2_with fail
        go_quiet (fail)
        go_wp2_with fail
        exact ⟨⟨k + 1, by omega, by go_num, by rw [HTK.out, txt_snoc, HBS.out]; rfl, hb.drewN _⟩, by simp [intOf]; omega⟩
      · subst hx
        go_wp2_with fail
        go_quiet (fail)
        go_wp2_with fail
        exact ⟨⟨k + 1, by omega, by go_num, by rw [HTK.out, txt_snoc, HBS.out]; rfl, hb.drewN _⟩, by simp [intOf]; omega⟩
      · subst hx
        go_wp2_with fail
        go_quiet (fail)
        go_wp2_with fail
        exact ⟨⟨k + 1, by omega, by go_num, by rw [HTK.out, txt_snoc, HBS.out]; rfl, hb.drewN _⟩, by simp [intOf]; omega⟩
      · subst hx
        go_wp2_with fail
        go_quiet (fail)
        go_wp2_with fail
        exact ⟨⟨k + 1, by omega, by go_num, by rw [HTK.out, txt_snoc, HBS.out]; rfl, hb.drewN _⟩, by simp [intOf]; omega⟩
      · subst hx
        go_wp2_with fail
        go_quiet (fail)
        go_wp2_with fail
        exact ⟨⟨k + 1, by omega, by go_num, by rw [HTK.out, txt_snoc, HBS.out]; rfl, hb.drewN _⟩, by simp [intOf]; omega⟩
    · obtain rfl : k = l.length := by omega
      rw [List.take_length]
      go_wp2_with fail
      go_ret
      exact ⟨rfl, hb⟩
end Go.Proofs.YtdhbhjkfcpglbaaDoor
