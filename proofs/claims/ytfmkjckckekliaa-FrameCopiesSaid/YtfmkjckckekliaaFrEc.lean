/-
  Package pinfoldlaw07: FrameCopies. Conditions: the row is of few bytes.
-/
import Derived.Test.YtfmkjckckekliaaFrEb
import Derived.Test.YtfmkjckckekliaaBSub
namespace Go.Proofs.Ytfmkjckckekliaa
open Go.RowKit
attribute [local go_sem] Oper.semAt_some
set_option maxHeartbeats 2000000
set_option maxRecDepth 8000

theorem copies_body (v0 : Value) (l : List ActV) (x y : ActV) (many : Int) (w : World) (hv : ActsAt w.heap.size w v0 l) (hnil : ∀ n c, v0 = .slice none n c → n = 0 ∧ c = 0) (hl : ∀ a n c, v0 = .slice a n c → n * 56 ≤ reachBytes)
    (hx : RowAt w.heap.size w x.v x.bs.length (intVals .u8 x.bs) ∧ ∀ z ∈ x.bs, 0 ≤ z ∧ z < 256) (hy : RowAt w.heap.size w y.v y.bs.length (intVals .u8 y.bs) ∧ ∀ z ∈ y.bs, 0 ≤ z ∧ z < 256) :
    Calls Try.prog 6 #[v0, .agg (two10 x y), .int .i64 many] w fun e w' => e = .returned (.bool true) ∧ Below w.heap.size w w' := by
  have hfn := fun (fn : Fn) (x y : Array Value) (w : World) => run_eql_func_nil (P := Try.prog) Try.underlying66 fn x y w
  have HFN := Lib.hid hfn
  clear hfn
  have hrow := acts_row hv hnil
  have hin : ∀ z ∈ l, RowAt w.heap.size w z.v z.bs.length (intVals .u8 z.bs) ∧ ∀ u ∈ z.bs, 0 ≤ u ∧ u < 256 := by
    intro z hz
    obtain ⟨a, c, _, _, _, hA⟩ := hv
    rcases hA with h | ⟨b, off, _, hA⟩
    · subst h; cases hz
    · obtain ⟨i, hi, rfl⟩ := List.getElem_of_mem hz
      exact ⟨(hA i hi).row, (hA i hi).bw⟩
  have HV := Lib.hid hv
  obtain ⟨a0, c0, rfl, _, hmx, _⟩ := hv
  have hl9 : l.length * 56 + 112 ≤ 140737488355328 := by have := hl _ _ _ rfl; unfold reachBytes at this; omega
  have hml : l.length ≤ 9223372036854775807 := by omega
  clear hl hnil hmx
  obtain ⟨w1, hw1⟩ : ∃ w1, ((w.alloc (.cells (two10 x y) 63)).alloc (.cells #[.int .i64 many] 3)).drew = w1 := ⟨_, rfl⟩
  have k1 : Below w.heap.size w w1 := by rw [← hw1]; exact (((Below.refl _ w).alloc (Nat.le_refl _) _).alloc (by simp) _).drew
  have b0 : Blk w1 w.heap.size (two10 x y) 63 := by rw [← hw1]; exact ((Blk.new w _ _).alloc _).drew
  have b1 : Blk w1 (w.heap.size + 1) #[.int .i64 many] 3 := by rw [← hw1]; exact (Blk.newAt _ _ _ (by simp)).drew
  have HTW := Lib.hid (fun (Y : World) (k : Below w1.heap.size w1 Y) => TwA.of (b0.below k b0.lt) (b1.below k b1.lt))
  have HMB := Lib.hid (fun (Y : World) (k : Below w1.heap.size w1 Y) => b1.below k b1.lt)
  have z1 := k1.size
  have z2 : w.heap.size + 2 ≤ w1.heap.size := by have := b1.lt; omega
  have HRW := Lib.hid ((hrow.below k1 (Nat.le_refl _)).mono z1)
  have HIN := Lib.hid (show ∀ z ∈ l, RowAt w1.heap.size w1 z.v z.bs.length (intVals .u8 z.bs) ∧ ∀ u ∈ z.bs, 0 ≤ u ∧ u < 256 from fun z hz => ⟨((hin z hz).1.below k1 (Nat.le_refl _)).mono z1, (hin z hz).2⟩)
  have HX := Lib.hid (show RowAt w1.heap.size w1 x.v x.bs.length (intVals .u8 x.bs) ∧ ∀ u ∈ x.bs, 0 ≤ u ∧ u < 256 from ⟨(hx.1.below k1 (Nat.le_refl _)).mono z1, hx.2⟩)
  have HY := Lib.hid (show RowAt w1.heap.size w1 y.v y.bs.length (intVals .u8 y.bs) ∧ ∀ u ∈ y.bs, 0 ≤ u ∧ u < 256 from ⟨(hy.1.below k1 (Nat.le_refl _)).mono z1, hy.2⟩)
  have one : ∀ {B n : Nat} {W : World} {v : Value} {xs : List Value}, RowAt B W v n xs → v.oneCell' = true := fun h => by obtain ⟨a, c, rfl, _⟩ := h.len; rfl
  have HONE := Lib.hid (show ∀ u ∈ actCs l, u.oneCell' = true from fun u hu => by
    obtain ⟨z, hz, hu⟩ := List.mem_flatMap.1 hu
    simp only [actC, List.mem_cons, List.not_mem_nil, or_false] at hu
    rcases hu with rfl | rfl | rfl | rfl | rfl
    · rfl
    · rfl
    · rfl
    · rfl
    · exact one (hin z hz).1)
  have HON2 := Lib.hid (show ∀ u ∈ twoL x y, u.oneCell' = true from fun u hu => by
    simp only [twoL, List.mem_cons, List.not_mem_nil, or_false] at hu
    rcases hu with rfl | rfl | rfl | rfl | rfl | rfl | rfl | rfl | rfl | rfl
    · rfl
    · rfl
    · rfl
    · rfl
    · exact one hx.1
    · rfl
    · rfl
    · rfl
    · rfl
    · exact one hy.1)
  have HVA := Lib.hid (show ∀ (k : Nat) (hk : k < l.length), ∃ b off, a0 = some ⟨b, off, none⟩ ∧ ActAt w.heap.size w1 b (off + k * 5) l[k] from fun k hk => by
    obtain ⟨_, _, hv, _, _, h⟩ := HV.out
    simp only [Value.slice.injEq] at hv
    obtain ⟨rfl, _⟩ := hv
    rcases h with h | ⟨b, off, e, hA⟩
    · rw [h] at hk; simp at hk
    · exact ⟨b, off, e, (hA k hk).below k1 (Nat.le_refl _)⟩)
  clear b0 b1 hin hx hy one HV hrow
  refine calls_of_wp_marks Try.func6 rfl ?_; simp only [Try.ntmps6, List.size_toArray, List.length_cons, List.length_nil, Nat.reduceAdd, Nat.reduceSub, Array.replicate_succ, Array.replicate_zero, List.push_toArray, List.append_toArray, List.nil_append, List.cons_append]
  go_wp2_with fail
  go_cut [42] from 24 (fun v wx => v = .bool (badC l x y many) ∧ Below w1.heap.size w1 wx)
  case first =>
    refine wp_onlyN ?_
    refine wp_region_held_drew (S := TwA w.heap.size (w.heap.size + 1) x y many) (by kernel_rfl) (by have := HTW.out _ (Below.refl _ w1); rw [← hw1] at this; exact this) (fun hHeld => ?_)
    change wpAnyH _ _ _ _ _ _ _ _ (World.drew ((w.alloc (.cells (two10 x y) 63)).alloc (.cells #[.int .i64 many] 3)))
    rw [hw1] at hHeld ⊢
    obtain ⟨Y, hY⟩ : ∃ Y, Y = w1 := ⟨_, rfl⟩
    have kY : Below w1.heap.size w1 Y := by rw [hY]; exact Below.refl _ _
    rw [← hY] at hHeld ⊢
    clear hw1 hY
    refine wpAnyH_take (i := 1) (v := ?_) rfl (by kernel_rfl) (by kernel_rfl) (by kernel_rfl) (fun _ _ _ h => h) (Or.inl ⟨by rfl, ?_⟩) (by assumption) ?_
    rotate_left
    · (intro Y hSw; (try dsimp only at hSw); obtain ⟨hS0, hS1, hS2, hS3, hS4, hS5, hS6, hS7, hS8, hS9, hSm⟩ := hSw; go_simp; try with_reducible rfl)
    try simp only [Act.put, List.getElem_toArray, List.getElem_cons_zero, List.getElem_cons_succ, List.setIfInBounds_toArray, List.set_cons_zero, List.set_cons_succ]
    refine wpAnyH_take (i := 3) (v := ?_) rfl (by kernel_rfl) (by kernel_rfl) (by kernel_rfl) (fun _ _ _ h => h) (Or.inl ⟨by rfl, ?_⟩) (by assumption) ?_
    rotate_left
    · (intro Y hSw; (try dsimp only at hSw); obtain ⟨hS0, hS1, hS2, hS3, hS4, hS5, hS6, hS7, hS8, hS9, hSm⟩ := hSw; go_simp; try with_reducible rfl)
    try simp only [Act.put, List.getElem_toArray, List.getElem_cons_zero, List.getElem_cons_succ, List.setIfInBounds_toArray, List.set_cons_zero, List.set_cons_succ]
    refine wpAnyH_take (i := 4) (v := ?_) rfl (by kernel_rfl) (by kernel_rfl) (by kernel_rfl) (fun _ _ _ h => h) (Or.inl ⟨by rfl, ?_⟩) (by assumption) ?_
    rotate_left
    · (intro Y hSw; (try dsimp only at hSw); obtain ⟨hS0, hS1, hS2, hS3, hS4, hS5, hS6, hS7, hS8, hS9, hSm⟩ := hSw; go_simp; try with_reducible rfl)
    try simp only [Act.put, List.getElem_toArray, List.getElem_cons_zero, List.getElem_cons_succ, List.setIfInBounds_toArray, List.set_cons_zero, List.set_cons_succ]
    refine wpAnyH_take (i := 5) (v := ?_) rfl (by kernel_rfl) (by kernel_rfl) (by kernel_rfl) (fun _ _ _ h => h) (Or.inl ⟨by rfl, ?_⟩) (by assumption) ?_
    rotate_left
    · (intro Y hSw; (try dsimp only at hSw); obtain ⟨hS0, hS1, hS2, hS3, hS4, hS5, hS6, hS7, hS8, hS9, hSm⟩ := hSw; go_simp; try with_reducible rfl)
    try simp only [Act.put, List.getElem_toArray, List.getElem_cons_zero, List.getElem_cons_succ, List.setIfInBounds_toArray, List.set_cons_zero, List.set_cons_succ]
    refine wpAnyH_take (i := 6) (v := ?_) rfl (by kernel_rfl) (by kernel_rfl) (by kernel_rfl) (fun _ _ _ h => h) (Or.inl ⟨by rfl, ?_⟩) (by assumption) ?_
    rotate_left
    · (intro Y hSw; (try dsimp only at hSw); obtain ⟨hS0, hS1, hS2, hS3, hS4, hS5, hS6, hS7, hS8, hS9, hSm⟩ := hSw; go_simp; try with_reducible rfl)
    try simp only [Act.put, List.getElem_toArray, List.getElem_cons_zero, List.getElem_cons_succ, List.setIfInBounds_toArray, List.set_cons_zero, List.set_cons_succ]
    refine wpAnyH_ready (rs := [0, 7]) (by kernel_rfl) (by simp) ?_
    refine AllReadyH.cons rfl (fun K hK => ?_) (AllReadyH.cons rfl (fun K hK => ?_) AllReadyH.nil)
    · go_simp
      obtain ⟨g, hg⟩ : ∃ g, Y.heap.size = g := ⟨_, rfl⟩
      obtain ⟨Z, hZ⟩ : ∃ Z, Y.alloc (.cells #[] 38) = Z := ⟨_, rfl⟩
      have jz : Below Y.heap.size Y Z := by rw [← hZ]; exact (Below.refl _ Y).alloc (Nat.le_refl _) _
      have ho : Z.ownsRow w1.heap.size 38 5 (.slice (some ⟨g, 0, none⟩) 0 0) 0 [] := by rw [← hZ, ← hg]; exact World.ownsRow_made Y #[] 0 kY.size (by decide) rfl
      rw [hZ, hg]
      replace kY := kY.trans (jz.mono kY.size)
      clear hZ
      refine hK.out _ _ (HTW.out _ kY) (fun hHeld => ?_)
      clear hK K
      try simp only [Act.put, List.getElem_toArray, List.getElem_cons_zero, List.getElem_cons_succ, List.setIfInBounds_toArray, List.set_cons_zero, List.set_cons_succ]
      obtain ⟨Y, rfl⟩ : ∃ Y : World, Y = Z := ⟨_, rfl⟩
      refine wpAnyH_ready (rs := [2, 7]) (by kernel_rfl) (by simp) ?_
      refine AllReadyH.cons rfl (fun K hK => ?_) (AllReadyH.cons rfl (fun K hK => ?_) AllReadyH.nil)
      · rw [if_pos (by rfl)]
        refine wp_append_any _ _ 33 rfl w1.heap.size Try.underlying33 infoAct 0 [] rfl ho w1.heap.size l.length (actCs l) rfl (HRW.out.below kY (Nat.le_refl _)) (actCs_len l) HONE.out (by unfold maxLen; omega) (by omega) kY.size ?_
        intro v2 Z ho2 hg2
        rw [Nat.zero_add, List.nil_append] at ho2
        replace kY := kY.appended ho hg2 (Nat.le_refl _) kY.size
        refine hK.out _ _ (HTW.out _ kY) (fun hHeld => ?_)
        clear hK K
        try simp only [Act.put, List.getElem_toArray, List.getElem_cons_zero, List.getElem_cons_succ, List.setIfInBounds_toArray, List.set_cons_zero, List.set_cons_succ]
        obtain ⟨Y, rfl⟩ : ∃ Y : World, Y = Z := ⟨_, rfl⟩
        refine wpAnyH_ready (rs := [7]) (by kernel_rfl) (by simp) ?_
        refine AllReadyH.cons rfl (fun K hK => ?_) AllReadyH.nil
        go_simp
        obtain ⟨lb, hlb⟩ : ∃ g, Y.heap.size = g := ⟨_, rfl⟩
        obtain ⟨Z, hZ⟩ : ∃ Z, Y.alloc (.cells (two10 x y) 38) = Z := ⟨_, rfl⟩
        have jz : Below Y.heap.size Y Z := by rw [← hZ]; exact (Below.refl _ Y).alloc (Nat.le_refl _) _
        have hx : Blk Z lb (two10 x y) 38 := by rw [← hZ, ← hlb]; exact Blk.new Y _ _
        have hZ' := hZ
        unfold two10 at hZ'
        rw [hZ', hlb]
        replace kY := kY.trans (jz.mono kY.size)
        replace ho2 := owns_below ho2 jz (Nat.le_refl _)
        clear hZ hZ'
        refine hK.out _ _ (HTW.out _ kY) (fun hHeld => ?_)
        clear hK K
        try simp only [Act.put, List.getElem_toArray, List.getElem_cons_zero, List.getElem_cons_succ, List.setIfInBounds_toArray, List.set_cons_zero, List.set_cons_succ]
        obtain ⟨Y, rfl⟩ : ∃ Y : World, Y = Z := ⟨_, rfl⟩
        refine wpAnyH_ready (rs := [8]) (by kernel_rfl) (by simp) ?_
        refine AllReadyH.cons rfl (fun K hK => ?_) AllReadyH.nil
        rw [if_pos (by rfl)]
        refine wp_append_rowO _ _ 33 rfl w1.heap.size Try.underlying33 infoAct l.length (actCs l) rfl ho2 (World.heap _).size 2 (twoL x y) rfl (rowOf2 hx) rfl HON2.out (by unfold maxLen; omega) (by omega) kY.size ?_
        intro v3 Z ho3 hg3
        replace kY := kY.appended ho2 hg3 (Nat.le_refl _) kY.size
        rw [actCs_two] at ho3
        have HAC := Lib.hid (acts_owned ho3 (by simp) (fun z hz => by
          have hz9 := kY.size
          rcases List.mem_append.1 hz with h | h
          · exact ((HIN.out z h).1.below kY (Nat.le_refl _)).mono hz9
          · simp only [List.mem_cons, List.not_mem_nil, or_false] at h
            rcases h with rfl | rfl
            · exact (HX.out.1.below kY (Nat.le_refl _)).mono hz9
            · exact (HY.out.1.below kY (Nat.le_refl _)).mono hz9) (fun z hz => by
          rcases List.mem_append.1 hz with h | h
          · exact (HIN.out z h).2
          · simp only [List.mem_cons, List.not_mem_nil, or_false] at h
            rcases h with rfl | rfl
            · exact HX.out.2
            · exact HY.out.2))
        clear ho3 hg3 ho2 hx
        refine hK.out _ _ (HTW.out _ kY) (fun hHeld => ?_)
        clear hK K
        try simp only [Act.put, List.getElem_toArray, List.getElem_cons_zero, List.getElem_cons_succ, List.setIfInBounds_toArray, List.set_cons_zero, List.set_cons_succ]
        refine wpAnyH_ready (rs := [9]) (by kernel_rfl) (by simp) ?_
        refine AllReadyH.cons rfl (fun K hK => ?_) AllReadyH.nil
        go_simp
        refine (few_ok _ (l ++ [x, y]) 32 _ _ HAC.out).mono ?_; rintro e _ ⟨rfl, rfl⟩
        go_simp
        refine hK.out _ _ (HTW.out _ kY) (fun hHeld => ?_)
        clear hK K
        try simp only [Act.put, List.getElem_toArray, List.getElem_cons_zero, List.getElem_cons_succ, List.setIfInBounds_toArray, List.set_cons_zero, List.set_cons_succ]
        obtain ⟨f, hf⟩ : ∃ f, fewI (l ++ [x, y]) 32 = f := ⟨_, rfl⟩
        have HF := Lib.hid hf
        rw [hf]
        clear hf HAC
        cases f with
        | false =>
          refine wpAnyH_take (i := 10) (v := ?_) rfl (by kernel_rfl) (by kernel_rfl) (by kernel_rfl) (fun _ _ _ h => h) (Or.inl ⟨by rfl, ?_⟩) (by assumption) ?_
          rotate_left
          · (intro Y hSw; (try dsimp only at hSw); obtain ⟨hS0, hS1, hS2, hS3, hS4, hS5, hS6, hS7, hS8, hS9, hSm⟩ := hSw; go_simp; try with_reducible rfl)
          try simp only [Act.put, List.getElem_toArray, List.getElem_cons_zero, List.getElem_cons_succ, List.setIfInBounds_toArray, List.set_cons_zero, List.set_cons_succ]
          refine wpAnyH_take (i := 11) (v := ?_) rfl (by kernel_rfl) (by kernel_rfl) (by kernel_rfl) (fun _ _ _ h => h) (Or.inl ⟨by rfl, ?_⟩) (by assumption) ?_
          rotate_left
          · (intro Y hSw; (try dsimp only at hSw); obtain ⟨hS0, hS1, hS2, hS3, hS4, hS5, hS6, hS7, hS8, hS9, hSm⟩ := hSw; go_simp; try with_reducible rfl)
          try simp only [Act.put, List.getElem_toArray, List.getElem_cons_zero, List.getElem_cons_succ, List.setIfInBounds_toArray, List.set_cons_zero, List.set_cons_succ]
          refine wpAnyH_take (i := 12) (v := undef) rfl (by kernel_rfl) (by kernel_rfl) (by kernel_rfl) (fun _ _ _ h => h) (Or.inr ⟨by rfl, rfl⟩) (by assumption) ?_
          try simp only [Act.put, List.getElem_toArray, List.getElem_cons_zero, List.getElem_cons_succ, List.setIfInBounds_toArray, List.set_cons_zero, List.set_cons_succ]
          refine wpAnyH_take (i := 13) (v := undef) rfl (by kernel_rfl) (by kernel_rfl) (by kernel_rfl) (fun _ _ _ h => h) (Or.inr ⟨by rfl, rfl⟩) (by assumption) ?_
          try simp only [Act.put, List.getElem_toArray, List.getElem_cons_zero, List.getElem_cons_succ, List.setIfInBounds_toArray, List.set_cons_zero, List.set_cons_succ]
          refine wpAnyH_take (i := 14) (v := ?_) rfl (by kernel_rfl) (by kernel_rfl) (by kernel_rfl) (fun _ _ _ h => h) (Or.inl ⟨by rfl, ?_⟩) (by assumption) ?_
          rotate_left
          · (intro Y hSw; (try dsimp only at hSw); obtain ⟨hS0, hS1, hS2, hS3, hS4, hS5, hS6, hS7, hS8, hS9, hSm⟩ := hSw; go_simp; try with_reducible rfl)
          try simp only [Act.put, List.getElem_toArray, List.getElem_cons_zero, List.getElem_cons_succ, List.setIfInBounds_toArray, List.set_cons_zero, List.set_cons_succ]
          refine wpAnyH_take (i := 15) (v := ?_) rfl (by kernel_rfl) (by kernel_rfl) (by kernel_rfl) (fun _ _ _ h => h) (Or.inl ⟨by rfl, ?_⟩) (by assumption) ?_
          rotate_left
          · (intro Y hSw; (try dsimp only at hSw); obtain ⟨hS0, hS1, hS2, hS3, hS4, hS5, hS6, hS7, hS8, hS9, hSm⟩ := hSw; go_simp; try with_reducible rfl)
          try simp only [Act.put, List.getElem_toArray, List.getElem_cons_zero, List.getElem_cons_succ, List.setIfInBounds_toArray, List.set_cons_zero, List.set_cons_succ]
          refine wpAnyH_take (i := 16) (v := undef) rfl (by kernel_rfl) (by kernel_rfl) (by kernel_rfl) (fun _ _ _ h => h) (Or.inr ⟨by rfl, rfl⟩) (by assumption) ?_
          try simp only [Act.put, List.getElem_toArray, List.getElem_cons_zero, List.getElem_cons_succ, List.setIfInBounds_toArray, List.set_cons_zero, List.set_cons_succ]
          refine wpAnyH_take (i := 17) (v := undef) rfl (by kernel_rfl) (by kernel_rfl) (by kernel_rfl) (fun _ _ _ h => h) (Or.inr ⟨by rfl, rfl⟩) (by assumption) ?_
          try simp only [Act.put, List.getElem_toArray, List.getElem_cons_zero, List.getElem_cons_succ, List.setIfInBounds_toArray, List.set_cons_zero, List.set_cons_succ]
          refine wpAnyH_take (i := 18) (v := ?_) rfl (by kernel_rfl) (by kernel_rfl) (by kernel_rfl) (fun _ _ _ h => h) (Or.inl ⟨by rfl, ?_⟩) (by assumption) ?_
          rotate_left
          · (intro Y hSw; (try dsimp only at hSw); obtain ⟨hS0, hS1, hS2, hS3, hS4, hS5, hS6, hS7, hS8, hS9, hSm⟩ := hSw; go_simp; try with_reducible rfl)
          try simp only [Act.put, List.getElem_toArray, List.getElem_cons_zero, List.getElem_cons_succ, List.setIfInBounds_toArray, List.set_cons_zero, List.set_cons_succ]
          refine wpAnyH_done (by kernel_rfl) ?_ _
          rw [onlyN_normal]
          go_wp2_with fail
          go_meet
          case rel => exact ⟨by unfold badC; rw [HF.out]; rfl, kY⟩
        | true =>
          refine wpAnyH_take (i := 10) (v := ?_) rfl (by kernel_rfl) (by kernel_rfl) (by kernel_rfl) (fun _ _ _ h => h) (Or.inl ⟨by rfl, ?_⟩) (by assumption) ?_
          rotate_left
          · (intro Y hSw; (try dsimp only at hSw); obtain ⟨hS0, hS1, hS2, hS3, hS4, hS5, hS6, hS7, hS8, hS9, hSm⟩ := hSw; go_simp; try with_reducible rfl)
          try simp only [Act.put, List.getElem_toArray, List.getElem_cons_zero, List.getElem_cons_succ, List.setIfInBounds_toArray, List.set_cons_zero, List.set_cons_succ]
          refine wpAnyH_take (i := 11) (v := ?_) rfl (by kernel_rfl) (by kernel_rfl) (by kernel_rfl) (fun _ _ _ h => h) (Or.inl ⟨by rfl, ?_⟩) (by assumption) ?_
          rotate_left
          · (intro Y hSw; (try dsimp only at hSw); obtain ⟨hS0, hS1, hS2, hS3, hS4, hS5, hS6, hS7, hS8, hS9, hSm⟩ := hSw; go_simp; try with_reducible rfl)
          try simp only [Act.put, List.getElem_toArray, List.getElem_cons_zero, List.getElem_cons_succ, List.setIfInBounds_toArray, List.set_cons_zero, List.set_cons_succ]
          refine wpAnyH_take (i := 12) (v := ?_) rfl (by kernel_rfl) (by kernel_rfl) (by kernel_rfl) (fun _ _ _ h => h) (Or.inl ⟨by rfl, ?_⟩) (by assumption) ?_
          rotate_left
          · (intro Y hSw; (try dsimp only at hSw); obtain ⟨hS0, hS1, hS2, hS3, hS4, hS5, hS6, hS7, hS8, hS9, hSm⟩ := hSw; go_simp; try with_reducible rfl)
          try simp only [Act.put, List.getElem_toArray, List.getElem_cons_zero, List.getElem_cons_succ, List.setIfInBounds_toArray, List.set_cons_zero, List.set_cons_succ]
          by_cases h1 : many < 1
          · refine wpAnyH_take (i := 13) (v := .bool true) rfl (by kernel_rfl) (by kernel_rfl) (by kernel_rfl) (fun _ _ _ h => h) (Or.inl ⟨by rfl, by intro Y hSw; go_simp; try omega⟩) (by assumption) ?_
            try simp only [Act.put, List.getElem_toArray, List.getElem_cons_zero, List.getElem_cons_succ, List.setIfInBounds_toArray, List.set_cons_zero, List.set_cons_succ]
            refine wpAnyH_take (i := 14) (v := ?_) rfl (by kernel_rfl) (by kernel_rfl) (by kernel_rfl) (fun _ _ _ h => h) (Or.inl ⟨by rfl, ?_⟩) (by assumption) ?_
            rotate_left
            · (intro Y hSw; (try dsimp only at hSw); obtain ⟨hS0, hS1, hS2, hS3, hS4, hS5, hS6, hS7, hS8, hS9, hSm⟩ := hSw; go_simp; try with_reducible rfl)
            try simp only [Act.put, List.getElem_toArray, List.getElem_cons_zero, List.getElem_cons_succ, List.setIfInBounds_toArray, List.set_cons_zero, List.set_cons_succ]
            refine wpAnyH_take (i := 15) (v := ?_) rfl (by kernel_rfl) (by kernel_rfl) (by kernel_rfl) (fun _ _ _ h => h) (Or.inl ⟨by rfl, ?_⟩) (by assumption) ?_
            rotate_left
            · (intro Y hSw; (try dsimp only at hSw); obtain ⟨hS0, hS1, hS2, hS3, hS4, hS5, hS6, hS7, hS8, hS9, hSm⟩ := hSw; go_simp; try with_reducible rfl)
            try simp only [Act.put, List.getElem_toArray, List.getElem_cons_zero, List.getElem_cons_succ, List.setIfInBounds_toArray, List.set_cons_zero, List.set_cons_succ]
            refine wpAnyH_take (i := 16) (v := undef) rfl (by kernel_rfl) (by kernel_rfl) (by kernel_rfl) (fun _ _ _ h => h) (Or.inr ⟨by rfl, rfl⟩) (by assumption) ?_
            try simp only [Act.put, List.getElem_toArray, List.getElem_cons_zero, List.getElem_cons_succ, List.setIfInBounds_toArray, List.set_cons_zero, List.set_cons_succ]
            refine wpAnyH_take (i := 17) (v := undef) rfl (by kernel_rfl) (by kernel_rfl) (by kernel_rfl) (fun _ _ _ h => h) (Or.inr ⟨by rfl, rfl⟩) (by assumption) ?_
            try simp only [Act.put, List.getElem_toArray, List.getElem_cons_zero, List.getElem_cons_succ, List.setIfInBounds_toArray, List.set_cons_zero, List.set_cons_succ]
            refine wpAnyH_take (i := 18) (v := ?_) rfl (by kernel_rfl) (by kernel_rfl) (by kernel_rfl) (fun _ _ _ h => h) (Or.inl ⟨by rfl, ?_⟩) (by assumption) ?_
            rotate_left
            · (intro Y hSw; (try dsimp only at hSw); obtain ⟨hS0, hS1, hS2, hS3, hS4, hS5, hS6, hS7, hS8, hS9, hSm⟩ := hSw; go_simp; try with_reducible rfl)
            try simp only [Act.put, List.getElem_toArray, List.getElem_cons_zero, List.getElem_cons_succ, List.setIfInBounds_toArray, List.set_cons_zero, List.set_cons_succ]
            refine wpAnyH_done (by kernel_rfl) ?_ _
            rw [onlyN_normal]
            go_wp2_with fail
            go_meet
            case rel => exact ⟨by unfold badC; rw [HF.out, decide_eq_true h1]; rfl, kY⟩
          · refine wpAnyH_take (i := 13) (v := .bool false) rfl (by kernel_rfl) (by kernel_rfl) (by kernel_rfl) (fun _ _ _ h => h) (Or.inl ⟨by rfl, by intro Y hSw; go_simp; try omega⟩) (by assumption) ?_
            try simp only [Act.put, List.getElem_toArray, List.getElem_cons_zero, List.getElem_cons_succ, List.setIfInBounds_toArray, List.set_cons_zero, List.set_cons_succ]
            refine wpAnyH_take (i := 14) (v := ?_) rfl (by kernel_rfl) (by kernel_rfl) (by kernel_rfl) (fun _ _ _ h => h) (Or.inl ⟨by rfl, ?_⟩) (by assumption) ?_
            rotate_left
            · (intro Y hSw; (try dsimp only at hSw); obtain ⟨hS0, hS1, hS2, hS3, hS4, hS5, hS6, hS7, hS8, hS9, hSm⟩ := hSw; go_simp; try with_reducible rfl)
            try simp only [Act.put, List.getElem_toArray, List.getElem_cons_zero, List.getElem_cons_succ, List.setIfInBounds_toArray, List.set_cons_zero, List.set_cons_succ]
            refine wpAnyH_take (i := 15) (v := ?_) rfl (by kernel_rfl) (by kernel_rfl) (by kernel_rfl) (fun _ _ _ h => h) (Or.inl ⟨by rfl, ?_⟩) (by assumption) ?_
            rotate_left
            · (intro Y hSw; (try dsimp only at hSw); obtain ⟨hS0, hS1, hS2, hS3, hS4, hS5, hS6, hS7, hS8, hS9, hSm⟩ := hSw; go_simp; try with_reducible rfl)
            try simp only [Act.put, List.getElem_toArray, List.getElem_cons_zero, List.getElem_cons_succ, List.setIfInBounds_toArray, List.set_cons_zero, List.set_cons_succ]
            refine wpAnyH_take (i := 16) (v := ?_) rfl (by kernel_rfl) (by kernel_rfl) (by kernel_rfl) (fun _ _ _ h => h) (Or.inl ⟨by rfl, ?_⟩) (by assumption) ?_
            rotate_left
            · (intro Y hSw; (try dsimp only at hSw); obtain ⟨hS0, hS1, hS2, hS3, hS4, hS5, hS6, hS7, hS8, hS9, hSm⟩ := hSw; go_simp; try with_reducible rfl)
            try simp only [Act.put, List.getElem_toArray, List.getElem_cons_zero, List.getElem_cons_succ, List.setIfInBounds_toArray, List.set_cons_zero, List.set_cons_succ]
            by_cases h9 : 9 < many
            · refine wpAnyH_take (i := 17) (v := .bool true) rfl (by kernel_rfl) (by kernel_rfl) (by kernel_rfl) (fun _ _ _ h => h) (Or.inl ⟨by rfl, by intro Y hSw; go_simp; try omega⟩) (by assumption) ?_
              try simp only [Act.put, List.getElem_toArray, List.getElem_cons_zero, List.getElem_cons_succ, List.setIfInBounds_toArray, List.set_cons_zero, List.set_cons_succ]
              refine wpAnyH_take (i := 18) (v := ?_) rfl (by kernel_rfl) (by kernel_rfl) (by kernel_rfl) (fun _ _ _ h => h) (Or.inl ⟨by rfl, ?_⟩) (by assumption) ?_
              rotate_left
              · (intro Y hSw; (try dsimp only at hSw); obtain ⟨hS0, hS1, hS2, hS3, hS4, hS5, hS6, hS7, hS8, hS9, hSm⟩ := hSw; go_simp; try with_reducible rfl)
              try simp only [Act.put, List.getElem_toArray, List.getElem_cons_zero, List.getElem_cons_succ, List.setIfInBounds_toArray, List.set_cons_zero, List.set_cons_succ]
              refine wpAnyH_done (by kernel_rfl) ?_ _
              rw [onlyN_normal]
              go_wp2_with fail
              go_meet
              case rel => exact ⟨by unfold badC; rw [HF.out, decide_eq_true h9, Bool.or_true, Bool.or_true], kY⟩
            · refine wpAnyH_take (i := 17) (v := .bool false) rfl (by kernel_rfl) (by kernel_rfl) (by kernel_rfl) (fun _ _ _ h => h) (Or.inl ⟨by rfl, by intro Y hSw; go_simp; try omega⟩) (by assumption) ?_
              try simp only [Act.put, List.getElem_toArray, List.getElem_cons_zero, List.getElem_cons_succ, List.setIfInBounds_toArray, List.set_cons_zero, List.set_cons_succ]
              refine wpAnyH_take (i := 18) (v := ?_) rfl (by kernel_rfl) (by kernel_rfl) (by kernel_rfl) (fun _ _ _ h => h) (Or.inl ⟨by rfl, ?_⟩) (by assumption) ?_
              rotate_left
              · (intro Y hSw; (try dsimp only at hSw); obtain ⟨hS0, hS1, hS2, hS3, hS4, hS5, hS6, hS7, hS8, hS9, hSm⟩ := hSw; go_simp; try with_reducible rfl)
              try simp only [Act.put, List.getElem_toArray, List.getElem_cons_zero, List.getElem_cons_succ, List.setIfInBounds_toArray, List.set_cons_zero, List.set_cons_succ]
              refine wpAnyH_done (by kernel_rfl) ?_ _
              rw [onlyN_normal]
              go_wp2_with fail
              go_meet
              case rel => exact ⟨by unfold badC; rw [HF.out, decide_eq_false (show ¬ many < 1 by omega), decide_eq_false (show ¬ 9 < many by omega)]; rfl, kY⟩
      · go_simp
        obtain ⟨lb, hlb⟩ : ∃ g, Y.heap.size = g := ⟨_, rfl⟩
        obtain ⟨Z, hZ⟩ : ∃ Z, Y.alloc (.cells (two10 x y) 38) = Z := ⟨_, rfl⟩
        have jz : Below Y.heap.size Y Z := by rw [← hZ]; exact (Below.refl _ Y).alloc (Nat.le_refl _) _
        have hx : Blk Z lb (two10 x y) 38 := by rw [← hZ, ← hlb]; exact Blk.new Y _ _
        have hZ' := hZ
        unfold two10 at hZ'
        rw [hZ', hlb]
        replace kY := kY.trans (jz.mono kY.size)
        have hne : lb ≠ g := by have := (owns_block ho g rfl).2; omega
        replace ho := owns_below ho jz (Nat.le_refl _)
        clear hZ hZ'
        refine hK.out _ _ (HTW.out _ kY) (fun hHeld => ?_)
        clear hK K
        try simp only [Act.put, List.getElem_toArray, List.getElem_cons_zero, List.getElem_cons_succ, List.setIfInBounds_toArray, List.set_cons_zero, List.set_cons_succ]
        obtain ⟨Y, rfl⟩ : ∃ Y : World, Y = Z := ⟨_, rfl⟩
        refine wpAnyH_ready (rs := [2]) (by kernel_rfl) (by simp) ?_
        refine AllReadyH.cons rfl (fun K hK => ?_) AllReadyH.nil
        rw [if_pos (by rfl)]
        refine wp_append_any _ _ 33 rfl w1.heap.size Try.underlying33 infoAct 0 [] rfl ho w1.heap.size l.length (actCs l) rfl (HRW.out.below kY (Nat.le_refl _)) (actCs_len l) HONE.out (by unfold maxLen; omega) (by omega) kY.size ?_
        intro v2 Z ho2 hg2
        rw [Nat.zero_add, List.nil_append] at ho2
        replace kY := kY.appended ho hg2 (Nat.le_refl _) kY.size
        replace hx : Blk Z lb (two10 x y) 38 := (hg2.block lb hx.lt (fun e => hne (by cases e; rfl))).trans hx
        refine hK.out _ _ (HTW.out _ kY) (fun hHeld => ?_)
        clear hK K
        try simp only [Act.put, List.getElem_toArray, List.getElem_cons_zero, List.getElem_cons_succ, List.setIfInBounds_toArray, List.set_cons_zero, List.set_cons_succ]
        obtain ⟨Y, rfl⟩ : ∃ Y : World, Y = Z := ⟨_, rfl⟩
        refine wpAnyH_ready (rs := [8]) (by kernel_rfl) (by simp) ?_
        refine AllReadyH.cons rfl (fun K hK => ?_) AllReadyH.nil
        rw [if_pos (by rfl)]
        refine wp_append_rowO _ _ 33 rfl w1.heap.size Try.underlying33 infoAct l.length (actCs l) rfl ho2 (World.heap _).size 2 (twoL x y) rfl (rowOf2 hx) rfl HON2.out (by unfold maxLen; omega) (by omega) kY.size ?_
        intro v3 Z ho3 hg3
        replace kY := kY.appended ho2 hg3 (Nat.le_refl _) kY.size
        rw [actCs_two] at ho3
        have HAC := Lib.hid (acts_owned ho3 (by simp) (fun z hz => by
          have hz9 := kY.size
          rcases List.mem_append.1 hz with h | h
          · exact ((HIN.out z h).1.below kY (Nat.le_refl _)).mono hz9
          · simp only [List.mem_cons, List.not_mem_nil, or_false] at h
            rcases h with rfl | rfl
            · exact (HX.out.1.below kY (Nat.le_refl _)).mono hz9
            · exact (HY.out.1.below kY (Nat.le_refl _)).mono hz9) (fun z hz => by
          rcases List.mem_append.1 hz with h | h
          · exact (HIN.out z h).2
          · simp only [List.mem_cons, List.not_mem_nil, or_false] at h
            rcases h with rfl | rfl
            · exact HX.out.2
            · exact HY.out.2))
        clear ho3 hg3 ho2 hx
        refine hK.out _ _ (HTW.out _ kY) (fun hHeld => ?_)
        clear hK K
        try simp only [Act.put, List.getElem_toArray, List.getElem_cons_zero, List.getElem_cons_succ, List.setIfInBounds_toArray, List.set_cons_zero, List.set_cons_succ]
        refine wpAnyH_ready (rs := [9]) (by kernel_rfl) (by simp) ?_
        refine AllReadyH.cons rfl (fun K hK => ?_) AllReadyH.nil
        go_simp
        refine (few_ok _ (l ++ [x, y]) 32 _ _ HAC.out).mono ?_; rintro e _ ⟨rfl, rfl⟩
        go_simp
        refine hK.out _ _ (HTW.out _ kY) (fun hHeld => ?_)
        clear hK K
        try simp only [Act.put, List.getElem_toArray, List.getElem_cons_zero, List.getElem_cons_succ, List.setIfInBounds_toArray, List.set_cons_zero, List.set_cons_succ]
        obtain ⟨f, hf⟩ : ∃ f, fewI (l ++ [x, y]) 32 = f := ⟨_, rfl⟩
        have HF := Lib.hid hf
        rw [hf]
        clear hf HAC
        cases f with
        | false =>
          refine wpAnyH_take (i := 10) (v := ?_) rfl (by kernel_rfl) (by kernel_rfl) (by kernel_rfl) (fun _ _ _ h => h) (Or.inl ⟨by rfl, ?_⟩) (by assumption) ?_
          rotate_left
          · (intro Y hSw; (try dsimp only at hSw); obtain ⟨hS0, hS1, hS2, hS3, hS4, hS5, hS6, hS7, hS8, hS9, hSm⟩ := hSw; go_simp; try with_reducible rfl)
          try simp only [Act.put, List.getElem_toArray, List.getElem_cons_zero, List.getElem_cons_succ, List.setIfInBounds_toArray, List.set_cons_zero, List.set_cons_succ]
          refine wpAnyH_take (i := 11) (v := ?_) rfl (by kernel_rfl) (by kernel_rfl) (by kernel_rfl) (fun _ _ _ h => h) (Or.inl ⟨by rfl, ?_⟩) (by assumption) ?_
          rotate_left
          · (intro Y hSw; (try dsimp only at hSw); obtain ⟨hS0, hS1, hS2, hS3, hS4, hS5, hS6, hS7, hS8, hS9, hSm⟩ := hSw; go_simp; try with_reducible rfl)
          try simp only [Act.put, List.getElem_toArray, List.getElem_cons_zero, List.getElem_cons_succ, List.setIfInBounds_toArray, List.set_cons_zero, List.set_cons_succ]
          refine wpAnyH_take (i := 12) (v := undef) rfl (by kernel_rfl) (by kernel_rfl) (by kernel_rfl) (fun _ _ _ h => h) (Or.inr ⟨by rfl, rfl⟩) (by assumption) ?_
          try simp only [Act.put, List.getElem_toArray, List.getElem_cons_zero, List.getElem_cons_succ, List.setIfInBounds_toArray, List.set_cons_zero, List.set_cons_succ]
          refine wpAnyH_take (i := 13) (v := undef) rfl (by kernel_rfl) (by kernel_rfl) (by kernel_rfl) (fun _ _ _ h => h) (Or.inr ⟨by rfl, rfl⟩) (by assumption) ?_
          try simp only [Act.put, List.getElem_toArray, List.getElem_cons_zero, List.getElem_cons_succ, List.setIfInBounds_toArray, List.set_cons_zero, List.set_cons_succ]
          refine wpAnyH_take (i := 14) (v := ?_) rfl (by kernel_rfl) (by kernel_rfl) (by kernel_rfl) (fun _ _ _ h => h) (Or.inl ⟨by rfl, ?_⟩) (by assumption) ?_
          rotate_left
          · (intro Y hSw; (try dsimp only at hSw); obtain ⟨hS0, hS1, hS2, hS3, hS4, hS5, hS6, hS7, hS8, hS9, hSm⟩ := hSw; go_simp; try with_reducible rfl)
          try simp only [Act.put, List.getElem_toArray, List.getElem_cons_zero, List.getElem_cons_succ, List.setIfInBounds_toArray, List.set_cons_zero, List.set_cons_succ]
          refine wpAnyH_take (i := 15) (v := ?_) rfl (by kernel_rfl) (by kernel_rfl) (by kernel_rfl) (fun _ _ _ h => h) (Or.inl ⟨by rfl, ?_⟩) (by assumption) ?_
          rotate_left
          · (intro Y hSw; (try dsimp only at hSw); obtain ⟨hS0, hS1, hS2, hS3, hS4, hS5, hS6, hS7, hS8, hS9, hSm⟩ := hSw; go_simp; try with_reducible rfl)
          try simp only [Act.put, List.getElem_toArray, List.getElem_cons_zero, List.getElem_cons_succ, List.setIfInBounds_toArray, List.set_cons_zero, List.set_cons_succ]
          refine wpAnyH_take (i := 16) (v := undef) rfl (by kernel_rfl) (by kernel_rfl) (by kernel_rfl) (fun _ _ _ h => h) (Or.inr ⟨by rfl, rfl⟩) (by assumption) ?_
          try simp only [Act.put, List.getElem_toArray, List.getElem_cons_zero, List.getElem_cons_succ, List.setIfInBounds_toArray, List.set_cons_zero, List.set_cons_succ]
          refine wpAnyH_take (i := 17) (v := undef) rfl (by kernel_rfl) (by kernel_rfl) (by kernel_rfl) (fun _ _ _ h => h) (Or.inr ⟨by rfl, rfl⟩) (by assumption) ?_
          try simp only [Act.put, List.getElem_toArray, List.getElem_cons_zero, List.getElem_cons_succ, List.setIfInBounds_toArray, List.set_cons_zero, List.set_cons_succ]
          refine wpAnyH_take (i := 18) (v := ?_) rfl (by kernel_rfl) (by kernel_rfl) (by kernel_rfl) (fun _ _ _ h => h) (Or.inl ⟨by rfl, ?_⟩) (by assumption) ?_
          rotate_left
          · (intro Y hSw; (try dsimp only at hSw); obtain ⟨hS0, hS1, hS2, hS3, hS4, hS5, hS6, hS7, hS8, hS9, hSm⟩ := hSw; go_simp; try with_reducible rfl)
          try simp only [Act.put, List.getElem_toArray, List.getElem_cons_zero, List.getElem_cons_succ, List.setIfInBounds_toArray, List.set_cons_zero, List.set_cons_succ]
          refine wpAnyH_done (by kernel_rfl) ?_ _
          rw [onlyN_normal]
          go_wp2_with fail
          go_meet
          case rel => exact ⟨by unfold badC; rw [HF.out]; rfl, kY⟩
        | true =>
          refine wpAnyH_take (i := 10) (v := ?_) rfl (by kernel_rfl) (by kernel_rfl) (by kernel_rfl) (fun _ _ _ h => h) (Or.inl ⟨by rfl, ?_⟩) (by assumption) ?_
          rotate_left
          · (intro Y hSw; (try dsimp only at hSw); obtain ⟨hS0, hS1, hS2, hS3, hS4, hS5, hS6, hS7, hS8, hS9, hSm⟩ := hSw; go_simp; try with_reducible rfl)
          try simp only [Act.put, List.getElem_toArray, List.getElem_cons_zero, List.getElem_cons_succ, List.setIfInBounds_toArray, List.set_cons_zero, List.set_cons_succ]
          refine wpAnyH_take (i := 11) (v := ?_) rfl (by kernel_rfl) (by kernel_rfl) (by kernel_rfl) (fun _ _ _ h => h) (Or.inl ⟨by rfl, ?_⟩) (by assumption) ?_
          rotate_left
          · (intro Y hSw; (try dsimp only at hSw); obtain ⟨hS0, hS1, hS2, hS3, hS4, hS5, hS6, hS7, hS8, hS9, hSm⟩ := hSw; go_simp; try with_reducible rfl)
          try simp only [Act.put, List.getElem_toArray, List.getElem_cons_zero, List.getElem_cons_succ, List.setIfInBounds_toArray, List.set_cons_zero, List.set_cons_succ]
          refine wpAnyH_take (i := 12) (v := ?_) rfl (by kernel_rfl) (by kernel_rfl) (by kernel_rfl) (fun _ _ _ h => h) (Or.inl ⟨by rfl, ?_⟩) (by assumption) ?_
          rotate_left
          · (intro Y hSw; (try dsimp only at hSw); obtain ⟨hS0, hS1, hS2, hS3, hS4, hS5, hS6, hS7, hS8, hS9, hSm⟩ := hSw; go_simp; try with_reducible rfl)
          try simp only [Act.put, List.getElem_toArray, List.getElem_cons_zero, List.getElem_cons_succ, List.setIfInBounds_toArray, List.set_cons_zero, List.set_cons_succ]
          by_cases h1 : many < 1
          · refine wpAnyH_take (i := 13) (v := .bool true) rfl (by kernel_rfl) (by kernel_rfl) (by kernel_rfl) (fun _ _ _ h => h) (Or.inl ⟨by rfl, by intro Y hSw; go_simp; try omega⟩) (by assumption) ?_
            try simp only [Act.put, List.getElem_toArray, List.getElem_cons_zero, List.getElem_cons_succ, List.setIfInBounds_toArray, List.set_cons_zero, List.set_cons_succ]
            refine wpAnyH_take (i := 14) (v := ?_) rfl (by kernel_rfl) (by kernel_rfl) (by kernel_rfl) (fun _ _ _ h => h) (Or.inl ⟨by rfl, ?_⟩) (by assumption) ?_
            rotate_left
            · (intro Y hSw; (try dsimp only at hSw); obtain ⟨hS0, hS1, hS2, hS3, hS4, hS5, hS6, hS7, hS8, hS9, hSm⟩ := hSw; go_simp; try with_reducible rfl)
            try simp only [Act.put, List.getElem_toArray, List.getElem_cons_zero, List.getElem_cons_succ, List.setIfInBounds_toArray, List.set_cons_zero, List.set_cons_succ]
            refine wpAnyH_take (i := 15) (v := ?_) rfl (by kernel_rfl) (by kernel_rfl) (by kernel_rfl) (fun _ _ _ h => h) (Or.inl ⟨by rfl, ?_⟩) (by assumption) ?_
            rotate_left
            · (intro Y hSw; (try dsimp only at hSw); obtain ⟨hS0, hS1, hS2, hS3, hS4, hS5, hS6, hS7, hS8, hS9, hSm⟩ := hSw; go_simp; try with_reducible rfl)
            try simp only [Act.put, List.getElem_toArray, List.getElem_cons_zero, List.getElem_cons_succ, List.setIfInBounds_toArray, List.set_cons_zero, List.set_cons_succ]
            refine wpAnyH_take (i := 16) (v := undef) rfl (by kernel_rfl) (by kernel_rfl) (by kernel_rfl) (fun _ _ _ h => h) (Or.inr ⟨by rfl, rfl⟩) (by assumption) ?_
            try simp only [Act.put, List.getElem_toArray, List.getElem_cons_zero, List.getElem_cons_succ, List.setIfInBounds_toArray, List.set_cons_zero, List.set_cons_succ]
            refine wpAnyH_take (i := 17) (v := undef) rfl (by kernel_rfl) (by kernel_rfl) (by kernel_rfl) (fun _ _ _ h => h) (Or.inr ⟨by rfl, rfl⟩) (by assumption) ?_
            try simp only [Act.put, List.getElem_toArray, List.getElem_cons_zero, List.getElem_cons_succ, List.setIfInBounds_toArray, List.set_cons_zero, List.set_cons_succ]
            refine wpAnyH_take (i := 18) (v := ?_) rfl (by kernel_rfl) (by kernel_rfl) (by kernel_rfl) (fun _ _ _ h => h) (Or.inl ⟨by rfl, ?_⟩) (by assumption) ?_
            rotate_left
            · (intro Y hSw; (try dsimp only at hSw); obtain ⟨hS0, hS1, hS2, hS3, hS4, hS5, hS6, hS7, hS8, hS9, hSm⟩ := hSw; go_simp; try with_reducible rfl)
            try simp only [Act.put, List.getElem_toArray, List.getElem_cons_zero, List.getElem_cons_succ, List.setIfInBounds_toArray, List.set_cons_zero, List.set_cons_succ]
            refine wpAnyH_done (by kernel_rfl) ?_ _
            rw [onlyN_normal]
            go_wp2_with fail
            go_meet
            case rel => exact ⟨by unfold badC; rw [HF.out, decide_eq_true h1]; rfl, kY⟩
          · refine wpAnyH_take (i := 13) (v := .bool false) rfl (by kernel_rfl) (by kernel_rfl) (by kernel_rfl) (fun _ _ _ h => h) (Or.inl ⟨by rfl, by intro Y hSw; go_simp; try omega⟩) (by assumption) ?_
            try simp only [Act.put, List.getElem_toArray, List.getElem_cons_zero, List.getElem_cons_succ, List.setIfInBounds_toArray, List.set_cons_zero, List.set_cons_succ]
            refine wpAnyH_take (i := 14) (v := ?_) rfl (by kernel_rfl) (by kernel_rfl) (by kernel_rfl) (fun _ _ _ h => h) (Or.inl ⟨by rfl, ?_⟩) (by assumption) ?_
            rotate_left
            · (intro Y hSw; (try dsimp only at hSw); obtain ⟨hS0, hS1, hS2, hS3, hS4, hS5, hS6, hS7, hS8, hS9, hSm⟩ := hSw; go_simp; try with_reducible rfl)
            try simp only [Act.put, List.getElem_toArray, List.getElem_cons_zero, List.getElem_cons_succ, List.setIfInBounds_toArray, List.set_cons_zero, List.set_cons_succ]
            refine wpAnyH_take (i := 15) (v := ?_) rfl (by kernel_rfl) (by kernel_rfl) (by kernel_rfl) (fun _ _ _ h => h) (Or.inl ⟨by rfl, ?_⟩) (by assumption) ?_
            rotate_left
            · (intro Y hSw; (try dsimp only at hSw); obtain ⟨hS0, hS1, hS2, hS3, hS4, hS5, hS6, hS7, hS8, hS9, hSm⟩ := hSw; go_simp; try with_reducible rfl)
            try simp only [Act.put, List.getElem_toArray, List.getElem_cons_zero, List.getElem_cons_succ, List.setIfInBounds_toArray, List.set_cons_zero, List.set_cons_succ]
            refine wpAnyH_take (i := 16) (v := ?_) rfl (by kernel_rfl) (by kernel_rfl) (by kernel_rfl) (fun _ _ _ h => h) (Or.inl ⟨by rfl, ?_⟩) (by assumption) ?_
            rotate_left
            · (intro Y hSw; (try dsimp only at hSw); obtain ⟨hS0, hS1, hS2, hS3, hS4, hS5, hS6, hS7, hS8, hS9, hSm⟩ := hSw; go_simp; try with_reducible rfl)
            try simp only [Act.put, List.getElem_toArray, List.getElem_cons_zero, List.getElem_cons_succ, List.setIfInBounds_toArray, List.set_cons_zero, List.set_cons_succ]
            by_cases h9 : 9 < many
            · refine wpAnyH_take (i := 17) (v := .bool true) rfl (by kernel_rfl) (by kernel_rfl) (by kernel_rfl) (fun _ _ _ h => h) (Or.inl ⟨by rfl, by intro Y hSw; go_simp; try omega⟩) (by assumption) ?_
              try simp only [Act.put, List.getElem_toArray, List.getElem_cons_zero, List.getElem_cons_succ, List.setIfInBounds_toArray, List.set_cons_zero, List.set_cons_succ]
              refine wpAnyH_take (i := 18) (v := ?_) rfl (by kernel_rfl) (by kernel_rfl) (by kernel_rfl) (fun _ _ _ h => h) (Or.inl ⟨by rfl, ?_⟩) (by assumption) ?_
              rotate_left
              · (intro Y hSw; (try dsimp only at hSw); obtain ⟨hS0, hS1, hS2, hS3, hS4, hS5, hS6, hS7, hS8, hS9, hSm⟩ := hSw; go_simp; try with_reducible rfl)
              try simp only [Act.put, List.getElem_toArray, List.getElem_cons_zero, List.getElem_cons_succ, List.setIfInBounds_toArray, List.set_cons_zero, List.set_cons_succ]
              refine wpAnyH_done (by kernel_rfl) ?_ _
              rw [onlyN_normal]
              go_wp2_with fail
              go_meet
              case rel => exact ⟨by unfold badC; rw [HF.out, decide_eq_true h9, Bool.or_true, Bool.or_true], kY⟩
            · refine wpAnyH_take (i := 17) (v := .bool false) rfl (by kernel_rfl) (by kernel_rfl) (by kernel_rfl) (fun _ _ _ h => h) (Or.inl ⟨by rfl, by intro Y hSw; go_simp; try omega⟩) (by assumption) ?_
              try simp only [Act.put, List.getElem_toArray, List.getElem_cons_zero, List.getElem_cons_succ, List.setIfInBounds_toArray, List.set_cons_zero, List.set_cons_succ]
              refine wpAnyH_take (i := 18) (v := ?_) rfl (by kernel_rfl) (by kernel_rfl) (by kernel_rfl) (fun _ _ _ h => h) (Or.inl ⟨by rfl, ?_⟩) (by assumption) ?_
              rotate_left
              · (intro Y hSw; (try dsimp only at hSw); obtain ⟨hS0, hS1, hS2, hS3, hS4, hS5, hS6, hS7, hS8, hS9, hSm⟩ := hSw; go_simp; try with_reducible rfl)
              try simp only [Act.put, List.getElem_toArray, List.getElem_cons_zero, List.getElem_cons_succ, List.setIfInBounds_toArray, List.set_cons_zero, List.set_cons_succ]
              refine wpAnyH_done (by kernel_rfl) ?_ _
              rw [onlyN_normal]
              go_wp2_with fail
              go_meet
              case rel => exact ⟨by unfold badC; rw [HF.out, decide_eq_false (show ¬ many < 1 by omega), decide_eq_false (show ¬ 9 < many by omega)]; rfl, kY⟩
    · go_simp
      obtain ⟨lb, hlb⟩ : ∃ g, Y.heap.size = g := ⟨_, rfl⟩
      obtain ⟨Z, hZ⟩ : ∃ Z, Y.alloc (.cells (two10 x y) 38) = Z := ⟨_, rfl⟩
      have jz : Below Y.heap.size Y Z := by rw [← hZ]; exact (Below.refl _ Y).alloc (Nat.le_refl _) _
      have hx : Blk Z lb (two10 x y) 38 := by rw [← hZ, ← hlb]; exact Blk.new Y _ _
      have hZ' := hZ
      unfold two10 at hZ'
      rw [hZ', hlb]
      replace kY := kY.trans (jz.mono kY.size)
      clear hZ hZ'
      refine hK.out _ _ (HTW.out _ kY) (fun hHeld => ?_)
      clear hK K
      try simp only [Act.put, List.getElem_toArray, List.getElem_cons_zero, List.getElem_cons_succ, List.setIfInBounds_toArray, List.set_cons_zero, List.set_cons_succ]
      obtain ⟨Y, rfl⟩ : ∃ Y : World, Y = Z := ⟨_, rfl⟩
      refine wpAnyH_ready (rs := [0]) (by kernel_rfl) (by simp) ?_
      refine AllReadyH.cons rfl (fun K hK => ?_) AllReadyH.nil
      go_simp
      obtain ⟨g, hg⟩ : ∃ g, Y.heap.size = g := ⟨_, rfl⟩
      obtain ⟨Z, hZ⟩ : ∃ Z, Y.alloc (.cells #[] 38) = Z := ⟨_, rfl⟩
      have jz : Below Y.heap.size Y Z := by rw [← hZ]; exact (Below.refl _ Y).alloc (Nat.le_refl _) _
      have ho : Z.ownsRow w1.heap.size 38 5 (.slice (some ⟨g, 0, none⟩) 0 0) 0 [] := by rw [← hZ, ← hg]; exact World.ownsRow_made Y #[] 0 kY.size (by decide) rfl
      rw [hZ, hg]
      replace kY := kY.trans (jz.mono kY.size)
      have hne : lb ≠ g := by have := hx.lt; omega
      replace hx := hx.below jz hx.lt
      clear hZ
      refine hK.out _ _ (HTW.out _ kY) (fun hHeld => ?_)
      clear hK K
      try simp only [Act.put, List.getElem_toArray, List.getElem_cons_zero, List.getElem_cons_succ, List.setIfInBounds_toArray, List.set_cons_zero, List.set_cons_succ]
      obtain ⟨Y, rfl⟩ : ∃ Y : World, Y = Z := ⟨_, rfl⟩
      refine wpAnyH_ready (rs := [2]) (by kernel_rfl) (by simp) ?_
      refine AllReadyH.cons rfl (fun K hK => ?_) AllReadyH.nil
      rw [if_pos (by rfl)]
      refine wp_append_any _ _ 33 rfl w1.heap.size Try.underlying33 infoAct 0 [] rfl ho w1.heap.size l.length (actCs l) rfl (HRW.out.below kY (Nat.le_refl _)) (actCs_len l) HONE.out (by unfold maxLen; omega) (by omega) kY.size ?_
      intro v2 Z ho2 hg2
      rw [Nat.zero_add, List.nil_append] at ho2
      replace kY := kY.appended ho hg2 (Nat.le_refl _) kY.size
      replace hx : Blk Z lb (two10 x y) 38 := (hg2.block lb hx.lt (fun e => hne (by cases e; rfl))).trans hx
      refine hK.out _ _ (HTW.out _ kY) (fun hHeld => ?_)
      clear hK K
      try simp only [Act.put, List.getElem_toArray, List.getElem_cons_zero, List.getElem_cons_succ, List.setIfInBounds_toArray, List.set_cons_zero, List.set_cons_succ]
      obtain ⟨Y, rfl⟩ : ∃ Y : World, Y = Z := ⟨_, rfl⟩
      refine wpAnyH_ready (rs := [8]) (by kernel_rfl) (by simp) ?_
      refine AllReadyH.cons rfl (fun K hK => ?_) AllReadyH.nil
      rw [if_pos (by rfl)]
      refine wp_append_rowO _ _ 33 rfl w1.heap.size Try.underlying33 infoAct l.length (actCs l) rfl ho2 (World.heap _).size 2 (twoL x y) rfl (rowOf2 hx) rfl HON2.out (by unfold maxLen; omega) (by omega) kY.size ?_
      intro v3 Z ho3 hg3
      replace kY := kY.appended ho2 hg3 (Nat.le_refl _) kY.size
      rw [actCs_two] at ho3
      have HAC := Lib.hid (acts_owned ho3 (by simp) (fun z hz => by
        have hz9 := kY.size
        rcases List.mem_append.1 hz with h | h
        · exact ((HIN.out z h).1.below kY (Nat.le_refl _)).mono hz9
        · simp only [List.mem_cons, List.not_mem_nil, or_false] at h
          rcases h with rfl | rfl
          · exact (HX.out.1.below kY (Nat.le_refl _)).mono hz9
          · exact (HY.out.1.below kY (Nat.le_refl _)).mono hz9) (fun z hz => by
        rcases List.mem_append.1 hz with h | h
        · exact (HIN.out z h).2
        · simp only [List.mem_cons, List.not_mem_nil, or_false] at h
          rcases h with rfl | rfl
          · exact HX.out.2
          · exact HY.out.2))
      clear ho3 hg3 ho2 hx
      refine hK.out _ _ (HTW.out _ kY) (fun hHeld => ?_)
      clear hK K
      try simp only [Act.put, List.getElem_toArray, List.getElem_cons_zero, List.getElem_cons_succ, List.setIfInBounds_toArray, List.set_cons_zero, List.set_cons_succ]
      refine wpAnyH_ready (rs := [9]) (by kernel_rfl) (by simp) ?_
      refine AllReadyH.cons rfl (fun K hK => ?_) AllReadyH.nil
      go_simp
      refine (few_ok _ (l ++ [x, y]) 32 _ _ HAC.out).mono ?_; rintro e _ ⟨rfl, rfl⟩
      go_simp
      refine hK.out _ _ (HTW.out _ kY) (fun hHeld => ?_)
      clear hK K
      try simp only [Act.put, List.getElem_toArray, List.getElem_cons_zero, List.getElem_cons_succ, List.setIfInBounds_toArray, List.set_cons_zero, List.set_cons_succ]
      obtain ⟨f, hf⟩ : ∃ f, fewI (l ++ [x, y]) 32 = f := ⟨_, rfl⟩
      have HF := Lib.hid hf
      rw [hf]
      clear hf HAC
      cases f with
      | false =>
        refine wpAnyH_take (i := 10) (v := ?_) rfl (by kernel_rfl) (by kernel_rfl) (by kernel_rfl) (fun _ _ _ h => h) (Or.inl ⟨by rfl, ?_⟩) (by assumption) ?_
        rotate_left
        · (intro Y hSw; (try dsimp only at hSw); obtain ⟨hS0, hS1, hS2, hS3, hS4, hS5, hS6, hS7, hS8, hS9, hSm⟩ := hSw; go_simp; try with_reducible rfl)
        try simp only [Act.put, List.getElem_toArray, List.getElem_cons_zero, List.getElem_cons_succ, List.setIfInBounds_toArray, List.set_cons_zero, List.set_cons_succ]
        refine wpAnyH_take (i := 11) (v := ?_) rfl (by kernel_rfl) (by kernel_rfl) (by kernel_rfl) (fun _ _ _ h => h) (Or.inl ⟨by rfl, ?_⟩) (by assumption) ?_
        rotate_left
        · (intro Y hSw; (try dsimp only at hSw); obtain ⟨hS0, hS1, hS2, hS3, hS4, hS5, hS6, hS7, hS8, hS9, hSm⟩ := hSw; go_simp; try with_reducible rfl)
        try simp only [Act.put, List.getElem_toArray, List.getElem_cons_zero, List.getElem_cons_succ, List.setIfInBounds_toArray, List.set_cons_zero, List.set_cons_succ]
        refine wpAnyH_take (i := 12) (v := undef) rfl (by kernel_rfl) (by kernel_rfl) (by kernel_rfl) (fun _ _ _ h => h) (Or.inr ⟨by rfl, rfl⟩) (by assumption) ?_
        try simp only [Act.put, List.getElem_toArray, List.getElem_cons_zero, List.getElem_cons_succ, List.setIfInBounds_toArray, List.set_cons_zero, List.set_cons_succ]
        refine wpAnyH_take (i := 13) (v := undef) rfl (by kernel_rfl) (by kernel_rfl) (by kernel_rfl) (fun _ _ _ h => h) (Or.inr ⟨by rfl, rfl⟩) (by assumption) ?_
        try simp only [Act.put, List.getElem_toArray, List.getElem_cons_zero, List.getElem_cons_succ, List.setIfInBounds_toArray, List.set_cons_zero, List.set_cons_succ]
        refine wpAnyH_take (i := 14) (v := ?_) rfl (by kernel_rfl) (by kernel_rfl) (by kernel_rfl) (fun _ _ _ h => h) (Or.inl ⟨by rfl, ?_⟩) (by assumption) ?_
        rotate_left
        · (intro Y hSw; (try dsimp only at hSw); obtain ⟨hS0, hS1, hS2, hS3, hS4, hS5, hS6, hS7, hS8, hS9, hSm⟩ := hSw; go_simp; try with_reducible rfl)
        try simp only [Act.put, List.getElem_toArray, List.getElem_cons_zero, List.getElem_cons_succ, List.setIfInBounds_toArray, List.set_cons_zero, List.set_cons_succ]
        refine wpAnyH_take (i := 15) (v := ?_) rfl (by kernel_rfl) (by kernel_rfl) (by kernel_rfl) (fun _ _ _ h => h) (Or.inl ⟨by rfl, ?_⟩) (by assumption) ?_
        rotate_left
        · (intro Y hSw; (try dsimp only at hSw); obtain ⟨hS0, hS1, hS2, hS3, hS4, hS5, hS6, hS7, hS8, hS9, hSm⟩ := hSw; go_simp; try with_reducible rfl)
        try simp only [Act.put, List.getElem_toArray, List.getElem_cons_zero, List.getElem_cons_succ, List.setIfInBounds_toArray, List.set_cons_zero, List.set_cons_succ]
        refine wpAnyH_take (i := 16) (v := undef) rfl (by kernel_rfl) (by kernel_rfl) (by kernel_rfl) (fun _ _ _ h => h) (Or.inr ⟨by rfl, rfl⟩) (by assumption) ?_
        try simp only [Act.put, List.getElem_toArray, List.getElem_cons_zero, List.getElem_cons_succ, List.setIfInBounds_toArray, List.set_cons_zero, List.set_cons_succ]
        refine wpAnyH_take (i := 17) (v := undef) rfl (by kernel_rfl) (by kernel_rfl) (by kernel_rfl) (fun _ _ _ h => h) (Or.inr ⟨by rfl, rfl⟩) (by assumption) ?_
        try simp only [Act.put, List.getElem_toArray, List.getElem_cons_zero, List.getElem_cons_succ, List.setIfInBounds_toArray, List.set_cons_zero, List.set_cons_succ]
        refine wpAnyH_take (i := 18) (v := ?_) rfl (by kernel_rfl) (by kernel_rfl) (by kernel_rfl) (fun _ _ _ h => h) (Or.inl ⟨by rfl, ?_⟩) (by assumption) ?_
        rotate_left
        · (intro Y hSw; (try dsimp only at hSw); obtain ⟨hS0, hS1, hS2, hS3, hS4, hS5, hS6, hS7, hS8, hS9, hSm⟩ := hSw; go_simp; try with_reducible rfl)
        try simp only [Act.put, List.getElem_toArray, List.getElem_cons_zero, List.getElem_cons_succ, List.setIfInBounds_toArray, List.set_cons_zero, List.set_cons_succ]
        refine wpAnyH_done (by kernel_rfl) ?_ _
        rw [onlyN_normal]
        go_wp2_with fail
        go_meet
        case rel => exact ⟨by unfold badC; rw [HF.out]; rfl, kY⟩
      | true =>
        refine wpAnyH_take (i := 10) (v := ?_) rfl (by kernel_rfl) (by kernel_rfl) (by kernel_rfl) (fun _ _ _ h => h) (Or.inl ⟨by rfl, ?_⟩) (by assumption) ?_
        rotate_left
        · (intro Y hSw; (try dsimp only at hSw); obtain ⟨hS0, hS1, hS2, hS3, hS4, hS5, hS6, hS7, hS8, hS9, hSm⟩ := hSw; go_simp; try with_reducible rfl)
        try simp only [Act.put, List.getElem_toArray, List.getElem_cons_zero, List.getElem_cons_succ, List.setIfInBounds_toArray, List.set_cons_zero, List.set_cons_succ]
        refine wpAnyH_take (i := 11) (v := ?_) rfl (by kernel_rfl) (by kernel_rfl) (by kernel_rfl) (fun _ _ _ h => h) (Or.inl ⟨by rfl, ?_⟩) (by assumption) ?_
        rotate_left
        · (intro Y hSw; (try dsimp only at hSw); obtain ⟨hS0, hS1, hS2, hS3, hS4, hS5, hS6, hS7, hS8, hS9, hSm⟩ := hSw; go_simp; try with_reducible rfl)
        try simp only [Act.put, List.getElem_toArray, List.getElem_cons_zero, List.getElem_cons_succ, List.setIfInBounds_toArray, List.set_cons_zero, List.set_cons_succ]
        refine wpAnyH_take (i := 12) (v := ?_) rfl (by kernel_rfl) (by kernel_rfl) (by kernel_rfl) (fun _ _ _ h => h) (Or.inl ⟨by rfl, ?_⟩) (by assumption) ?_
        rotate_left
        · (intro Y hSw; (try dsimp only at hSw); obtain ⟨hS0, hS1, hS2, hS3, hS4, hS5, hS6, hS7, hS8, hS9, hSm⟩ := hSw; go_simp; try with_reducible rfl)
        try simp only [Act.put, List.getElem_toArray, List.getElem_cons_zero, List.getElem_cons_succ, List.setIfInBounds_toArray, List.set_cons_zero, List.set_cons_succ]
        by_cases h1 : many < 1
        · refine wpAnyH_take (i := 13) (v := .bool true) rfl (by kernel_rfl) (by kernel_rfl) (by kernel_rfl) (fun _ _ _ h => h) (Or.inl ⟨by rfl, by intro Y hSw; go_simp; try omega⟩) (by assumption) ?_
          try simp only [Act.put, List.getElem_toArray, List.getElem_cons_zero, List.getElem_cons_succ, List.setIfInBounds_toArray, List.set_cons_zero, List.set_cons_succ]
          refine wpAnyH_take (i := 14) (v := ?_) rfl (by kernel_rfl) (by kernel_rfl) (by kernel_rfl) (fun _ _ _ h => h) (Or.inl ⟨by rfl, ?_⟩) (by assumption) ?_
          rotate_left
          · (intro Y hSw; (try dsimp only at hSw); obtain ⟨hS0, hS1, hS2, hS3, hS4, hS5, hS6, hS7, hS8, hS9, hSm⟩ := hSw; go_simp; try with_reducible rfl)
          try simp only [Act.put, List.getElem_toArray, List.getElem_cons_zero, List.getElem_cons_succ, List.setIfInBounds_toArray, List.set_cons_zero, List.set_cons_succ]
          refine wpAnyH_take (i := 15) (v := ?_) rfl (by kernel_rfl) (by kernel_rfl) (by kernel_rfl) (fun _ _ _ h => h) (Or.inl ⟨by rfl, ?_⟩) (by assumption) ?_
          rotate_left
          · (intro Y hSw; (try dsimp only at hSw); obtain ⟨hS0, hS1, hS2, hS3, hS4, hS5, hS6, hS7, hS8, hS9, hSm⟩ := hSw; go_simp; try with_reducible rfl)
          try simp only [Act.put, List.getElem_toArray, List.getElem_cons_zero, List.getElem_cons_succ, List.setIfInBounds_toArray, List.set_cons_zero, List.set_cons_succ]
          refine wpAnyH_take (i := 16) (v := undef) rfl (by kernel_rfl) (by kernel_rfl) (by kernel_rfl) (fun _ _ _ h => h) (Or.inr ⟨by rfl, rfl⟩) (by assumption) ?_
          try simp only [Act.put, List.getElem_toArray, List.getElem_cons_zero, List.getElem_cons_succ, List.setIfInBounds_toArray, List.set_cons_zero, List.set_cons_succ]
          refine wpAnyH_take (i := 17) (v := undef) rfl (by kernel_rfl) (by kernel_rfl) (by kernel_rfl) (fun _ _ _ h => h) (Or.inr ⟨by rfl, rfl⟩) (by assumption) ?_
          try simp only [Act.put, List.getElem_toArray, List.getElem_cons_zero, List.getElem_cons_succ, List.setIfInBounds_toArray, List.set_cons_zero, List.set_cons_succ]
          refine wpAnyH_take (i := 18) (v := ?_) rfl (by kernel_rfl) (by kernel_rfl) (by kernel_rfl) (fun _ _ _ h => h) (Or.inl ⟨by rfl, ?_⟩) (by assumption) ?_
          rotate_left
          · (intro Y hSw; (try dsimp only at hSw); obtain ⟨hS0, hS1, hS2, hS3, hS4, hS5, hS6, hS7, hS8, hS9, hSm⟩ := hSw; go_simp; try with_reducible rfl)
          try simp only [Act.put, List.getElem_toArray, List.getElem_cons_zero, List.getElem_cons_succ, List.setIfInBounds_toArray, List.set_cons_zero, List.set_cons_succ]
          refine wpAnyH_done (by kernel_rfl) ?_ _
          rw [onlyN_normal]
          go_wp2_with fail
          go_meet
          case rel => exact ⟨by unfold badC; rw [HF.out, decide_eq_true h1]; rfl, kY⟩
        · refine wpAnyH_take (i := 13) (v := .bool false) rfl (by kernel_rfl) (by kernel_rfl) (by kernel_rfl) (fun _ _ _ h => h) (Or.inl ⟨by rfl, by intro Y hSw; go_simp; try omega⟩) (by assumption) ?_
          try simp only [Act.put, List.getElem_toArray, List.getElem_cons_zero, List.getElem_cons_succ, List.setIfInBounds_toArray, List.set_cons_zero, List.set_cons_succ]
          refine wpAnyH_take (i := 14) (v := ?_) rfl (by kernel_rfl) (by kernel_rfl) (by kernel_rfl) (fun _ _ _ h => h) (Or.inl ⟨by rfl, ?_⟩) (by assumption) ?_
          rotate_left
          · (intro Y hSw; (try dsimp only at hSw); obtain ⟨hS0, hS1, hS2, hS3, hS4, hS5, hS6, hS7, hS8, hS9, hSm⟩ := hSw; go_simp; try with_reducible rfl)
          try simp only [Act.put, List.getElem_toArray, List.getElem_cons_zero, List.getElem_cons_succ, List.setIfInBounds_toArray, List.set_cons_zero, List.set_cons_succ]
          refine wpAnyH_take (i := 15) (v := ?_) rfl (by kernel_rfl) (by kernel_rfl) (by kernel_rfl) (fun _ _ _ h => h) (Or.inl ⟨by rfl, ?_⟩) (by assumption) ?_
          rotate_left
          · (intro Y hSw; (try dsimp only at hSw); obtain ⟨hS0, hS1, hS2, hS3, hS4, hS5, hS6, hS7, hS8, hS9, hSm⟩ := hSw; go_simp; try with_reducible rfl)
          try simp only [Act.put, List.getElem_toArray, List.getElem_cons_zero, List.getElem_cons_succ, List.setIfInBounds_toArray, List.set_cons_zero, List.set_cons_succ]
          refine wpAnyH_take (i := 16) (v := ?_) rfl (by kernel_rfl) (by kernel_rfl) (by kernel_rfl) (fun _ _ _ h => h) (Or.inl ⟨by rfl, ?_⟩) (by assumption) ?_
          rotate_left
          · (intro Y hSw; (try dsimp only at hSw); obtain ⟨hS0, hS1, hS2, hS3, hS4, hS5, hS6, hS7, hS8, hS9, hSm⟩ := hSw; go_simp; try with_reducible rfl)
          try simp only [Act.put, List.getElem_toArray, List.getElem_cons_zero, List.getElem_cons_succ, List.setIfInBounds_toArray, List.set_cons_zero, List.set_cons_succ]
          by_cases h9 : 9 < many
          · refine wpAnyH_take (i := 17) (v := .bool true) rfl (by kernel_rfl) (by kernel_rfl) (by kernel_rfl) (fun _ _ _ h => h) (Or.inl ⟨by rfl, by intro Y hSw; go_simp; try omega⟩) (by assumption) ?_
            try simp only [Act.put, List.getElem_toArray, List.getElem_cons_zero, List.getElem_cons_succ, List.setIfInBounds_toArray, List.set_cons_zero, List.set_cons_succ]
            refine wpAnyH_take (i := 18) (v := ?_) rfl (by kernel_rfl) (by kernel_rfl) (by kernel_rfl) (fun _ _ _ h => h) (Or.inl ⟨by rfl, ?_⟩) (by assumption) ?_
            rotate_left
            · (intro Y hSw; (try dsimp only at hSw); obtain ⟨hS0, hS1, hS2, hS3, hS4, hS5, hS6, hS7, hS8, hS9, hSm⟩ := hSw; go_simp; try with_reducible rfl)
            try simp only [Act.put, List.getElem_toArray, List.getElem_cons_zero, List.getElem_cons_succ, List.setIfInBounds_toArray, List.set_cons_zero, List.set_cons_succ]
            refine wpAnyH_done (by kernel_rfl) ?_ _
            rw [onlyN_normal]
            go_wp2_with fail
            go_meet
            case rel => exact ⟨by unfold badC; rw [HF.out, decide_eq_true h9, Bool.or_true, Bool.or_true], kY⟩
          · refine wpAnyH_take (i := 17) (v := .bool false) rfl (by kernel_rfl) (by kernel_rfl) (by kernel_rfl) (fun _ _ _ h => h) (Or.inl ⟨by rfl, by intro Y hSw; go_simp; try omega⟩) (by assumption) ?_
            try simp only [Act.put, List.getElem_toArray, List.getElem_cons_zero, List.getElem_cons_succ, List.setIfInBounds_toArray, List.set_cons_zero, List.set_cons_succ]
            refine wpAnyH_take (i := 18) (v := ?_) rfl (by kernel_rfl) (by kernel_rfl) (by kernel_rfl) (fun _ _ _ h => h) (Or.inl ⟨by rfl, ?_⟩) (by assumption) ?_
            rotate_left
            · (intro Y hSw; (try dsimp only at hSw); obtain ⟨hS0, hS1, hS2, hS3, hS4, hS5, hS6, hS7, hS8, hS9, hSm⟩ := hSw; go_simp; try with_reducible rfl)
            try simp only [Act.put, List.getElem_toArray, List.getElem_cons_zero, List.getElem_cons_succ, List.setIfInBounds_toArray, List.set_cons_zero, List.set_cons_succ]
            refine wpAnyH_done (by kernel_rfl) ?_ _
            rw [onlyN_normal]
            go_wp2_with fail
            go_meet
            case rel => exact ⟨by unfold badC; rw [HF.out, decide_eq_false (show ¬ many < 1 by omega), decide_eq_false (show ¬ 9 < many by omega)]; rfl, kY⟩
  case rest =>
    obtain ⟨rfl, kc⟩ := hcut
    clear hw1 HRW HONE HON2
    cases hbad : badC l x y many
    · have hfw : fewI (l ++ [x, y]) (30 + 2) = true := by
        unfold badC at hbad
        rw [Bool.or_eq_false_iff, Bool.not_eq_false'] at hbad
        exact hbad.1
      have hm1 : 1 ≤ many ∧ many ≤ 9 := by
        unfold badC at hbad
        rw [Bool.or_eq_false_iff, Bool.or_eq_false_iff, decide_eq_false_iff_not, decide_eq_false_iff_not] at hbad
        omega
      obtain ⟨m1, m9⟩ := hm1
      obtain ⟨hfl, hx3, hy3⟩ := fewI_snoc hfw
      have HF := Lib.hid hfl
      clear hfw hfl hbad
      go_wp2_with fail
      refine (New_calls 8 (by decide) (by decide) wc).mono ?_; rintro e w3 ⟨b0, bf0, br0, rfl, hp, lf, lr, lb, k3⟩
      go_wp2_with fail
      refine (rNew_ok 8 (by decide) _).mono ?_; rintro e w2 ⟨v2, rfl, hr2, k2⟩
      rw [show newL 8 = docL (8 : Int).toNat [] from newL_doc 8] at hr2
      have HDR := Lib.hid (show zeros64 = docR [] by decide)
      have hzc := kc.size
      have hP2 : Pl w1 w2 b0 bf0 br0 8 [] [] v2 := ⟨⟨hp.step k2, kc.trans ((k3.trans (k2.mono k3.size)).mono kc.size), by omega, by omega⟩, good_new 8 (by decide) (by decide), hr2⟩
      have HSL2 := Lib.hid hr2.sl
      have hb9 := hP2.live.pool.blk.lt
      have hf9 := hP2.live.pool.fr.lt
      have hr9 := hP2.live.pool.re.lt
      clear hr2 hp lf lr lb k3 k2
      have HNB := Lib.hid (zbox w2)
      go_wp2_with (refine wpList_storeBG ty65 rfl _ _ rfl w2.heap.size (poolV v2 zeros64) rfl rfl HNB.out (poolV_size _ rfl) (poolV_size _ rfl) (poolV_one HSL2.out.one _) ?_)
      intro w3 hw3
      obtain ⟨k3, hB3⟩ := newbox rfl hw3
      rw [HDR.out] at hB3
      have hL3 : Lq w1 w3 b0 bf0 br0 w2.heap.size 8 [] [] v2 v2 (docR []) := ⟨hP2.step k3, hB3, HSL2.out, hP2.live.bel.size, by omega, by omega, by omega⟩
      have hn0 : bf0 < w2.heap.size ∧ br0 < w2.heap.size := ⟨hf9, hr9⟩
      obtain ⟨g, hg⟩ : ∃ g, w2.heap.size = g := ⟨_, rfl⟩
      rw [hg] at hL3 hn0 ⊢
      clear hw3 k3 hB3 hP2 HNB hb9 hf9 hr9 hg hn0
      go_wp2_with fail
      go_loopw [7, 11] (fun t i wr => ∃ (k b bf br : Nat) (F : List Fr) (R : List (Int × Int)) (v : Value), k ≤ l.length ∧ i = .int .i64 k ∧ t = .pointer (some ⟨b, 0, none⟩) ∧ Inv F R ∧ Lq w1 wr b bf br g 8 F R v v (docR R)) (fun _ i _ => l.length - (intOf i).toNat)
      case atStart => exact ⟨0, _, _, _, _, _, _, by omega, rfl, rfl, Inv.new, hL3⟩
      case round =>
        obtain ⟨k, b, bf, br, F, R, v, hk, rfl, rfl, hI, hL⟩ := hrel
        rename_i wr
        clear hL3
        have HV := Lib.hid (docR_len R)
        by_cases hlt : k < l.length
        · obtain ⟨ba, off, rfl, hAk⟩ := HVA.out k hlt
          have hbl : l[k].bs.length ≤ 300 := by
            have h9 := HF.out
            unfold fewI at h9
            rw [Bool.and_eq_true] at h9
            have := of_decide_eq_true h9.1 l[k] (List.getElem_mem hlt)
            omega
          obtain ⟨z, hz⟩ : ∃ x, l[k] = x := ⟨_, rfl⟩
          rw [hz] at hAk hbl
          have i0 : (0 : Int) ≤ k := by omega
          have i1 : (k : Int) < l.length := by omega
          have HAKW := Lib.hid hAk.bw
          have HACT := Lib.hid (fun (Y : World) (h : Pl w1 Y b bf br 8 F R v) (hr : RowAt Y.heap.size Y z.v z.bs.length (intVals .u8 z.bs)) => act_ok h z hr hbl HAKW.out)
          have HAK := Lib.hid hAk
          have hst : PlyC ba (off + k * 5) z wr.drew := PlyC.mk' (hAk.below hL.p.live.bel.drew z1)
          have HL := Lib.hid hL
          clear hz hL hAk hbl
          go_wp2_with fail
          refine wp_onlyN ?_
          refine wp_region_held_drew (S := PlyC ba (off + k * 5) z) (by kernel_rfl) hst (fun hHeld => ?_)
          have hL := HL.out.step (Below.refl _ wr).drew
          have hAk := HAK.out
          clear HL HAK hst
          change wpAnyH _ _ _ _ _ _ _ _ wr.drew
          generalize wr.drew = Y at hL hHeld ⊢
          refine wpAnyH_take (i := 0) (v := ?_) rfl (by kernel_rfl) (by kernel_rfl) (by kernel_rfl) (fun _ _ _ h => h) (Or.inl ⟨by rfl, ?_⟩) (by assumption) ?_
          rotate_left
          · (intro Y hSw; (try dsimp only at hSw); obtain ⟨hS0, hS1, hS2, hS3, hS4⟩ := hSw; go_simp; try with_reducible rfl)
          try simp only [Act.put, List.getElem_toArray, List.getElem_cons_zero, List.getElem_cons_succ, List.setIfInBounds_toArray, List.set_cons_zero, List.set_cons_succ]
          refine wpAnyH_take (i := 2) (v := ?_) rfl (by kernel_rfl) (by kernel_rfl) (by kernel_rfl) (fun _ _ _ h => h) (Or.inl ⟨by rfl, ?_⟩) (by assumption) ?_
          rotate_left
          · (intro Y hSw; (try dsimp only at hSw); obtain ⟨hS0, hS1, hS2, hS3, hS4⟩ := hSw; go_simp; try with_reducible rfl)
          try simp only [Act.put, List.getElem_toArray, List.getElem_cons_zero, List.getElem_cons_succ, List.setIfInBounds_toArray, List.set_cons_zero, List.set_cons_succ]
          refine wpAnyH_take (i := 3) (v := ?_) rfl (by kernel_rfl) (by kernel_rfl) (by kernel_rfl) (fun _ _ _ h => h) (Or.inl ⟨by rfl, ?_⟩) (by assumption) ?_
          rotate_left
          · (intro Y hSw; (try dsimp only at hSw); obtain ⟨hS0, hS1, hS2, hS3, hS4⟩ := hSw; go_simp; try with_reducible rfl)
          try simp only [Act.put, List.getElem_toArray, List.getElem_cons_zero, List.getElem_cons_succ, List.setIfInBounds_toArray, List.set_cons_zero, List.set_cons_succ]
          refine wpAnyH_take (i := 4) (v := ?_) rfl (by kernel_rfl) (by kernel_rfl) (by kernel_rfl) (fun _ _ _ h => h) (Or.inl ⟨by rfl, ?_⟩) (by assumption) ?_
          rotate_left
          · (intro Y hSw; (try dsimp only at hSw); obtain ⟨hS0, hS1, hS2, hS3, hS4⟩ := hSw; go_simp; try with_reducible rfl)
          try simp only [Act.put, List.getElem_toArray, List.getElem_cons_zero, List.getElem_cons_succ, List.setIfInBounds_toArray, List.set_cons_zero, List.set_cons_succ]
          refine wpAnyH_take (i := 5) (v := ?_) rfl (by kernel_rfl) (by kernel_rfl) (by kernel_rfl) (fun _ _ _ h => h) (Or.inl ⟨by rfl, ?_⟩) (by assumption) ?_
          rotate_left
          · (intro Y hSw; (try dsimp only at hSw); obtain ⟨hS0, hS1, hS2, hS3, hS4⟩ := hSw; go_simp; try with_reducible rfl)
          try simp only [Act.put, List.getElem_toArray, List.getElem_cons_zero, List.getElem_cons_succ, List.setIfInBounds_toArray, List.set_cons_zero, List.set_cons_succ]
          refine wpAnyH_ready (rs := [1]) (by kernel_rfl) (by simp) ?_
          refine AllReadyH.cons rfl (fun K hK => ?_) AllReadyH.nil
          rw [if_pos (by rfl)]
          refine wp_loadB ty65 _ rfl g rfl hL.x (poolV_size _ HV.out) ?_
          refine hK.out _ _ (hHeld) (fun hHeld => ?_)
          clear hK K
          try simp only [Act.put, List.getElem_toArray, List.getElem_cons_zero, List.getElem_cons_succ, List.setIfInBounds_toArray, List.set_cons_zero, List.set_cons_succ]
          refine wpAnyH_ready (rs := [6]) (by kernel_rfl) (by simp) ?_
          refine AllReadyH.cons rfl (fun K hK => ?_) AllReadyH.nil
          go_simp
          have hrx := ((hAk.row.below hL.p.live.bel z1).mono (Nat.le_trans z1 hL.p.live.bel.size))
          refine (HACT.out Y hL.p hrx).mono ?_; rintro e Z ⟨b', bf', br', F', R', v', rfl, hE2⟩
          replace hL := hL.act hE2
          have HI' := Lib.hid (hE2.i hI)
          clear hE2 hrx
          go_simp
          refine hK.out _ _ (PlyC.mk' (hAk.below hL.p.live.bel z1)) (fun hHeld => ?_)
          clear hK K
          try simp only [Act.put, List.getElem_toArray, List.getElem_cons_zero, List.getElem_cons_succ, List.setIfInBounds_toArray, List.set_cons_zero, List.set_cons_succ]
          refine wpAnyH_take (i := 7) (v := ?_) rfl (by kernel_rfl) (by kernel_rfl) (by kernel_rfl) (fun _ _ _ h => h) (Or.inl ⟨by rfl, ?_⟩) (by assumption) ?_
          rotate_left
          · (intro Y hSw; (try dsimp only at hSw); obtain ⟨hS0, hS1, hS2, hS3, hS4⟩ := hSw; go_simp; try with_reducible rfl)
          try simp only [Act.put, List.getElem_toArray, List.getElem_cons_zero, List.getElem_cons_succ, List.setIfInBounds_toArray, List.set_cons_zero, List.set_cons_succ]
          refine wpAnyH_take (i := 8) (v := ?_) rfl (by kernel_rfl) (by kernel_rfl) (by kernel_rfl) (fun _ _ _ h => h) (Or.inl ⟨by rfl, ?_⟩) (by assumption) ?_
          rotate_left
          · (intro Y hSw; (try dsimp only at hSw); obtain ⟨hS0, hS1, hS2, hS3, hS4⟩ := hSw; go_simp; try with_reducible rfl)
          try simp only [Act.put, List.getElem_toArray, List.getElem_cons_zero, List.getElem_cons_succ, List.setIfInBounds_toArray, List.set_cons_zero, List.set_cons_succ]
          refine wpAnyH_take (i := 9) (v := ?_) rfl (by kernel_rfl) (by kernel_rfl) (by kernel_rfl) (fun _ _ _ h => h) (Or.inl ⟨by rfl, ?_⟩) (by assumption) ?_
          rotate_left
          · (intro Y hSw; (try dsimp only at hSw); obtain ⟨hS0, hS1, hS2, hS3, hS4⟩ := hSw; go_simp; try with_reducible rfl)
          try simp only [Act.put, List.getElem_toArray, List.getElem_cons_zero, List.getElem_cons_succ, List.setIfInBounds_toArray, List.set_cons_zero, List.set_cons_succ]
          refine wpAnyH_take (i := 10) (v := ?_) rfl (by kernel_rfl) (by kernel_rfl) (by kernel_rfl) (fun _ _ _ h => h) (Or.inl ⟨by rfl, ?_⟩) (by assumption) ?_
          rotate_left
          · (intro Y hSw; (try dsimp only at hSw); obtain ⟨hS0, hS1, hS2, hS3, hS4⟩ := hSw; go_simp; try with_reducible rfl)
          try simp only [Act.put, List.getElem_toArray, List.getElem_cons_zero, List.getElem_cons_succ, List.setIfInBounds_toArray, List.set_cons_zero, List.set_cons_succ]
          refine wpAnyH_take (i := 11) (v := ?_) rfl (by kernel_rfl) (by kernel_rfl) (by kernel_rfl) (fun _ _ _ h => h) (Or.inl ⟨by rfl, ?_⟩) (by assumption) ?_
          rotate_left
          · (intro Y hSw; (try dsimp only at hSw); obtain ⟨hS0, hS1, hS2, hS3, hS4⟩ := hSw; go_simp; try with_reducible rfl)
          try simp only [Act.put, List.getElem_toArray, List.getElem_cons_zero, List.getElem_cons_succ, List.setIfInBounds_toArray, List.set_cons_zero, List.set_cons_succ]
          refine wpAnyH_ready (rs := [12]) (by kernel_rfl) (by simp) ?_
          refine AllReadyH.cons rfl (fun K hK => ?_) AllReadyH.nil
          rw [if_pos (by rfl)]
          have HSL := Lib.hid hL.p.r.sl
          have HV' := Lib.hid (docR_len R')
          refine wp_storeB ty65 _ _ rfl g (poolV v' (docR R')) rfl rfl hL.x (poolV_size _ HV.out) (poolV_size _ HV'.out) (poolV_one HSL.out.one _) ?_
          have hL4 := hL.put HV.out v' HSL.out (docR R') HV'.out
          refine hK.out _ _ (PlyC.mk' (hAk.below hL4.p.live.bel z1)) (fun hHeld => ?_)
          clear hK K
          try simp only [Act.put, List.getElem_toArray, List.getElem_cons_zero, List.getElem_cons_succ, List.setIfInBounds_toArray, List.set_cons_zero, List.set_cons_succ]
          refine wpAnyH_done (by kernel_rfl) ?_ _
          rw [onlyN_normal]
          clear hL hHeld
          generalize World.setCells Z g 0 _ = Z4 at hL4 ⊢
          go_wp2_with fail
          exact ⟨⟨k + 1, b', bf', br', F', R', v', by omega, by go_num, rfl, HI'.out, hL4⟩, by simp [intOf]; omega⟩
        · obtain rfl : k = l.length := by omega
          clear hlt hk HF HVA hml
          have hbl0 := hL.p.live.pool.blk.lt
          have hfl0 := hL.p.live.pool.fr.lt
          have hrl0 := hL.p.live.pool.re.lt
          have hgl0 := hL.x.lt
          have hwl0 := hL.p.live.bel.size
          have hm8 : (8 : Int).toNat = 8 := rfl
          go_wp2_with fail
          refine (Copy_ok hL.p.live.pool).mono ?_; rintro e W1 ⟨c, cf, cr, rfl, hC, l1, l2, l3, k5⟩
          have hL1 := hL.step k5
          have hz1 := k5.size
          have hcl := hC.blk.lt
          have hcfl := hC.fr.lt
          have hcrl := hC.re.lt
          clear hL k5
          go_wp2_with fail
          refine (All_calls hL1.p.live.pool).mono ?_; rintro e W2 ⟨sx, bc, rfl, ls, lbc, hS, hM, k6⟩
          have hL2 := hL1.step k6
          have hC2 := hC.step k6
          have hzB := k6.size
          have hsl := hS.lt
          have hbcl := hM.lt
          have htw := HTW.out _ hL2.p.live.bel
          have t0 := htw.c0
          have t1 := htw.c1
          have t2 := htw.c2
          have t3 := htw.c3
          have t4 := htw.c4
          have HBX := Lib.hid hL2.x
          have HZ8 := Lib.hid hm8
          clear hL1 hC k6 htw hm8
          go_wp2_with (refine wpList_loadWM ty65 (by rfl) _ rfl g 0 rfl _ HBX.out.rng0 (by simpa using poolV_size _ HV.out) ?_)
          have hxr := ((HX.out.1.below hL2.p.live.bel (Nat.le_refl _)).mono hL2.p.live.bel.size)
          refine (act_ok hL2.p x hxr (by omega) HX.out.2).mono ?_; rintro e W3 ⟨b1, f1, r1, F1, R1, v1, rfl, hE⟩
          have hI1 := hE.i hI
          have hC3 : PoolAt W3 c cf cr 8 F R := hC2.chg2 hE.c (by omega) (by omega) (by omega)
          have hS3 := hE.c.blk hS (by omega) (by omega)
          have hM3 := hM.chg2 hE.c (by omega) (by omega)
          have hr3 := (hL2.p.r.chg2 hL2.p.live.pool.fr hL2.p.live.pool.re hE.c).mono hE.c.size
          have hx3 := hE.c.blk hL2.x (Ne.symm hL2.n2) (Ne.symm hL2.n3)
          have hgD := hL2.p.g
          have hP3 := hE.p
          have hlo2 := hL2.p.live.bel.size
          have hn3 : (b1 ≠ cf ∧ b1 ≠ cr) ∧ (f1 ≠ cf ∧ f1 ≠ cr) ∧ (r1 ≠ cf ∧ r1 ≠ cr) := by
            rcases hE.n with ⟨rfl, rfl, rfl⟩ | ⟨h1, h2, h3⟩
            · exact ⟨⟨by omega, by omega⟩, ⟨by omega, by omega⟩, ⟨by omega, by omega⟩⟩
            · exact ⟨⟨by omega, by omega⟩, ⟨by omega, by omega⟩, ⟨by omega, by omega⟩⟩
          have hz3 := hE.c.size
          clear t0 t1 t2 t3 t4 hE hL2 hC2 hS hM HBX hxr
          have HSL1 := Lib.hid hP3.r.sl
          have HV1 := Lib.hid (docR_len R1)
          have HNB := Lib.hid (zbox W3)
          go_wp2_with (refine wpList_storeBG ty65 rfl _ _ rfl W3.heap.size (poolV v1 (docR R1)) rfl rfl HNB.out (poolV_size _ rfl) (poolV_size _ HV1.out) (poolV_one HSL1.out.one _) ?_)
          intro W4 hw4
          obtain ⟨k4, hxa⟩ := newbox HV1.out hw4
          have hP4 := hP3.step k4
          have hC4 := hC3.step k4
          have hS4 := hS3.below k4 hS3.lt
          have hM4 := hM3.below k4 hM3.lt
          have hr4 := (hr3.below k4 (Nat.le_refl _)).mono k4.size
          have hx4 := hx3.below k4 hx3.lt
          have hz4 := k4.size
          obtain ⟨o1, ho1⟩ : ∃ o1, W3.heap.size = o1 := ⟨_, rfl⟩
          rw [ho1] at hxa hz3 hz4 ⊢
          clear hP3 hC3 hS3 hM3 hr3 hx3 k4 hw4 HNB ho1
          have htw := HTW.out _ hP4.live.bel
          have t5 := htw.c5
          have t6 := htw.c6
          have t7 := htw.c7
          have t8 := htw.c8
          have t9 := htw.c9
          have HBX := Lib.hid hx4
          clear htw
          go_wp2_with (refine wpList_loadWM ty65 (by rfl) _ rfl g 0 rfl _ HBX.out.rng0 (by simpa using poolV_size _ HV.out) ?_)
          have hPc : Pl w1 W4 c cf cr 8 F R v := ⟨⟨hC4, hP4.live.bel, by omega, by omega⟩, hgD, hr4⟩
          have hyr := ((HY.out.1.below hP4.live.bel (Nat.le_refl _)).mono hP4.live.bel.size)
          refine (act_ok hPc y hyr (by omega) HY.out.2).mono ?_; rintro e W5 ⟨b2, f2, r2, F2, R2, v2, rfl, hE⟩
          have hI2 := hE.i hI
          have hA5 : Pl w1 W5 b1 f1 r1 8 F1 R1 v1 := ⟨⟨hP4.live.pool.chg2 hE.c hn3.1 hn3.2.1 hn3.2.2, hE.p.live.bel, hP4.live.lf, hP4.live.lr⟩, hP4.g, (hP4.r.chg2 hC4.fr hC4.re hE.c).mono hE.c.size⟩
          have hS5 := hE.c.blk hS4 (by omega) (by omega)
          have hM5 := hM4.chg2 hE.c (by omega) (by omega)
          have hr5 := (hr4.chg2 hC4.fr hC4.re hE.c).mono hE.c.size
          have hx5 := hE.c.blk hx4 (by omega) (by omega)
          have hxa5 := hE.c.blk hxa (by omega) (by omega)
          have hP5 := hE.p
          clear t5 t6 t7 t8 t9 hE hP4 hC4 hS4 hM4 hr4 hx4 hxa hPc hyr HBX hn3
          have HSL2' := Lib.hid hP5.r.sl
          have HV2 := Lib.hid (docR_len R2)
          have HNB := Lib.hid (zbox W5)
          go_wp2_with (refine wpList_storeBG ty65 rfl _ _ rfl W5.heap.size (poolV v2 (docR R2)) rfl rfl HNB.out (poolV_size _ rfl) (poolV_size _ HV2.out) (poolV_one HSL2'.out.one _) ?_)
          intro W6 hw6
          obtain ⟨k6, hxb⟩ := newbox HV2.out hw6
          obtain ⟨o2, ho2⟩ : ∃ o2, W5.heap.size = o2 := ⟨_, rfl⟩
          rw [ho2] at hxb ⊢
          have HC6 : Cp w1 W6 b1 f1 r1 b2 f2 r2 F1 F2 F R1 R2 R v1 v2 v g o1 o2 sx bc :=
            ⟨hA5.step k6, hI1, hP5.step k6, hI2, (hr5.below k6 (Nat.le_refl _)).mono k6.size, hx5.below k6 hx5.lt, hxa5.below k6 hxa5.lt, hxb, hS5.below k6 hS5.lt, hM5.below k6 hM5.lt⟩
          clear hA5 hP5 hr5 hx5 hxa5 hS5 hM5 k6 hxb ho2 hw6 HNB
          go_wp2_with fail
          obtain ⟨d, hd⟩ : ∃ d, decide (docL (8 : Int).toNat F1 = docL (8 : Int).toNat F2 ∧ docR R1 = docR R2) = d := ⟨_, rfl⟩
          have hd2 : decide (docL (8 : Int).toNat F2 = docL (8 : Int).toNat F1 ∧ docR R2 = docR R1) = d := by rw [← hd]; exact decide_eq_decide.2 ⟨fun h => ⟨h.1.symm, h.2.symm⟩, fun h => ⟨h.1.symm, h.2.symm⟩⟩
          have HD1 := Lib.hid hd
          have HD2 := Lib.hid hd2
          clear hd hd2
          refine wp_onlyN ?_
          have HC7 := HC6.step (Below.refl _ W6).drew
          refine wp_region_held_drew (S := CoS o1 o2 (poolV v1 (docR R1)) (poolV v2 (docR R2))) (by kernel_rfl) ⟨HC7.xa, HC7.xb⟩ (fun hHeld => ?_)
          clear HC6
          change wpAnyH _ _ _ _ _ _ _ _ W6.drew
          generalize W6.drew = Y at HC7 hHeld ⊢
          refine wpAnyH_take (i := 0) (v := ?_) rfl (by kernel_rfl) (by kernel_rfl) (by kernel_rfl) (fun _ _ _ h => h) (Or.inl ⟨by rfl, ?_⟩) (by assumption) ?_
          rotate_left
          · (intro Y hSw; (try dsimp only at hSw); obtain ⟨hS0, hS1⟩ := hSw; go_simp; try with_reducible rfl)
          try simp only [Act.put, List.getElem_toArray, List.getElem_cons_zero, List.getElem_cons_succ, List.setIfInBounds_toArray, List.set_cons_zero, List.set_cons_succ]
          refine wpAnyH_ready (rs := [1]) (by kernel_rfl) (by simp) ?_
          refine AllReadyH.cons rfl (fun K hK => ?_) AllReadyH.nil
          go_simp
          refine (num_calls _ _).mono ?_; rintro e _ ⟨rfl, rfl⟩
          go_simp
          refine hK.out _ _ (hHeld) (fun hHeld => ?_)
          clear hK K
          try simp only [Act.put, List.getElem_toArray, List.getElem_cons_zero, List.getElem_cons_succ, List.setIfInBounds_toArray, List.set_cons_zero, List.set_cons_succ]
          refine wpAnyH_take (i := 2) (v := ?_) rfl (by kernel_rfl) (by kernel_rfl) (by kernel_rfl) (fun _ _ _ h => h) (Or.inl ⟨by rfl, ?_⟩) (by assumption) ?_
          rotate_left
          · (intro Y hSw; (try dsimp only at hSw); obtain ⟨hS0, hS1⟩ := hSw; go_simp; try with_reducible rfl)
          try simp only [Act.put, List.getElem_toArray, List.getElem_cons_zero, List.getElem_cons_succ, List.setIfInBounds_toArray, List.set_cons_zero, List.set_cons_succ]
          refine wpAnyH_take (i := 3) (v := ?_) rfl (by kernel_rfl) (by kernel_rfl) (by kernel_rfl) (fun _ _ _ h => h) (Or.inl ⟨by rfl, ?_⟩) (by assumption) ?_
          rotate_left
          · (intro Y hSw; (try dsimp only at hSw); obtain ⟨hS0, hS1⟩ := hSw; go_simp; try with_reducible rfl)
          try simp only [Act.put, List.getElem_toArray, List.getElem_cons_zero, List.getElem_cons_succ, List.setIfInBounds_toArray, List.set_cons_zero, List.set_cons_succ]
          refine wpAnyH_take (i := 4) (v := ?_) rfl (by kernel_rfl) (by kernel_rfl) (by kernel_rfl) (fun _ _ _ h => h) (Or.inl ⟨by rfl, ?_⟩) (by assumption) ?_
          rotate_left
          · (intro Y hSw; (try dsimp only at hSw); obtain ⟨hS0, hS1⟩ := hSw; go_simp; try with_reducible rfl)
          try simp only [Act.put, List.getElem_toArray, List.getElem_cons_zero, List.getElem_cons_succ, List.setIfInBounds_toArray, List.set_cons_zero, List.set_cons_succ]
          refine wpAnyH_take (i := 5) (v := ?_) rfl (by kernel_rfl) (by kernel_rfl) (by kernel_rfl) (fun _ _ _ h => h) (Or.inl ⟨by rfl, ?_⟩) (by assumption) ?_
          rotate_left
          · (intro Y hSw; (try dsimp only at hSw); obtain ⟨hS0, hS1⟩ := hSw; go_simp; try with_reducible rfl)
          try simp only [Act.put, List.getElem_toArray, List.getElem_cons_zero, List.getElem_cons_succ, List.setIfInBounds_toArray, List.set_cons_zero, List.set_cons_succ]
          refine wpAnyH_take (i := 6) (v := ?_) rfl (by kernel_rfl) (by kernel_rfl) (by kernel_rfl) (fun _ _ _ h => h) (Or.inl ⟨by rfl, ?_⟩) (by assumption) ?_
          rotate_left
          · (intro Y hSw; (try dsimp only at hSw); obtain ⟨hS0, hS1⟩ := hSw; go_simp; try with_reducible rfl)
          try simp only [Act.put, List.getElem_toArray, List.getElem_cons_zero, List.getElem_cons_succ, List.setIfInBounds_toArray, List.set_cons_zero, List.set_cons_succ]
          refine wpAnyH_take (i := 7) (v := ?_) rfl (by kernel_rfl) (by kernel_rfl) (by kernel_rfl) (fun _ _ _ h => h) (Or.inl ⟨by rfl, ?_⟩) (by assumption) ?_
          rotate_left
          · (intro Y hSw; (try dsimp only at hSw); obtain ⟨hS0, hS1⟩ := hSw; go_simp; try with_reducible rfl)
          try simp only [Act.put, List.getElem_toArray, List.getElem_cons_zero, List.getElem_cons_succ, List.setIfInBounds_toArray, List.set_cons_zero, List.set_cons_succ]
          refine wpAnyH_take (i := 8) (v := ?_) rfl (by kernel_rfl) (by kernel_rfl) (by kernel_rfl) (fun _ _ _ h => h) (Or.inl ⟨by rfl, ?_⟩) (by assumption) ?_
          rotate_left
          · (intro Y hSw; (try dsimp only at hSw); obtain ⟨hS0, hS1⟩ := hSw; go_simp; try with_reducible rfl)
          try simp only [Act.put, List.getElem_toArray, List.getElem_cons_zero, List.getElem_cons_succ, List.setIfInBounds_toArray, List.set_cons_zero, List.set_cons_succ]
          refine wpAnyH_take (i := 9) (v := ?_) rfl (by kernel_rfl) (by kernel_rfl) (by kernel_rfl) (fun _ _ _ h => h) (Or.inl ⟨by rfl, ?_⟩) (by assumption) ?_
          rotate_left
          · (intro Y hSw; (try dsimp only at hSw); obtain ⟨hS0, hS1⟩ := hSw; go_simp; try with_reducible rfl)
          try simp only [Act.put, List.getElem_toArray, List.getElem_cons_zero, List.getElem_cons_succ, List.setIfInBounds_toArray, List.set_cons_zero, List.set_cons_succ]
          refine wpAnyH_take (i := 10) (v := ?_) rfl (by kernel_rfl) (by kernel_rfl) (by kernel_rfl) (fun _ _ _ h => h) (Or.inl ⟨by rfl, ?_⟩) (by assumption) ?_
          rotate_left
          · (intro Y hSw; (try dsimp only at hSw); obtain ⟨hS0, hS1⟩ := hSw; go_simp; try with_reducible rfl)
          try simp only [Act.put, List.getElem_toArray, List.getElem_cons_zero, List.getElem_cons_succ, List.setIfInBounds_toArray, List.set_cons_zero, List.set_cons_succ]
          refine wpAnyH_take (i := 11) (v := ?_) rfl (by kernel_rfl) (by kernel_rfl) (by kernel_rfl) (fun _ _ _ h => h) (Or.inl ⟨by rfl, ?_⟩) (by assumption) ?_
          rotate_left
          · (intro Y hSw; (try dsimp only at hSw); obtain ⟨hS0, hS1⟩ := hSw; go_simp; try with_reducible rfl)
          try simp only [Act.put, List.getElem_toArray, List.getElem_cons_zero, List.getElem_cons_succ, List.setIfInBounds_toArray, List.set_cons_zero, List.set_cons_succ]
          refine wpAnyH_take (i := 12) (v := ?_) rfl (by kernel_rfl) (by kernel_rfl) (by kernel_rfl) (fun _ _ _ h => h) (Or.inl ⟨by rfl, ?_⟩) (by assumption) ?_
          rotate_left
          · (intro Y hSw; (try dsimp only at hSw); obtain ⟨hS0, hS1⟩ := hSw; go_simp; try with_reducible rfl)
          try simp only [Act.put, List.getElem_toArray, List.getElem_cons_zero, List.getElem_cons_succ, List.setIfInBounds_toArray, List.set_cons_zero, List.set_cons_succ]
          refine wpAnyH_take (i := 13) (v := .agg (poolV v1 (docR R1))) rfl (by kernel_rfl) (by kernel_rfl) (by kernel_rfl) (fun _ _ _ h => h) (Or.inl ⟨by rfl, fun Y hSw => exec_loadB ty65 _ rfl o1 rfl hSw.a (poolV_size _ HV1.out)⟩) (by assumption) ?_
          try simp only [Act.put, List.getElem_toArray, List.getElem_cons_zero, List.getElem_cons_succ, List.setIfInBounds_toArray, List.set_cons_zero, List.set_cons_succ]
          refine wpAnyH_ready (rs := [14]) (by kernel_rfl) (by simp) ?_
          refine AllReadyH.cons rfl (fun K hK => ?_) AllReadyH.nil
          go_simp
          refine (is_ok HC7.a.live.pool HC7.a.g v1 _ (Nat.le_refl _) HC7.a.r).mono ?_; rintro e u1 ⟨rfl, j1⟩
          have HU1 := HC7.step j1
          clear HC7 j1
          go_simp
          refine hK.out _ _ (⟨HU1.xa, HU1.xb⟩) (fun hHeld => ?_)
          clear hK K
          try simp only [Act.put, List.getElem_toArray, List.getElem_cons_zero, List.getElem_cons_succ, List.setIfInBounds_toArray, List.set_cons_zero, List.set_cons_succ]
          refine wpAnyH_take (i := 15) (v := ?_) rfl (by kernel_rfl) (by kernel_rfl) (by kernel_rfl) (fun _ _ _ h => h) (Or.inl ⟨by rfl, ?_⟩) (by assumption) ?_
          rotate_left
          · (intro Y hSw; (try dsimp only at hSw); obtain ⟨hS0, hS1⟩ := hSw; go_simp; try with_reducible rfl)
          try simp only [Act.put, List.getElem_toArray, List.getElem_cons_zero, List.getElem_cons_succ, List.setIfInBounds_toArray, List.set_cons_zero, List.set_cons_succ]
          refine wpAnyH_take (i := 16) (v := ?_) rfl (by kernel_rfl) (by kernel_rfl) (by kernel_rfl) (fun _ _ _ h => h) (Or.inl ⟨by rfl, ?_⟩) (by assumption) ?_
          rotate_left
          · (intro Y hSw; (try dsimp only at hSw); obtain ⟨hS0, hS1⟩ := hSw; go_simp; try with_reducible rfl)
          try simp only [Act.put, List.getElem_toArray, List.getElem_cons_zero, List.getElem_cons_succ, List.setIfInBounds_toArray, List.set_cons_zero, List.set_cons_succ]
          refine wpAnyH_take (i := 17) (v := ?_) rfl (by kernel_rfl) (by kernel_rfl) (by kernel_rfl) (fun _ _ _ h => h) (Or.inl ⟨by rfl, ?_⟩) (by assumption) ?_
          rotate_left
          · (intro Y hSw; (try dsimp only at hSw); obtain ⟨hS0, hS1⟩ := hSw; go_simp; try with_reducible rfl)
          try simp only [Act.put, List.getElem_toArray, List.getElem_cons_zero, List.getElem_cons_succ, List.setIfInBounds_toArray, List.set_cons_zero, List.set_cons_succ]
          refine wpAnyH_take (i := 18) (v := ?_) rfl (by kernel_rfl) (by kernel_rfl) (by kernel_rfl) (fun _ _ _ h => h) (Or.inl ⟨by rfl, ?_⟩) (by assumption) ?_
          rotate_left
          · (intro Y hSw; (try dsimp only at hSw); obtain ⟨hS0, hS1⟩ := hSw; go_simp; try with_reducible rfl)
          try simp only [Act.put, List.getElem_toArray, List.getElem_cons_zero, List.getElem_cons_succ, List.setIfInBounds_toArray, List.set_cons_zero, List.set_cons_succ]
          refine wpAnyH_take (i := 19) (v := .agg (poolV v2 (docR R2))) rfl (by kernel_rfl) (by kernel_rfl) (by kernel_rfl) (fun _ _ _ h => h) (Or.inl ⟨by rfl, fun Y hSw => exec_loadB ty65 _ rfl o2 rfl hSw.b (poolV_size _ HV2.out)⟩) (by assumption) ?_
          try simp only [Act.put, List.getElem_toArray, List.getElem_cons_zero, List.getElem_cons_succ, List.setIfInBounds_toArray, List.set_cons_zero, List.set_cons_succ]
          refine wpAnyH_ready (rs := [20]) (by kernel_rfl) (by simp) ?_
          refine AllReadyH.cons rfl (fun K hK => ?_) AllReadyH.nil
          go_simp
          refine (is_ok HU1.b.live.pool HU1.b.g v2 _ (Nat.le_refl _) HU1.b.r).mono ?_; rintro e u2 ⟨rfl, j2⟩
          have HU2 := HU1.step j2
          clear HU1 j2
          go_simp
          refine hK.out _ _ (⟨HU2.xa, HU2.xb⟩) (fun hHeld => ?_)
          clear hK K
          try simp only [Act.put, List.getElem_toArray, List.getElem_cons_zero, List.getElem_cons_succ, List.setIfInBounds_toArray, List.set_cons_zero, List.set_cons_succ]
          refine wpAnyH_take (i := 21) (v := ?_) rfl (by kernel_rfl) (by kernel_rfl) (by kernel_rfl) (fun _ _ _ h => h) (Or.inl ⟨by rfl, ?_⟩) (by assumption) ?_
          rotate_left
          · (intro Y hSw; (try dsimp only at hSw); obtain ⟨hS0, hS1⟩ := hSw; go_simp; try with_reducible rfl)
          try simp only [Act.put, List.getElem_toArray, List.getElem_cons_zero, List.getElem_cons_succ, List.setIfInBounds_toArray, List.set_cons_zero, List.set_cons_succ]
          refine wpAnyH_take (i := 22) (v := ?_) rfl (by kernel_rfl) (by kernel_rfl) (by kernel_rfl) (fun _ _ _ h => h) (Or.inl ⟨by rfl, ?_⟩) (by assumption) ?_
          rotate_left
          · (intro Y hSw; (try dsimp only at hSw); obtain ⟨hS0, hS1⟩ := hSw; go_simp; try with_reducible rfl)
          try simp only [Act.put, List.getElem_toArray, List.getElem_cons_zero, List.getElem_cons_succ, List.setIfInBounds_toArray, List.set_cons_zero, List.set_cons_succ]
          refine wpAnyH_take (i := 23) (v := ?_) rfl (by kernel_rfl) (by kernel_rfl) (by kernel_rfl) (fun _ _ _ h => h) (Or.inl ⟨by rfl, ?_⟩) (by assumption) ?_
          rotate_left
          · (intro Y hSw; (try dsimp only at hSw); obtain ⟨hS0, hS1⟩ := hSw; go_simp; try with_reducible rfl)
          try simp only [Act.put, List.getElem_toArray, List.getElem_cons_zero, List.getElem_cons_succ, List.setIfInBounds_toArray, List.set_cons_zero, List.set_cons_succ]
          refine wpAnyH_take (i := 24) (v := ?_) rfl (by kernel_rfl) (by kernel_rfl) (by kernel_rfl) (fun _ _ _ h => h) (Or.inl ⟨by rfl, ?_⟩) (by assumption) ?_
          rotate_left
          · (intro Y hSw; (try dsimp only at hSw); obtain ⟨hS0, hS1⟩ := hSw; go_simp; try with_reducible rfl)
          try simp only [Act.put, List.getElem_toArray, List.getElem_cons_zero, List.getElem_cons_succ, List.setIfInBounds_toArray, List.set_cons_zero, List.set_cons_succ]
          refine wpAnyH_take (i := 25) (v := ?_) rfl (by kernel_rfl) (by kernel_rfl) (by kernel_rfl) (fun _ _ _ h => h) (Or.inl ⟨by rfl, ?_⟩) (by assumption) ?_
          rotate_left
          · (intro Y hSw; (try dsimp only at hSw); obtain ⟨hS0, hS1⟩ := hSw; go_simp; try with_reducible rfl)
          try simp only [Act.put, List.getElem_toArray, List.getElem_cons_zero, List.getElem_cons_succ, List.setIfInBounds_toArray, List.set_cons_zero, List.set_cons_succ]
          refine wpAnyH_take (i := 27) (v := .agg (poolV v1 (docR R1))) rfl (by kernel_rfl) (by kernel_rfl) (by kernel_rfl) (fun _ _ _ h => h) (Or.inl ⟨by rfl, fun Y hSw => exec_loadB ty65 _ rfl o1 rfl hSw.a (poolV_size _ HV1.out)⟩) (by assumption) ?_
          try simp only [Act.put, List.getElem_toArray, List.getElem_cons_zero, List.getElem_cons_succ, List.setIfInBounds_toArray, List.set_cons_zero, List.set_cons_succ]
          refine wpAnyH_take (i := 28) (v := .agg (poolV v2 (docR R2))) rfl (by kernel_rfl) (by kernel_rfl) (by kernel_rfl) (fun _ _ _ h => h) (Or.inl ⟨by rfl, fun Y hSw => exec_loadB ty65 _ rfl o2 rfl hSw.b (poolV_size _ HV2.out)⟩) (by assumption) ?_
          try simp only [Act.put, List.getElem_toArray, List.getElem_cons_zero, List.getElem_cons_succ, List.setIfInBounds_toArray, List.set_cons_zero, List.set_cons_succ]
          refine wpAnyH_ready (rs := [26]) (by kernel_rfl) (by simp) ?_
          refine AllReadyH.cons rfl (fun K hK => ?_) AllReadyH.nil
          go_simp
          refine (Same_doc HU2.a.live.pool HU2.b.live.pool HU2.a.g HU2.b.g HU2.ia HU2.ib).mono ?_; rintro e u3 ⟨rfl, j3⟩
          have HU3 := HU2.step j3
          rw [HD1.out]
          clear HU2 j3
          go_simp
          refine hK.out _ _ (⟨HU3.xa, HU3.xb⟩) (fun hHeld => ?_)
          clear hK K
          try simp only [Act.put, List.getElem_toArray, List.getElem_cons_zero, List.getElem_cons_succ, List.setIfInBounds_toArray, List.set_cons_zero, List.set_cons_succ]
          refine wpAnyH_ready (rs := [29]) (by kernel_rfl) (by simp) ?_
          refine AllReadyH.cons rfl (fun K hK => ?_) AllReadyH.nil
          go_simp
          refine (rSame_doc HU3.ia HU3.ib (by decide) (Nat.le_refl _) HU3.a.r HU3.b.r).mono ?_; rintro e u4 ⟨rfl, j4⟩
          have HU4 := HU3.step j4
          rw [HD1.out]
          clear HU3 j4
          go_simp
          refine hK.out _ _ (⟨HU4.xa, HU4.xb⟩) (fun hHeld => ?_)
          clear hK K
          try simp only [Act.put, List.getElem_toArray, List.getElem_cons_zero, List.getElem_cons_succ, List.setIfInBounds_toArray, List.set_cons_zero, List.set_cons_succ]
          refine wpAnyH_take (i := 30) (v := ?_) rfl (by kernel_rfl) (by kernel_rfl) (by kernel_rfl) (fun _ _ _ h => h) (Or.inl ⟨by rfl, ?_⟩) (by assumption) ?_
          rotate_left
          · (intro Y hSw; (try dsimp only at hSw); obtain ⟨hS0, hS1⟩ := hSw; go_simp; try with_reducible rfl)
          try simp only [Act.put, List.getElem_toArray, List.getElem_cons_zero, List.getElem_cons_succ, List.setIfInBounds_toArray, List.set_cons_zero, List.set_cons_succ]
          refine wpAnyH_take (i := 31) (v := ?_) rfl (by kernel_rfl) (by kernel_rfl) (by kernel_rfl) (fun _ _ _ h => h) (Or.inl ⟨by rfl, ?_⟩) (by assumption) ?_
          rotate_left
          · (intro Y hSw; (try dsimp only at hSw); obtain ⟨hS0, hS1⟩ := hSw; go_simp; try with_reducible rfl)
          try simp only [Act.put, List.getElem_toArray, List.getElem_cons_zero, List.getElem_cons_succ, List.setIfInBounds_toArray, List.set_cons_zero, List.set_cons_succ]
          refine wpAnyH_take (i := 32) (v := ?_) rfl (by kernel_rfl) (by kernel_rfl) (by kernel_rfl) (fun _ _ _ h => h) (Or.inl ⟨by rfl, ?_⟩) (by assumption) ?_
          rotate_left
          · (intro Y hSw; (try dsimp only at hSw); obtain ⟨hS0, hS1⟩ := hSw; go_simp; try with_reducible rfl)
          try simp only [Act.put, List.getElem_toArray, List.getElem_cons_zero, List.getElem_cons_succ, List.setIfInBounds_toArray, List.set_cons_zero, List.set_cons_succ]
          refine wpAnyH_take (i := 33) (v := ?_) rfl (by kernel_rfl) (by kernel_rfl) (by kernel_rfl) (fun _ _ _ h => h) (Or.inl ⟨by rfl, ?_⟩) (by assumption) ?_
          rotate_left
          · (intro Y hSw; (try dsimp only at hSw); obtain ⟨hS0, hS1⟩ := hSw; go_simp; try with_reducible rfl)
          try simp only [Act.put, List.getElem_toArray, List.getElem_cons_zero, List.getElem_cons_succ, List.setIfInBounds_toArray, List.set_cons_zero, List.set_cons_succ]
          refine wpAnyH_take (i := 34) (v := ?_) rfl (by kernel_rfl) (by kernel_rfl) (by kernel_rfl) (fun _ _ _ h => h) (Or.inl ⟨by rfl, ?_⟩) (by assumption) ?_
          rotate_left
          · (intro Y hSw; (try dsimp only at hSw); obtain ⟨hS0, hS1⟩ := hSw; go_simp; try with_reducible rfl)
          try simp only [Act.put, List.getElem_toArray, List.getElem_cons_zero, List.getElem_cons_succ, List.setIfInBounds_toArray, List.set_cons_zero, List.set_cons_succ]
          refine wpAnyH_take (i := 36) (v := .agg (poolV v1 (docR R1))) rfl (by kernel_rfl) (by kernel_rfl) (by kernel_rfl) (fun _ _ _ h => h) (Or.inl ⟨by rfl, fun Y hSw => exec_loadB ty65 _ rfl o1 rfl hSw.a (poolV_size _ HV1.out)⟩) (by assumption) ?_
          try simp only [Act.put, List.getElem_toArray, List.getElem_cons_zero, List.getElem_cons_succ, List.setIfInBounds_toArray, List.set_cons_zero, List.set_cons_succ]
          refine wpAnyH_take (i := 37) (v := .agg (poolV v2 (docR R2))) rfl (by kernel_rfl) (by kernel_rfl) (by kernel_rfl) (fun _ _ _ h => h) (Or.inl ⟨by rfl, fun Y hSw => exec_loadB ty65 _ rfl o2 rfl hSw.b (poolV_size _ HV2.out)⟩) (by assumption) ?_
          try simp only [Act.put, List.getElem_toArray, List.getElem_cons_zero, List.getElem_cons_succ, List.setIfInBounds_toArray, List.set_cons_zero, List.set_cons_succ]
          refine wpAnyH_ready (rs := [35]) (by kernel_rfl) (by simp) ?_
          refine AllReadyH.cons rfl (fun K hK => ?_) AllReadyH.nil
          go_simp
          refine (Same_doc HU4.b.live.pool HU4.a.live.pool HU4.b.g HU4.a.g HU4.ib HU4.ia).mono ?_; rintro e u5 ⟨rfl, j5⟩
          have HU5 := HU4.step j5
          rw [HD2.out]
          clear HU4 j5
          go_simp
          refine hK.out _ _ (⟨HU5.xa, HU5.xb⟩) (fun hHeld => ?_)
          clear hK K
          try simp only [Act.put, List.getElem_toArray, List.getElem_cons_zero, List.getElem_cons_succ, List.setIfInBounds_toArray, List.set_cons_zero, List.set_cons_succ]
          refine wpAnyH_ready (rs := [38]) (by kernel_rfl) (by simp) ?_
          refine AllReadyH.cons rfl (fun K hK => ?_) AllReadyH.nil
          go_simp
          refine (rSame_doc HU5.ia HU5.ib (by decide) (Nat.le_refl _) HU5.a.r HU5.b.r).mono ?_; rintro e u6 ⟨rfl, j6⟩
          have HU6 := HU5.step j6
          rw [HD1.out]
          clear HU5 j6
          go_simp
          refine hK.out _ _ (⟨HU6.xa, HU6.xb⟩) (fun hHeld => ?_)
          clear hK K
          try simp only [Act.put, List.getElem_toArray, List.getElem_cons_zero, List.getElem_cons_succ, List.setIfInBounds_toArray, List.set_cons_zero, List.set_cons_succ]
          refine wpAnyH_take (i := 39) (v := ?_) rfl (by kernel_rfl) (by kernel_rfl) (by kernel_rfl) (fun _ _ _ h => h) (Or.inl ⟨by rfl, ?_⟩) (by assumption) ?_
          rotate_left
          · (intro Y hSw; (try dsimp only at hSw); obtain ⟨hS0, hS1⟩ := hSw; go_simp; try with_reducible rfl)
          try simp only [Act.put, List.getElem_toArray, List.getElem_cons_zero, List.getElem_cons_succ, List.setIfInBounds_toArray, List.set_cons_zero, List.set_cons_succ]
          refine wpAnyH_take (i := 40) (v := ?_) rfl (by kernel_rfl) (by kernel_rfl) (by kernel_rfl) (fun _ _ _ h => h) (Or.inl ⟨by rfl, ?_⟩) (by assumption) ?_
          rotate_left
          · (intro Y hSw; (try dsimp only at hSw); obtain ⟨hS0, hS1⟩ := hSw; go_simp; try with_reducible rfl)
          try simp only [Act.put, List.getElem_toArray, List.getElem_cons_zero, List.getElem_cons_succ, List.setIfInBounds_toArray, List.set_cons_zero, List.set_cons_succ]
          refine wpAnyH_done (by kernel_rfl) ?_ _
          rw [onlyN_normal]
          clear HD1 HD2 hHeld HSL1 HSL2' HV1 HV2
          have hfn := HFN.out
          go_wp2_with fail
          clear hfn
          have HC := Lib.hid HU6
          obtain ⟨lb, hlb⟩ : ∃ lb, u6.heap.size = lb := ⟨_, rfl⟩
          have hlb' := hlb
          generalize hU : World.alloc u6 _ = U
          rw [hlb]
          have bU : Blk U lb #[.slice none 0 0] 46 := by rw [← hU, ← hlb]; exact Blk.new _ _ _
          have kU : Below lb u6 U := by rw [← hU, ← hlb]; exact (Below.refl _ _).alloc (Nat.le_refl _) _
          have zU : U.heap.size = lb + 1 := by rw [← hU]; simp [hlb]
          have hV1 : ∀ W, Below lb u6 W → W.cell? ⟨sx, 0, none⟩ = some (.map (some bc)) ∧ MapI W bc (encF F) := fun W k => ⟨(HU6.s.below k (hlb ▸ HU6.s.lt)).cell 0 rfl, HU6.m.below k (hlb ▸ HU6.m.lt)⟩
          have HVA := Lib.hid hV1
          have hV2 : ∀ W, Below lb u6 W → W.cell? ⟨w.heap.size + 1, 0, none⟩ = some (.int .i64 many) := fun W k => (HTW.out W (HU6.a.live.bel.trans (k.mono (hlb ▸ HU6.a.live.bel.size)))).m
          have HMN := Lib.hid hV2
          have hlF := hgD.snd.fl
          have zw0 : w1.heap.size ≤ lb := by rw [← hlb]; exact HU6.a.live.bel.size
          clear hU hV1 hV2 HU6 hlb
          refine wp_rangeS1 rfl (enters_of Try.func55 (by kernel_rfl) rfl) (all_iter sx bc F hgD.snd.b256 (by omega) (fun z hz => by have := hgD.inb z hz; exact wf_i64 (by omega) (by omega))) (fun _ => rfl)
            (fun hi pre W => ∃ v, Blk W lb #[v] 46 ∧ W.ownsRow hi 49 2 v pre.length (rowsV pre) ∧ Below lb u6 W ∧ lb + 1 ≤ W.heap.size ∧ lb + 1 ≤ hi ∧ (pre.length : Int) < many)
            (fun c W => c = .exit 2 ∧ ∃ v pre suf, allL F = pre ++ suf ∧ (pre.length : Int) = many ∧ Blk W lb #[v] 46 ∧ W.ownsRow (lb + 1) 49 2 v pre.length (rowsV pre) ∧ Below lb u6 W ∧ lb + 1 ≤ W.heap.size) ?a1 ?ha ?hI ?hIx ?hA ?h0 ?hbody ?hdone ?hstop
          case ha => intro m l x W K hK; gi_wp2; exact hK
          case hI => rintro hi pre X Y ⟨v, h1, h2, h3, h4, h5, h6⟩ hk; exact ⟨v, h1.keeps hk, owns_keeps h2 hk, h3.keeps hk (by omega), Nat.le_trans h4 hk.size, h5, h6⟩
          case hIx => rintro c X Y ⟨hc, v, pre, suf, h1, h2, h3, h4, h5, h6⟩ hk; exact ⟨hc, v, pre, suf, h1, h2, h3.keeps hk, owns_keeps h4 hk, h5.keeps hk (by omega), Nat.le_trans h6 hk.size⟩
          case hA => rintro hi pre W ⟨v, h1, h2, h3, h4, h5, h6⟩; exact HVA.out W h3
          case h0 => intro hi hh; exact ⟨_, bU, World.ownsRow_nil _ _ _ _, kU, by omega, by omega, by simp; omega⟩
          case hbody =>
            rintro m lp hi pre ⟨xs, xg⟩ suf W hxs hlp hrec hhi hhW ⟨v, h1, h2, h3, h4, h5, h6⟩
            have c1 : W.cell? ⟨lb, 0, none⟩ = some v := h1.cell 0 rfl
            have hrl := Lib.hid (rowsV_len pre)
            gi_wp2_with (gi_at_builtin; refine wpListIn_append_row rfl _ _ 46 rfl hi Try.underlying46 infoRow pre.length (rowsV pre) rfl ?c1 (W.heap.size + 1) 1 [.int .i64 xs, .int .i64 xg] rfl ?c2 ?c3 ?c4 ?c5 ?c6 ?c7 ?_)
            case c1 => exact h2.alloc _
            case c2 => exact RowAt.lit W #[.int .i64 xs, .int .i64 xg] 49 1 _ (by omega)
            case c3 => rfl
            case c4 => intro u hu; simp at hu; rcases hu with rfl | rfl <;> rfl
            case c5 => unfold maxLen; omega
            case c6 => omega
            case c7 => first | omega | (simp; omega)
            intro v' W' ho hg'
            have hbh : Below hi W W' := ((Below.refl hi W).alloc hhW (.cells #[.int .i64 xs, .int .i64 xg] 49)).appended (h2.alloc _) hg' (Nat.le_refl _) (by simp; omega)
            have hb' : Below lb u6 W' := h3.trans (hbh.mono (by omega))
            have g1 := h1.below hbh (by omega)
            have hz' : lb + 1 ≤ W'.heap.size := by have := hbh.size; omega
            have hsm : Sm U.heap.size hi W W' := Sm.of_below hbh (Nat.le_refl _)
            have ho' : W'.ownsRow hi 49 2 v' (pre ++ [((xs, xg) : Int × Int)]).length (rowsV (pre ++ [(xs, xg)])) := by
              rw [List.length_append, rowsV_snoc]; exact ho
            clear hg' c1 ho hbh
            obtain ⟨g9, cp, rfl, hgh, hgl⟩ := World.ownsRow.form ho' (by simp)
            rw [show (pre ++ [((xs, xg) : Int × Int)]).length = pre.length + 1 by simp] at ho' ⊢
            have f1 := g1.frozen 0
            have c1 : W'.cell? ⟨lb, 0, none⟩ = some v := g1.cell 0 rfl
            have cm : W'.cell? ⟨w.heap.size + 1, 0, none⟩ = some (.int .i64 many) := HMN.out W' hb'
            have hso := ownsRow_setCell_below ho' (a := ⟨lb, 0, none⟩) (by dsimp only; omega) (.slice (some ⟨g9, 0, none⟩) (pre.length + 1) cp)
            have HSO := Lib.hid hso
            clear hso
            gi_wp2_with fail
            · have ht : many ≤ (pre.length : Int) + 1 := by assumption
              refine ⟨hsm.setCell _ (Or.inr (by dsimp only; omega)) _, rfl, _, pre ++ [(xs, xg)], suf, by rw [hxs]; simp, by simp; omega, g1.set 0 _, ?_, hb'.setCell (p := ⟨lb, 0, none⟩) (Nat.le_refl _) _, by simpa using hz'⟩
              have := HSO.out
              rw [show (pre ++ [((xs, xg) : Int × Int)]).length = pre.length + 1 by simp]
              exact owns_weaken this (by omega)
            · have ht : (pre.length : Int) + 1 < many := by assumption
              refine ⟨hsm.setCell _ (Or.inr (by dsimp only; omega)) _, _, g1.set 0 _, ?_, hb'.setCell (p := ⟨lb, 0, none⟩) (Nat.le_refl _) _, by simpa using hz', h5, by simp; omega⟩
              have := HSO.out
              rw [show (pre ++ [((xs, xg) : Int × Int)]).length = pre.length + 1 by simp]
              exact this
          case hdone =>
            rintro D9 W hi hD ⟨v9, h1, h2, h3, h4, h5, h6⟩ hK
            obtain ⟨T, hT⟩ : ∃ T, allL F = T := ⟨_, rfl⟩
            rw [hT] at h2 h6
            have hTl : (T.length : Int) = min many (allL F).length := by rw [hT]; omega
            have htk : T = (allL F).take T.length := by rw [hT, List.take_length]
            clear hT
            have c1 : W.cell? ⟨lb, 0, none⟩ = some v9 := h1.cell 0 rfl
            have hC1 := HC.out.step (h3.mono (Nat.le_of_eq hlb'))
            have rv : RowAt W.heap.size W v9 T.length (rowsV T) := RowAt.of_owns h2 (Nat.le_refl _)
            obtain ⟨oa, oc, rfl, _⟩ := rv.len
            have HRV := Lib.hid rv
            have hcap : (allL F).length ≤ 1000000 := by rw [allL_len]; omega
            clear h2 rv
            have HBX := Lib.hid hC1.x
            go_wp2_with (refine wpList_loadWM ty65 (by rfl) _ rfl g 0 rfl _ HBX.out.rng0 (by simpa using poolV_size _ HV.out) ?_)
            refine (rows_ok v (docR R) (docL (8 : Int).toNat F) W.heap.size W (Nat.le_refl _) (by rw [docL_len]; decide) hC1.r).mono ?_; rintro e y1 ⟨v7, rfl, o9, k1'⟩
            rw [rows_all hgD] at o9
            have rp := RowAt.of_owns o9 (Nat.le_refl _)
            obtain ⟨P, hP⟩ : ∃ P, allL F = P := ⟨_, rfl⟩
            rw [hP] at rp hTl htk hcap
            obtain ⟨pa', pc', rfl, hpc⟩ := rp.len'
            have HPC := Lib.hid hpc
            have HRP := Lib.hid rp
            have HRV1 := Lib.hid ((HRV.out.below k1' (Nat.le_refl _)).mono k1'.size)
            have l1' := h1.below k1' h1.lt
            have c1' : y1.cell? ⟨lb, 0, none⟩ = some (.slice oa T.length oc) := l1'.cell 0 rfl
            have cm' : y1.cell? ⟨w.heap.size + 1, 0, none⟩ = some (.int .i64 many) := HMN.out y1 (h3.trans (k1'.mono (by omega)))
            have HK1 := Lib.hid k1'
            clear HRV k1' c1 rp hP o9 hpc HBX
            go_wp2_with fail
            have hq1 : min many (P.length : Int) = (T.length : Int) := by omega
            obtain ⟨hrs, hrq⟩ := slice_head (P := Try.prog) (t := 46) (s := 2) Try.underlying46 (fun w => by kernel_rfl) HRP.out T.length (by omega)
            rw [rowsV_take, ← htk] at hrq
            have HRQ := Lib.hid hrq
            have HQ1 := Lib.hid hq1
            have HTl := Lib.hid hTl
            have hT9 : T.length < 1000000 := by omega
            clear hrq hrs hq1 hTl htk
            refine wp_onlyN ?_
            refine wp_region_held_drew (S := FiS lb (w.heap.size + 1) (.slice oa T.length oc) many) (by kernel_rfl) ⟨c1', cm'⟩ (fun hHeld => ?_)
            refine wpAnyH_take (i := 0) (v := ?_) rfl (by kernel_rfl) (by kernel_rfl) (by kernel_rfl) (fun _ _ _ h => h) (Or.inl ⟨by rfl, ?_⟩) (by assumption) ?_
            rotate_left
            · (intro Y hSw; (try dsimp only at hSw); obtain ⟨hS0, hS1⟩ := hSw; go_simp; try with_reducible rfl)
            try simp only [Act.put, List.getElem_toArray, List.getElem_cons_zero, List.getElem_cons_succ, List.setIfInBounds_toArray, List.set_cons_zero, List.set_cons_succ]
            refine wpAnyH_take (i := 1) (v := ?_) rfl (by kernel_rfl) (by kernel_rfl) (by kernel_rfl) (fun _ _ _ h => h) (Or.inl ⟨by rfl, ?_⟩) (by assumption) ?_
            rotate_left
            · (intro Y hSw; (try dsimp only at hSw); obtain ⟨hS0, hS1⟩ := hSw; go_simp; try with_reducible rfl)
            try simp only [Act.put, List.getElem_toArray, List.getElem_cons_zero, List.getElem_cons_succ, List.setIfInBounds_toArray, List.set_cons_zero, List.set_cons_succ]
            refine wpAnyH_take (i := 2) (v := ?_) rfl (by kernel_rfl) (by kernel_rfl) (by kernel_rfl) (fun _ _ _ h => h) (Or.inl ⟨by rfl, ?_⟩) (by assumption) ?_
            rotate_left
            · (intro Y hSw; (try dsimp only at hSw); obtain ⟨hS0, hS1⟩ := hSw; go_simp; try with_reducible rfl)
            try simp only [Act.put, List.getElem_toArray, List.getElem_cons_zero, List.getElem_cons_succ, List.setIfInBounds_toArray, List.set_cons_zero, List.set_cons_succ]
            refine wpAnyH_take (i := 3) (v := ?_) rfl (by kernel_rfl) (by kernel_rfl) (by kernel_rfl) (fun _ _ _ h => h) (Or.inl ⟨by rfl, ?_⟩) (by assumption) ?_
            rotate_left
            · (intro Y hSw; (try dsimp only at hSw); obtain ⟨hS0, hS1⟩ := hSw; go_simp; try with_reducible rfl)
            try simp only [Act.put, List.getElem_toArray, List.getElem_cons_zero, List.getElem_cons_succ, List.setIfInBounds_toArray, List.set_cons_zero, List.set_cons_succ]
            refine wpAnyH_take (i := 4) (v := ?_) rfl (by kernel_rfl) (by kernel_rfl) (by kernel_rfl) (fun _ _ _ h => h) (Or.inl ⟨by rfl, ?_⟩) (by assumption) ?_
            rotate_left
            · (intro Y hSw; (try dsimp only at hSw); obtain ⟨hS0, hS1⟩ := hSw; go_simp; try with_reducible rfl)
            try simp only [Act.put, List.getElem_toArray, List.getElem_cons_zero, List.getElem_cons_succ, List.setIfInBounds_toArray, List.set_cons_zero, List.set_cons_succ]
            refine wpAnyH_take (i := 5) (v := .int .i64 (T.length : Int)) rfl (by kernel_rfl) (by kernel_rfl) (by kernel_rfl) (fun _ _ _ h => h) (Or.inl ⟨by rfl, by intro Y hSw; obtain ⟨hS0, hS1⟩ := hSw; go_simp; exact HQ1.out⟩) (by assumption) ?_
            try simp only [Act.put, List.getElem_toArray, List.getElem_cons_zero, List.getElem_cons_succ, List.setIfInBounds_toArray, List.set_cons_zero, List.set_cons_succ]
            refine wpAnyH_take (i := 6) (v := .slice pa' T.length pc') rfl (by kernel_rfl) (by kernel_rfl) (by kernel_rfl) (fun _ _ _ h => h) (Or.inl ⟨by rfl, by intro Y hSw; go_simp; intro h9; exfalso; have := HTl.out; have := HPC.out; omega⟩) (by assumption) ?_
            try simp only [Act.put, List.getElem_toArray, List.getElem_cons_zero, List.getElem_cons_succ, List.setIfInBounds_toArray, List.set_cons_zero, List.set_cons_succ]
            refine wpAnyH_ready (rs := [7]) (by kernel_rfl) (by simp) ?_
            refine AllReadyH.cons rfl (fun K hK => ?_) AllReadyH.nil
            go_simp
            refine (same_ok _ _ T _ rfl y1.heap.size y1.drew (Nat.le_refl _) hT9 (HRV1.out.below (Below.refl _ y1).drew (Nat.le_refl _)) (HRQ.out.below (Below.refl _ y1).drew (Nat.le_refl _))).mono ?_; rintro e y2 ⟨rfl, k2'⟩
            have K2 : Below y1.heap.size y1 y2 := (Below.refl _ y1).drew.trans k2'
            have b2' := l1'.below K2 l1'.lt
            have hyw : Below lb u6 y1 := h3.trans (HK1.out.mono (by omega))
            have cm2 := HMN.out y2 (hyw.trans (K2.mono (by have := HK1.out.size; omega)))
            clear k2' HRQ HRV1
            go_simp
            refine hK.out _ _ (⟨b2'.cell 0 rfl, cm2⟩) (fun hHeld => ?_)
            clear hK K
            try simp only [Act.put, List.getElem_toArray, List.getElem_cons_zero, List.getElem_cons_succ, List.setIfInBounds_toArray, List.set_cons_zero, List.set_cons_succ]
            refine wpAnyH_take (i := 8) (v := ?_) rfl (by kernel_rfl) (by kernel_rfl) (by kernel_rfl) (fun _ _ _ h => h) (Or.inl ⟨by rfl, ?_⟩) (by assumption) ?_
            rotate_left
            · (intro Y hSw; (try dsimp only at hSw); obtain ⟨hS0, hS1⟩ := hSw; go_simp; try with_reducible rfl)
            try simp only [Act.put, List.getElem_toArray, List.getElem_cons_zero, List.getElem_cons_succ, List.setIfInBounds_toArray, List.set_cons_zero, List.set_cons_succ]
            refine wpAnyH_ready (rs := [9]) (by kernel_rfl) (by simp) ?_
            refine AllReadyH.cons rfl (fun K hK => ?_) AllReadyH.nil
            go_simp
            refine (works_ok y2).mono ?_; rintro e y3 ⟨rfl, k3'⟩
            have K3 := K2.trans (k3'.mono K2.size)
            have b3' := b2'.below k3' b2'.lt
            have cm3 := HMN.out y3 (hyw.trans (K3.mono (by have := HK1.out.size; omega)))
            clear k3'
            go_simp
            refine hK.out _ _ (⟨b3'.cell 0 rfl, cm3⟩) (fun hHeld => ?_)
            clear hK K
            try simp only [Act.put, List.getElem_toArray, List.getElem_cons_zero, List.getElem_cons_succ, List.setIfInBounds_toArray, List.set_cons_zero, List.set_cons_succ]
            refine wpAnyH_take (i := 10) (v := ?_) rfl (by kernel_rfl) (by kernel_rfl) (by kernel_rfl) (fun _ _ _ h => h) (Or.inl ⟨by rfl, ?_⟩) (by assumption) ?_
            rotate_left
            · (intro Y hSw; (try dsimp only at hSw); obtain ⟨hS0, hS1⟩ := hSw; go_simp; try with_reducible rfl)
            try simp only [Act.put, List.getElem_toArray, List.getElem_cons_zero, List.getElem_cons_succ, List.setIfInBounds_toArray, List.set_cons_zero, List.set_cons_succ]
            refine wpAnyH_take (i := 11) (v := ?_) rfl (by kernel_rfl) (by kernel_rfl) (by kernel_rfl) (fun _ _ _ h => h) (Or.inl ⟨by rfl, ?_⟩) (by assumption) ?_
            rotate_left
            · (intro Y hSw; (try dsimp only at hSw); obtain ⟨hS0, hS1⟩ := hSw; go_simp; try with_reducible rfl)
            try simp only [Act.put, List.getElem_toArray, List.getElem_cons_zero, List.getElem_cons_succ, List.setIfInBounds_toArray, List.set_cons_zero, List.set_cons_succ]
            refine wpAnyH_done (by kernel_rfl) ?_ _
            rw [onlyN_normal]
            go_wp2_with fail
            have K4 := HK1.out.trans (K3.mono HK1.out.size)
            have hK3 : y3.heap[D9]? = some (.deferred (some [])) := (K4.block D9 (Array.getElem?_eq_some_iff.1 hK).1).trans hK
            have hall : Below w.heap.size w y3 := k1.trans ((hC1.a.live.bel.trans (K4.mono hC1.a.live.bel.size)).mono z1)
            exact postM_ret hK3 (results_tmp rfl _ _ _) ⟨rfl, below_putObj hall (by omega) _ (Array.getElem?_eq_some_iff.1 hK3).1⟩
          case hstop =>
            rintro D9 c W hD ⟨rfl, v9, T, suf, h0, h6, h1, h2, h3, h4⟩ hK
            have hTl : (T.length : Int) = min many (allL F).length := by rw [h0, List.length_append]; omega
            have htk : T = (allL F).take T.length := by rw [h0, List.take_left]
            clear h0 h6
            have c1 : W.cell? ⟨lb, 0, none⟩ = some v9 := h1.cell 0 rfl
            have hC1 := HC.out.step (h3.mono (Nat.le_of_eq hlb'))
            have rv : RowAt W.heap.size W v9 T.length (rowsV T) := RowAt.of_owns h2 (Nat.le_refl _)
            obtain ⟨oa, oc, rfl, _⟩ := rv.len
            have HRV := Lib.hid rv
            have hcap : (allL F).length ≤ 1000000 := by rw [allL_len]; omega
            clear h2 rv
            have HBX := Lib.hid hC1.x
            go_wp2_with (refine wpList_loadWM ty65 (by rfl) _ rfl g 0 rfl _ HBX.out.rng0 (by simpa using poolV_size _ HV.out) ?_)
            refine (rows_ok v (docR R) (docL (8 : Int).toNat F) W.heap.size W (Nat.le_refl _) (by rw [docL_len]; decide) hC1.r).mono ?_; rintro e y1 ⟨v7, rfl, o9, k1'⟩
            rw [rows_all hgD] at o9
            have rp := RowAt.of_owns o9 (Nat.le_refl _)
            obtain ⟨P, hP⟩ : ∃ P, allL F = P := ⟨_, rfl⟩
            rw [hP] at rp hTl htk hcap
            obtain ⟨pa', pc', rfl, hpc⟩ := rp.len'
            have HPC := Lib.hid hpc
            have HRP := Lib.hid rp
            have HRV1 := Lib.hid ((HRV.out.below k1' (Nat.le_refl _)).mono k1'.size)
            have l1' := h1.below k1' h1.lt
            have c1' : y1.cell? ⟨lb, 0, none⟩ = some (.slice oa T.length oc) := l1'.cell 0 rfl
            have cm' : y1.cell? ⟨w.heap.size + 1, 0, none⟩ = some (.int .i64 many) := HMN.out y1 (h3.trans (k1'.mono (by omega)))
            have HK1 := Lib.hid k1'
            clear HRV k1' c1 rp hP o9 hpc HBX
            go_wp2_with fail
            have hq1 : min many (P.length : Int) = (T.length : Int) := by omega
            obtain ⟨hrs, hrq⟩ := slice_head (P := Try.prog) (t := 46) (s := 2) Try.underlying46 (fun w => by kernel_rfl) HRP.out T.length (by omega)
            rw [rowsV_take, ← htk] at hrq
            have HRQ := Lib.hid hrq
            have HQ1 := Lib.hid hq1
            have HTl := Lib.hid hTl
            have hT9 : T.length < 1000000 := by omega
            clear hrq hrs hq1 hTl htk
            refine wp_onlyN ?_
            refine wp_region_held_drew (S := FiS lb (w.heap.size + 1) (.slice oa T.length oc) many) (by kernel_rfl) ⟨c1', cm'⟩ (fun hHeld => ?_)
            refine wpAnyH_take (i := 0) (v := ?_) rfl (by kernel_rfl) (by kernel_rfl) (by kernel_rfl) (fun _ _ _ h => h) (Or.inl ⟨by rfl, ?_⟩) (by assumption) ?_
            rotate_left
            · (intro Y hSw; (try dsimp only at hSw); obtain ⟨hS0, hS1⟩ := hSw; go_simp; try with_reducible rfl)
            try simp only [Act.put, List.getElem_toArray, List.getElem_cons_zero, List.getElem_cons_succ, List.setIfInBounds_toArray, List.set_cons_zero, List.set_cons_succ]
            refine wpAnyH_take (i := 1) (v := ?_) rfl (by kernel_rfl) (by kernel_rfl) (by kernel_rfl) (fun _ _ _ h => h) (Or.inl ⟨by rfl, ?_⟩) (by assumption) ?_
            rotate_left
            · (intro Y hSw; (try dsimp only at hSw); obtain ⟨hS0, hS1⟩ := hSw; go_simp; try with_reducible rfl)
            try simp only [Act.put, List.getElem_toArray, List.getElem_cons_zero, List.getElem_cons_succ, List.setIfInBounds_toArray, List.set_cons_zero, List.set_cons_succ]
            refine wpAnyH_take (i := 2) (v := ?_) rfl (by kernel_rfl) (by kernel_rfl) (by kernel_rfl) (fun _ _ _ h => h) (Or.inl ⟨by rfl, ?_⟩) (by assumption) ?_
            rotate_left
            · (intro Y hSw; (try dsimp only at hSw); obtain ⟨hS0, hS1⟩ := hSw; go_simp; try with_reducible rfl)
            try simp only [Act.put, List.getElem_toArray, List.getElem_cons_zero, List.getElem_cons_succ, List.setIfInBounds_toArray, List.set_cons_zero, List.set_cons_succ]
            refine wpAnyH_take (i := 3) (v := ?_) rfl (by kernel_rfl) (by kernel_rfl) (by kernel_rfl) (fun _ _ _ h => h) (Or.inl ⟨by rfl, ?_⟩) (by assumption) ?_
            rotate_left
            · (intro Y hSw; (try dsimp only at hSw); obtain ⟨hS0, hS1⟩ := hSw; go_simp; try with_reducible rfl)
            try simp only [Act.put, List.getElem_toArray, List.getElem_cons_zero, List.getElem_cons_succ, List.setIfInBounds_toArray, List.set_cons_zero, List.set_cons_succ]
            refine wpAnyH_take (i := 4) (v := ?_) rfl (by kernel_rfl) (by kernel_rfl) (by kernel_rfl) (fun _ _ _ h => h) (Or.inl ⟨by rfl, ?_⟩) (by assumption) ?_
            rotate_left
            · (intro Y hSw; (try dsimp only at hSw); obtain ⟨hS0, hS1⟩ := hSw; go_simp; try with_reducible rfl)
            try simp only [Act.put, List.getElem_toArray, List.getElem_cons_zero, List.getElem_cons_succ, List.setIfInBounds_toArray, List.set_cons_zero, List.set_cons_succ]
            refine wpAnyH_take (i := 5) (v := .int .i64 (T.length : Int)) rfl (by kernel_rfl) (by kernel_rfl) (by kernel_rfl) (fun _ _ _ h => h) (Or.inl ⟨by rfl, by intro Y hSw; obtain ⟨hS0, hS1⟩ := hSw; go_simp; exact HQ1.out⟩) (by assumption) ?_
            try simp only [Act.put, List.getElem_toArray, List.getElem_cons_zero, List.getElem_cons_succ, List.setIfInBounds_toArray, List.set_cons_zero, List.set_cons_succ]
            refine wpAnyH_take (i := 6) (v := .slice pa' T.length pc') rfl (by kernel_rfl) (by kernel_rfl) (by kernel_rfl) (fun _ _ _ h => h) (Or.inl ⟨by rfl, by intro Y hSw; go_simp; intro h9; exfalso; have := HTl.out; have := HPC.out; omega⟩) (by assumption) ?_
            try simp only [Act.put, List.getElem_toArray, List.getElem_cons_zero, List.getElem_cons_succ, List.setIfInBounds_toArray, List.set_cons_zero, List.set_cons_succ]
            refine wpAnyH_ready (rs := [7]) (by kernel_rfl) (by simp) ?_
            refine AllReadyH.cons rfl (fun K hK => ?_) AllReadyH.nil
            go_simp
            refine (same_ok _ _ T _ rfl y1.heap.size y1.drew (Nat.le_refl _) hT9 (HRV1.out.below (Below.refl _ y1).drew (Nat.le_refl _)) (HRQ.out.below (Below.refl _ y1).drew (Nat.le_refl _))).mono ?_; rintro e y2 ⟨rfl, k2'⟩
            have K2 : Below y1.heap.size y1 y2 := (Below.refl _ y1).drew.trans k2'
            have b2' := l1'.below K2 l1'.lt
            have hyw : Below lb u6 y1 := h3.trans (HK1.out.mono (by omega))
            have cm2 := HMN.out y2 (hyw.trans (K2.mono (by have := HK1.out.size; omega)))
            clear k2' HRQ HRV1
            go_simp
            refine hK.out _ _ (⟨b2'.cell 0 rfl, cm2⟩) (fun hHeld => ?_)
            clear hK K
            try simp only [Act.put, List.getElem_toArray, List.getElem_cons_zero, List.getElem_cons_succ, List.setIfInBounds_toArray, List.set_cons_zero, List.set_cons_succ]
            refine wpAnyH_take (i := 8) (v := ?_) rfl (by kernel_rfl) (by kernel_rfl) (by kernel_rfl) (fun _ _ _ h => h) (Or.inl ⟨by rfl, ?_⟩) (by assumption) ?_
            rotate_left
            · (intro Y hSw; (try dsimp only at hSw); obtain ⟨hS0, hS1⟩ := hSw; go_simp; try with_reducible rfl)
            try simp only [Act.put, List.getElem_toArray, List.getElem_cons_zero, List.getElem_cons_succ, List.setIfInBounds_toArray, List.set_cons_zero, List.set_cons_succ]
            refine wpAnyH_ready (rs := [9]) (by kernel_rfl) (by simp) ?_
            refine AllReadyH.cons rfl (fun K hK => ?_) AllReadyH.nil
            go_simp
            refine (works_ok y2).mono ?_; rintro e y3 ⟨rfl, k3'⟩
            have K3 := K2.trans (k3'.mono K2.size)
            have b3' := b2'.below k3' b2'.lt
            have cm3 := HMN.out y3 (hyw.trans (K3.mono (by have := HK1.out.size; omega)))
            clear k3'
            go_simp
            refine hK.out _ _ (⟨b3'.cell 0 rfl, cm3⟩) (fun hHeld => ?_)
            clear hK K
            try simp only [Act.put, List.getElem_toArray, List.getElem_cons_zero, List.getElem_cons_succ, List.setIfInBounds_toArray, List.set_cons_zero, List.set_cons_succ]
            refine wpAnyH_take (i := 10) (v := ?_) rfl (by kernel_rfl) (by kernel_rfl) (by kernel_rfl) (fun _ _ _ h => h) (Or.inl ⟨by rfl, ?_⟩) (by assumption) ?_
            rotate_left
            · (intro Y hSw; (try dsimp only at hSw); obtain ⟨hS0, hS1⟩ := hSw; go_simp; try with_reducible rfl)
            try simp only [Act.put, List.getElem_toArray, List.getElem_cons_zero, List.getElem_cons_succ, List.setIfInBounds_toArray, List.set_cons_zero, List.set_cons_succ]
            refine wpAnyH_take (i := 11) (v := ?_) rfl (by kernel_rfl) (by kernel_rfl) (by kernel_rfl) (fun _ _ _ h => h) (Or.inl ⟨by rfl, ?_⟩) (by assumption) ?_
            rotate_left
            · (intro Y hSw; (try dsimp only at hSw); obtain ⟨hS0, hS1⟩ := hSw; go_simp; try with_reducible rfl)
            try simp only [Act.put, List.getElem_toArray, List.getElem_cons_zero, List.getElem_cons_succ, List.setIfInBounds_toArray, List.set_cons_zero, List.set_cons_succ]
            refine wpAnyH_done (by kernel_rfl) ?_ _
            rw [onlyN_normal]
            go_wp2_with fail
            have K4 := HK1.out.trans (K3.mono HK1.out.size)
            have hK3 : y3.heap[D9]? = some (.deferred (some [])) := (K4.block D9 (Array.getElem?_eq_some_iff.1 hK).1).trans hK
            have hall : Below w.heap.size w y3 := k1.trans ((hC1.a.live.bel.trans (K4.mono hC1.a.live.bel.size)).mono z1)
            exact postM_ret hK3 (results_tmp rfl _ _ _) ⟨rfl, below_putObj hall (by omega) _ (Array.getElem?_eq_some_iff.1 hK3).1⟩
    · clear hbad
      go_wp2_with fail
      refine (works_ok _).mono ?_; rintro e w5 ⟨rfl, k5⟩
      go_wp2_with fail
      exact postM_ret0 (results_tmp rfl _ _ _) ⟨rfl, k1.trans ((kc.trans (k5.mono kc.size)).mono z1)⟩
end Go.Proofs.Ytfmkjckckekliaa
