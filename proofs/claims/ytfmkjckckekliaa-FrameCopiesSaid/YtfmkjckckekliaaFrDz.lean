/-
  Package pinfoldref07: Same. Conditions: few frames, whose bytes are bytes.
-/
import Derived.Test.YtfmkjckckekliaaFrDx
namespace Go.Proofs.Ytfmkjckckekliaa
open Go.RowKit
attribute [local go_sem] Oper.semAt_some
set_option maxHeartbeats 1000000
set_option maxRecDepth 8000

theorem strOfNums_inj (a b : List Int) (ha : ∀ x ∈ a, 0 ≤ x ∧ x < 256) (hb : ∀ x ∈ b, 0 ≤ x ∧ x < 256) (h : strOfNums a = strOfNums b) : a = b := by
  have h1 : (strOfNums a).data.toList = (strOfNums b).data.toList := by rw [h]
  rw [strOfNums_data, strOfNums_data] at h1
  have back : ∀ l : List Int, (∀ x ∈ l, 0 ≤ x ∧ x < 256) → (l.map fun n => UInt8.ofNat n.toNat).map (fun u => ((u.toNat : Nat) : Int)) = l := by
    intro l hl
    rw [List.map_map]
    conv => rhs; rw [← List.map_id l]
    refine List.map_congr_left fun x hx => ?_
    have := hl x hx
    simp
    omega
  have h2 := congrArg (List.map (fun u : UInt8 => ((u.toNat : Nat) : Int))) h1
  rwa [back a ha, back b hb] at h2
def bytesOk (x : Df) : Prop := ∀ y ∈ x.2, 0 ≤ y ∧ y < 256
theorem neq_fr (x y : Df) (hx : bytesOk x) (hy : bytesOk y) : ∃ r : Bool, (r = true ↔ x ≠ y) ∧ ∀ W, (binOp .neq 93 (.agg #[.int .i64 x.1, .string (strOfNums x.2)]) (.agg #[.int .i64 y.1, .string (strOfNums y.2)])).run Try.prog W = .ok (.bool r) W := by
  obtain ⟨a, s⟩ := x
  obtain ⟨b, t⟩ := y
  dsimp only
  by_cases e0 : a = b
  · subst e0
    by_cases e1 : strOfNums s = strOfNums t
    · have e2 := strOfNums_inj s t hx hy e1
      refine ⟨false, ⟨fun h => (by cases h), fun h => absurd (by rw [e2]) h⟩, fun W => ?_⟩
      rw [e1]
      generalize strOfNums t = T
      go_simp
    · refine ⟨true, ⟨fun _ h => e1 (by rw [(Prod.mk.inj h).2]), fun _ => rfl⟩, fun W => ?_⟩
      generalize strOfNums t = T at e1 ⊢
      generalize strOfNums s = S at e1 ⊢
      have e4 : ¬ S.data.toList = T.data.toList := fun h => e1 (ByteArray.ext (Array.toList_inj.1 h))
      go_simp
      rw [ByteArray.toList_eq, ByteArray.toList_eq]; exact e4
  · refine ⟨true, ⟨fun _ h => e0 (Prod.mk.inj h).1, fun _ => rfl⟩, fun W => ?_⟩
    have e3 : (a == b) = false := by simpa using e0
    go_simp
theorem ty64 : RowTy Try.prog 52 64 := rowTy_of Try.underlying52 rfl (by kernel_rfl)
theorem pool_rng {W : World} {g : Nat} {v : Value} {V : List Int} {t : TypeId} (h : Blk W g (poolV v V) t) : W.rangeAt g 1 (intVals .i64 V) := h.rng 1 _ fun j hj => by
  unfold poolV
  rw [Nat.add_comm, List.getElem?_toArray, List.getElem?_cons_succ]
  rfl
theorem neq_64 {V U : List Int} (hV : V.length = 64) (hU : U.length = 64) (W : World) : (binOp .neq 52 (.agg (intVals .i64 V).toArray) (.agg (intVals .i64 U).toArray)).run Try.prog W = .ok (.bool (!decide (V = U))) W := by
  have := eq_64 hV hU W
  simp [binOp, Op.equal, Op.maxDepth, this]
structure SmD (b1 o1 b2 o2 s : Nat) (v u : Value) (V U : List Int) (x y : Df) (Y : World) : Prop where
  t : Y.cell? ⟨s, 0, none⟩ = some v
  r : Y.cell? ⟨s + 1, 0, none⟩ = some u
  p0 : Y.cell? ⟨b1, o1, none⟩ = some (.int .i64 x.1)
  p1 : Y.cell? ⟨b1, o1 + 1, none⟩ = some (.string (strOfNums x.2))
  q0 : Y.cell? ⟨b2, o2, none⟩ = some (.int .i64 y.1)
  q1 : Y.cell? ⟨b2, o2 + 1, none⟩ = some (.string (strOfNums y.2))
theorem exec_run2 {o : Oper} {a : Act} {w : World} {b : BinOp} {t ty : TypeId} (x y : Operand) (ho : o.op = .binOp b t x y ty) {X Y : Array Value} {r : Value} (hx : a.eval x = .agg X) (hy : a.eval y = .agg Y) (hm : Try.prog.eqGuardType Try.prog.depth t = false)
    (hr : (binOp b t (.agg X) (.agg Y)).run Try.prog w = .ok r w) : (execOp a.eval o).run Try.prog w = .ok (.value r) w := by
  have hg : (eqGuard b t x y (.agg X) (.agg Y)).run Try.prog w = .ok () w := by
    unfold eqGuard
    cases b <;> simp [hm, run_program]
  simp [execOp, ho, hx, hy, hg, hr, Result.andThen]
theorem rSame_ok (v u : Value) {V U : List Int} (L M : List Df) (n m : Nat) (hn : L.length = n) (hm : M.length = m) (B : Nat) (w : World) (hB : B ≤ w.heap.size) (hl : n < 1000000) (hV : V.length = 64) (hU : U.length = 64) (hL : ∀ x ∈ L, bytesOk x) (hM : ∀ x ∈ M, bytesOk x) (hv : RowAt B w v n (frV L)) (hu : RowAt B w u m (frV M)) :
    Calls Try.prog 26 #[.agg (poolV v V), .agg (poolV u U)] w fun e w' => ∃ r : Bool, e = .returned (.bool r) ∧ (r = true ↔ L = M ∧ V = U) ∧ Below w.heap.size w w' := by
  obtain ⟨a1, c1, rfl, _⟩ := hv.len
  obtain ⟨a2, c2, rfl, _⟩ := hu.len
  obtain ⟨w0, hw0⟩ : ∃ w0, (w.alloc (.cells (poolV (.slice a1 n c1) V) 54)).alloc (.cells (poolV (.slice a2 m c2) U) 54) = w0 := ⟨_, rfl⟩
  have k0 : Below w.heap.size w w0 := by rw [← hw0]; exact ((Below.refl _ w).alloc (Nat.le_refl _) _).alloc (by simp) _
  have hX : Blk w0 w.heap.size (poolV (.slice a1 n c1) V) 54 := by rw [← hw0]; exact (Blk.new w _ _).alloc _
  have hY : Blk w0 (w.heap.size + 1) (poolV (.slice a2 m c2) U) 54 := by rw [← hw0]; exact Blk.newAt _ _ _ (by simp)
  have H1 := Lib.hid (hv.below k0 hB)
  have H2 := Lib.hid (hu.below k0 hB)
  have c0 : w0.cell? ⟨w.heap.size, 0, none⟩ = some (.slice a1 n c1) := hX.cell 0 (poolV_zero _ _)
  have d0 : w0.cell? ⟨w.heap.size + 1, 0, none⟩ = some (.slice a2 m c2) := hY.cell 0 (poolV_zero _ _)
  have HX := Lib.hid (pool_rng hX)
  have HY := Lib.hid (pool_rng hY)
  have HXL := Lib.hid (show (intVals .i64 V).length = 64 by rw [intVals_len, hV])
  have HYL := Lib.hid (show (intVals .i64 U).length = 64 by rw [intVals_len, hU])
  have hne := neq_64 hV hU w0
  have hz0 : w.heap.size + 2 ≤ w0.heap.size := by rw [← hw0]; simp
  have HL := Lib.hid hL
  have HM := Lib.hid hM
  have HN := Lib.hid hn
  have HM2 := Lib.hid hm
  clear hv hu hX hY hL hM hn hm hV hU
  by_cases hlen : n = m
  · subst hlen
    by_cases hVU : V = U
    · subst hVU
      rw [decide_eq_true rfl] at hne
      go_enter Try.func26, Try.ntmps26
      go_wp2_with (first | refine wpList_loadWM ty64 (by rfl) _ rfl w.heap.size 1 rfl _ HX.out HXL.out ?_ | refine wpList_loadWM ty64 (by rfl) _ rfl (w.heap.size + 1) 1 rfl _ HY.out HYL.out ?_ | refine wpList_runW (by rfl) _ _ _ _ _ rfl _ _ _ rfl rfl (by kernel_rfl) hne ?_)
      go_loopw [5] (fun i wr => ∃ c : Nat, c ≤ n ∧ i = .int .i64 c ∧ (∀ j (hj : j < L.length) (hj2 : j < M.length), j < c → L[j] = M[j]) ∧ Below w0.heap.size w0 wr) (fun i _ => n - (intOf i).toNat)
      case atStart => exact ⟨0, by omega, rfl, fun j _ _ h => by omega, Below.refl _ _⟩
      case round =>
        obtain ⟨c, hc, rfl, hd, k1⟩ := hrel
        have HD := Lib.hid hd
        clear hd hne
        have cc : wr.cell? ⟨w.heap.size, 0, none⟩ = some (.slice a1 n c1) := (k1.cell (by dsimp only; omega)).trans c0
        have dd : wr.cell? ⟨w.heap.size + 1, 0, none⟩ = some (.slice a2 n c2) := (k1.cell (by dsimp only; omega)).trans d0
        by_cases hlt : c < n
        · have hcL : c < L.length := by rw [HN.out]; exact hlt
          have hcM : c < M.length := by rw [HM2.out]; exact hlt
          have r1 := H1.out.below k1 (Nat.le_trans hB k0.size)
          have r2 := H2.out.below k1 (Nat.le_trans hB k0.size)
          rw [← HN.out] at r1
          rw [← HM2.out] at r2
          obtain ⟨b1, o1, rfl, _, q1⟩ := r1.getf c hcL
          obtain ⟨b2, o2, rfl, _, q2⟩ := r2.getf c hcM
          have i0 : (0 : Int) ≤ c := by omega
          have i1 : (c : Int) < n := by omega
          have hx9 := HL.out _ (List.getElem_mem hcL)
          have hy9 := HM.out _ (List.getElem_mem hcM)
          obtain ⟨x, hx⟩ : ∃ x, L[c] = x := ⟨_, rfl⟩
          obtain ⟨y, hy⟩ : ∃ y, M[c] = y := ⟨_, rfl⟩
          rw [hx] at q1 hx9
          rw [hy] at q2 hy9
          obtain ⟨r, hr, hrun⟩ := neq_fr x y hx9 hy9
          have HR := Lib.hid hr
          have HRUN := Lib.hid hrun
          have HX9 := Lib.hid hx
          have HY9 := Lib.hid hy
          have hst : SmD b1 (o1 + c * 2) b2 (o2 + c * 2) w.heap.size (.slice (some ⟨b1, o1, none⟩) n c1) (.slice (some ⟨b2, o2, none⟩) n c2) V V x y wr.drew := ⟨cc, dd, q1.c0, q1.c1, q2.c0, q2.c1⟩
          clear r1 r2 q1 q2 hr hrun hx hy hx9 hy9
          go_wp2_with fail
          refine wp_onlyN ?_
          refine wp_region_held_drew (S := SmD b1 (o1 + c * 2) b2 (o2 + c * 2) w.heap.size (.slice (some ⟨b1, o1, none⟩) n c1) (.slice (some ⟨b2, o2, none⟩) n c2) V V x y) (by kernel_rfl) hst (fun hHeld => ?_)
          refine wpAnyH_take (i := 0) (v := ?_) rfl (by kernel_rfl) (by kernel_rfl) (by kernel_rfl) (fun _ _ _ h => h) (Or.inl ⟨by rfl, ?_⟩) (by assumption) ?_
          rotate_left
          · (intro Y hSw; (try dsimp only at hSw); obtain ⟨hS0, hS1, hS2, hS3, hS4, hS5⟩ := hSw; go_simp; try with_reducible rfl)
          try simp only [Act.put, List.getElem_toArray, List.getElem_cons_zero, List.getElem_cons_succ, List.setIfInBounds_toArray, List.set_cons_zero, List.set_cons_succ]
          refine wpAnyH_take (i := 1) (v := ?_) rfl (by kernel_rfl) (by kernel_rfl) (by kernel_rfl) (fun _ _ _ h => h) (Or.inl ⟨by rfl, ?_⟩) (by assumption) ?_
          rotate_left
          · (intro Y hSw; (try dsimp only at hSw); obtain ⟨hS0, hS1, hS2, hS3, hS4, hS5⟩ := hSw; go_simp; try with_reducible rfl)
          try simp only [Act.put, List.getElem_toArray, List.getElem_cons_zero, List.getElem_cons_succ, List.setIfInBounds_toArray, List.set_cons_zero, List.set_cons_succ]
          refine wpAnyH_take (i := 2) (v := ?_) rfl (by kernel_rfl) (by kernel_rfl) (by kernel_rfl) (fun _ _ _ h => h) (Or.inl ⟨by rfl, ?_⟩) (by assumption) ?_
          rotate_left
          · (intro Y hSw; (try dsimp only at hSw); obtain ⟨hS0, hS1, hS2, hS3, hS4, hS5⟩ := hSw; go_simp; try with_reducible rfl)
          try simp only [Act.put, List.getElem_toArray, List.getElem_cons_zero, List.getElem_cons_succ, List.setIfInBounds_toArray, List.set_cons_zero, List.set_cons_succ]
          refine wpAnyH_take (i := 3) (v := ?_) rfl (by kernel_rfl) (by kernel_rfl) (by kernel_rfl) (fun _ _ _ h => h) (Or.inl ⟨by rfl, ?_⟩) (by assumption) ?_
          rotate_left
          · (intro Y hSw; (try dsimp only at hSw); obtain ⟨hS0, hS1, hS2, hS3, hS4, hS5⟩ := hSw; go_simp; try with_reducible rfl)
          try simp only [Act.put, List.getElem_toArray, List.getElem_cons_zero, List.getElem_cons_succ, List.setIfInBounds_toArray, List.set_cons_zero, List.set_cons_succ]
          refine wpAnyH_take (i := 4) (v := ?_) rfl (by kernel_rfl) (by kernel_rfl) (by kernel_rfl) (fun _ _ _ h => h) (Or.inl ⟨by rfl, ?_⟩) (by assumption) ?_
          rotate_left
          · (intro Y hSw; (try dsimp only at hSw); obtain ⟨hS0, hS1, hS2, hS3, hS4, hS5⟩ := hSw; go_simp; try with_reducible rfl)
          try simp only [Act.put, List.getElem_toArray, List.getElem_cons_zero, List.getElem_cons_succ, List.setIfInBounds_toArray, List.set_cons_zero, List.set_cons_succ]
          refine wpAnyH_take (i := 5) (v := ?_) rfl (by kernel_rfl) (by kernel_rfl) (by kernel_rfl) (fun _ _ _ h => h) (Or.inl ⟨by rfl, ?_⟩) (by assumption) ?_
          rotate_left
          · (intro Y hSw; (try dsimp only at hSw); obtain ⟨hS0, hS1, hS2, hS3, hS4, hS5⟩ := hSw; go_simp; try with_reducible rfl)
          try simp only [Act.put, List.getElem_toArray, List.getElem_cons_zero, List.getElem_cons_succ, List.setIfInBounds_toArray, List.set_cons_zero, List.set_cons_succ]
          refine wpAnyH_take (i := 6) (v := ?_) rfl (by kernel_rfl) (by kernel_rfl) (by kernel_rfl) (fun _ _ _ h => h) (Or.inl ⟨by rfl, ?_⟩) (by assumption) ?_
          rotate_left
          · (intro Y hSw; (try dsimp only at hSw); obtain ⟨hS0, hS1, hS2, hS3, hS4, hS5⟩ := hSw; go_simp; try with_reducible rfl)
          try simp only [Act.put, List.getElem_toArray, List.getElem_cons_zero, List.getElem_cons_succ, List.setIfInBounds_toArray, List.set_cons_zero, List.set_cons_succ]
          refine wpAnyH_take (i := 7) (v := ?_) rfl (by kernel_rfl) (by kernel_rfl) (by kernel_rfl) (fun _ _ _ h => h) (Or.inl ⟨by rfl, ?_⟩) (by assumption) ?_
          rotate_left
          · (intro Y hSw; (try dsimp only at hSw); obtain ⟨hS0, hS1, hS2, hS3, hS4, hS5⟩ := hSw; go_simp; try with_reducible rfl)
          try simp only [Act.put, List.getElem_toArray, List.getElem_cons_zero, List.getElem_cons_succ, List.setIfInBounds_toArray, List.set_cons_zero, List.set_cons_succ]
          refine wpAnyH_take (i := 8) (v := ?_) rfl (by kernel_rfl) (by kernel_rfl) (by kernel_rfl) (fun _ _ _ h => h) (Or.inl ⟨by rfl, ?_⟩) (by assumption) ?_
          rotate_left
          · (intro Y hSw; (try dsimp only at hSw); obtain ⟨hS0, hS1, hS2, hS3, hS4, hS5⟩ := hSw; go_simp; try with_reducible rfl)
          try simp only [Act.put, List.getElem_toArray, List.getElem_cons_zero, List.getElem_cons_succ, List.setIfInBounds_toArray, List.set_cons_zero, List.set_cons_succ]
          refine wpAnyH_take (i := 9) (v := ?_) rfl (by kernel_rfl) (by kernel_rfl) (by kernel_rfl) (fun _ _ _ h => h) (Or.inl ⟨by rfl, ?_⟩) (by assumption) ?_
          rotate_left
          · (intro Y hSw; (try dsimp only at hSw); obtain ⟨hS0, hS1, hS2, hS3, hS4, hS5⟩ := hSw; go_simp; try with_reducible rfl)
          try simp only [Act.put, List.getElem_toArray, List.getElem_cons_zero, List.getElem_cons_succ, List.setIfInBounds_toArray, List.set_cons_zero, List.set_cons_succ]
          refine wpAnyH_take (i := 10) (v := .bool r) rfl (by kernel_rfl) (by kernel_rfl) (by kernel_rfl) (fun _ _ _ h => h) (Or.inl ⟨by rfl, fun Y _ => exec_run2 _ _ rfl rfl rfl (by kernel_rfl) (HRUN.out Y)⟩) (by assumption) ?_
          try simp only [Act.put, List.getElem_toArray, List.getElem_cons_zero, List.getElem_cons_succ, List.setIfInBounds_toArray, List.set_cons_zero, List.set_cons_succ]
          refine wpAnyH_done (by kernel_rfl) ?_ _
          rw [onlyN_normal]
          cases r
          · have he : x = y := Classical.not_not.1 fun h => by have := HR.out.2 h; cases this
            subst he
            go_wp2_with fail
            exact ⟨⟨c + 1, by omega, by go_num, fun j hj hj2 hjc => by rcases Nat.lt_or_ge j c with h | h; exact HD.out j hj hj2 h; (have : j = c := by omega); subst this; rw [HX9.out, HY9.out], k1.drew⟩, by simp [intOf]; omega⟩
          · have HNE := Lib.hid (show ¬ L = M from fun e => by subst e; exact HR.out.1 rfl (HX9.out.symm.trans HY9.out))
            go_wp2_with fail
            go_ret
            exact .inl ⟨rfl, HNE.out, k0.trans (k1.drew.mono k0.size)⟩
        · obtain rfl : c = n := by omega
          have HY2 := Lib.hid (show L = M from List.ext_getElem (HN.out.trans HM2.out.symm) fun j h1 h2 => HD.out j h1 h2 (by have := HN.out; omega))
          clear hc hlt
          go_wp2_with fail
          go_ret
          exact ⟨true, rfl, ⟨fun _ => ⟨HY2.out, trivial⟩, fun _ => rfl⟩, k0.trans (k1.mono k0.size)⟩
    · rw [decide_eq_false hVU] at hne
      have HNE := Lib.hid hVU
      clear hVU
      go_enter Try.func26, Try.ntmps26
      go_wp2_with (first | refine wpList_loadWM ty64 (by rfl) _ rfl w.heap.size 1 rfl _ HX.out HXL.out ?_ | refine wpList_loadWM ty64 (by rfl) _ rfl (w.heap.size + 1) 1 rfl _ HY.out HYL.out ?_ | refine wpList_runW (by rfl) _ _ _ _ _ rfl _ _ _ rfl rfl (by kernel_rfl) hne ?_)
      go_ret
      exact ⟨false, rfl, ⟨fun h => (by cases h), fun h => absurd h.2 HNE.out⟩, k0⟩
  · have hlen' : ¬ (n : Int) = m := by omega
    have HNE := Lib.hid (show ¬ (L = M ∧ V = U) from fun h => hlen (by rw [← HN.out, ← HM2.out, h.1]))
    clear hlen
    go_enter Try.func26, Try.ntmps26
    go_wp2_with fail
    go_ret
    exact ⟨false, rfl, ⟨fun h => (by cases h), fun h => absurd h HNE.out⟩, k0⟩
end Go.Proofs.Ytfmkjckckekliaa
