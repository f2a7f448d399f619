/-
  Package pinfoldlaw21: DeskHolds. No condition.
-/
import Derived.Test.YtchknegenaoliaaDeHa
import Derived.Deep.DeepCutAuto
import Derived.Deep.CutBlock
namespace Go.Proofs.Ytchknegenaoliaa
open Go.RowKit
attribute [local go_sem] Oper.semAt_some
set_option maxHeartbeats 1000000
set_option maxRecDepth 8000

theorem keyE : KeyE Try.prog 28 encH wfH := by
  have hwide : (match Try.prog.underlying 28 with | some (.array _ _) | some (.struct _) => true | _ => false) = true := by rw [Try.underlying28]
  refine ⟨deep_law_laid (by kernel_rfl) (m := 2) (by omega) (of_decide_eq_true (by kernel_rfl)) (by kernel_rfl) hwide, fun k hk => ?_, fun k j e => ?_⟩
  · have hkt : Try.prog.keyType 28 = true := by kernel_rfl
    have hc : Try.prog.cellsOf 28 = 2 := by kernel_rfl
    have hc1 : Try.prog.cellsOf 3 = 1 := by kernel_rfl
    have hf : (encH k).formed Try.prog 28 = true := by simp [encH, Value.formed, Try.underlying28, hc]
    obtain ⟨d, hd⟩ : ∃ d, Try.prog.types.size = d + 1 := ⟨Try.prog.types.size - 1, by have : 0 < Try.prog.types.size := of_decide_eq_true (by kernel_rfl); omega⟩
    have hl : ∃ l, Try.prog.keyLits (Try.prog.types.size + 1) 28 [.int .i64 k.s, .int .i64 k.g] = some l := by
      rw [hd]
      have h1 := hk.1
      have h2 := hk.2
      refine ⟨[.int .i64 k.s, .int .i64 k.g], ?_⟩
      simp [Program.keyLits, Try.underlying28, Try.underlying3, hc, hc1, h1, h2]
    obtain ⟨l, hl⟩ := hl
    refine ⟨.string (keyBytes l), ?_⟩
    have hl' : Try.prog.keyLits (Try.prog.types.size + 1) 28 (encH k).cells.toList = some l := hl
    simp only [keyOf, Try.underlying28, hkt, hf, Bool.and_self, if_true, hl', Option.map_some]
  · obtain ⟨ks, kg⟩ := k
    obtain ⟨js, jg⟩ := j
    simp only [encH, Value.agg.injEq, Array.mk.injEq, List.cons.injEq, Value.int.injEq, true_and, and_true] at e
    rw [e.1, e.2]
theorem zero_i64 (w : World) : (zeroValue 3).run Try.prog w = .ok (.int .i64 0) w := by kernel_rfl
/-- A desk, the two books, and boxes. -/
structure Hs (w W : World) (b m mt mg : Nat) (P : List Ten) (T : Thr) (F G : Hnd → Int) (L : List (Nat × Array Value × TypeId)) : Prop where
  t : DkAt W b m P T
  a : MapF encH wfH W mt F
  c : MapF encH wfH W mg G
  k : Below w.heap.size w W
  lo : w.heap.size ≤ b ∧ w.heap.size ≤ m ∧ w.heap.size ≤ mt ∧ w.heap.size ≤ mg
  ne : mt ≠ mg ∧ mt ≠ b ∧ mt ≠ m ∧ mg ≠ b ∧ mg ≠ m
  bx : ∀ x ∈ L, Blk W x.1 x.2.1 x.2.2 ∧ x.1 ≠ b ∧ x.1 ≠ m ∧ x.1 ≠ mt ∧ x.1 ≠ mg
section
variable {w W W' : World} {b m mt mg : Nat} {P Q : List Ten} {T U : Thr} {F G F' : Hnd → Int} {L : List (Nat × Array Value × TypeId)}
theorem Hs.step (h : Hs w W b m mt mg P T F G L) (k : Below W.heap.size W W') : Hs w W' b m mt mg P T F G L :=
  ⟨h.t.step k, h.a.below k h.a.lt, h.c.below k h.c.lt, h.k.trans (k.mono h.k.size), h.lo, h.ne, fun x hx => ⟨(h.bx x hx).1.below k (h.bx x hx).1.lt, (h.bx x hx).2⟩⟩
theorem Hs.chg (h : Hs w W b m mt mg P T F G L) (hd : DkAt W' b m Q U) (k : Chg2 b m W W') : Hs w W' b m mt mg Q U F G L := by
  obtain ⟨n1, n2, n3, n4, n5⟩ := h.ne
  exact ⟨hd, h.a.of_block (k.block mt h.a.lt n2 n3), h.c.of_block (k.block mg h.c.lt n4 n5), h.k.trans (k.below h.lo.1 h.lo.2.1 h.k.size), h.lo, h.ne, fun x hx => ⟨k.blk (h.bx x hx).1 (h.bx x hx).2.1 (h.bx x hx).2.2.1, (h.bx x hx).2⟩⟩
theorem DkAt.turn {c : Nat} (h : DkAt W b m P T) (k : Turn c W W') (h1 : b ≠ c) (h2 : m ≠ c) : DkAt W' b m P T := ⟨h.blk.turn k h1, h.mp.of_block (k.block m h2), h.len⟩
theorem Hs.put1 (h : Hs w W b m mt mg P T F G L) (hd : MapF encH wfH W' mt F') (k : Turn mt W W') : Hs w W' b m mt mg P T F' G L := by
  obtain ⟨n1, n2, n3, n4, n5⟩ := h.ne
  exact ⟨h.t.turn k (Ne.symm n2) (Ne.symm n3), hd, h.c.of_block (k.block mg (Ne.symm n1)), h.k.trans (k.below h.lo.2.2.1), h.lo, h.ne, fun x hx => ⟨(h.bx x hx).1.turn k (h.bx x hx).2.2.2.1, (h.bx x hx).2⟩⟩
theorem Hs.put2 (h : Hs w W b m mt mg P T F G L) (hd : MapF encH wfH W' mg F') (k : Turn mg W W') : Hs w W' b m mt mg P T F F' L := by
  obtain ⟨n1, n2, n3, n4, n5⟩ := h.ne
  exact ⟨h.t.turn k (Ne.symm n4) (Ne.symm n5), h.a.of_block (k.block mt n1), hd, h.k.trans (k.below h.lo.2.2.2), h.lo, h.ne, fun x hx => ⟨(h.bx x hx).1.turn k (h.bx x hx).2.2.2.2, (h.bx x hx).2⟩⟩
theorem Hs.box (h : Hs w W b m mt mg P T F G L) {cs : Array Value} {t : TypeId} (hW : W.alloc (.cells cs t) = W') : Hs w W' b m mt mg P T F G ((W.heap.size, cs, t) :: L) := by
  subst hW
  have h1 := h.step ((Below.refl W.heap.size W).alloc (Nat.le_refl _) (.cells cs t))
  have hb := h.t.blk.lt
  have hm := h.t.mp.lt
  have ha := h.a.lt
  have hc := h.c.lt
  refine ⟨h1.t, h1.a, h1.c, h1.k, h1.lo, h1.ne, fun x hx => ?_⟩
  rcases List.mem_cons.1 hx with rfl | hx
  · exact ⟨Blk.new W _ _, by dsimp only; omega, by dsimp only; omega, by dsimp only; omega, by dsimp only; omega⟩
  · exact h1.bx x hx
theorem Hs.less (h : Hs w W b m mt mg P T F G L) {L' : List (Nat × Array Value × TypeId)} (hL : ∀ x ∈ L', x ∈ L) : Hs w W b m mt mg P T F G L' := ⟨h.t, h.a, h.c, h.k, h.lo, h.ne, fun x hx => h.bx x (hL x hx)⟩
theorem Hs.fn (h : Hs w W b m mt mg P T F G L) {F' G' : Hnd → Int} (hF : ∀ j, F' j = F j) (hG : ∀ j, G' j = G j) : Hs w W b m mt mg P T F' G' L := by
  have e1 : F' = F := funext hF
  have e2 : G' = G := funext hG
  rw [e1, e2]; exact h
theorem Hs.l1 (h : Hs w W b m mt mg P T F G L) (x : Hnd) (hx : wfH x) : (Instr.lookup 26 (.map (some mt)) (.agg #[.int .i64 x.s, .int .i64 x.g]) false).run Try.prog W = .ok (.int .i64 (F x)) W :=
  h.a.lookup keyE Try.underlying26 (zero_i64 W) x hx
theorem Hs.l2 (h : Hs w W b m mt mg P T F G L) (x : Hnd) (hx : wfH x) : (Instr.lookup 26 (.map (some mg)) (.agg #[.int .i64 x.s, .int .i64 x.g]) false).run Try.prog W = .ok (.int .i64 (G x)) W :=
  h.c.lookup keyE Try.underlying26 (zero_i64 W) x hx
end
theorem Good.wfh {n : Int} {P : List Ten} {T : Thr} (hg : Good n P T) (hn : n ≤ 1000000) {h : Hnd} (h0 : chkE P h = 0) : wfH h := by
  obtain ⟨h1, h2, h3⟩ := chkE_ok.1 h0
  have := hg.gen _ (tenD_mem hg.len h1)
  exact ⟨wf_i64 (by omega) (by omega), wf_i64 (by omega) (by omega)⟩
/-- What the region that asks leans on. -/
structure HoS (mt mg gx : Nat) (F G : Hnd → Int) (x : ActV) (Y : World) : Prop where
  a : MapF encH wfH Y mt F
  c : MapF encH wfH Y mg G
  x : Blk Y gx (actC (toA x)) 30
theorem holds_body (v0 : Value) (l : List ActV) (w : World) (hv : ActsAt w.heap.size w v0 l) :
    Calls Try.prog 3 #[v0] w fun e w' => e = .returned (.bool true) ∧ Below w.heap.size w w' := by
  have HV := Lib.hid hv
  have hmm := @run_makeMap Try.prog
  obtain ⟨ad, cap, rfl, hcap, hmx, _⟩ := hv
  have hml : l.length ≤ 9223372036854775807 := by unfold maxLen at hmx; omega
  clear hmx
  by_cases h1 : 80 < l.length
  · go_enter Try.func3, Try.ntmps3
    go_wp2_with fail
    refine (works_ok _).mono ?_; rintro e w1 ⟨rfl, k⟩
    go_wp2_with fail
    go_ret
    exact ⟨rfl, k⟩
  go_enter Try.func3, Try.ntmps3
  go_wp2_with fail
  refine (New_calls _).mono ?_; rintro e W ⟨b, m, rfl, ht, hlo, hlob, k2⟩
  go_wp2_with fail
  generalize hW0 : World.alloc (World.alloc W _) _ = W0
  have h0 : Hs w W0 b m W.heap.size (W.heap.size + 1) P0 [] (toldF P0) (goneF P0) [] := by
    have hb := ht.blk.lt
    have hm := ht.mp.lt
    have k3 : Below W.heap.size W W0 := by rw [← hW0]; exact ((Below.refl _ W).alloc (Nat.le_refl _) _).alloc (by simp) _
    have a1 : MapF encH wfH W0 W.heap.size (fun _ => 0) := by rw [← hW0]; exact (MapF.new W).below ((Below.refl _ _).alloc (Nat.le_refl _) _) (by simp)
    have a2 : MapF encH wfH W0 (W.heap.size + 1) (fun _ => 0) := by rw [← hW0]; have := MapF.new (enc := encH) (wf := wfH) (W.alloc (.map #[] 0)); rwa [World.size_alloc] at this
    have hk := k2.size
    exact Hs.fn ⟨ht.step k3, a1, a2, k2.trans (k3.mono k2.size), ⟨hlob, hlo, hk, by omega⟩, ⟨by omega, by omega, by omega, by omega, by omega⟩, fun x hx => absurd hx (by simp)⟩ (fun j => (told_new P0 j).1) (fun j => (told_new P0 j).2)
  obtain ⟨mt, hmt⟩ : ∃ mt, W.heap.size = mt := ⟨_, rfl⟩
  obtain ⟨mg, hmg⟩ : ∃ mg, W.heap.size + 1 = mg := ⟨_, rfl⟩
  rw [hmg] at h0 ⊢
  rw [hmt] at h0 ⊢
  clear hW0 k2 ht hlo hlob hmt hmg hmm
  go_loopw [6] (fun i wr => ∃ (k : Nat) (P : List Ten) (T : Thr), k ≤ l.length ∧ i = .int .i64 k ∧ Good k P T ∧ Hs w wr b m mt mg P T (toldF P) (goneF P) []) (fun i _ => l.length - (intOf i).toNat)
  case atStart => exact ⟨0, _, _, by omega, rfl, Good.new, h0⟩
  case round =>
    obtain ⟨k, P, T, hk, rfl, hG, hL⟩ := hrel
    clear h0
    by_cases hlt : k < l.length
    · obtain ⟨ba, off, rfl, hA⟩ : ∃ b off, ad = some ⟨b, off, none⟩ ∧ ∀ i (h : i < l.length), ActAt w.heap.size w b (off + i * 6) l[i] := by
        obtain ⟨_, _, hv, _, _, h⟩ := HV.out
        simp only [Value.slice.injEq] at hv
        obtain ⟨rfl, _⟩ := hv
        rcases h with h | h
        · rw [h] at hlt; simp at hlt
        · exact h
      have hAk := (hA k hlt).below hL.k (Nat.le_refl _)
      clear hA
      obtain ⟨x, hx⟩ : ∃ x, l[k] = x := ⟨_, rfl⟩
      rw [hx] at hAk
      have i0 : (0 : Int) ≤ k := by omega
      have i1 : (k : Int) < l.length := by omega
      have HWX := Lib.hid (show wfH ⟨x.f4, x.f5⟩ from ⟨hAk.w4, hAk.w5⟩)
      have hG' := hG.act (toA x)
      obtain ⟨P', hP'⟩ : ∃ P', actP P T (toA x) = P' := ⟨_, rfl⟩
      obtain ⟨T', hT'⟩ : ∃ T', actT P T (toA x) = T' := ⟨_, rfl⟩
      rw [hP', hT'] at hG'
      have HG' := Lib.hid hG'
      have HG := Lib.hid hG
      have HP' := Lib.hid hP'
      have HT' := Lib.hid hT'
      obtain ⟨q0, q1, q2, q3, q4, q5, _, _, _, _, _, _, hblt⟩ := hAk
      obtain ⟨w1, hw1⟩ : ∃ w1, wr.alloc (.cells #[.int .i64 x.f0, .int .i64 x.f1, .int .i64 x.f2, .int .i64 x.f3, .int .i64 x.f4, .int .i64 x.f5] 30) = w1 := ⟨_, rfl⟩
      have hH := hL.box hw1
      obtain ⟨gx, hgx⟩ : ∃ gx, wr.heap.size = gx := ⟨_, rfl⟩
      have HGX := Lib.hid hgx
      rw [hgx] at hH
      have hX := (hH.bx _ (List.mem_cons_self)).1
      have c0 : w1.cell? ⟨gx, 0, none⟩ = some (.int .i64 x.f0) := hX.cell 0 rfl
      have c1 : w1.cell? ⟨gx, 1, none⟩ = some (.int .i64 x.f1) := hX.cell 1 rfl
      have c2 : w1.cell? ⟨gx, 2, none⟩ = some (.int .i64 x.f2) := hX.cell 2 rfl
      have c3 : w1.cell? ⟨gx, 3, none⟩ = some (.int .i64 x.f3) := hX.cell 3 rfl
      have c4 : w1.cell? ⟨gx, 4, none⟩ = some (.int .i64 x.f4) := hX.cell 4 rfl
      have c5 : w1.cell? ⟨gx, 5, none⟩ = some (.int .i64 x.f5) := hX.cell 5 rfl
      clear hx hL hP' hT' hG hG'
      replace hH : Hs w w1 b m mt mg P T (toldF P) (goneF P) [(gx, actC (toA x), 30)] := hH
      clear hX
      go_upto_block 2 with fail
      clear hw1 q0 q1 q2 q3 q4 q5 hgx
      go_cut [36] (fun _ wx => Hs w wx b m mt mg P' T' (toldF P') (goneF P') [(gx, actC (toA x), 30)])
      case first =>
        by_cases a0 : x.f0 = 0
        · skip
          go_wp2_with fail
          clear c0 c1 c2 c3 c4 c5
          refine (Create_ok hH.t HG.out (by omega) x.f4 x.f2 x.f3).mono ?_; rintro e w2 ⟨rfl, hD2, kch⟩
          have eP : creP P x.f4 x.f2 x.f3 = P' := by rw [← HP'.out]; unfold actP toA; dsimp only; rw [if_pos a0]
          have eT : T' = T := by rw [← HT'.out]; unfold actT toA; dsimp only; rw [if_neg (by omega), if_neg (by omega), if_neg (by omega)]
          replace hH := hH.chg hD2 (kch.l m)
          rw [eP, ← eT] at hH
          obtain ⟨y, hy⟩ : ∃ y, creH P x.f4 x.f2 x.f3 = y := ⟨_, rfl⟩
          obtain ⟨er, her⟩ : ∃ er, creE P x.f4 x.f2 x.f3 = er := ⟨_, rfl⟩
          have HY := Lib.hid hy
          have HE := Lib.hid her
          have HEP := Lib.hid eP
          rw [hy, her]
          unfold encH
          obtain ⟨w3, hw3⟩ : ∃ w3, w2.alloc (.cells #[.int .i64 y.s, .int .i64 y.g] 28) = w3 := ⟨_, rfl⟩
          replace hH := hH.box hw3
          obtain ⟨gy, hgy⟩ : ∃ gy, w2.heap.size = gy := ⟨_, rfl⟩
          rw [hgy] at hH
          clear hD2 kch eP eT hy her
          go_wp2_with fail
          clear hw3
          refine (num_calls _ _).mono ?_; rintro e _ ⟨rfl, rfl⟩
          by_cases h9 : er = 0
          · subst h9
            have hB := (hH.bx _ List.mem_cons_self).1
            have x0 : w3.cell? ⟨gy, 0, none⟩ = some (.int .i64 y.s) := hB.cell 0 rfl
            have x1 : w3.cell? ⟨gy, 1, none⟩ = some (.int .i64 y.g) := hB.cell 1 rfl
            obtain ⟨f1, f2, f3, f4, f5, f6⟩ := (cre_told HG.out HE.out).resolve_right (by omega)
            rw [HY.out] at f1 f2 f3 f4 f6
            rw [HEP.out] at f3 f4 f5
            have q1 := hH.l1 y f6
            have q2 := hH.l2 y f6
            rw [f1] at q1
            rw [f2] at q2
            obtain ⟨w4, hrun, hM, hTn⟩ := hH.a.store keyE Try.underlying26 y f6 1 (toldF P') f3 f4
            unfold encH at hrun
            replace hH := ((hH.put1 hM hTn).fn (fun _ => rfl) f5).less (L' := [(gx, actC (toA x), 30)]) (fun z hz => List.mem_cons_of_mem _ hz)
            clear hB f1 f2 f3 f4 f5 f6 hM hTn hgy
            go_wp2_with fail
            go_meet
            exact hH
          · have eP : P' = P := by rw [← HEP.out]; unfold creP; rw [if_neg (by rw [HE.out]; exact h9)]
            rw [← eP] at hH
            replace hH := hH.less (L' := [(gx, actC (toA x), 30)]) (fun z hz => List.mem_cons_of_mem _ hz)
            clear eP hgy
            go_wp2_with fail
            go_meet
            exact hH
        by_cases a1 : x.f0 = 1
        · skip
          go_wp2_with fail
          clear c0 c1 c2 c3 c4 c5
          refine (Destroy_ok hH.t HG.out.srt HG.out.key ⟨x.f4, x.f5⟩).mono ?_; rintro e w2 ⟨v, rfl, _, hD2, kch⟩
          have eP : desP P ⟨x.f4, x.f5⟩ = P' := by rw [← HP'.out]; unfold actP toA; dsimp only; rw [if_neg a0, if_pos a1]
          have eT : desT P T ⟨x.f4, x.f5⟩ = T' := by rw [← HT'.out]; unfold actT toA; dsimp only; rw [if_pos a1]
          replace hH := hH.chg hD2 kch
          rw [eP, eT] at hH
          obtain ⟨er, her⟩ : ∃ er, chkE P ⟨x.f4, x.f5⟩ = er := ⟨_, rfl⟩
          have HE := Lib.hid her
          have HEP := Lib.hid eP
          rw [her]
          clear hD2 kch eP eT her
          go_wp2_with fail
          refine (num_calls _ _).mono ?_; rintro e _ ⟨rfl, rfl⟩
          by_cases h9 : er = 0
          · subst h9
            have hB := (hH.bx _ List.mem_cons_self).1
            have x0 : w2.cell? ⟨gx, 4, none⟩ = some (.int .i64 x.f4) := hB.cell 4 rfl
            have x1 : w2.cell? ⟨gx, 5, none⟩ = some (.int .i64 x.f5) := hB.cell 5 rfl
            obtain ⟨f1, f2, f3⟩ := des_told HG.out HE.out
            rw [HEP.out] at f1 f2 f3
            have q1 := hH.l1 _ HWX.out
            have q2 := hH.l2 _ HWX.out
            rw [(HG.out.told HE.out).1] at q1
            rw [(HG.out.told HE.out).2] at q2
            dsimp only at q1 q2
            obtain ⟨w4, hrun, hM, hTn⟩ := hH.c.store keyE Try.underlying26 ⟨x.f4, x.f5⟩ HWX.out 1 (goneF P') f1 f2
            unfold encH at hrun
            dsimp only at hrun
            replace hH := (hH.put2 hM hTn).fn f3 (fun _ => rfl)
            clear hB f1 f2 f3 hM hTn
            go_wp2_with fail
            go_meet
            exact hH
          · have eP : P' = P := by rw [← HEP.out]; unfold desP; rw [if_neg (by rw [HE.out]; exact h9)]
            rw [← eP] at hH
            clear eP
            go_wp2_with fail
            go_meet
            exact hH
        by_cases a2 : x.f0 = 2
        · skip
          go_wp2_with fail
          clear c0 c1 c2 c3 c4 c5
          refine (Bind_ok hH.t x.f1 ⟨x.f4, x.f5⟩).mono ?_; rintro e w2 ⟨rfl, hD2, kch⟩
          have eP : P' = P := by rw [← HP'.out]; unfold actP toA; dsimp only; rw [if_neg a0, if_neg a1]
          have eT : binT P T x.f1 ⟨x.f4, x.f5⟩ = T' := by rw [← HT'.out]; unfold actT toA; dsimp only; rw [if_neg a1, if_pos a2]
          replace hH := hH.chg hD2 (kch.r b)
          rw [eT, ← eP] at hH
          clear hD2 kch eP eT
          go_wp2_with fail
          go_meet
          exact hH
        by_cases a3 : x.f0 = 3
        · skip
          go_wp2_with fail
          clear c0 c1 c2 c3 c4 c5
          refine (Unbind_ok hH.t x.f1).mono ?_; rintro e w2 ⟨rfl, hD2, kch⟩
          have eP : P' = P := by rw [← HP'.out]; unfold actP toA; dsimp only; rw [if_neg a0, if_neg a1]
          have eT : unbT T x.f1 = T' := by rw [← HT'.out]; unfold actT toA; dsimp only; rw [if_neg a1, if_neg a2, if_pos a3]
          replace hH := hH.chg hD2 (kch.r b)
          rw [eT, ← eP] at hH
          clear hD2 kch eP eT
          go_wp2_with fail
          go_meet
          exact hH
        · have eP : P' = P := by rw [← HP'.out]; unfold actP toA; dsimp only; rw [if_neg a0, if_neg a1]
          have eT : T' = T := by rw [← HT'.out]; unfold actT toA; dsimp only; rw [if_neg a1, if_neg a2, if_neg a3]
          rw [← eT, ← eP] at hH
          clear eP eT
          go_wp2_with fail
          go_meet
          exact hH
      case rest =>
        have hH := hcut
        clear hcut c0 c1 c2 c3 c4 c5
        go_upto_region 26 with fail
        go_cut [125] (fun v wx => v = .bool false ∧ Hs w wx b m mt mg P' T' (toldF P') (goneF P') [])
        case first =>
          -- hH: Hs w wc .. with the box of the call
          have hst : HoS mt mg gx (toldF P') (goneF P') x wc.drew := ⟨hH.a.below (Below.refl _ wc).drew hH.a.lt, hH.c.below (Below.refl _ wc).drew hH.c.lt, (hH.bx (gx, actC (toA x), 30) (by simp)).1.drew⟩
          have hH1 := hH.step (Below.refl _ wc).drew
          have HH1 := Lib.hid hH1
          have has := HG'.out.asks ⟨x.f4, x.f5⟩
          obtain ⟨ft, hft⟩ : ∃ ft, toldF P' ⟨x.f4, x.f5⟩ = ft := ⟨_, rfl⟩
          obtain ⟨gt, hgt⟩ : ∃ gt, goneF P' ⟨x.f4, x.f5⟩ = gt := ⟨_, rfl⟩
          obtain ⟨ec, hec⟩ : ∃ ec, chkE P' ⟨x.f4, x.f5⟩ = ec := ⟨_, rfl⟩
          have HFT := Lib.hid hft
          have HGT := Lib.hid hgt
          have HEC := Lib.hid hec
          rw [hft, hgt, hec] at has
          have HAS := Lib.hid has
          clear hH hH1 hft hgt hec has
          refine wp_onlyN ?_
          refine wp_region_held_drew (S := HoS mt mg gx (toldF P') (goneF P') x) (by kernel_rfl) hst (fun hHeld => ?_)
          have hH := HH1.out
          clear hst HH1
          change wpAnyH _ _ _ _ _ _ _ _ wc.drew
          generalize wc.drew = Y at hH hHeld ⊢
          refine wpAnyH_take (i := 0) (v := ?_) rfl (by kernel_rfl) (by kernel_rfl) (by kernel_rfl) (fun _ _ _ h => h) (Or.inl ⟨by rfl, ?_⟩) (by assumption) ?_
          rotate_left
          · (intro Y hSw; (try dsimp only at hSw); obtain ⟨hS0, hS1, hS2⟩ := hSw; go_simp; try with_reducible rfl)
          try simp only [Act.put, List.getElem_toArray, List.getElem_cons_zero, List.getElem_cons_succ, List.setIfInBounds_toArray, List.set_cons_zero, List.set_cons_succ]
          refine wpAnyH_take (i := 1) (v := ?_) rfl (by kernel_rfl) (by kernel_rfl) (by kernel_rfl) (fun _ _ _ h => h) (Or.inl ⟨by rfl, ?_⟩) (by assumption) ?_
          rotate_left
          · (intro Y hSw; (try dsimp only at hSw); obtain ⟨hS0, hS1, hS2⟩ := hSw; go_simp; try with_reducible rfl)
          try simp only [Act.put, List.getElem_toArray, List.getElem_cons_zero, List.getElem_cons_succ, List.setIfInBounds_toArray, List.set_cons_zero, List.set_cons_succ]
          refine wpAnyH_take (i := 2) (v := .agg #[.int .i64 x.f4, .int .i64 x.f5]) rfl (by kernel_rfl) (by kernel_rfl) (by kernel_rfl) (fun _ _ _ h => h) (Or.inl ⟨by rfl, by intro Y hSw; have x0 : Y.cell? ⟨gx, 4, none⟩ = some (.int .i64 x.f4) := hSw.x.cell 4 rfl; have x1 : Y.cell? ⟨gx, 5, none⟩ = some (.int .i64 x.f5) := hSw.x.cell 5 rfl; go_simp⟩) (by assumption) ?_
          try simp only [Act.put, List.getElem_toArray, List.getElem_cons_zero, List.getElem_cons_succ, List.setIfInBounds_toArray, List.set_cons_zero, List.set_cons_succ]
          refine wpAnyH_take (i := 6) (v := ?_) rfl (by kernel_rfl) (by kernel_rfl) (by kernel_rfl) (fun _ _ _ h => h) (Or.inl ⟨by rfl, ?_⟩) (by assumption) ?_
          rotate_left
          · (intro Y hSw; (try dsimp only at hSw); obtain ⟨hS0, hS1, hS2⟩ := hSw; go_simp; try with_reducible rfl)
          try simp only [Act.put, List.getElem_toArray, List.getElem_cons_zero, List.getElem_cons_succ, List.setIfInBounds_toArray, List.set_cons_zero, List.set_cons_succ]
          refine wpAnyH_take (i := 7) (v := ?_) rfl (by kernel_rfl) (by kernel_rfl) (by kernel_rfl) (fun _ _ _ h => h) (Or.inl ⟨by rfl, ?_⟩) (by assumption) ?_
          rotate_left
          · (intro Y hSw; (try dsimp only at hSw); obtain ⟨hS0, hS1, hS2⟩ := hSw; go_simp; try with_reducible rfl)
          try simp only [Act.put, List.getElem_toArray, List.getElem_cons_zero, List.getElem_cons_succ, List.setIfInBounds_toArray, List.set_cons_zero, List.set_cons_succ]
          refine wpAnyH_take (i := 8) (v := .agg #[.int .i64 x.f4, .int .i64 x.f5]) rfl (by kernel_rfl) (by kernel_rfl) (by kernel_rfl) (fun _ _ _ h => h) (Or.inl ⟨by rfl, by intro Y hSw; have x0 : Y.cell? ⟨gx, 4, none⟩ = some (.int .i64 x.f4) := hSw.x.cell 4 rfl; have x1 : Y.cell? ⟨gx, 5, none⟩ = some (.int .i64 x.f5) := hSw.x.cell 5 rfl; go_simp⟩) (by assumption) ?_
          try simp only [Act.put, List.getElem_toArray, List.getElem_cons_zero, List.getElem_cons_succ, List.setIfInBounds_toArray, List.set_cons_zero, List.set_cons_succ]
          refine wpAnyH_take (i := 9) (v := .int .i64 ft) rfl (by kernel_rfl) (by kernel_rfl) (by kernel_rfl) (fun _ _ _ h => h) (Or.inl ⟨by rfl, by intro Y hSw; have hlk := hSw.a.lookup keyE Try.underlying26 (zero_i64 Y) ⟨x.f4, x.f5⟩ HWX.out; rw [HFT.out] at hlk; unfold encH at hlk; dsimp only at hlk; go_simp⟩) (by assumption) ?_
          try simp only [Act.put, List.getElem_toArray, List.getElem_cons_zero, List.getElem_cons_succ, List.setIfInBounds_toArray, List.set_cons_zero, List.set_cons_succ]
          have hE9 : (0 < ft ∧ gt = 0 → ec = 0) ∧ (¬ (0 < ft ∧ gt = 0) → ¬ ec = 0) := by
            have h9 := HAS.out
            refine ⟨fun h => ?_, fun h e => ?_⟩
            · rw [decide_eq_true (show ft > 0 from h.1), decide_eq_true h.2] at h9
              exact of_decide_eq_true h9
            · rw [decide_eq_true e] at h9
              have h8 := h9.symm
              rw [Bool.and_eq_true, decide_eq_true_iff, decide_eq_true_iff] at h8
              exact h h8
          by_cases hf9 : 0 < ft
          · by_cases hg9 : gt = 0
            · have hec9 := hE9.1 ⟨hf9, hg9⟩
              refine wpAnyH_take (i := 10) (v := .bool true) rfl (by kernel_rfl) (by kernel_rfl) (by kernel_rfl) (fun _ _ _ h => h) (Or.inl ⟨by rfl, by intro Y hSw; go_simp; try omega⟩) (by assumption) ?_
              try simp only [Act.put, List.getElem_toArray, List.getElem_cons_zero, List.getElem_cons_succ, List.setIfInBounds_toArray, List.set_cons_zero, List.set_cons_succ]
              refine wpAnyH_ready (rs := [3]) (by kernel_rfl) (by simp) ?_
              refine AllReadyH.cons rfl (fun K hK => ?_) AllReadyH.nil
              go_simp
              refine (Check_ok hH.t ⟨x.f4, x.f5⟩).mono ?_; rintro e Y2 ⟨rfl, k2⟩
              rw [HEC.out]
              replace hH := hH.step k2
              clear k2
              go_simp
              refine hK.out _ _ (⟨hH.a, hH.c, (hH.bx (gx, actC (toA x), 30) (by simp)).1⟩) (fun hHeld => ?_)
              clear hK K
              try simp only [Act.put, List.getElem_toArray, List.getElem_cons_zero, List.getElem_cons_succ, List.setIfInBounds_toArray, List.set_cons_zero, List.set_cons_succ]
              refine wpAnyH_ready (rs := [4]) (by kernel_rfl) (by simp) ?_
              refine AllReadyH.cons rfl (fun K hK => ?_) AllReadyH.nil
              go_simp
              refine (num_calls _ _).mono ?_; rintro e _ ⟨rfl, rfl⟩
              go_simp
              refine hK.out _ _ (⟨hH.a, hH.c, (hH.bx (gx, actC (toA x), 30) (by simp)).1⟩) (fun hHeld => ?_)
              clear hK K
              try simp only [Act.put, List.getElem_toArray, List.getElem_cons_zero, List.getElem_cons_succ, List.setIfInBounds_toArray, List.set_cons_zero, List.set_cons_succ]
              refine wpAnyH_take (i := 5) (v := .bool true) rfl (by kernel_rfl) (by kernel_rfl) (by kernel_rfl) (fun _ _ _ h => h) (Or.inl ⟨by rfl, by intro Y hSw; go_simp; try omega⟩) (by assumption) ?_
              try simp only [Act.put, List.getElem_toArray, List.getElem_cons_zero, List.getElem_cons_succ, List.setIfInBounds_toArray, List.set_cons_zero, List.set_cons_succ]
              refine wpAnyH_take (i := 11) (v := ?_) rfl (by kernel_rfl) (by kernel_rfl) (by kernel_rfl) (fun _ _ _ h => h) (Or.inl ⟨by rfl, ?_⟩) (by assumption) ?_
              rotate_left
              · (intro Y hSw; (try dsimp only at hSw); obtain ⟨hS0, hS1, hS2⟩ := hSw; go_simp; try with_reducible rfl)
              try simp only [Act.put, List.getElem_toArray, List.getElem_cons_zero, List.getElem_cons_succ, List.setIfInBounds_toArray, List.set_cons_zero, List.set_cons_succ]
              refine wpAnyH_take (i := 12) (v := ?_) rfl (by kernel_rfl) (by kernel_rfl) (by kernel_rfl) (fun _ _ _ h => h) (Or.inl ⟨by rfl, ?_⟩) (by assumption) ?_
              rotate_left
              · (intro Y hSw; (try dsimp only at hSw); obtain ⟨hS0, hS1, hS2⟩ := hSw; go_simp; try with_reducible rfl)
              try simp only [Act.put, List.getElem_toArray, List.getElem_cons_zero, List.getElem_cons_succ, List.setIfInBounds_toArray, List.set_cons_zero, List.set_cons_succ]
              refine wpAnyH_take (i := 13) (v := ?_) rfl (by kernel_rfl) (by kernel_rfl) (by kernel_rfl) (fun _ _ _ h => h) (Or.inl ⟨by rfl, ?_⟩) (by assumption) ?_
              rotate_left
              · (intro Y hSw; (try dsimp only at hSw); obtain ⟨hS0, hS1, hS2⟩ := hSw; go_simp; try with_reducible rfl)
              try simp only [Act.put, List.getElem_toArray, List.getElem_cons_zero, List.getElem_cons_succ, List.setIfInBounds_toArray, List.set_cons_zero, List.set_cons_succ]
              refine wpAnyH_take (i := 14) (v := .agg #[.int .i64 x.f4, .int .i64 x.f5]) rfl (by kernel_rfl) (by kernel_rfl) (by kernel_rfl) (fun _ _ _ h => h) (Or.inl ⟨by rfl, by intro Y hSw; have x0 : Y.cell? ⟨gx, 4, none⟩ = some (.int .i64 x.f4) := hSw.x.cell 4 rfl; have x1 : Y.cell? ⟨gx, 5, none⟩ = some (.int .i64 x.f5) := hSw.x.cell 5 rfl; go_simp⟩) (by assumption) ?_
              try simp only [Act.put, List.getElem_toArray, List.getElem_cons_zero, List.getElem_cons_succ, List.setIfInBounds_toArray, List.set_cons_zero, List.set_cons_succ]
              refine wpAnyH_take (i := 15) (v := .int .i64 gt) rfl (by kernel_rfl) (by kernel_rfl) (by kernel_rfl) (fun _ _ _ h => h) (Or.inl ⟨by rfl, by intro Y hSw; have hlk := hSw.c.lookup keyE Try.underlying26 (zero_i64 Y) ⟨x.f4, x.f5⟩ HWX.out; rw [HGT.out] at hlk; unfold encH at hlk; dsimp only at hlk; go_simp⟩) (by assumption) ?_
              try simp only [Act.put, List.getElem_toArray, List.getElem_cons_zero, List.getElem_cons_succ, List.setIfInBounds_toArray, List.set_cons_zero, List.set_cons_succ]
              refine wpAnyH_take (i := 16) (v := .bool true) rfl (by kernel_rfl) (by kernel_rfl) (by kernel_rfl) (fun _ _ _ h => h) (Or.inl ⟨by rfl, by intro Y hSw; go_simp; try omega⟩) (by assumption) ?_
              try simp only [Act.put, List.getElem_toArray, List.getElem_cons_zero, List.getElem_cons_succ, List.setIfInBounds_toArray, List.set_cons_zero, List.set_cons_succ]
              refine wpAnyH_take (i := 17) (v := ?_) rfl (by kernel_rfl) (by kernel_rfl) (by kernel_rfl) (fun _ _ _ h => h) (Or.inl ⟨by rfl, ?_⟩) (by assumption) ?_
              rotate_left
              · (intro Y hSw; (try dsimp only at hSw); obtain ⟨hS0, hS1, hS2⟩ := hSw; go_simp; try with_reducible rfl)
              try simp only [Act.put, List.getElem_toArray, List.getElem_cons_zero, List.getElem_cons_succ, List.setIfInBounds_toArray, List.set_cons_zero, List.set_cons_succ]
              refine wpAnyH_take (i := 18) (v := ?_) rfl (by kernel_rfl) (by kernel_rfl) (by kernel_rfl) (fun _ _ _ h => h) (Or.inl ⟨by rfl, ?_⟩) (by assumption) ?_
              rotate_left
              · (intro Y hSw; (try dsimp only at hSw); obtain ⟨hS0, hS1, hS2⟩ := hSw; go_simp; try with_reducible rfl)
              try simp only [Act.put, List.getElem_toArray, List.getElem_cons_zero, List.getElem_cons_succ, List.setIfInBounds_toArray, List.set_cons_zero, List.set_cons_succ]
              refine wpAnyH_done (by kernel_rfl) ?_ _
              rw [onlyN_normal]
              replace hH := hH.less (L' := []) (fun x hx => absurd hx (by simp))
              clear hHeld hec9 hE9 HAS HFT HGT HEC
              go_wp2_with fail
              go_meet
              exact ⟨rfl, hH⟩
            · have hec9 := hE9.2 (fun h => hg9 h.2)
              refine wpAnyH_take (i := 10) (v := .bool true) rfl (by kernel_rfl) (by kernel_rfl) (by kernel_rfl) (fun _ _ _ h => h) (Or.inl ⟨by rfl, by intro Y hSw; go_simp; try omega⟩) (by assumption) ?_
              try simp only [Act.put, List.getElem_toArray, List.getElem_cons_zero, List.getElem_cons_succ, List.setIfInBounds_toArray, List.set_cons_zero, List.set_cons_succ]
              refine wpAnyH_ready (rs := [3]) (by kernel_rfl) (by simp) ?_
              refine AllReadyH.cons rfl (fun K hK => ?_) AllReadyH.nil
              go_simp
              refine (Check_ok hH.t ⟨x.f4, x.f5⟩).mono ?_; rintro e Y2 ⟨rfl, k2⟩
              rw [HEC.out]
              replace hH := hH.step k2
              clear k2
              go_simp
              refine hK.out _ _ (⟨hH.a, hH.c, (hH.bx (gx, actC (toA x), 30) (by simp)).1⟩) (fun hHeld => ?_)
              clear hK K
              try simp only [Act.put, List.getElem_toArray, List.getElem_cons_zero, List.getElem_cons_succ, List.setIfInBounds_toArray, List.set_cons_zero, List.set_cons_succ]
              refine wpAnyH_ready (rs := [4]) (by kernel_rfl) (by simp) ?_
              refine AllReadyH.cons rfl (fun K hK => ?_) AllReadyH.nil
              go_simp
              refine (num_calls _ _).mono ?_; rintro e _ ⟨rfl, rfl⟩
              go_simp
              refine hK.out _ _ (⟨hH.a, hH.c, (hH.bx (gx, actC (toA x), 30) (by simp)).1⟩) (fun hHeld => ?_)
              clear hK K
              try simp only [Act.put, List.getElem_toArray, List.getElem_cons_zero, List.getElem_cons_succ, List.setIfInBounds_toArray, List.set_cons_zero, List.set_cons_succ]
              refine wpAnyH_take (i := 5) (v := .bool false) rfl (by kernel_rfl) (by kernel_rfl) (by kernel_rfl) (fun _ _ _ h => h) (Or.inl ⟨by rfl, by intro Y hSw; go_simp; try omega⟩) (by assumption) ?_
              try simp only [Act.put, List.getElem_toArray, List.getElem_cons_zero, List.getElem_cons_succ, List.setIfInBounds_toArray, List.set_cons_zero, List.set_cons_succ]
              refine wpAnyH_take (i := 11) (v := ?_) rfl (by kernel_rfl) (by kernel_rfl) (by kernel_rfl) (fun _ _ _ h => h) (Or.inl ⟨by rfl, ?_⟩) (by assumption) ?_
              rotate_left
              · (intro Y hSw; (try dsimp only at hSw); obtain ⟨hS0, hS1, hS2⟩ := hSw; go_simp; try with_reducible rfl)
              try simp only [Act.put, List.getElem_toArray, List.getElem_cons_zero, List.getElem_cons_succ, List.setIfInBounds_toArray, List.set_cons_zero, List.set_cons_succ]
              refine wpAnyH_take (i := 12) (v := ?_) rfl (by kernel_rfl) (by kernel_rfl) (by kernel_rfl) (fun _ _ _ h => h) (Or.inl ⟨by rfl, ?_⟩) (by assumption) ?_
              rotate_left
              · (intro Y hSw; (try dsimp only at hSw); obtain ⟨hS0, hS1, hS2⟩ := hSw; go_simp; try with_reducible rfl)
              try simp only [Act.put, List.getElem_toArray, List.getElem_cons_zero, List.getElem_cons_succ, List.setIfInBounds_toArray, List.set_cons_zero, List.set_cons_succ]
              refine wpAnyH_take (i := 13) (v := ?_) rfl (by kernel_rfl) (by kernel_rfl) (by kernel_rfl) (fun _ _ _ h => h) (Or.inl ⟨by rfl, ?_⟩) (by assumption) ?_
              rotate_left
              · (intro Y hSw; (try dsimp only at hSw); obtain ⟨hS0, hS1, hS2⟩ := hSw; go_simp; try with_reducible rfl)
              try simp only [Act.put, List.getElem_toArray, List.getElem_cons_zero, List.getElem_cons_succ, List.setIfInBounds_toArray, List.set_cons_zero, List.set_cons_succ]
              refine wpAnyH_take (i := 14) (v := .agg #[.int .i64 x.f4, .int .i64 x.f5]) rfl (by kernel_rfl) (by kernel_rfl) (by kernel_rfl) (fun _ _ _ h => h) (Or.inl ⟨by rfl, by intro Y hSw; have x0 : Y.cell? ⟨gx, 4, none⟩ = some (.int .i64 x.f4) := hSw.x.cell 4 rfl; have x1 : Y.cell? ⟨gx, 5, none⟩ = some (.int .i64 x.f5) := hSw.x.cell 5 rfl; go_simp⟩) (by assumption) ?_
              try simp only [Act.put, List.getElem_toArray, List.getElem_cons_zero, List.getElem_cons_succ, List.setIfInBounds_toArray, List.set_cons_zero, List.set_cons_succ]
              refine wpAnyH_take (i := 15) (v := .int .i64 gt) rfl (by kernel_rfl) (by kernel_rfl) (by kernel_rfl) (fun _ _ _ h => h) (Or.inl ⟨by rfl, by intro Y hSw; have hlk := hSw.c.lookup keyE Try.underlying26 (zero_i64 Y) ⟨x.f4, x.f5⟩ HWX.out; rw [HGT.out] at hlk; unfold encH at hlk; dsimp only at hlk; go_simp⟩) (by assumption) ?_
              try simp only [Act.put, List.getElem_toArray, List.getElem_cons_zero, List.getElem_cons_succ, List.setIfInBounds_toArray, List.set_cons_zero, List.set_cons_succ]
              refine wpAnyH_take (i := 16) (v := .bool false) rfl (by kernel_rfl) (by kernel_rfl) (by kernel_rfl) (fun _ _ _ h => h) (Or.inl ⟨by rfl, by intro Y hSw; go_simp; try omega⟩) (by assumption) ?_
              try simp only [Act.put, List.getElem_toArray, List.getElem_cons_zero, List.getElem_cons_succ, List.setIfInBounds_toArray, List.set_cons_zero, List.set_cons_succ]
              refine wpAnyH_take (i := 17) (v := ?_) rfl (by kernel_rfl) (by kernel_rfl) (by kernel_rfl) (fun _ _ _ h => h) (Or.inl ⟨by rfl, ?_⟩) (by assumption) ?_
              rotate_left
              · (intro Y hSw; (try dsimp only at hSw); obtain ⟨hS0, hS1, hS2⟩ := hSw; go_simp; try with_reducible rfl)
              try simp only [Act.put, List.getElem_toArray, List.getElem_cons_zero, List.getElem_cons_succ, List.setIfInBounds_toArray, List.set_cons_zero, List.set_cons_succ]
              refine wpAnyH_take (i := 18) (v := ?_) rfl (by kernel_rfl) (by kernel_rfl) (by kernel_rfl) (fun _ _ _ h => h) (Or.inl ⟨by rfl, ?_⟩) (by assumption) ?_
              rotate_left
              · (intro Y hSw; (try dsimp only at hSw); obtain ⟨hS0, hS1, hS2⟩ := hSw; go_simp; try with_reducible rfl)
              try simp only [Act.put, List.getElem_toArray, List.getElem_cons_zero, List.getElem_cons_succ, List.setIfInBounds_toArray, List.set_cons_zero, List.set_cons_succ]
              refine wpAnyH_done (by kernel_rfl) ?_ _
              rw [onlyN_normal]
              replace hH := hH.less (L' := []) (fun x hx => absurd hx (by simp))
              clear hHeld hec9 hE9 HAS HFT HGT HEC
              go_wp2_with fail
              go_meet
              exact ⟨rfl, hH⟩
          · have hec9 := hE9.2 (fun h => hf9 h.1)
            refine wpAnyH_take (i := 10) (v := .bool false) rfl (by kernel_rfl) (by kernel_rfl) (by kernel_rfl) (fun _ _ _ h => h) (Or.inl ⟨by rfl, by intro Y hSw; go_simp; try omega⟩) (by assumption) ?_
            try simp only [Act.put, List.getElem_toArray, List.getElem_cons_zero, List.getElem_cons_succ, List.setIfInBounds_toArray, List.set_cons_zero, List.set_cons_succ]
            refine wpAnyH_ready (rs := [3]) (by kernel_rfl) (by simp) ?_
            refine AllReadyH.cons rfl (fun K hK => ?_) AllReadyH.nil
            go_simp
            refine (Check_ok hH.t ⟨x.f4, x.f5⟩).mono ?_; rintro e Y2 ⟨rfl, k2⟩
            rw [HEC.out]
            replace hH := hH.step k2
            clear k2
            go_simp
            refine hK.out _ _ (⟨hH.a, hH.c, (hH.bx (gx, actC (toA x), 30) (by simp)).1⟩) (fun hHeld => ?_)
            clear hK K
            try simp only [Act.put, List.getElem_toArray, List.getElem_cons_zero, List.getElem_cons_succ, List.setIfInBounds_toArray, List.set_cons_zero, List.set_cons_succ]
            refine wpAnyH_ready (rs := [4]) (by kernel_rfl) (by simp) ?_
            refine AllReadyH.cons rfl (fun K hK => ?_) AllReadyH.nil
            go_simp
            refine (num_calls _ _).mono ?_; rintro e _ ⟨rfl, rfl⟩
            go_simp
            refine hK.out _ _ (⟨hH.a, hH.c, (hH.bx (gx, actC (toA x), 30) (by simp)).1⟩) (fun hHeld => ?_)
            clear hK K
            try simp only [Act.put, List.getElem_toArray, List.getElem_cons_zero, List.getElem_cons_succ, List.setIfInBounds_toArray, List.set_cons_zero, List.set_cons_succ]
            refine wpAnyH_take (i := 5) (v := .bool false) rfl (by kernel_rfl) (by kernel_rfl) (by kernel_rfl) (fun _ _ _ h => h) (Or.inl ⟨by rfl, by intro Y hSw; go_simp; try omega⟩) (by assumption) ?_
            try simp only [Act.put, List.getElem_toArray, List.getElem_cons_zero, List.getElem_cons_succ, List.setIfInBounds_toArray, List.set_cons_zero, List.set_cons_succ]
            refine wpAnyH_take (i := 11) (v := ?_) rfl (by kernel_rfl) (by kernel_rfl) (by kernel_rfl) (fun _ _ _ h => h) (Or.inl ⟨by rfl, ?_⟩) (by assumption) ?_
            rotate_left
            · (intro Y hSw; (try dsimp only at hSw); obtain ⟨hS0, hS1, hS2⟩ := hSw; go_simp; try with_reducible rfl)
            try simp only [Act.put, List.getElem_toArray, List.getElem_cons_zero, List.getElem_cons_succ, List.setIfInBounds_toArray, List.set_cons_zero, List.set_cons_succ]
            refine wpAnyH_take (i := 12) (v := undef) rfl (by kernel_rfl) (by kernel_rfl) (by kernel_rfl) (fun _ _ _ h => h) (Or.inr ⟨by rfl, rfl⟩) (by assumption) ?_
            try simp only [Act.put, List.getElem_toArray, List.getElem_cons_zero, List.getElem_cons_succ, List.setIfInBounds_toArray, List.set_cons_zero, List.set_cons_succ]
            refine wpAnyH_take (i := 13) (v := undef) rfl (by kernel_rfl) (by kernel_rfl) (by kernel_rfl) (fun _ _ _ h => h) (Or.inr ⟨by rfl, rfl⟩) (by assumption) ?_
            try simp only [Act.put, List.getElem_toArray, List.getElem_cons_zero, List.getElem_cons_succ, List.setIfInBounds_toArray, List.set_cons_zero, List.set_cons_succ]
            refine wpAnyH_take (i := 14) (v := undef) rfl (by kernel_rfl) (by kernel_rfl) (by kernel_rfl) (fun _ _ _ h => h) (Or.inr ⟨by rfl, rfl⟩) (by assumption) ?_
            try simp only [Act.put, List.getElem_toArray, List.getElem_cons_zero, List.getElem_cons_succ, List.setIfInBounds_toArray, List.set_cons_zero, List.set_cons_succ]
            refine wpAnyH_take (i := 15) (v := undef) rfl (by kernel_rfl) (by kernel_rfl) (by kernel_rfl) (fun _ _ _ h => h) (Or.inr ⟨by rfl, rfl⟩) (by assumption) ?_
            try simp only [Act.put, List.getElem_toArray, List.getElem_cons_zero, List.getElem_cons_succ, List.setIfInBounds_toArray, List.set_cons_zero, List.set_cons_succ]
            refine wpAnyH_take (i := 16) (v := undef) rfl (by kernel_rfl) (by kernel_rfl) (by kernel_rfl) (fun _ _ _ h => h) (Or.inr ⟨by rfl, rfl⟩) (by assumption) ?_
            try simp only [Act.put, List.getElem_toArray, List.getElem_cons_zero, List.getElem_cons_succ, List.setIfInBounds_toArray, List.set_cons_zero, List.set_cons_succ]
            refine wpAnyH_take (i := 17) (v := ?_) rfl (by kernel_rfl) (by kernel_rfl) (by kernel_rfl) (fun _ _ _ h => h) (Or.inl ⟨by rfl, ?_⟩) (by assumption) ?_
            rotate_left
            · (intro Y hSw; (try dsimp only at hSw); obtain ⟨hS0, hS1, hS2⟩ := hSw; go_simp; try with_reducible rfl)
            try simp only [Act.put, List.getElem_toArray, List.getElem_cons_zero, List.getElem_cons_succ, List.setIfInBounds_toArray, List.set_cons_zero, List.set_cons_succ]
            refine wpAnyH_take (i := 18) (v := ?_) rfl (by kernel_rfl) (by kernel_rfl) (by kernel_rfl) (fun _ _ _ h => h) (Or.inl ⟨by rfl, ?_⟩) (by assumption) ?_
            rotate_left
            · (intro Y hSw; (try dsimp only at hSw); obtain ⟨hS0, hS1, hS2⟩ := hSw; go_simp; try with_reducible rfl)
            try simp only [Act.put, List.getElem_toArray, List.getElem_cons_zero, List.getElem_cons_succ, List.setIfInBounds_toArray, List.set_cons_zero, List.set_cons_succ]
            refine wpAnyH_done (by kernel_rfl) ?_ _
            rw [onlyN_normal]
            replace hH := hH.less (L' := []) (fun x hx => absurd hx (by simp))
            clear hHeld hec9 hE9 HAS HFT HGT HEC
            go_wp2_with fail
            go_meet
            exact ⟨rfl, hH⟩
        case rest =>
          obtain ⟨rfl, hH⟩ := hcut
          go_wp2_with fail
          refine (all_ok (P := P') (.inl ⟨b, m, T', rfl, hH.t⟩) 9 (by decide) (by decide)).mono ?_; rintro e Y3 ⟨v, rfl, ho, k3⟩
          replace hH := hH.step k3
          have hr3 : RowAt Y3.heap.size Y3 v (tenL P').length (hndsV (tenL P')) := RowAt.of_owns ho (Nat.le_refl _)
          obtain ⟨ra, rc, rfl, _⟩ := hr3.len
          obtain ⟨nl, hnl⟩ : ∃ nl, (tenL P').length = nl := ⟨_, rfl⟩
          have htl : (tenL P').length ≤ 4 := tenTo_len P' 4
          rw [hnl] at hr3 htl ⊢
          have HR3 := Lib.hid hr3
          have HNL := Lib.hid hnl
          have HH3 := Lib.hid hH
          have hlT := thr_len HG'.out.srt HG'.out.key
          have hsum : ∀ k, k ≤ nl → sumT T' ((tenL P').take k) ≤ 4 := by
            intro k hk
            have h1 := sumT_all T' HG'.out.bnd
            have h2 : sumT T' (tenL P') = sumT T' ((tenL P').take k) + sumT T' ((tenL P').drop k) := by
              unfold sumT
              rw [← List.sum_append, ← List.map_append, List.take_append_drop]
            omega
          have HSUM := Lib.hid hsum
          clear ho k3 hr3 hnl hH hsum
          go_wp2_with fail
          go_loopw [12, 14] (fun nv i wr2 => ∃ k2 : Nat, k2 ≤ nl ∧ i = .int .i64 k2 ∧ nv = .int .i64 (sumT T' ((tenL P').take k2) : Nat) ∧ Below Y3.heap.size Y3 wr2) (fun _ i _ => nl - (intOf i).toNat)
          case atStart => exact ⟨0, by omega, rfl, rfl, Below.refl _ _⟩
          case round =>
            obtain ⟨k2, hk2, rfl, rfl, hb2⟩ := hrel
            have hH := HH3.out.step hb2
            have hs2 := HSUM.out k2 hk2
            by_cases hlt2 : k2 < nl
            · have hlt2' : k2 < (tenL P').length := by rw [HNL.out]; exact hlt2
              obtain ⟨rb, ro, rfl, _, p0, p1⟩ := (HR3.out.below hb2 (Nat.le_refl _)).geth k2 hlt2'
              have j0 : (0 : Int) ≤ k2 := by omega
              have j1 : (k2 : Int) < nl := by omega
              have hch := (tenL_in P' _).1 (List.getElem_mem hlt2')
              have hsn : sumT T' ((tenL P').take (k2 + 1)) = sumT T' ((tenL P').take k2) + (thO P' T' (tenL P')[k2]).length := by
                rw [take_next _ _ hlt2', sumT_snoc]
                unfold thO
                rw [if_pos hch]
              have hs3 := HSUM.out (k2 + 1) (by omega)
              generalize (tenL P')[k2] = h at p0 p1 hch hsn
              have hwf := HG'.out.wfh (by omega) hch
              have q1 := hH.l1 h hwf
              have q2 := hH.l2 h hwf
              rw [(HG'.out.told hch).1] at q1
              rw [(HG'.out.told hch).2] at q2
              obtain ⟨s1, hs1⟩ : ∃ s1, sumT T' ((tenL P').take k2) = s1 := ⟨_, rfl⟩
              obtain ⟨s2, hs2'⟩ : ∃ s2, (thO P' T' h).length = s2 := ⟨_, rfl⟩
              rw [hs1] at hs2 hsn ⊢
              rw [hs2'] at hsn
              have HSN := Lib.hid hsn
              have HS2 := Lib.hid hs2'
              have hs12 : s1 + s2 ≤ 4 := by omega
              have hwr : IntKind.i64.wrap ((s1 : Int) + (s2 : Int)) = ((s1 + s2 : Nat) : Int) := by rw [IntWalk.i64_in _ (by omega)]; omega
              have HH := Lib.hid hH
              clear hsn hs1 hs2' hch hs3 hwf hH hs2
              go_wp2_with fail
              refine (Threads_ok HH.out.t HG'.out.srt HG'.out.key h).mono ?_; rintro e Y4 ⟨u, rfl, ho4, k4⟩
              have hr4 := RowAt.of_owns ho4 (Nat.le_refl _)
              obtain ⟨ua, uc, rfl, _⟩ := hr4.len
              rw [HS2.out]
              have hb4 := hb2.trans (k4.mono hb2.size)
              clear ho4 hr4 k4 p0 p1 q1 q2
              go_wp2_with fail
              exact ⟨⟨k2 + 1, by omega, by go_num, by rw [HSN.out]; go_num, hb4⟩, by simp [intOf]; omega⟩
            · obtain rfl : k2 = nl := by omega
              have hall : sumT T' ((tenL P').take k2) = T'.length := by rw [← HNL.out, List.take_length]; exact sumT_all T' HG'.out.bnd
              rw [hall]
              clear hall hs2 hH HSUM
              have HB2 := Lib.hid hb2
              clear hb2
              have hc0 := cntT_0 HG'.out.key
              have HC0 := Lib.hid hc0
              clear hc0
              go_wp2_with fail
              go_loopw [12, 15] (fun nv i wr3 => ∃ t : Nat, t ≤ 4 ∧ i = .int .i64 t ∧ nv = .int .i64 ((T'.length - cntT T' t : Nat) : Int) ∧ Below Y3.heap.size Y3 wr3) (fun _ i _ => 4 - (intOf i).toNat)
              case atStart => exact ⟨0, by omega, rfl, by have := HC0.out; rw [show ((0 : Nat) : Int) = 0 from rfl, this]; rfl, HB2.out⟩
              case round =>
                obtain ⟨t, ht, rfl, rfl, hb3⟩ := hrel
                have hH := HH3.out.step hb3
                by_cases hlt3 : t < 4
                · have j0 : (0 : Int) ≤ t := by omega
                  have j1 : (t : Int) < 4 := by omega
                  have hcs := cntT_step HG'.out.srt t
                  have hcl := cntT_le T' (t + 1)
                  obtain ⟨n1, hn1⟩ : ∃ n1, cntT T' t = n1 := ⟨_, rfl⟩
                  rw [hn1] at hcs ⊢
                  obtain ⟨nT, hnT⟩ : ∃ nT, T'.length = nT := ⟨_, rfl⟩
                  rw [hnT] at hcl hlT ⊢
                  have HCS := Lib.hid hcs
                  have HNT := Lib.hid hnT
                  have HCL := Lib.hid hcl
                  have HH := Lib.hid hH
                  clear hcs hn1 hnT hcl hH
                  go_wp2_with fail
                  refine (Of_ok HH.out.t t).mono ?_; rintro e Y5 ⟨rfl, k5⟩
                  have hb5 := hb3.trans (k5.mono hb3.size)
                  have hH5 := HH.out.step k5
                  obtain ⟨y, hy⟩ : ∃ y, getH T' t = y := ⟨_, rfl⟩
                  have HY := Lib.hid hy
                  rw [hy]
                  unfold encH
                  obtain ⟨Y6, hY6⟩ : ∃ Y6, Y5.alloc (.cells #[.int .i64 y.s, .int .i64 y.g] 28) = Y6 := ⟨_, rfl⟩
                  have k6 : Below Y5.heap.size Y5 Y6 := by rw [← hY6]; exact (Below.refl _ Y5).alloc (Nat.le_refl _) _
                  have hB6 : Blk Y6 Y5.heap.size #[.int .i64 y.s, .int .i64 y.g] 28 := by rw [← hY6]; exact Blk.new Y5 _ _
                  have hH6 := hH5.step k6
                  have hb6 := hb5.trans (k6.mono hb5.size)
                  clear hy hH5 hb3 hb5 k5 k6
                  cases hh : hasR T' t
                  · have hc9 : cntT T' (t + 1) = n1 := by rw [HCS.out, hh]; simp
                    have HC9 := Lib.hid hc9
                    clear hh hc9 hB6 hH6
                    go_wp2_with fail
                    exact ⟨⟨t + 1, by omega, by go_num, by rw [show ((t + 1 : Nat) : Int) = (t : Int) + 1 by omega, HC9.out], hb6⟩, by simp [intOf]; omega⟩
                  · obtain ⟨u, hu, _⟩ := getR_has HG'.out.srt.nodup hh
                    have hyu := getH_of HG'.out.srt hu
                    rw [HY.out] at hyu
                    have hch : chkE P' y = 0 := by rw [hyu]; exact HG'.out.bnd _ hu
                    have hwf := HG'.out.wfh (by omega) hch
                    have q1 := hH6.l1 y hwf
                    have q2 := hH6.l2 y hwf
                    rw [(HG'.out.told hch).1] at q1
                    rw [(HG'.out.told hch).2] at q2
                    have x0 : Y6.cell? ⟨Y5.heap.size, 0, none⟩ = some (.int .i64 y.s) := hB6.cell 0 rfl
                    have x1 : Y6.cell? ⟨Y5.heap.size, 1, none⟩ = some (.int .i64 y.g) := hB6.cell 1 rfl
                    have hc9 : cntT T' (t + 1) = n1 + 1 := by rw [HCS.out, hh]; simp
                    have hle9 : n1 + 1 ≤ nT := by rw [← hc9]; exact HCL.out
                    have HC9 := Lib.hid hc9
                    have hwr : IntKind.i64.wrap (((nT - n1 : Nat) : Int) - 1) = ((nT - (n1 + 1) : Nat) : Int) := by rw [IntWalk.i64_in _ (by omega)]; omega
                    clear hh hu hyu hch hwf hc9 hB6 hH6
                    go_wp2_with fail
                    exact ⟨⟨t + 1, by omega, by go_num, by rw [show ((t + 1 : Nat) : Int) = (t : Int) + 1 by omega, HC9.out], hb6⟩, by simp [intOf]; omega⟩
                · obtain rfl : t = 4 := by omega
                  have hc4 := cntT_4 HG'.out.key
                  rw [show ((4 : Nat) : Int) = 4 from rfl, hc4, Nat.sub_self]
                  have HH := Lib.hid hH
                  clear hc4 hH hb3
                  go_wp2_with fail
                  exact ⟨⟨k + 1, P', T', by omega, by go_num, by have := HG'.out; rw [show ((k + 1 : Nat) : Int) = (k : Int) + 1 by omega]; exact this, HH.out⟩, by simp [intOf]; omega⟩
    · obtain rfl : k = l.length := by omega
      go_wp2_with fail
      refine (works_ok _).mono ?_; rintro e u4 ⟨rfl, j4⟩
      have hL4 := hL.step j4
      go_wp2_with fail
      go_ret
      exact ⟨rfl, hL4.k⟩
end Go.Proofs.Ytchknegenaoliaa
