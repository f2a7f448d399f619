/-
  Package pinfoldref08: Map. Conditions: rows in order, few.
-/
import Derived.Test.YtchepkihlnpfeaaPgJ
namespace Go.Proofs.Ytchepkihlnpfeaa
open Go.RowKit
attribute [local go_sem] Oper.semAt_some
set_option maxHeartbeats 4000000
set_option maxRecDepth 8000

theorem tbl_info : (Try.prog.info? 28).map (·.size) = some 1 := by kernel_rfl
theorem run_loadT {w : World} {g : Nat} {cs : Array Value} {t : TypeId} (hB : Blk w g cs t) (hs : cs.size = 1) : (loadVar 28 ⟨g, 0, none⟩).run Try.prog w = .ok (.agg cs) w :=
  run_loadVar_row w g t _ cs (0, 0) _ hB Try.underlying28 rfl (by rw [hs]; exact tbl_info)
theorem ret_t2 {fn : Func} {R : Ending → World → Prop} {a : Act} {w : World} {p u : Tmp} (h : fn.results = #[.cell p 28, .tmp u]) (g : Nat) {cs : Array Value} {t : TypeId} (hp : a.tmps.getD p undef = .pointer (some ⟨g, 0, none⟩))
    (hB : Blk w g cs t) (hs : cs.size = 1) (hd : a.defers = []) (hR : R (.returned (.tuple #[.agg cs, a.tmps.getD u undef])) w) : bodyPost Try.prog fn R .ret a w := by
  refine bodyPost_ret (v := .tuple #[.agg cs, a.tmps.getD u undef]) ?_ hd hR
  have hp' : a.tmps[p]?.getD undef = .pointer (some ⟨g, 0, none⟩) := by simpa using hp
  simp [results, h, hp', asAddr, run_loadT hB hs]
theorem rightE (D : Tb) (p : Int) (x : Ent) (h : rightB x = false) : mapE D p x = 2 := by
  unfold rightB at h
  unfold mapE
  cases h1 : badM x.m
  · rw [h1] at h
    have h2 : badO x = true := by simpa using h
    rw [h2]; rfl
  · rfl
theorem rightE2 (D : Tb) (p : Int) (x : Ent) (h : rightB x = true) : mapE D p x = if badP p = true then 4 else if hasR D p = true then 180 else if frmR D x.f = true then 181 else 0 := by
  unfold rightB at h
  rw [Bool.and_eq_true, Bool.not_eq_true', Bool.not_eq_true'] at h
  unfold mapE
  rw [h.1, h.2]; rfl
theorem atI_has {D : Tb} {p : Int} : (0 ≤ atI D p ↔ hasR D p = true) := by
  unfold atI
  split
  · rename_i h; exact ⟨fun _ => h, fun _ => by omega⟩
  · rename_i h; exact ⟨fun h9 => by omega, fun h9 => absurd h9 h⟩
/-- What Map has laid, and its list as it grows. -/
structure RM (w0 wr : World) (s : Nat) (a1 : Option Addr) (c1 : Nat) (D : Tb) (x : Ent) (r : Value) : Prop where
  t : Blk wr s #[.slice a1 D.length c1] 28
  e : Blk wr (s + 1) #[.int .i64 x.o, .int .i64 x.m, .int .i64 x.f] 31
  r : Blk wr (s + 1 + 1) #[r] 28
  row : RowAt s wr (.slice a1 D.length c1) D.length (rowT D)
  bel : Below s w0 wr
  sz : s + 3 ≤ wr.heap.size
theorem RM.step {w0 wr w' : World} {s : Nat} {a1 : Option Addr} {c1 : Nat} {D : Tb} {x : Ent} {r : Value} (h : RM w0 wr s a1 c1 D x r) (k : Below wr.heap.size wr w') : RM w0 w' s a1 c1 D x r :=
  ⟨h.t.below k h.t.lt, h.e.below k h.e.lt, h.r.below k h.r.lt, h.row.below k (by have := h.sz; omega), h.bel.trans (k.mono (by have := h.sz; omega)), Nat.le_trans h.sz k.size⟩
theorem RM.past {w0 wr w' : World} {s : Nat} {a1 : Option Addr} {c1 : Nat} {D : Tb} {x : Ent} {r : Value} (h : RM w0 wr s a1 c1 D x r) (k : Below (s + 3) wr w') : RM w0 w' s a1 c1 D x r :=
  ⟨h.t.below k (by omega), h.e.below k (by omega), h.r.below k (by omega), h.row.below k (by omega), h.bel.trans (k.mono (by omega)), Nat.le_trans h.sz k.size⟩
theorem RM.set {w0 wr : World} {s : Nat} {a1 : Option Addr} {c1 : Nat} {D : Tb} {x : Ent} {r : Value} (h : RM w0 wr s a1 c1 D x r) (v : Value) : RM w0 (wr.setCell ⟨s + 1 + 1, 0, none⟩ v) s a1 c1 D x v :=
  ⟨h.t.setOther _ _ (by dsimp only; omega), h.e.setOther _ _ (by dsimp only; omega), h.r.set 0 v, h.row.below ((Below.refl (s + 1 + 1) wr).setCell (p := ⟨s + 1 + 1, 0, none⟩) (Nat.le_refl _) v) (by omega), h.bel.setCell (p := ⟨s + 1 + 1, 0, none⟩) (by dsimp only; omega) v, by simpa using h.sz⟩
structure RmS (s b1 o1 : Nat) (v : Value) (x : Ent) (f : Int) (Y : World) : Prop where
  t : Y.cell? ⟨s, 0, none⟩ = some v
  e : Y.cell? ⟨s + 1, 2, none⟩ = some (.int .i64 x.f)
  q : Y.cell? ⟨b1, o1 + 3, none⟩ = some (.int .i64 f)
theorem rMap_ok (v : Value) (D : Tb) (B : Nat) (p : Int) (x : Ent) (w : World) (hB : B ≤ w.heap.size) (hl : D.length < 100000) (hv : RowAt B w v D.length (rowT D)) :
    Calls Try.prog 9 #[.agg #[v], .int .i64 p, .agg #[.int .i64 x.o, .int .i64 x.m, .int .i64 x.f]] w fun e w' => ∃ v', e = .returned (.tuple #[.agg #[v'], .int .i64 (mapE D p x)]) ∧ RowAt w'.heap.size w' v' (mapD D p x).length (rowT (mapD D p x)) ∧ Below w.heap.size w w' := by
  obtain ⟨a1, c1, rfl, _⟩ := hv.len
  obtain ⟨w0, hw0⟩ : ∃ w0, ((w.alloc (.cells #[.slice a1 D.length c1] 28)).alloc (.cells #[.int .i64 x.o, .int .i64 x.m, .int .i64 x.f] 31)).alloc (.cells #[.slice none 0 0] 28) = w0 := ⟨_, rfl⟩
  have k0 : Below w.heap.size w w0 := by rw [← hw0]; exact (((Below.refl _ w).alloc (Nat.le_refl _) _).alloc (by simp) _).alloc (by simp; omega) _
  have hM : RM w w0 w.heap.size a1 c1 D x (.slice none 0 0) := by
    refine ⟨?_, ?_, ?_, (hv.below k0 hB).mono hB, k0, ?_⟩
    · rw [← hw0]; exact ((Blk.new w _ _).alloc _).alloc _
    · rw [← hw0]; exact (Blk.newAt _ _ _ (by simp)).alloc _
    · rw [← hw0]; exact Blk.newAt _ _ _ (by simp)
    · rw [← hw0]; simp
  obtain ⟨s, hs⟩ : ∃ s, w.heap.size = s := ⟨_, rfl⟩
  have HS := Lib.hid hs
  rw [hs] at hM
  clear k0 hv
  have fin : ∀ W, RM w W s a1 c1 D x (.slice a1 D.length c1) → mapE D p x ≠ 0 → RowAt W.heap.size W (.slice a1 D.length c1) (mapD D p x).length (rowT (mapD D p x)) ∧ Below w.heap.size w W := by
    intro W h he
    refine ⟨?_, by rw [hs]; exact h.bel⟩
    rw [show mapD D p x = D by unfold mapD; rw [if_neg he]]
    exact h.row.mono (by have := h.sz; omega)
  have FIN := Lib.hid fin
  clear fin
  have ct := hM.t.cell 0 rfl
  have e0 := hM.e.cell 0 rfl
  have e1 := hM.e.cell 1 rfl
  have e2 := hM.e.cell 2 rfl
  have cr := hM.r.cell 0 rfl
  have fr := hM.r.frozen 0
  go_enter Try.func9, Try.ntmps9
  go_wp2_with fail
  clear hw0
  refine (Right_ok x _).mono ?_; rintro e w1 ⟨rfl, k1⟩
  replace hM := hM.step k1
  clear ct e0 e1 e2 cr fr k1
  have ct := hM.t.cell 0 rfl
  have cr := hM.r.cell 0 rfl
  have fr := hM.r.frozen 0
  cases hr : rightB x
  · have he := rightE D p x hr
    have HE := Lib.hid he
    clear he hr
    go_wp2_with fail
    exact ret_t2 rfl (s + 1 + 1) rfl (hM.set _).r rfl rfl ⟨_, by rw [HE.out]; rfl, (FIN.out _ (hM.set _) (by rw [HE.out]; decide)).1, (FIN.out _ (hM.set _) (by rw [HE.out]; decide)).2⟩
  have he := rightE2 D p x hr
  have HE0 := Lib.hid he
  clear he hr
  cases hb : badP p
  · rw [hb, if_neg (by decide)] at HE0
    have hpp : 0 ≤ p ∧ p < 65536 := by
      unfold badP at hb
      have := of_decide_eq_false hb
      omega
    obtain ⟨p0, p1⟩ := hpp
    clear hb
    go_wp2_with fail
    refine (At_ok (.slice a1 D.length c1) D s p w1 (by have := hM.sz; omega) (by omega) hM.row).mono ?_; rintro e w2 ⟨rfl, k2⟩
    replace hM := hM.step k2
    have hat := atI_has (D := D) (p := p)
    clear ct cr fr k2
    have ct := hM.t.cell 0 rfl
    have cr := hM.r.cell 0 rfl
    have fr := hM.r.frozen 0
    obtain ⟨at_, hati⟩ : ∃ a, atI D p = a := ⟨_, rfl⟩
    rw [hati] at hat ⊢
    clear hati
    by_cases hge : 0 ≤ at_
    · rw [hat.1 hge, if_pos rfl] at HE0
      have HE : Hid (mapE D p x = 180) := HE0
      clear hat
      go_wp2_with fail
      exact ret_t2 rfl (s + 1 + 1) rfl (hM.set _).r rfl rfl ⟨_, by rw [HE.out]; rfl, (FIN.out _ (hM.set _) (by rw [HE.out]; decide)).1, (FIN.out _ (hM.set _) (by rw [HE.out]; decide)).2⟩
    have hno : hasR D p = false := by rw [Bool.eq_false_iff]; exact fun h => hge (hat.2 h)
    rw [hno, if_neg (by decide)] at HE0
    have HNO := Lib.hid hno
    have hM0 := hM
    have hown0 : w2.ownsRow (s + 3) 55 4 (.slice none 0 0) 0 [] := ⟨rfl, .inl ⟨rfl, rfl⟩⟩
    clear hat hno ct cr fr hM
    have ct := hM0.t.cell 0 rfl
    go_wp2_with fail
    go_loopw [8, 9, 10] (fun v b i wr => ∃ k : Nat, k ≤ D.length ∧ i = .int .i64 k ∧ b = .bool (anyGt p (D.take k)) ∧ wr.ownsRow (s + 3) 55 4 v (preR p x (D.take k)).length (rowT (preR p x (D.take k))) ∧ (∀ j (hj : j < D.length), j < k → D[j].2.f ≠ x.f) ∧ RM w wr s a1 c1 D x (.slice none 0 0)) (fun _ _ i _ => D.length - (intOf i).toNat)
    case atStart => exact ⟨0, by omega, rfl, rfl, hown0, fun j _ h => by omega, hM0⟩
    case round =>
      obtain ⟨k, hk, rfl, rfl, hown, hn, hM⟩ := hrel
      have HN := Lib.hid hn
      clear hown0 hM0 ct hn
      have ct := hM.t.cell 0 rfl
      have cr := hM.r.cell 0 rfl
      have fr := hM.r.frozen 0
      have e2 : wr.cell? ⟨s + 1, 2, none⟩ = some (.int .i64 x.f) := hM.e.cell 2 rfl
      have e0 : wr.cell? ⟨s + 1, 0, none⟩ = some (.int .i64 x.o) := hM.e.cell 0 rfl
      have e1 : wr.cell? ⟨s + 1, 1, none⟩ = some (.int .i64 x.m) := hM.e.cell 1 rfl
      by_cases hlt : k < D.length
      · obtain ⟨b1, o1, rfl, _, q⟩ := hM.row.gett k hlt
        have i0 : (0 : Int) ≤ k := by omega
        have i1 : (k : Int) < D.length := by omega
        have htk := take_next D k hlt
        have hmem : D[k] ∈ D := List.getElem_mem hlt
        obtain ⟨⟨xk, xo, xm, xf⟩, hx⟩ : ∃ y, D[k] = y := ⟨_, rfl⟩
        rw [hx] at q htk hmem
        have HX := Lib.hid hx
        have hst := preR_snoc p x (D.take k) (xk, ⟨xo, xm, xf⟩)
        have hgt := anyGt_snoc p (D.take k) (xk, (⟨xo, xm, xf⟩ : Ent))
        rw [← htk] at hst hgt
        have hpl : (preR p x (D.take k)).length ≤ D.length + 1 := by
          have h1 : (D.take k).length ≤ D.length := by rw [List.length_take]; omega
          unfold preR
          split
          · rw [insR_len]; omega
          · omega
        have hS : RmS s b1 (o1 + k * 4) (.slice (some ⟨b1, o1, none⟩) D.length c1) x xf wr.drew := ⟨ct, e2, q.c3⟩
        have q0 := q.c0
        have q1 := q.c1
        have q2 := q.c2
        have q3 := q.c3
        dsimp only at q0 q1 q2 q3 hst hgt
        have HST := Lib.hid hst
        have HGT := Lib.hid hgt
        have HMEM := Lib.hid hmem
        clear hx htk hst hgt q hmem
        generalize anyGt p (D.take k) = g at HST HGT ⊢
        generalize preR p x (D.take k) = ys at hown hpl HST
        by_cases hfe : xf = x.f
        · subst hfe
          have he : mapE D p x = 181 := by
            rw [HE0.out, if_pos]
            exact List.any_eq_true.2 ⟨_, HMEM.out, by simp⟩
          have HE := Lib.hid he
          clear he
          go_wp2_with fail
          have HQ := Lib.hid (show ∀ W, RM w W s (some ⟨b1, o1, none⟩) c1 D x (.slice none 0 0) → RowC W b1 (o1 + k * 4) (xk, ⟨xo, xm, x.f⟩) from fun W h => by
            obtain ⟨b2, o2, e, _, q⟩ := h.row.gett k hlt
            simp only [Option.some.injEq, Addr.mk.injEq, and_true] at e
            obtain ⟨rfl, rfl⟩ := e
            rw [HX.out] at q
            exact q)
          refine wp_onlyN ?_
          refine wp_region_held_drew (S := RmS s b1 (o1 + k * 4) (.slice (some ⟨b1, o1, none⟩) D.length c1) x x.f) (by kernel_rfl) hS (fun hHeld => ?_)
          refine wpAnyH_take (i := 0) (v := ?_) rfl (by kernel_rfl) (by kernel_rfl) (by kernel_rfl) (fun _ _ _ h => h) (Or.inl ⟨by rfl, ?_⟩) (by assumption) ?_
          rotate_left
          · (intro Y hSw; (try dsimp only at hSw); obtain ⟨hS0, hS1, hS2⟩ := hSw; go_simp; try with_reducible rfl)
          try simp only [Act.put, List.getElem_toArray, List.getElem_cons_zero, List.getElem_cons_succ, List.setIfInBounds_toArray, List.set_cons_zero, List.set_cons_succ]
          refine wpAnyH_take (i := 1) (v := ?_) rfl (by kernel_rfl) (by kernel_rfl) (by kernel_rfl) (fun _ _ _ h => h) (Or.inl ⟨by rfl, ?_⟩) (by assumption) ?_
          rotate_left
          · (intro Y hSw; (try dsimp only at hSw); obtain ⟨hS0, hS1, hS2⟩ := hSw; go_simp; try with_reducible rfl)
          try simp only [Act.put, List.getElem_toArray, List.getElem_cons_zero, List.getElem_cons_succ, List.setIfInBounds_toArray, List.set_cons_zero, List.set_cons_succ]
          refine wpAnyH_take (i := 2) (v := ?_) rfl (by kernel_rfl) (by kernel_rfl) (by kernel_rfl) (fun _ _ _ h => h) (Or.inl ⟨by rfl, ?_⟩) (by assumption) ?_
          rotate_left
          · (intro Y hSw; (try dsimp only at hSw); obtain ⟨hS0, hS1, hS2⟩ := hSw; go_simp; try with_reducible rfl)
          try simp only [Act.put, List.getElem_toArray, List.getElem_cons_zero, List.getElem_cons_succ, List.setIfInBounds_toArray, List.set_cons_zero, List.set_cons_succ]
          refine wpAnyH_take (i := 3) (v := ?_) rfl (by kernel_rfl) (by kernel_rfl) (by kernel_rfl) (fun _ _ _ h => h) (Or.inl ⟨by rfl, ?_⟩) (by assumption) ?_
          rotate_left
          · (intro Y hSw; (try dsimp only at hSw); obtain ⟨hS0, hS1, hS2⟩ := hSw; go_simp; try with_reducible rfl)
          try simp only [Act.put, List.getElem_toArray, List.getElem_cons_zero, List.getElem_cons_succ, List.setIfInBounds_toArray, List.set_cons_zero, List.set_cons_succ]
          refine wpAnyH_take (i := 4) (v := ?_) rfl (by kernel_rfl) (by kernel_rfl) (by kernel_rfl) (fun _ _ _ h => h) (Or.inl ⟨by rfl, ?_⟩) (by assumption) ?_
          rotate_left
          · (intro Y hSw; (try dsimp only at hSw); obtain ⟨hS0, hS1, hS2⟩ := hSw; go_simp; try with_reducible rfl)
          try simp only [Act.put, List.getElem_toArray, List.getElem_cons_zero, List.getElem_cons_succ, List.setIfInBounds_toArray, List.set_cons_zero, List.set_cons_succ]
          refine wpAnyH_take (i := 5) (v := ?_) rfl (by kernel_rfl) (by kernel_rfl) (by kernel_rfl) (fun _ _ _ h => h) (Or.inl ⟨by rfl, ?_⟩) (by assumption) ?_
          rotate_left
          · (intro Y hSw; (try dsimp only at hSw); obtain ⟨hS0, hS1, hS2⟩ := hSw; go_simp; try with_reducible rfl)
          try simp only [Act.put, List.getElem_toArray, List.getElem_cons_zero, List.getElem_cons_succ, List.setIfInBounds_toArray, List.set_cons_zero, List.set_cons_succ]
          refine wpAnyH_take (i := 6) (v := ?_) rfl (by kernel_rfl) (by kernel_rfl) (by kernel_rfl) (fun _ _ _ h => h) (Or.inl ⟨by rfl, ?_⟩) (by assumption) ?_
          rotate_left
          · (intro Y hSw; (try dsimp only at hSw); obtain ⟨hS0, hS1, hS2⟩ := hSw; go_simp; try with_reducible rfl)
          try simp only [Act.put, List.getElem_toArray, List.getElem_cons_zero, List.getElem_cons_succ, List.setIfInBounds_toArray, List.set_cons_zero, List.set_cons_succ]
          refine wpAnyH_take (i := 7) (v := ?_) rfl (by kernel_rfl) (by kernel_rfl) (by kernel_rfl) (fun _ _ _ h => h) (Or.inl ⟨by rfl, ?_⟩) (by assumption) ?_
          rotate_left
          · (intro Y hSw; (try dsimp only at hSw); obtain ⟨hS0, hS1, hS2⟩ := hSw; go_simp; try with_reducible rfl)
          try simp only [Act.put, List.getElem_toArray, List.getElem_cons_zero, List.getElem_cons_succ, List.setIfInBounds_toArray, List.set_cons_zero, List.set_cons_succ]
          refine wpAnyH_take (i := 8) (v := ?_) rfl (by kernel_rfl) (by kernel_rfl) (by kernel_rfl) (fun _ _ _ h => h) (Or.inl ⟨by rfl, ?_⟩) (by assumption) ?_
          rotate_left
          · (intro Y hSw; (try dsimp only at hSw); obtain ⟨hS0, hS1, hS2⟩ := hSw; go_simp; try with_reducible rfl)
          try simp only [Act.put, List.getElem_toArray, List.getElem_cons_zero, List.getElem_cons_succ, List.setIfInBounds_toArray, List.set_cons_zero, List.set_cons_succ]
          refine wpAnyH_take (i := 9) (v := ?_) rfl (by kernel_rfl) (by kernel_rfl) (by kernel_rfl) (fun _ _ _ h => h) (Or.inl ⟨by rfl, ?_⟩) (by assumption) ?_
          rotate_left
          · (intro Y hSw; (try dsimp only at hSw); obtain ⟨hS0, hS1, hS2⟩ := hSw; go_simp; try with_reducible rfl)
          try simp only [Act.put, List.getElem_toArray, List.getElem_cons_zero, List.getElem_cons_succ, List.setIfInBounds_toArray, List.set_cons_zero, List.set_cons_succ]
          refine wpAnyH_done (by kernel_rfl) ?_ _
          rw [onlyN_normal]
          replace hM := hM.step (Below.refl _ wr).drew
          replace hown := owns_below hown (Below.refl _ wr).drew (Nat.le_refl _)
          clear hS hHeld ct cr fr e0 e1 e2 q0 q1 q2 q3
          generalize wr.drew = wd at hM hown ⊢
          have ct := hM.t.cell 0 rfl
          have cr := hM.r.cell 0 rfl
          have fr := hM.r.frozen 0
          have q := HQ.out wd hM
          go_wp2_with fail
          exact ret_t2 rfl (s + 1 + 1) rfl (hM.set _).r rfl rfl ⟨_, by rw [HE.out]; rfl, (FIN.out _ (hM.set _) (by rw [HE.out]; decide)).1, (FIN.out _ (hM.set _) (by rw [HE.out]; decide)).2⟩
        · have hfe' : (xf == x.f) = false := by simpa using hfe
          have HNK := Lib.hid (show ∀ j (hj : j < D.length), j < k + 1 → D[j].2.f ≠ x.f from fun j hj hjk => by rcases Nat.lt_or_ge j k with h | h; exact HN.out j hj h; (have : j = k := by omega); subst this; rw [HX.out]; exact hfe)
          clear hfe
          go_wp2_with fail
          have HQ := Lib.hid (show ∀ W, RM w W s (some ⟨b1, o1, none⟩) c1 D x (.slice none 0 0) → RowC W b1 (o1 + k * 4) (xk, ⟨xo, xm, xf⟩) from fun W h => by
            obtain ⟨b2, o2, e, _, q⟩ := h.row.gett k hlt
            simp only [Option.some.injEq, Addr.mk.injEq, and_true] at e
            obtain ⟨rfl, rfl⟩ := e
            rw [HX.out] at q
            exact q)
          refine wp_onlyN ?_
          refine wp_region_held_drew (S := RmS s b1 (o1 + k * 4) (.slice (some ⟨b1, o1, none⟩) D.length c1) x xf) (by kernel_rfl) hS (fun hHeld => ?_)
          refine wpAnyH_take (i := 0) (v := ?_) rfl (by kernel_rfl) (by kernel_rfl) (by kernel_rfl) (fun _ _ _ h => h) (Or.inl ⟨by rfl, ?_⟩) (by assumption) ?_
          rotate_left
          · (intro Y hSw; (try dsimp only at hSw); obtain ⟨hS0, hS1, hS2⟩ := hSw; go_simp; try with_reducible rfl)
          try simp only [Act.put, List.getElem_toArray, List.getElem_cons_zero, List.getElem_cons_succ, List.setIfInBounds_toArray, List.set_cons_zero, List.set_cons_succ]
          refine wpAnyH_take (i := 1) (v := ?_) rfl (by kernel_rfl) (by kernel_rfl) (by kernel_rfl) (fun _ _ _ h => h) (Or.inl ⟨by rfl, ?_⟩) (by assumption) ?_
          rotate_left
          · (intro Y hSw; (try dsimp only at hSw); obtain ⟨hS0, hS1, hS2⟩ := hSw; go_simp; try with_reducible rfl)
          try simp only [Act.put, List.getElem_toArray, List.getElem_cons_zero, List.getElem_cons_succ, List.setIfInBounds_toArray, List.set_cons_zero, List.set_cons_succ]
          refine wpAnyH_take (i := 2) (v := ?_) rfl (by kernel_rfl) (by kernel_rfl) (by kernel_rfl) (fun _ _ _ h => h) (Or.inl ⟨by rfl, ?_⟩) (by assumption) ?_
          rotate_left
          · (intro Y hSw; (try dsimp only at hSw); obtain ⟨hS0, hS1, hS2⟩ := hSw; go_simp; try with_reducible rfl)
          try simp only [Act.put, List.getElem_toArray, List.getElem_cons_zero, List.getElem_cons_succ, List.setIfInBounds_toArray, List.set_cons_zero, List.set_cons_succ]
          refine wpAnyH_take (i := 3) (v := ?_) rfl (by kernel_rfl) (by kernel_rfl) (by kernel_rfl) (fun _ _ _ h => h) (Or.inl ⟨by rfl, ?_⟩) (by assumption) ?_
          rotate_left
          · (intro Y hSw; (try dsimp only at hSw); obtain ⟨hS0, hS1, hS2⟩ := hSw; go_simp; try with_reducible rfl)
          try simp only [Act.put, List.getElem_toArray, List.getElem_cons_zero, List.getElem_cons_succ, List.setIfInBounds_toArray, List.set_cons_zero, List.set_cons_succ]
          refine wpAnyH_take (i := 4) (v := ?_) rfl (by kernel_rfl) (by kernel_rfl) (by kernel_rfl) (fun _ _ _ h => h) (Or.inl ⟨by rfl, ?_⟩) (by assumption) ?_
          rotate_left
          · (intro Y hSw; (try dsimp only at hSw); obtain ⟨hS0, hS1, hS2⟩ := hSw; go_simp; try with_reducible rfl)
          try simp only [Act.put, List.getElem_toArray, List.getElem_cons_zero, List.getElem_cons_succ, List.setIfInBounds_toArray, List.set_cons_zero, List.set_cons_succ]
          refine wpAnyH_take (i := 5) (v := ?_) rfl (by kernel_rfl) (by kernel_rfl) (by kernel_rfl) (fun _ _ _ h => h) (Or.inl ⟨by rfl, ?_⟩) (by assumption) ?_
          rotate_left
          · (intro Y hSw; (try dsimp only at hSw); obtain ⟨hS0, hS1, hS2⟩ := hSw; go_simp; try with_reducible rfl)
          try simp only [Act.put, List.getElem_toArray, List.getElem_cons_zero, List.getElem_cons_succ, List.setIfInBounds_toArray, List.set_cons_zero, List.set_cons_succ]
          refine wpAnyH_take (i := 6) (v := ?_) rfl (by kernel_rfl) (by kernel_rfl) (by kernel_rfl) (fun _ _ _ h => h) (Or.inl ⟨by rfl, ?_⟩) (by assumption) ?_
          rotate_left
          · (intro Y hSw; (try dsimp only at hSw); obtain ⟨hS0, hS1, hS2⟩ := hSw; go_simp; try with_reducible rfl)
          try simp only [Act.put, List.getElem_toArray, List.getElem_cons_zero, List.getElem_cons_succ, List.setIfInBounds_toArray, List.set_cons_zero, List.set_cons_succ]
          refine wpAnyH_take (i := 7) (v := ?_) rfl (by kernel_rfl) (by kernel_rfl) (by kernel_rfl) (fun _ _ _ h => h) (Or.inl ⟨by rfl, ?_⟩) (by assumption) ?_
          rotate_left
          · (intro Y hSw; (try dsimp only at hSw); obtain ⟨hS0, hS1, hS2⟩ := hSw; go_simp; try with_reducible rfl)
          try simp only [Act.put, List.getElem_toArray, List.getElem_cons_zero, List.getElem_cons_succ, List.setIfInBounds_toArray, List.set_cons_zero, List.set_cons_succ]
          refine wpAnyH_take (i := 8) (v := ?_) rfl (by kernel_rfl) (by kernel_rfl) (by kernel_rfl) (fun _ _ _ h => h) (Or.inl ⟨by rfl, ?_⟩) (by assumption) ?_
          rotate_left
          · (intro Y hSw; (try dsimp only at hSw); obtain ⟨hS0, hS1, hS2⟩ := hSw; go_simp; try with_reducible rfl)
          try simp only [Act.put, List.getElem_toArray, List.getElem_cons_zero, List.getElem_cons_succ, List.setIfInBounds_toArray, List.set_cons_zero, List.set_cons_succ]
          refine wpAnyH_take (i := 9) (v := ?_) rfl (by kernel_rfl) (by kernel_rfl) (by kernel_rfl) (fun _ _ _ h => h) (Or.inl ⟨by rfl, ?_⟩) (by assumption) ?_
          rotate_left
          · (intro Y hSw; (try dsimp only at hSw); obtain ⟨hS0, hS1, hS2⟩ := hSw; go_simp; try with_reducible rfl)
          try simp only [Act.put, List.getElem_toArray, List.getElem_cons_zero, List.getElem_cons_succ, List.setIfInBounds_toArray, List.set_cons_zero, List.set_cons_succ]
          refine wpAnyH_done (by kernel_rfl) ?_ _
          rw [onlyN_normal]
          replace hM := hM.step (Below.refl _ wr).drew
          replace hown := owns_below hown (Below.refl _ wr).drew (Nat.le_refl _)
          clear hS hHeld ct cr fr e0 e1 e2 q0 q1 q2 q3
          generalize wr.drew = wd at hM hown ⊢
          have ct := hM.t.cell 0 rfl
          have cr := hM.r.cell 0 rfl
          have fr := hM.r.frozen 0
          have q := HQ.out wd hM
          have e0 : wd.cell? ⟨s + 1, 0, none⟩ = some (.int .i64 x.o) := hM.e.cell 0 rfl
          have e1 : wd.cell? ⟨s + 1, 1, none⟩ = some (.int .i64 x.m) := hM.e.cell 1 rfl
          have e2 : wd.cell? ⟨s + 1, 2, none⟩ = some (.int .i64 x.f) := hM.e.cell 2 rfl
          have Q0 := q.c0
          have Q1 := q.c1
          have Q2 := q.c2
          have Q3 := q.c3
          dsimp only at Q0 Q1 Q2 Q3
          cases g
          · by_cases hpx : p < xk
            · have hn2 : anyGt p (D.take (k + 1)) = true := by rw [HGT.out]; simp [hpx]
              have hst2 : preR p x (D.take (k + 1)) = (ys ++ [(p, x)]) ++ [(xk, ⟨xo, xm, xf⟩)] := by rw [HST.out, if_pos ⟨rfl, hpx⟩]
              have HN2 := Lib.hid hn2
              have HS2 := Lib.hid hst2
              clear hn2 hst2
              have hzY := hM.sz
              have ha1 := owns_below hown ((Below.refl _ wd).alloc (Nat.le_refl _) (.cells #[.int .i64 p, .int .i64 x.o, .int .i64 x.m, .int .i64 x.f] 55)) (Nat.le_refl _)
              go_wp2_with (at_builtin; refine wpList_append_row rfl _ _ 26 rfl (s + 3) Try.underlying26 infoRow ys.length (rowT ys) rfl ha1 (wd.heap.size + 1) 1 [.int .i64 p, .int .i64 x.o, .int .i64 x.m, .int .i64 x.f] rfl (RowAt.lit wd #[.int .i64 p, .int .i64 x.o, .int .i64 x.m, .int .i64 x.f] 55 1 _ (by omega)) rfl ?c4 ?c5 ?c6 ?c7 ?_)
              case c4 => first | exact ⟨rfl, rfl, rfl, rfl⟩ | (intro u hu; simp at hu; rcases hu with rfl | rfl | rfl | rfl <;> rfl)
              case c5 => unfold maxLen; omega
              case c6 => omega
              case c7 => first | omega | (simp; omega)
              intro v2 w2 ho2 hg2
              replace hM := hM.past (((Below.refl (s + 3) wd).alloc hzY (.cells #[.int .i64 p, .int .i64 x.o, .int .i64 x.m, .int .i64 x.f] 55)).appended ha1 hg2 (Nat.le_refl _) (by simp; omega))
              rw [← rowT_snoc ys (p, ⟨x.o, x.m, x.f⟩)] at ho2
              rw [show ys.length + 1 = (ys ++ [(p, (⟨x.o, x.m, x.f⟩ : Ent))]).length by simp] at ho2
              clear ha1 hg2 hown hzY
              rw [show (ys ++ [(p, (⟨x.o, x.m, x.f⟩ : Ent))]) = ys ++ [(p, x)] from rfl] at ho2
              have hown := ho2
              have hpl2 : (ys ++ [(p, x)]).length ≤ D.length + 2 := by simp; omega
              generalize ys ++ [(p, x)] = ys at hown HS2 hpl2
              obtain ⟨wp, rfl⟩ : ∃ wp : World, wp = w2 := ⟨_, rfl⟩
              have q := HQ.out wp hM
              clear ct cr fr ho2 e0 e1 e2 Q0 Q1 Q2 Q3
              have ct := hM.t.cell 0 rfl
              have Q0 := q.c0
              have Q1 := q.c1
              have Q2 := q.c2
              have Q3 := q.c3
              dsimp only at Q0 Q1 Q2 Q3
              have hzY := hM.sz
              have ha1 := owns_below hown ((Below.refl _ wp).alloc (Nat.le_refl _) (.cells #[.int .i64 xk, .int .i64 xo, .int .i64 xm, .int .i64 xf] 55)) (Nat.le_refl _)
              go_wp2_with (at_builtin; refine wpList_append_row rfl _ _ 26 rfl (s + 3) Try.underlying26 infoRow ys.length (rowT ys) rfl ha1 (wp.heap.size + 1) 1 [.int .i64 xk, .int .i64 xo, .int .i64 xm, .int .i64 xf] rfl (RowAt.lit wp #[.int .i64 xk, .int .i64 xo, .int .i64 xm, .int .i64 xf] 55 1 _ (by omega)) rfl ?c4 ?c5 ?c6 ?c7 ?_)
              case c4 => first | exact ⟨rfl, rfl, rfl, rfl⟩ | (intro u hu; simp at hu; rcases hu with rfl | rfl | rfl | rfl <;> rfl)
              case c5 => unfold maxLen; omega
              case c6 => omega
              case c7 => first | omega | (simp; omega)
              intro v2 w2 ho2 hg2
              replace hM := hM.past (((Below.refl (s + 3) wp).alloc hzY (.cells #[.int .i64 xk, .int .i64 xo, .int .i64 xm, .int .i64 xf] 55)).appended ha1 hg2 (Nat.le_refl _) (by simp; omega))
              rw [← rowT_snoc ys (xk, ⟨xo, xm, xf⟩)] at ho2
              rw [show ys.length + 1 = (ys ++ [(xk, (⟨xo, xm, xf⟩ : Ent))]).length by simp] at ho2
              clear ha1 hg2 hown hzY
              rw [← HS2.out] at ho2
              go_wp2_with fail
              exact ⟨⟨k + 1, by omega, by go_num, by rw [HN2.out], ho2, HNK.out, hM⟩, by simp [intOf]; omega⟩
            · have hn2 : anyGt p (D.take (k + 1)) = false := by rw [HGT.out]; simp [hpx]
              have hst2 : preR p x (D.take (k + 1)) = ys ++ [(xk, ⟨xo, xm, xf⟩)] := by rw [HST.out, if_neg (fun h => hpx h.2)]
              have HN2 := Lib.hid hn2
              have HS2 := Lib.hid hst2
              clear hn2 hst2
              have hzY := hM.sz
              have ha1 := owns_below hown ((Below.refl _ wd).alloc (Nat.le_refl _) (.cells #[.int .i64 xk, .int .i64 xo, .int .i64 xm, .int .i64 xf] 55)) (Nat.le_refl _)
              go_wp2_with (at_builtin; refine wpList_append_row rfl _ _ 26 rfl (s + 3) Try.underlying26 infoRow ys.length (rowT ys) rfl ha1 (wd.heap.size + 1) 1 [.int .i64 xk, .int .i64 xo, .int .i64 xm, .int .i64 xf] rfl (RowAt.lit wd #[.int .i64 xk, .int .i64 xo, .int .i64 xm, .int .i64 xf] 55 1 _ (by omega)) rfl ?c4 ?c5 ?c6 ?c7 ?_)
              case c4 => first | exact ⟨rfl, rfl, rfl, rfl⟩ | (intro u hu; simp at hu; rcases hu with rfl | rfl | rfl | rfl <;> rfl)
              case c5 => unfold maxLen; omega
              case c6 => omega
              case c7 => first | omega | (simp; omega)
              intro v2 w2 ho2 hg2
              replace hM := hM.past (((Below.refl (s + 3) wd).alloc hzY (.cells #[.int .i64 xk, .int .i64 xo, .int .i64 xm, .int .i64 xf] 55)).appended ha1 hg2 (Nat.le_refl _) (by simp; omega))
              rw [← rowT_snoc ys (xk, ⟨xo, xm, xf⟩)] at ho2
              rw [show ys.length + 1 = (ys ++ [(xk, (⟨xo, xm, xf⟩ : Ent))]).length by simp] at ho2
              clear ha1 hg2 hown hzY
              rw [← HS2.out] at ho2
              go_wp2_with fail
              exact ⟨⟨k + 1, by omega, by go_num, by rw [HN2.out], ho2, HNK.out, hM⟩, by simp [intOf]; omega⟩
          · have hn2 : anyGt p (D.take (k + 1)) = true := by rw [HGT.out]; rfl
            have hst2 : preR p x (D.take (k + 1)) = ys ++ [(xk, ⟨xo, xm, xf⟩)] := by rw [HST.out, if_neg (fun h => by cases h.1)]
            have HN2 := Lib.hid hn2
            have HS2 := Lib.hid hst2
            clear hn2 hst2
            have hzY := hM.sz
            have ha1 := owns_below hown ((Below.refl _ wd).alloc (Nat.le_refl _) (.cells #[.int .i64 xk, .int .i64 xo, .int .i64 xm, .int .i64 xf] 55)) (Nat.le_refl _)
            go_wp2_with (at_builtin; refine wpList_append_row rfl _ _ 26 rfl (s + 3) Try.underlying26 infoRow ys.length (rowT ys) rfl ha1 (wd.heap.size + 1) 1 [.int .i64 xk, .int .i64 xo, .int .i64 xm, .int .i64 xf] rfl (RowAt.lit wd #[.int .i64 xk, .int .i64 xo, .int .i64 xm, .int .i64 xf] 55 1 _ (by omega)) rfl ?c4 ?c5 ?c6 ?c7 ?_)
            case c4 => first | exact ⟨rfl, rfl, rfl, rfl⟩ | (intro u hu; simp at hu; rcases hu with rfl | rfl | rfl | rfl <;> rfl)
            case c5 => unfold maxLen; omega
            case c6 => omega
            case c7 => first | omega | (simp; omega)
            intro v2 w2 ho2 hg2
            replace hM := hM.past (((Below.refl (s + 3) wd).alloc hzY (.cells #[.int .i64 xk, .int .i64 xo, .int .i64 xm, .int .i64 xf] 55)).appended ha1 hg2 (Nat.le_refl _) (by simp; omega))
            rw [← rowT_snoc ys (xk, ⟨xo, xm, xf⟩)] at ho2
            rw [show ys.length + 1 = (ys ++ [(xk, (⟨xo, xm, xf⟩ : Ent))]).length by simp] at ho2
            clear ha1 hg2 hown hzY
            rw [← HS2.out] at ho2
            go_wp2_with fail
            exact ⟨⟨k + 1, by omega, by go_num, by rw [HN2.out], ho2, HNK.out, hM⟩, by simp [intOf]; omega⟩
      · obtain rfl : k = D.length := by omega
        have hno : frmR D x.f = false := by
          unfold frmR
          rw [List.any_eq_false]
          intro y hy
          obtain ⟨j, hj, rfl⟩ := List.getElem_of_mem hy
          simpa using HN.out j hj hj
        have he : mapE D p x = 0 := by rw [HE0.out, hno]; rfl
        have HE := Lib.hid he
        have hd : mapD D p x = insR p x D := by unfold mapD; rw [if_pos he]
        have HD := Lib.hid hd
        have hall := preR_all p x D
        rw [List.take_length] at hown ⊢
        have HALL := Lib.hid hall
        have hpl : (preR p x D).length ≤ D.length + 1 := by
          unfold preR
          split
          · rw [insR_len]; omega
          · omega
        clear hno he hd hall
        obtain ⟨ys, hys⟩ : ∃ ys, preR p x D = ys := ⟨_, rfl⟩
        rw [hys] at hown hpl HALL
        clear hys
        obtain ⟨g, hg⟩ : ∃ g, anyGt p D = g := ⟨_, rfl⟩
        rw [hg] at HALL ⊢
        clear hg
        cases g
        · have hf : insR p x D = ys ++ [(p, x)] := by rw [← HALL.out]; rfl
          have HF := Lib.hid hf
          clear hf
          have hzY := hM.sz
          have ha1 := owns_below hown ((Below.refl _ wr).alloc (Nat.le_refl _) (.cells #[.int .i64 p, .int .i64 x.o, .int .i64 x.m, .int .i64 x.f] 55)) (Nat.le_refl _)
          go_wp2_with (at_builtin; refine wpList_append_row rfl _ _ 26 rfl (s + 3) Try.underlying26 infoRow ys.length (rowT ys) rfl ha1 (wr.heap.size + 1) 1 [.int .i64 p, .int .i64 x.o, .int .i64 x.m, .int .i64 x.f] rfl (RowAt.lit wr #[.int .i64 p, .int .i64 x.o, .int .i64 x.m, .int .i64 x.f] 55 1 _ (by omega)) rfl ?c4 ?c5 ?c6 ?c7 ?_)
          case c4 => first | exact ⟨rfl, rfl, rfl, rfl⟩ | (intro u hu; simp at hu; rcases hu with rfl | rfl | rfl | rfl <;> rfl)
          case c5 => unfold maxLen; omega
          case c6 => omega
          case c7 => first | omega | (simp; omega)
          intro v2 w2 ho2 hg2
          replace hM := hM.past (((Below.refl (s + 3) wr).alloc hzY (.cells #[.int .i64 p, .int .i64 x.o, .int .i64 x.m, .int .i64 x.f] 55)).appended ha1 hg2 (Nat.le_refl _) (by simp; omega))
          rw [← rowT_snoc ys (p, ⟨x.o, x.m, x.f⟩)] at ho2
          rw [show ys.length + 1 = (ys ++ [(p, (⟨x.o, x.m, x.f⟩ : Ent))]).length by simp] at ho2
          clear ha1 hg2 hown hzY
          rw [show (ys ++ [(p, (⟨x.o, x.m, x.f⟩ : Ent))]) = mapD D p x from by rw [HD.out, HF.out]] at ho2
          clear ct cr fr e0 e1 e2
          have cr := hM.r.cell 0 rfl
          have fr := hM.r.frozen 0
          obtain ⟨va, vc, rfl, _⟩ := (RowAt.of_owns ho2 (Nat.le_refl _)).len
          have HO := Lib.hid ho2
          clear ho2
          go_wp2_with fail
          exact ret_t2 rfl (s + 1 + 1) rfl (hM.set _).r rfl rfl ⟨_, by rw [HE.out]; rfl, (RowAt.of_owns (ownsRow_setCell_below HO.out (a := ⟨s + 1 + 1, 0, none⟩) (by dsimp only; omega) _) (Nat.le_refl _)), by first | exact (hM.set _).bel | (rw [hs]; exact (hM.set _).bel)⟩
        · have hf : insR p x D = ys := by rw [← HALL.out]; rfl
          rw [show ys = mapD D p x from by rw [HD.out, hf]] at hown
          obtain ⟨va, vc, rfl, _⟩ := (RowAt.of_owns hown (Nat.le_refl _)).len
          have HO := Lib.hid hown
          clear hown hf
          go_wp2_with fail
          exact ret_t2 rfl (s + 1 + 1) rfl (hM.set _).r rfl rfl ⟨_, by rw [HE.out]; rfl, (RowAt.of_owns (ownsRow_setCell_below HO.out (a := ⟨s + 1 + 1, 0, none⟩) (by dsimp only; omega) _) (Nat.le_refl _)), by first | exact (hM.set _).bel | (rw [hs]; exact (hM.set _).bel)⟩
  · rw [hb, if_pos rfl] at HE0
    have HE : Hid (mapE D p x = 4) := HE0
    by_cases hneg : p < 0
    · clear hb
      go_wp2_with fail
      exact ret_t2 rfl (s + 1 + 1) rfl (hM.set _).r rfl rfl ⟨_, by rw [HE.out]; rfl, (FIN.out _ (hM.set _) (by rw [HE.out]; decide)).1, (FIN.out _ (hM.set _) (by rw [HE.out]; decide)).2⟩
    · have hbig : 65536 ≤ p := by
        unfold badP at hb
        have := of_decide_eq_true hb
        omega
      clear hb
      go_wp2_with fail
      exact ret_t2 rfl (s + 1 + 1) rfl (hM.set _).r rfl rfl ⟨_, by rw [HE.out]; rfl, (FIN.out _ (hM.set _) (by rw [HE.out]; decide)).1, (FIN.out _ (hM.set _) (by rw [HE.out]; decide)).2⟩
end Go.Proofs.Ytchepkihlnpfeaa
