/-
  Package pinfoldref08: Unmap, Protect. Conditions: rows in order, few.
-/
import Derived.Test.YtchepkihlnpfeaaPgL
import Derived.Test.YtchepkihlnpfeaaSub2
namespace Go.Proofs.Ytchepkihlnpfeaa
open Go.RowKit
attribute [local go_sem] Oper.semAt_some
set_option maxHeartbeats 4000000
set_option maxRecDepth 8000

theorem ret_t3 {fn : Func} {R : Ending → World → Prop} {a : Act} {w : World} {p q u : Tmp} (h : fn.results = #[.cell p 28, .cell q 31, .tmp u]) (g g2 : Nat) {cs cs2 : Array Value} {t t2 : TypeId} (hp : a.tmps.getD p undef = .pointer (some ⟨g, 0, none⟩)) (hq : a.tmps.getD q undef = .pointer (some ⟨g2, 0, none⟩))
    (hB : Blk w g cs t) (hs : cs.size = 1) (hB2 : Blk w g2 cs2 t2) (hs2 : cs2.size = 3) (hd : a.defers = []) (hR : R (.returned (.tuple #[.agg cs, .agg cs2, a.tmps.getD u undef])) w) : bodyPost Try.prog fn R .ret a w := by
  refine bodyPost_ret (v := .tuple #[.agg cs, .agg cs2, a.tmps.getD u undef]) ?_ hd hR
  have hp' : a.tmps[p]?.getD undef = .pointer (some ⟨g, 0, none⟩) := by simpa using hp
  have hq' : a.tmps[q]?.getD undef = .pointer (some ⟨g2, 0, none⟩) := by simpa using hq
  simp [results, h, hp', hq', asAddr, run_loadT hB hs, run_loadE hB2 hs2]
/-- What Unmap has laid. -/
structure RU (w0 wr : World) (s : Nat) (a1 : Option Addr) (c1 : Nat) (D : Tb) (r : Value) (x0 x1 x2 : Value) : Prop where
  t : Blk wr s #[.slice a1 D.length c1] 28
  r : Blk wr (s + 1) #[r] 28
  e : Blk wr (s + 1 + 1) #[x0, x1, x2] 31
  row : RowAt s wr (.slice a1 D.length c1) D.length (rowT D)
  bel : Below s w0 wr
  sz : s + 3 ≤ wr.heap.size
section
variable {w0 wr w' : World} {s : Nat} {a1 : Option Addr} {c1 : Nat} {D : Tb} {r x0 x1 x2 : Value}
theorem RU.step (h : RU w0 wr s a1 c1 D r x0 x1 x2) (k : Below wr.heap.size wr w') : RU w0 w' s a1 c1 D r x0 x1 x2 :=
  ⟨h.t.below k h.t.lt, h.r.below k h.r.lt, h.e.below k h.e.lt, h.row.below k (by have := h.sz; omega), h.bel.trans (k.mono (by have := h.sz; omega)), Nat.le_trans h.sz k.size⟩
theorem RU.past (h : RU w0 wr s a1 c1 D r x0 x1 x2) (k : Below (s + 3) wr w') : RU w0 w' s a1 c1 D r x0 x1 x2 :=
  ⟨h.t.below k (by omega), h.r.below k (by omega), h.e.below k (by omega), h.row.below k (by omega), h.bel.trans (k.mono (by omega)), Nat.le_trans h.sz k.size⟩
theorem RU.setR (h : RU w0 wr s a1 c1 D r x0 x1 x2) (v : Value) : RU w0 (wr.setCell ⟨s + 1, 0, none⟩ v) s a1 c1 D v x0 x1 x2 :=
  ⟨h.t.setOther _ _ (by dsimp only; omega), h.r.set 0 v, h.e.setOther _ _ (by dsimp only; omega), h.row.below ((Below.refl (s + 1) wr).setCell (p := ⟨s + 1, 0, none⟩) (Nat.le_refl _) v) (by omega), h.bel.setCell (p := ⟨s + 1, 0, none⟩) (by dsimp only; omega) v, by simpa using h.sz⟩
theorem RU.setE (h : RU w0 wr s a1 c1 D r x0 x1 x2) (v0 v1 v2 : Value) : RU w0 (((wr.setCell ⟨s + 1 + 1, 0, none⟩ v0).setCell ⟨s + 1 + 1, 1, none⟩ v1).setCell ⟨s + 1 + 1, 2, none⟩ v2) s a1 c1 D r v0 v1 v2 := by
  have kb : Below (s + 1 + 1) wr (((wr.setCell ⟨s + 1 + 1, 0, none⟩ v0).setCell ⟨s + 1 + 1, 1, none⟩ v1).setCell ⟨s + 1 + 1, 2, none⟩ v2) :=
    (((Below.refl (s + 1 + 1) wr).setCell (p := ⟨s + 1 + 1, 0, none⟩) (Nat.le_refl _) v0).setCell (p := ⟨s + 1 + 1, 1, none⟩) (Nat.le_refl _) v1).setCell (p := ⟨s + 1 + 1, 2, none⟩) (Nat.le_refl _) v2
  exact ⟨h.t.below kb (by omega), h.r.below kb (by omega), h.e.set3 v0 v1 v2, h.row.below kb (by omega), h.bel.trans (kb.mono (by omega)), Nat.le_trans h.sz kb.size⟩
end
structure RuS (s b1 o1 i : Nat) (v : Value) (x : Int × Ent) (Y : World) : Prop where
  t : Y.cell? ⟨s, 0, none⟩ = some v
  q : RowC Y b1 (o1 + i * 4) x
theorem row_tail {B n cap b1 o1 s : Nat} {W : World} {xs : List Value} (h : RowAt B W (.slice (some ⟨b1, o1, none⟩) n cap) n xs) (hx : xs.length = n * s) (k : Nat) (hk : k ≤ n) :
    RowAt B W (.slice (if cap = k then some ⟨b1, o1, none⟩ else some ⟨b1, o1 + k * s, none⟩) (n - k) (cap - k)) (n - k) (xs.drop (k * s)) := by
  obtain ⟨a, c, e, ⟨h1, _⟩, h3⟩ := h
  simp only [Value.slice.injEq, true_and] at e
  obtain ⟨rfl, rfl⟩ := e
  refine ⟨_, cap - k, rfl, ⟨by omega, fun ha => by split at ha <;> cases ha⟩, ?_⟩
  by_cases hz : xs.drop (k * s) = []
  · exact .inl hz
  · have hlt : k * s < xs.length := by
      rcases Nat.lt_or_ge (k * s) xs.length with h | h
      · exact h
      · exact absurd (List.drop_eq_nil_of_le h) hz
    have hkn : k ≠ cap := by
      intro e9
      have : k = n := by omega
      rw [this, ← hx] at hlt
      omega
    rcases h3 with h3 | ⟨b, off, e, hb, hc⟩
    · rw [h3] at hlt; simp at hlt
    · simp only [Option.some.injEq, Addr.mk.injEq, and_true] at e
      obtain ⟨rfl, rfl⟩ := e
      refine .inr ⟨b1, o1 + k * s, by rw [if_neg (fun e => hkn e.symm)], hb, fun i hi => ?_⟩
      rw [List.length_drop] at hi
      rw [Nat.add_assoc, hc _ (by omega), List.getElem?_drop]
theorem rowT_take : ∀ (D : Tb) (i : Nat), (rowT D).take (i * 4) = rowT (D.take i)
  | [], i => by simp [rowT]
  | x :: D, 0 => by simp [rowT]
  | x :: D, i + 1 => by
    rw [List.take_succ_cons, rowT_cons, rowT_cons, ← rowT_take D i, show (i + 1) * 4 = i * 4 + 4 by omega]
    rfl
theorem rowT_drop : ∀ (D : Tb) (i : Nat), (rowT D).drop (i * 4) = rowT (D.drop i)
  | [], i => by simp [rowT]
  | x :: D, 0 => by simp [rowT]
  | x :: D, i + 1 => by
    rw [List.drop_succ_cons, rowT_cons, ← rowT_drop D i, show (i + 1) * 4 = i * 4 + 4 by omega]
    rfl
theorem rUnmap_ok (v : Value) (D : Tb) (B : Nat) (p : Int) (w : World) (hB : B ≤ w.heap.size) (hl : D.length < 100000) (hg : SrtR D) (hv : RowAt B w v D.length (rowT D)) :
    Calls Try.prog 41 #[.agg #[v], .int .i64 p] w fun e w' => ∃ v', e = .returned (.tuple #[.agg #[v'], encE (unmX D p), .int .i64 (unmE D p)]) ∧ RowAt w'.heap.size w' v' (unmD D p).length (rowT (unmD D p)) ∧ Below w.heap.size w w' := by
  obtain ⟨a1, c1, rfl, hc1⟩ := hv.len
  obtain ⟨w0, hw0⟩ : ∃ w0, ((w.alloc (.cells #[.slice a1 D.length c1] 28)).alloc (.cells #[.slice none 0 0] 28)).alloc (.cells #[.int .i64 0, .int .i64 0, .int .i64 0] 31) = w0 := ⟨_, rfl⟩
  have k0 : Below w.heap.size w w0 := by rw [← hw0]; exact (((Below.refl _ w).alloc (Nat.le_refl _) _).alloc (by simp) _).alloc (by simp; omega) _
  have hM : RU w w0 w.heap.size a1 c1 D (.slice none 0 0) (.int .i64 0) (.int .i64 0) (.int .i64 0) := by
    refine ⟨?_, ?_, ?_, (hv.below k0 hB).mono hB, k0, ?_⟩
    · rw [← hw0]; exact ((Blk.new w _ _).alloc _).alloc _
    · rw [← hw0]; exact (Blk.newAt _ _ _ (by simp)).alloc _
    · rw [← hw0]; exact Blk.newAt _ _ _ (by simp)
    · rw [← hw0]; simp
  obtain ⟨s, hs⟩ : ∃ s, w.heap.size = s := ⟨_, rfl⟩
  rw [hs] at hM
  clear k0 hv
  have fin : ∀ W, RU w W s a1 c1 D (.slice a1 D.length c1) (.int .i64 0) (.int .i64 0) (.int .i64 0) → unmE D p ≠ 0 → RowAt W.heap.size W (.slice a1 D.length c1) (unmD D p).length (rowT (unmD D p)) ∧ Below s w W := by
    intro W h he
    refine ⟨?_, h.bel⟩
    rw [show unmD D p = D by unfold unmD; rw [if_neg he]]
    exact h.row.mono (by have := h.sz; omega)
  have FIN := Lib.hid fin
  have hx0 : unmE D p ≠ 0 → unmX D p = ⟨0, 0, 0⟩ := fun h => by unfold unmX; rw [if_neg h]
  clear fin
  cases hb : badP p
  · have he0 : unmE D p = if hasR D p = false then 5 else 0 := by unfold unmE; rw [hb]; rfl
    have hpp : 0 ≤ p ∧ p < 65536 := by
      unfold badP at hb
      have := of_decide_eq_false hb
      omega
    obtain ⟨p0, p1⟩ := hpp
    have HE0 := Lib.hid he0
    have HX0 := Lib.hid hx0
    clear hb he0 hx0
    have ct := hM.t.cell 0 rfl
    go_enter Try.func41, Try.ntmps41
    go_wp2_with fail
    clear hw0 ct
    refine (At_ok (.slice a1 D.length c1) D s p w0 (by have := hM.sz; omega) (by omega) hM.row).mono ?_; rintro e w2 ⟨rfl, k2⟩
    replace hM := hM.step k2
    clear k2
    cases hh : hasR D p
    · have he : unmE D p = 5 := by rw [HE0.out, hh]; rfl
      have hx := HX0.out (by rw [he]; decide)
      have hat : atI D p = -1 := by unfold atI; rw [if_neg (by rw [hh]; decide)]
      have HE := Lib.hid he
      have HX := Lib.hid hx
      rw [hat]
      clear hat he hx hh
      have ct := hM.t.cell 0 rfl
      have cr := hM.r.cell 0 rfl
      have fr := hM.r.frozen 0
      have y0 := hM.e.cell 0 rfl
      have y1 := hM.e.cell 1 rfl
      have y2 := hM.e.cell 2 rfl
      have g0 := hM.e.frozen 0
      have g1 := hM.e.frozen 1
      have g2 := hM.e.frozen 2
      go_wp2_with fail
      exact ret_t3 rfl (s + 1) (s + 1 + 1) rfl rfl ((hM.setR _).setE _ _ _).r rfl ((hM.setR _).setE _ _ _).e rfl rfl ⟨_, by rw [HE.out, HX.out]; rfl, (FIN.out _ ((hM.setR _).setE _ _ _) (by rw [HE.out]; decide)).1, by first | exact (FIN.out _ ((hM.setR _).setE _ _ _) (by rw [HE.out]; decide)).2 | (rw [hs]; exact (FIN.out _ ((hM.setR _).setE _ _ _) (by rw [HE.out]; decide)).2)⟩
    · have he : unmE D p = 0 := by rw [HE0.out, hh]; rfl
      obtain ⟨i, hi, hik, hin⟩ := at_of_has hh
      have hat := atI_hit hi hik hin
      have hx : unmX D p = D[i].2 := by
        unfold unmX getE
        rw [if_pos he, ← hik, getR_some hg.nodup (List.getElem_mem hi)]; rfl
      have hd : unmD D p = D.take i ++ D.drop (i + 1) := by
        unfold unmD
        rw [if_pos he, ← hik]
        exact delR_at hg.nodup hi
      have HE := Lib.hid he
      have HX := Lib.hid hx
      have HD := Lib.hid hd
      rw [hat]
      clear hat he hx hh hin hd hik
      obtain ⟨b1, o1, rfl, _, q⟩ := hM.row.gett i hi
      obtain ⟨⟨xk, xo, xm, xf⟩, hy⟩ : ∃ y, D[i] = y := ⟨_, rfl⟩
      rw [hy] at q HX
      clear hy
      have ct := hM.t.cell 0 rfl
      have i0 : (0 : Int) ≤ i := by omega
      have i1 : (i : Int) < D.length := by omega
      have i2 : (i : Int) + 1 ≤ D.length := by omega
      have i3 : (i : Int) ≤ c1 := by omega
      have i5 : (0 : Int) ≤ (i : Int) + 1 := by omega
      have hwr : IntKind.i64.wrap ((i : Int) + 1) = ((i + 1 : Nat) : Int) := by rw [IntWalk.i64_in _ (by omega)]; omega
      have i4 : ((i + 1 : Nat) : Int) ≤ D.length := by omega
      obtain ⟨tl, htl⟩ : ∃ tl : Option Addr, (if c1 = i + 1 then some (⟨b1, o1, none⟩ : Addr) else some ⟨b1, o1 + (i + 1) * 4, none⟩) = tl := ⟨_, rfl⟩
      have hrt := row_tail hM.row (rowT_len D) (i + 1) (by omega)
      rw [htl] at hrt
      have hrh := (slice_head (P := Try.prog) (t := 26) (s := 4) Try.underlying26 (fun w => by kernel_rfl) hM.row i (by omega)).2
      rw [show (rowT D).drop ((i + 1) * 4) = rowT (D.drop (i + 1)) from rowT_drop D (i + 1)] at hrt
      rw [show (rowT D).take (i * 4) = rowT (D.take i) from rowT_take D i] at hrh
      have HRT := Lib.hid hrt
      have HRH := Lib.hid hrh
      clear hrt hrh
      go_wp2_with fail
      refine wp_onlyN ?_
      refine wp_region_held_drew (S := RuS s b1 o1 i (.slice (some ⟨b1, o1, none⟩) D.length c1) (xk, ⟨xo, xm, xf⟩)) (by kernel_rfl) ⟨ct, ⟨q.c0, q.c1, q.c2, q.c3⟩⟩ (fun hHeld => ?_)
      refine wpAnyH_take (i := 1) (v := ?_) rfl (by kernel_rfl) (by kernel_rfl) (by kernel_rfl) (fun _ _ _ h => h) (Or.inl ⟨by rfl, ?_⟩) (by assumption) ?_
      rotate_left
      · (intro Y hSw; (try dsimp only at hSw); obtain ⟨hS0, _⟩ := hSw; go_simp; try with_reducible rfl)
      try simp only [Act.put, List.getElem_toArray, List.getElem_cons_zero, List.getElem_cons_succ, List.setIfInBounds_toArray, List.set_cons_zero, List.set_cons_succ]
      refine wpAnyH_take (i := 2) (v := ?_) rfl (by kernel_rfl) (by kernel_rfl) (by kernel_rfl) (fun _ _ _ h => h) (Or.inl ⟨by rfl, ?_⟩) (by assumption) ?_
      rotate_left
      · (intro Y hSw; (try dsimp only at hSw); obtain ⟨hS0, _⟩ := hSw; go_simp; try with_reducible rfl)
      try simp only [Act.put, List.getElem_toArray, List.getElem_cons_zero, List.getElem_cons_succ, List.setIfInBounds_toArray, List.set_cons_zero, List.set_cons_succ]
      refine wpAnyH_take (i := 3) (v := ?_) rfl (by kernel_rfl) (by kernel_rfl) (by kernel_rfl) (fun _ _ _ h => h) (Or.inl ⟨by rfl, ?_⟩) (by assumption) ?_
      rotate_left
      · (intro Y hSw; (try dsimp only at hSw); obtain ⟨hS0, _⟩ := hSw; go_simp; try with_reducible rfl)
      try simp only [Act.put, List.getElem_toArray, List.getElem_cons_zero, List.getElem_cons_succ, List.setIfInBounds_toArray, List.set_cons_zero, List.set_cons_succ]
      refine wpAnyH_take (i := 4) (v := ?_) rfl (by kernel_rfl) (by kernel_rfl) (by kernel_rfl) (fun _ _ _ h => h) (Or.inl ⟨by rfl, ?_⟩) (by assumption) ?_
      rotate_left
      · (intro Y hSw; (try dsimp only at hSw); obtain ⟨hS0, _⟩ := hSw; go_simp; try with_reducible rfl)
      try simp only [Act.put, List.getElem_toArray, List.getElem_cons_zero, List.getElem_cons_succ, List.setIfInBounds_toArray, List.set_cons_zero, List.set_cons_succ]
      refine wpAnyH_take (i := 6) (v := ?_) rfl (by kernel_rfl) (by kernel_rfl) (by kernel_rfl) (fun _ _ _ h => h) (Or.inl ⟨by rfl, ?_⟩) (by assumption) ?_
      rotate_left
      · (intro Y hSw; (try dsimp only at hSw); obtain ⟨hS0, _⟩ := hSw; go_simp; try with_reducible rfl)
      try simp only [Act.put, List.getElem_toArray, List.getElem_cons_zero, List.getElem_cons_succ, List.setIfInBounds_toArray, List.set_cons_zero, List.set_cons_succ]
      refine wpAnyH_take (i := 7) (v := ?_) rfl (by kernel_rfl) (by kernel_rfl) (by kernel_rfl) (fun _ _ _ h => h) (Or.inl ⟨by rfl, ?_⟩) (by assumption) ?_
      rotate_left
      · (intro Y hSw; (try dsimp only at hSw); obtain ⟨hS0, _⟩ := hSw; go_simp; try with_reducible rfl)
      try simp only [Act.put, List.getElem_toArray, List.getElem_cons_zero, List.getElem_cons_succ, List.setIfInBounds_toArray, List.set_cons_zero, List.set_cons_succ]
      refine wpAnyH_take (i := 8) (v := ?_) rfl (by kernel_rfl) (by kernel_rfl) (by kernel_rfl) (fun _ _ _ h => h) (Or.inl ⟨by rfl, ?_⟩) (by assumption) ?_
      rotate_left
      · (intro Y hSw; (try dsimp only at hSw); obtain ⟨hS0, _⟩ := hSw; go_simp; try with_reducible rfl)
      try simp only [Act.put, List.getElem_toArray, List.getElem_cons_zero, List.getElem_cons_succ, List.setIfInBounds_toArray, List.set_cons_zero, List.set_cons_succ]
      refine wpAnyH_take (i := 9) (v := ?_) rfl (by kernel_rfl) (by kernel_rfl) (by kernel_rfl) (fun _ _ _ h => h) (Or.inl ⟨by rfl, ?_⟩) (by assumption) ?_
      rotate_left
      · (intro Y hSw; (try dsimp only at hSw); obtain ⟨hS0, _⟩ := hSw; go_simp; try with_reducible rfl)
      try simp only [Act.put, List.getElem_toArray, List.getElem_cons_zero, List.getElem_cons_succ, List.setIfInBounds_toArray, List.set_cons_zero, List.set_cons_succ]
      refine wpAnyH_take (i := 10) (v := ?_) rfl (by kernel_rfl) (by kernel_rfl) (by kernel_rfl) (fun _ _ _ h => h) (Or.inl ⟨by rfl, ?_⟩) (by assumption) ?_
      rotate_left
      · (intro Y hSw; (try dsimp only at hSw); obtain ⟨hS0, _⟩ := hSw; go_simp; try with_reducible rfl)
      try simp only [Act.put, List.getElem_toArray, List.getElem_cons_zero, List.getElem_cons_succ, List.setIfInBounds_toArray, List.set_cons_zero, List.set_cons_succ]
      refine wpAnyH_ready (rs := [0]) (by kernel_rfl) (by simp) ?_
      refine AllReadyH.cons rfl (fun K hK => ?_) AllReadyH.nil
      go_simp
      have sM := hM.sz
      have k3 : Below w2.heap.size w2 (w2.drew.alloc (.cells #[] 55)) := ((Below.refl _ w2).drew).alloc (Nat.le_refl _) _
      have hM3 := hM.step k3
      have ho0 : (w2.drew.alloc (.cells #[] 55)).ownsRow w2.heap.size 55 4 (.slice (some ⟨w2.heap.size, 0, none⟩) 0 0) 0 [] := World.ownsRow_made w2.drew #[] 0 (Nat.le_refl _) (by decide) rfl
      have hQ3 := q.below k3 (by omega)
      have ct3 := hM3.t.cell 0 rfl
      have z3 := k3.size
      refine hK.out _ _ (⟨ct3, ⟨hQ3.c0, hQ3.c1, hQ3.c2, hQ3.c3⟩⟩) (fun hHeld => ?_)
      clear hK K
      try simp only [Act.put, List.getElem_toArray, List.getElem_cons_zero, List.getElem_cons_succ, List.setIfInBounds_toArray, List.set_cons_zero, List.set_cons_succ]
      change wpAnyH _ _ _ _ _ _ _ _ (w2.drew.alloc (.cells #[] 55))
      generalize w2.drew.alloc (.cells #[] 55) = w3 at k3 hM3 ho0 hQ3 ct3 hHeld z3 ⊢
      refine wpAnyH_ready (rs := [5]) (by kernel_rfl) (by simp) ?_
      refine AllReadyH.cons rfl (fun K hK => ?_) AllReadyH.nil
      rw [if_pos (by rfl)]
      refine wp_append_any _ _ 26 rfl w2.heap.size Try.underlying26 infoRow 0 [] rfl ho0 s i (rowT (D.take i)) rfl (HRH.out.below k3 (by omega)) (by rw [rowT_len, List.length_take]; omega) (rowT_one _) (by unfold maxLen; omega) (by omega) z3 ?_
      intro v4 w4 ho4 hg4
      have k4 : Below w2.heap.size w2 w4 := k3.appended ho0 hg4 (Nat.le_refl _) z3
      have hQ4 := q.below k4 (by omega)
      have hM4 := hM.step k4
      have ct4 := hM4.t.cell 0 rfl
      have z4 := k4.size
      rw [Nat.zero_add, List.nil_append] at ho4
      refine hK.out _ _ (⟨ct4, ⟨hQ4.c0, hQ4.c1, hQ4.c2, hQ4.c3⟩⟩) (fun hHeld => ?_)
      clear hK K
      try simp only [Act.put, List.getElem_toArray, List.getElem_cons_zero, List.getElem_cons_succ, List.setIfInBounds_toArray, List.set_cons_zero, List.set_cons_succ]
      clear hM3 hQ3 ct3 k3 z3 ho0 hg4
      refine wpAnyH_ready (rs := [11]) (by kernel_rfl) (by simp) ?_
      refine AllReadyH.cons rfl (fun K hK => ?_) AllReadyH.nil
      rw [if_pos (by rfl)]
      refine wp_append_any _ _ 26 rfl w2.heap.size Try.underlying26 infoRow i (rowT (D.take i)) rfl ho4 s (D.length - (i + 1)) (rowT (D.drop (i + 1))) rfl (HRT.out.below k4 (by omega)) (by rw [rowT_len, List.length_drop]) (rowT_one _) (by unfold maxLen; omega) (by omega) z4 ?_
      intro v5 w5 ho5 hg5
      have k5 : Below w2.heap.size w2 w5 := k4.appended ho4 hg5 (Nat.le_refl _) z4
      have hQ5 := q.below k5 (by omega)
      have hM5 := hM.step k5
      have ct5 := hM5.t.cell 0 rfl
      have z5 := k5.size
      rw [← rowT_append, ← HD.out] at ho5
      rw [show i + (D.length - (i + 1)) = (unmD D p).length by rw [HD.out, List.length_append, List.length_take, List.length_drop]; omega] at ho5
      refine hK.out _ _ (⟨ct5, ⟨hQ5.c0, hQ5.c1, hQ5.c2, hQ5.c3⟩⟩) (fun hHeld => ?_)
      clear hK K
      try simp only [Act.put, List.getElem_toArray, List.getElem_cons_zero, List.getElem_cons_succ, List.setIfInBounds_toArray, List.set_cons_zero, List.set_cons_succ]
      clear hM4 hQ4 ct4 k4 z4 ho4 hg5 hM ct q
      refine wpAnyH_take (i := 12) (v := ?_) rfl (by kernel_rfl) (by kernel_rfl) (by kernel_rfl) (fun _ _ _ h => h) (Or.inl ⟨by rfl, ?_⟩) (by assumption) ?_
      rotate_left
      · (intro Y hSw; (try dsimp only at hSw); obtain ⟨hS0, _⟩ := hSw; go_simp; try with_reducible rfl)
      try simp only [Act.put, List.getElem_toArray, List.getElem_cons_zero, List.getElem_cons_succ, List.setIfInBounds_toArray, List.set_cons_zero, List.set_cons_succ]
      refine wpAnyH_done (by kernel_rfl) ?_ _
      rw [onlyN_normal]
      obtain ⟨va, vc, rfl, _⟩ := (RowAt.of_owns ho5 (Nat.le_refl _)).len
      have HO5 := Lib.hid ho5
      clear ho5 htl
      go_wp2_with fail
      refine wp_onlyN ?_
      refine wp_region_held_drew (S := RuS s b1 o1 i (.slice (some ⟨b1, o1, none⟩) D.length c1) (xk, ⟨xo, xm, xf⟩)) (by kernel_rfl) ⟨ct5, ⟨hQ5.c0, hQ5.c1, hQ5.c2, hQ5.c3⟩⟩ (fun hHeld => ?_)
      refine wpAnyH_take (i := 0) (v := ?_) rfl (by kernel_rfl) (by kernel_rfl) (by kernel_rfl) (fun _ _ _ h => h) (Or.inl ⟨by rfl, ?_⟩) (by assumption) ?_
      rotate_left
      · (intro Y hSw; (try dsimp only at hSw); obtain ⟨hS0, ⟨hT0, hT1, hT2, hT3⟩⟩ := hSw; go_simp; try with_reducible rfl)
      try simp only [Act.put, List.getElem_toArray, List.getElem_cons_zero, List.getElem_cons_succ, List.setIfInBounds_toArray, List.set_cons_zero, List.set_cons_succ]
      refine wpAnyH_take (i := 1) (v := ?_) rfl (by kernel_rfl) (by kernel_rfl) (by kernel_rfl) (fun _ _ _ h => h) (Or.inl ⟨by rfl, ?_⟩) (by assumption) ?_
      rotate_left
      · (intro Y hSw; (try dsimp only at hSw); obtain ⟨hS0, ⟨hT0, hT1, hT2, hT3⟩⟩ := hSw; go_simp; try with_reducible rfl)
      try simp only [Act.put, List.getElem_toArray, List.getElem_cons_zero, List.getElem_cons_succ, List.setIfInBounds_toArray, List.set_cons_zero, List.set_cons_succ]
      refine wpAnyH_take (i := 2) (v := ?_) rfl (by kernel_rfl) (by kernel_rfl) (by kernel_rfl) (fun _ _ _ h => h) (Or.inl ⟨by rfl, ?_⟩) (by assumption) ?_
      rotate_left
      · (intro Y hSw; (try dsimp only at hSw); obtain ⟨hS0, ⟨hT0, hT1, hT2, hT3⟩⟩ := hSw; go_simp; try with_reducible rfl)
      try simp only [Act.put, List.getElem_toArray, List.getElem_cons_zero, List.getElem_cons_succ, List.setIfInBounds_toArray, List.set_cons_zero, List.set_cons_succ]
      refine wpAnyH_take (i := 3) (v := ?_) rfl (by kernel_rfl) (by kernel_rfl) (by kernel_rfl) (fun _ _ _ h => h) (Or.inl ⟨by rfl, ?_⟩) (by assumption) ?_
      rotate_left
      · (intro Y hSw; (try dsimp only at hSw); obtain ⟨hS0, ⟨hT0, hT1, hT2, hT3⟩⟩ := hSw; go_simp; try with_reducible rfl)
      try simp only [Act.put, List.getElem_toArray, List.getElem_cons_zero, List.getElem_cons_succ, List.setIfInBounds_toArray, List.set_cons_zero, List.set_cons_succ]
      refine wpAnyH_take (i := 4) (v := ?_) rfl (by kernel_rfl) (by kernel_rfl) (by kernel_rfl) (fun _ _ _ h => h) (Or.inl ⟨by rfl, ?_⟩) (by assumption) ?_
      rotate_left
      · (intro Y hSw; (try dsimp only at hSw); obtain ⟨hS0, ⟨hT0, hT1, hT2, hT3⟩⟩ := hSw; go_simp; try with_reducible rfl)
      try simp only [Act.put, List.getElem_toArray, List.getElem_cons_zero, List.getElem_cons_succ, List.setIfInBounds_toArray, List.set_cons_zero, List.set_cons_succ]
      refine wpAnyH_take (i := 5) (v := ?_) rfl (by kernel_rfl) (by kernel_rfl) (by kernel_rfl) (fun _ _ _ h => h) (Or.inl ⟨by rfl, ?_⟩) (by assumption) ?_
      rotate_left
      · (intro Y hSw; (try dsimp only at hSw); obtain ⟨hS0, ⟨hT0, hT1, hT2, hT3⟩⟩ := hSw; go_simp; try with_reducible rfl)
      try simp only [Act.put, List.getElem_toArray, List.getElem_cons_zero, List.getElem_cons_succ, List.setIfInBounds_toArray, List.set_cons_zero, List.set_cons_succ]
      refine wpAnyH_take (i := 6) (v := ?_) rfl (by kernel_rfl) (by kernel_rfl) (by kernel_rfl) (fun _ _ _ h => h) (Or.inl ⟨by rfl, ?_⟩) (by assumption) ?_
      rotate_left
      · (intro Y hSw; (try dsimp only at hSw); obtain ⟨hS0, ⟨hT0, hT1, hT2, hT3⟩⟩ := hSw; go_simp; try with_reducible rfl)
      try simp only [Act.put, List.getElem_toArray, List.getElem_cons_zero, List.getElem_cons_succ, List.setIfInBounds_toArray, List.set_cons_zero, List.set_cons_succ]
      refine wpAnyH_take (i := 7) (v := ?_) rfl (by kernel_rfl) (by kernel_rfl) (by kernel_rfl) (fun _ _ _ h => h) (Or.inl ⟨by rfl, ?_⟩) (by assumption) ?_
      rotate_left
      · (intro Y hSw; (try dsimp only at hSw); obtain ⟨hS0, ⟨hT0, hT1, hT2, hT3⟩⟩ := hSw; go_simp; try with_reducible rfl)
      try simp only [Act.put, List.getElem_toArray, List.getElem_cons_zero, List.getElem_cons_succ, List.setIfInBounds_toArray, List.set_cons_zero, List.set_cons_succ]
      have hMd := hM5.step (Below.refl _ w5).drew
      have hQd := HO5.out
      have HOd := Lib.hid (owns_below hQd (Below.refl _ w5).drew (Nat.le_refl _))
      have hqd := hQ5.below (Below.refl w5.heap.size w5).drew (by omega)
      have zd : w2.heap.size ≤ w5.drew.heap.size := z5
      clear hQd HO5 hM5 hQ5 ct5 hHeld
      change wpAnyH _ _ _ _ _ _ _ _ w5.drew
      generalize w5.drew = w6 at hMd HOd hqd zd ⊢
      have ct := hMd.t.cell 0 rfl
      have cr := hMd.r.cell 0 rfl
      have fr := hMd.r.frozen 0
      refine wpAnyH_ready (rs := [8]) (by kernel_rfl) (by simp) ?_
      refine AllReadyH.cons rfl (fun K hK => ?_) AllReadyH.nil
      go_simp
      have hM7 := hMd.setR (.slice va (unmD D p).length vc)
      have HO7 := Lib.hid (ownsRow_setCell_below HOd.out (a := ⟨s + 1, 0, none⟩) (by dsimp only; omega) (.slice va (unmD D p).length vc))
      have hq7 := hqd.below ((Below.refl s w6).setCell (p := ⟨s + 1, 0, none⟩) (by dsimp only; omega) (.slice va (unmD D p).length vc)) (by omega)
      have ct7 := hM7.t.cell 0 rfl
      refine hK.out _ _ (⟨ct7, ⟨hq7.c0, hq7.c1, hq7.c2, hq7.c3⟩⟩) (fun hHeld => ?_)
      clear hK K
      try simp only [Act.put, List.getElem_toArray, List.getElem_cons_zero, List.getElem_cons_succ, List.setIfInBounds_toArray, List.set_cons_zero, List.set_cons_succ]
      clear hMd HOd hqd ct cr fr
      change wpAnyH _ _ _ _ _ _ _ _ (w6.setCell ⟨s + 1, 0, none⟩ (.slice va (unmD D p).length vc))
      generalize w6.setCell ⟨s + 1, 0, none⟩ (.slice va (unmD D p).length vc) = w7 at hM7 HO7 hq7 ct7 hHeld ⊢
      have y0 := hM7.e.cell 0 rfl
      have y1 := hM7.e.cell 1 rfl
      have y2 := hM7.e.cell 2 rfl
      have g0 := hM7.e.frozen 0
      have g1 := hM7.e.frozen 1
      have g2 := hM7.e.frozen 2
      refine wpAnyH_ready (rs := [9]) (by kernel_rfl) (by simp) ?_
      refine AllReadyH.cons rfl (fun K hK => ?_) AllReadyH.nil
      go_simp
      have hM8 := hM7.setE (.int .i64 xo) (.int .i64 xm) (.int .i64 xf)
      have HO8 := Lib.hid (ownsRow_setCell_below (ownsRow_setCell_below (ownsRow_setCell_below HO7.out (a := ⟨s + 1 + 1, 0, none⟩) (by dsimp only; omega) (.int .i64 xo)) (a := ⟨s + 1 + 1, 1, none⟩) (by dsimp only; omega) (.int .i64 xm)) (a := ⟨s + 1 + 1, 2, none⟩) (by dsimp only; omega) (.int .i64 xf))
      have hq8 := ((hq7.below ((((Below.refl s w7).setCell (p := ⟨s + 1 + 1, 0, none⟩) (by dsimp only; omega) (.int .i64 xo)).setCell (p := ⟨s + 1 + 1, 1, none⟩) (by dsimp only; omega) (.int .i64 xm)).setCell (p := ⟨s + 1 + 1, 2, none⟩) (by dsimp only; omega) (.int .i64 xf)) (by omega)))
      have ct8 := hM8.t.cell 0 rfl
      refine hK.out _ _ (⟨ct8, ⟨hq8.c0, hq8.c1, hq8.c2, hq8.c3⟩⟩) (fun hHeld => ?_)
      clear hK K
      try simp only [Act.put, List.getElem_toArray, List.getElem_cons_zero, List.getElem_cons_succ, List.setIfInBounds_toArray, List.set_cons_zero, List.set_cons_succ]
      refine wpAnyH_take (i := 10) (v := ?_) rfl (by kernel_rfl) (by kernel_rfl) (by kernel_rfl) (fun _ _ _ h => h) (Or.inl ⟨by rfl, ?_⟩) (by assumption) ?_
      rotate_left
      · (intro Y hSw; (try dsimp only at hSw); obtain ⟨hS0, ⟨hT0, hT1, hT2, hT3⟩⟩ := hSw; go_simp; try with_reducible rfl)
      try simp only [Act.put, List.getElem_toArray, List.getElem_cons_zero, List.getElem_cons_succ, List.setIfInBounds_toArray, List.set_cons_zero, List.set_cons_succ]
      refine wpAnyH_done (by kernel_rfl) ?_ _
      rw [onlyN_normal]
      go_wp2_with fail
      exact ret_t3 rfl (s + 1) (s + 1 + 1) rfl rfl hM8.r rfl hM8.e rfl rfl ⟨_, by rw [HE.out, HX.out]; rfl, RowAt.of_owns HO8.out (Nat.le_refl _), by first | exact hM8.bel | (rw [hs]; exact hM8.bel)⟩
  · have he : unmE D p = 4 := by unfold unmE; rw [hb, if_pos rfl]
    have hx := hx0 (by rw [he]; decide)
    have HE := Lib.hid he
    have HX := Lib.hid hx
    clear he hx hx0
    by_cases hneg : p < 0
    · clear hb
      go_enter Try.func41, Try.ntmps41
      have ct := hM.t.cell 0 rfl
      have cr := hM.r.cell 0 rfl
      have fr := hM.r.frozen 0
      have y0 := hM.e.cell 0 rfl
      have y1 := hM.e.cell 1 rfl
      have y2 := hM.e.cell 2 rfl
      have g0 := hM.e.frozen 0
      have g1 := hM.e.frozen 1
      have g2 := hM.e.frozen 2
      go_wp2_with fail
      exact ret_t3 rfl (s + 1) (s + 1 + 1) rfl rfl ((hM.setR _).setE _ _ _).r rfl ((hM.setR _).setE _ _ _).e rfl rfl ⟨_, by rw [HE.out, HX.out]; rfl, (FIN.out _ ((hM.setR _).setE _ _ _) (by rw [HE.out]; decide)).1, by first | exact (FIN.out _ ((hM.setR _).setE _ _ _) (by rw [HE.out]; decide)).2 | (rw [hs]; exact (FIN.out _ ((hM.setR _).setE _ _ _) (by rw [HE.out]; decide)).2)⟩
    · have hbig : 65536 ≤ p := by
        unfold badP at hb
        have := of_decide_eq_true hb
        omega
      clear hb
      go_enter Try.func41, Try.ntmps41
      have ct := hM.t.cell 0 rfl
      have cr := hM.r.cell 0 rfl
      have fr := hM.r.frozen 0
      have y0 := hM.e.cell 0 rfl
      have y1 := hM.e.cell 1 rfl
      have y2 := hM.e.cell 2 rfl
      have g0 := hM.e.frozen 0
      have g1 := hM.e.frozen 1
      have g2 := hM.e.frozen 2
      go_wp2_with fail
      exact ret_t3 rfl (s + 1) (s + 1 + 1) rfl rfl ((hM.setR _).setE _ _ _).r rfl ((hM.setR _).setE _ _ _).e rfl rfl ⟨_, by rw [HE.out, HX.out]; rfl, (FIN.out _ ((hM.setR _).setE _ _ _) (by rw [HE.out]; decide)).1, by first | exact (FIN.out _ ((hM.setR _).setE _ _ _) (by rw [HE.out]; decide)).2 | (rw [hs]; exact (FIN.out _ ((hM.setR _).setE _ _ _) (by rw [HE.out]; decide)).2)⟩
end Go.Proofs.Ytchepkihlnpfeaa
