/-
  Package pinfoldlaw08: act, its first case. Conditions: a table, the document's rows beside it.
-/
import Derived.Test.YtchepkihlnpfeaaPgS
import Derived.Test.YtchepkihlnpfeaaPgAct
namespace Go.Proofs.Ytchepkihlnpfeaa
open Go.RowKit
attribute [local go_sem] Oper.semAt_some
set_option maxHeartbeats 4000000
set_option maxRecDepth 8000

theorem RowAt.chgm {B n m : Nat} {W W' : World} {v : Value} {xs : List Value} {D : Tb} (h : RowAt B W v n xs) (hm : MapP encE W m D) (k : Chg m W W') : RowAt B W' v n xs := by
  obtain ⟨a, c, e, h1, h2⟩ := h
  refine ⟨a, c, e, h1, ?_⟩
  by_cases hx : xs = []
  · exact .inl hx
  · rcases h2 with h2 | ⟨b, off, e2, hb, hc⟩
    · exact absurd h2 hx
    · refine .inr ⟨b, off, e2, hb, fun i hi => ?_⟩
      have h3 := hc i hi
      rw [List.getElem?_eq_getElem hi] at h3 ⊢
      have hl := World.block_lt_of_cell? W _ h3
      have hne : b ≠ m := by
        rintro rfl
        obtain ⟨l, _, es, cl, h4, _⟩ := hm
        simp [World.cell?, h4] at h3
      exact (World.cell?_of_block (a := ⟨b, off + i, none⟩) (k.block b hl hne)).trans h3
theorem RowAt.setBox {B n g : Nat} {W : World} {v : Value} {E : Tb} {r : Value} {t : TypeId} (h : RowAt B W v n (rowT E)) (hb : Blk W g #[r] t) (hr : ∀ i : Int, r ≠ .int .i64 i) (u : Value) : RowAt B (W.setCell ⟨g, 0, none⟩ u) v n (rowT E) := by
  obtain ⟨a, c, e, h1, h2⟩ := h
  refine ⟨a, c, e, h1, ?_⟩
  by_cases hx : rowT E = []
  · exact .inl hx
  · rcases h2 with h2 | ⟨b, off, e2, hlt, hc⟩
    · exact absurd h2 hx
    · refine .inr ⟨b, off, e2, hlt, fun i hi => ?_⟩
      have hne : b ≠ g := by
        rintro rfl
        have hE : 0 < E.length := by
          rcases Nat.eq_zero_or_pos E.length with h0 | h0
          · exact absurd (by rw [List.eq_nil_of_length_eq_zero h0]; rfl) hx
          · exact h0
        have h3 := hc 0 (by rw [rowT_len]; omega)
        rw [show (rowT E)[0]? = some (.int .i64 E[0].1) from by have := (rowT_get E 0 hE).1; simpa using this] at h3
        unfold Blk at hb
        simp only [World.cell?, hb] at h3
        rcases Nat.eq_zero_or_pos off with rfl | h0
        · simp at h3; exact hr _ h3
        · rw [Array.getElem?_eq_none (by simp; omega)] at h3; cases h3
      exact (World.cell?_of_block (a := ⟨b, off + i, none⟩) (Below.heap_setCell W ⟨g, 0, none⟩ u b (by dsimp only; omega))).trans (hc i hi)
/-- A table and the document's rows beside it. -/
structure Pl (w0 W : World) (b m : Nat) (v : Value) (D : Tb) : Prop where
  t : TblAt W b m D
  g : Good D
  r : RowAt W.heap.size W v D.length (rowT D)
  k : Below w0.heap.size w0 W
  lo : w0.heap.size ≤ m
theorem Pl.step {w0 W W' : World} {b m : Nat} {v : Value} {D : Tb} (h : Pl w0 W b m v D) (k : Below W.heap.size W W') : Pl w0 W' b m v D :=
  ⟨h.t.step k, h.g, (h.r.below k (Nat.le_refl _)).mono k.size, h.k.trans (k.mono h.k.size), h.lo⟩
def actD (D : Tb) (x : ActV) : Tb := if x.f0 = 0 then mapD D x.f1 ⟨x.f3, x.f4, x.f5⟩ else if x.f0 = 1 then unmD D x.f1 else if x.f0 = 2 then proD D x.f1 x.f4 else D
theorem actD_len (D : Tb) (x : ActV) : (actD D x).length ≤ D.length + 1 := by
  unfold actD
  split
  · exact mapD_len _ _ _
  · split
    · have := unmD_len D x.f1; omega
    · split
      · have := proD_len D x.f1 x.f4; omega
      · omega
theorem Good.act {D : Tb} (h : Good D) (x : ActV) : Good (actD D x) := by
  unfold actD
  split
  · exact h.map _ _
  · split
    · exact h.unm _
    · split
      · exact h.pro _ _
      · exact h
/-- What act ends in. -/
structure ActE (w0 W W' : World) (b m b' m' : Nat) (v' : Value) (D' : Tb) : Prop where
  p : Pl w0 W' b' m' v' D'
  c : Chg m W W'
  n : (b' = b ∧ m' = m) ∨ (W.heap.size ≤ b' ∧ W.heap.size ≤ m')
/-- What act has laid. -/
structure AcI (w wr : World) (s m : Nat) (v r : Value) (x : ActV) : Prop where
  wt : Blk wr s #[v] 28
  x : Blk wr (s + 1) #[.int .i64 x.f0, .int .i64 x.f1, .int .i64 x.f2, .int .i64 x.f3, .int .i64 x.f4, .int .i64 x.f5] 45
  r : Blk wr (s + 1 + 1) #[r] 28
  c : Chg m w wr
  lt : m < s
  ws : w.heap.size = s
  z : s + 3 ≤ wr.heap.size
section
variable {w wr W' : World} {s m : Nat} {v r : Value} {x : ActV}
theorem AcI.step (h : AcI w wr s m v r x) (k : Below wr.heap.size wr W') : AcI w W' s m v r x :=
  ⟨h.wt.below k h.wt.lt, h.x.below k h.x.lt, h.r.below k h.r.lt, h.c.trans (.of_below k), h.lt, h.ws, Nat.le_trans h.z k.size⟩
theorem AcI.chg (h : AcI w wr s m v r x) (k : Chg m wr W') : AcI w W' s m v r x :=
  ⟨k.blk h.wt (by have := h.lt; omega), k.blk h.x (by have := h.lt; omega), k.blk h.r (by have := h.lt; omega), h.c.trans k, h.lt, h.ws, Nat.le_trans h.z k.size⟩
theorem AcI.set (h : AcI w wr s m v r x) (u : Value) : AcI w (wr.setCell ⟨s + 1 + 1, 0, none⟩ u) s m v u x :=
  ⟨h.wt.setOther _ _ (by dsimp only; omega), h.x.setOther _ _ (by dsimp only; omega), h.r.set 0 u, h.c.set _ _ (by have := h.ws; dsimp only; omega), h.lt, h.ws, by simpa using h.z⟩
end
theorem ret_pt {fn : Func} {R : Ending → World → Prop} {a : Act} {w : World} {p u q : Tmp} (h : fn.results = #[.tmp u, .cell p 28, .tmp q]) (g : Nat) {cs : Array Value} {t : TypeId} (hp : a.tmps.getD p undef = .pointer (some ⟨g, 0, none⟩))
    (hB : Blk w g cs t) (hs : cs.size = 1) (hd : a.defers = []) (hR : R (.returned (.tuple #[a.tmps.getD u undef, .agg cs, a.tmps.getD q undef])) w) : bodyPost Try.prog fn R .ret a w := by
  refine bodyPost_ret (v := .tuple #[a.tmps.getD u undef, .agg cs, a.tmps.getD q undef]) ?_ hd hR
  have hp' : a.tmps[p]?.getD undef = .pointer (some ⟨g, 0, none⟩) := by simpa using hp
  simp [results, h, hp', asAddr, run_loadT hB hs]
theorem atI_at {D : Tb} (hg : SrtR D) {p : Int} (h : hasR D p = true) : ∃ i, ∃ hi : i < D.length, atI D p = i ∧ getE D p = D[i].2 := by
  obtain ⟨i, hi, hik, hin⟩ := at_of_has h
  refine ⟨i, hi, atI_hit hi hik hin, ?_⟩
  unfold getE
  rw [← hik, getR_some hg.nodup (List.getElem_mem hi)]; rfl
/-- What the end of act's first case looks at. -/
structure A0S (s9 g o1 b1 : Nat) (v9 : Value) (e : Ent) (Y : World) : Prop where
  t : Y.cell? ⟨s9, 0, none⟩ = some v9
  g0 : Y.cell? ⟨g, 0, none⟩ = some (.int .i64 e.o)
  g1 : Y.cell? ⟨g, 1, none⟩ = some (.int .i64 e.m)
  g2 : Y.cell? ⟨g, 2, none⟩ = some (.int .i64 e.f)
structure A1S (s9 g b1 o1 : Nat) (v9 : Value) (x : Int × Ent) (Y : World) : Prop where
  t : Y.cell? ⟨s9, 0, none⟩ = some v9
  g0 : Y.cell? ⟨g, 0, none⟩ = some (.int .i64 x.2.o)
  g1 : Y.cell? ⟨g, 1, none⟩ = some (.int .i64 x.2.m)
  g2 : Y.cell? ⟨g, 2, none⟩ = some (.int .i64 x.2.f)
  q1 : Y.cell? ⟨b1, o1 + 1, none⟩ = some (.int .i64 x.2.o)
  q2 : Y.cell? ⟨b1, o1 + 2, none⟩ = some (.int .i64 x.2.m)
  q3 : Y.cell? ⟨b1, o1 + 3, none⟩ = some (.int .i64 x.2.f)
theorem act0_ok {w0 W : World} {b m : Nat} {v : Value} {D : Tb} (h : Pl w0 W b m v D) (hl : D.length ≤ 1000) (x : ActV) (hx : x.f0 = 0) :
    Calls Try.prog 14 #[.pointer (some ⟨b, 0, none⟩), .agg #[v], .agg #[.int .i64 x.f0, .int .i64 x.f1, .int .i64 x.f2, .int .i64 x.f3, .int .i64 x.f4, .int .i64 x.f5]] W fun e w' =>
      ∃ b' m' v', e = .returned (.tuple #[.pointer (some ⟨b', 0, none⟩), .agg #[v'], .bool true]) ∧ ActE w0 W w' b m b' m' v' (actD D x) := by
  obtain ⟨f0, f1, f2, f3, f4, f5⟩ := x
  dsimp only at hx ⊢
  obtain ⟨va, vc, rfl, _⟩ := h.r.len
  have hml := h.t.mp.lt
  obtain ⟨w1, hw1⟩ : ∃ w1, ((W.alloc (.cells #[.slice va D.length vc] 28)).alloc (.cells #[.int .i64 f0, .int .i64 f1, .int .i64 f2, .int .i64 f3, .int .i64 f4, .int .i64 f5] 45)).alloc (.cells #[.slice none 0 0] 28) = w1 := ⟨_, rfl⟩
  have k1 : Below W.heap.size W w1 := by rw [← hw1]; exact (((Below.refl _ W).alloc (Nat.le_refl _) _).alloc (by simp) _).alloc (by simp; omega) _
  have hA : AcI W w1 W.heap.size m (.slice va D.length vc) (.slice none 0 0) ⟨f0, f1, f2, f3, f4, f5⟩ := by
    refine ⟨?_, ?_, ?_, .of_below k1, hml, rfl, ?_⟩
    · rw [← hw1]; exact ((Blk.new W _ _).alloc _).alloc _
    · rw [← hw1]; exact (Blk.newAt _ _ _ (by simp)).alloc _
    · rw [← hw1]; exact Blk.newAt _ _ _ (by simp)
    · rw [← hw1]; simp
  have hP := h.step k1
  obtain ⟨s, hs⟩ : ∃ s, W.heap.size = s := ⟨_, rfl⟩
  have H := Lib.hid h
  rw [hs] at hA hml
  clear h k1
  have hD : actD D ⟨f0, f1, f2, f3, f4, f5⟩ = mapD D f1 ⟨f3, f4, f5⟩ := by unfold actD; rw [if_pos hx]
  have HD := Lib.hid hD
  clear hD
  subst hx
  have ls0 : s < w1.heap.size := hA.wt.lt
  have ls1 : s + 1 < w1.heap.size := hA.x.lt
  have ls2 : s + 1 + 1 < w1.heap.size := hA.r.lt
  have ct : w1.cell? ⟨s, 0, none⟩ = some (.slice va D.length vc) := hA.wt.cell 0 rfl
  have x0 : w1.cell? ⟨s + 1, 0, none⟩ = some (.int .i64 0) := hA.x.cell 0 rfl
  have x1 : w1.cell? ⟨s + 1, 1, none⟩ = some (.int .i64 f1) := hA.x.cell 1 rfl
  have x2 : w1.cell? ⟨s + 1, 2, none⟩ = some (.int .i64 f2) := hA.x.cell 2 rfl
  have x3 : w1.cell? ⟨s + 1, 3, none⟩ = some (.int .i64 f3) := hA.x.cell 3 rfl
  have x4 : w1.cell? ⟨s + 1, 4, none⟩ = some (.int .i64 f4) := hA.x.cell 4 rfl
  have x5 : w1.cell? ⟨s + 1, 5, none⟩ = some (.int .i64 f5) := hA.x.cell 5 rfl
  go_enter Try.func14, Try.ntmps14
  go_wp2_with fail
  refine (rMap_ok _ D w1.heap.size f1 ⟨f3, f4, f5⟩ w1 (Nat.le_refl _) (by omega) hP.r).mono ?_; rintro e w2 ⟨v9, rfl, r2, k2⟩
  have hP2 := hP.step k2
  have hA2 := hA.step k2
  rw [← HD.out] at r2
  obtain ⟨E, hE⟩ : ∃ E, actD D ⟨0, f1, f2, f3, f4, f5⟩ = E := ⟨_, rfl⟩
  have HE := Lib.hid hE
  rw [hE] at r2 HD
  have hEg : Good E := by rw [← hE]; exact H.out.g.act _
  have hEl : E.length ≤ 1001 := by rw [← hE]; have := actD_len D ⟨0, f1, f2, f3, f4, f5⟩; omega
  clear hw1 ct x0 x1 x2 x3 x4 x5 ls0 ls1 ls2 hA hP k2 hE
  obtain ⟨oa, oc, rfl, _⟩ := r2.len
  have hA := hA2
  have ls0 : s < w2.heap.size := hA.wt.lt
  have ls1 : s + 1 < w2.heap.size := hA.x.lt
  have ls2 : s + 1 + 1 < w2.heap.size := hA.r.lt
  have ct : w2.cell? ⟨s, 0, none⟩ = some (.slice va D.length vc) := hA.wt.cell 0 rfl
  have x0 : w2.cell? ⟨s + 1, 0, none⟩ = some (.int .i64 0) := hA.x.cell 0 rfl
  have x1 : w2.cell? ⟨s + 1, 1, none⟩ = some (.int .i64 f1) := hA.x.cell 1 rfl
  have x2 : w2.cell? ⟨s + 1, 2, none⟩ = some (.int .i64 f2) := hA.x.cell 2 rfl
  have x3 : w2.cell? ⟨s + 1, 3, none⟩ = some (.int .i64 f3) := hA.x.cell 3 rfl
  have x4 : w2.cell? ⟨s + 1, 4, none⟩ = some (.int .i64 f4) := hA.x.cell 4 rfl
  have x5 : w2.cell? ⟨s + 1, 5, none⟩ = some (.int .i64 f5) := hA.x.cell 5 rfl
  have R2 := Lib.hid r2
  clear r2
  go_wp2_with fail
  have k3 : Below w2.heap.size w2 (w2.alloc (.cells #[.slice oa E.length oc] 28)) := (Below.refl _ w2).alloc (Nat.le_refl _) _
  have hT3 := Blk.new w2 #[.slice oa E.length oc] 28
  have hP3 := hP2.step k3
  have hA3 := hA2.step k3
  have hR3 := (R2.out.below k3 (Nat.le_refl _))
  have z9 := hA2.z
  clear hA hA2 hP2 R2 ct x0 x1 x2 x3 x4 x5 ls0 ls1 ls2
  obtain ⟨s9, hs9⟩ : ∃ s9, w2.heap.size = s9 := ⟨_, rfl⟩
  rw [hs9] at hT3 hR3 z9 ⊢
  generalize w2.alloc (.cells #[.slice oa E.length oc] 28) = w3 at hT3 hP3 hA3 hR3 ⊢
  clear k3 hs9
  refine (Map_ok hP3.t (by omega) f1 ⟨f3, f4, f5⟩).mono ?_; rintro e w4 ⟨rfl, h4, k4⟩
  rw [← HD.out] at h4
  have hne : s9 ≠ m := by omega
  have hT4 := k4.blk hT3 hne
  have hA4 := hA3.chg k4
  have hR4 := hR3.chgm hP3.t.mp k4
  have z4 := hT3.lt
  have z4' := k4.size
  have hk4 := hP3.k.trans (k4.below hP3.lo hP3.k.size)
  have hlo := hP3.lo
  have hA := hA4
  have HT4 := Lib.hid hT4
  have HR4 := Lib.hid hR4
  clear hP3 hA3 hR3 hT3 k4
  have ls0 : s < w4.heap.size := hA.wt.lt
  have ls1 : s + 1 < w4.heap.size := hA.x.lt
  have ls2 : s + 1 + 1 < w4.heap.size := hA.r.lt
  have ct : w4.cell? ⟨s, 0, none⟩ = some (.slice va D.length vc) := hA.wt.cell 0 rfl
  have x0 : w4.cell? ⟨s + 1, 0, none⟩ = some (.int .i64 0) := hA.x.cell 0 rfl
  have x1 : w4.cell? ⟨s + 1, 1, none⟩ = some (.int .i64 f1) := hA.x.cell 1 rfl
  have x2 : w4.cell? ⟨s + 1, 2, none⟩ = some (.int .i64 f2) := hA.x.cell 2 rfl
  have x3 : w4.cell? ⟨s + 1, 3, none⟩ = some (.int .i64 f3) := hA.x.cell 3 rfl
  have x4 : w4.cell? ⟨s + 1, 4, none⟩ = some (.int .i64 f4) := hA.x.cell 4 rfl
  have x5 : w4.cell? ⟨s + 1, 5, none⟩ = some (.int .i64 f5) := hA.x.cell 5 rfl
  go_wp2_with fail
  refine (Get_ok h4 f1).mono ?_; rintro e w5 ⟨rfl, k5⟩
  have h5 := h4.step k5
  have hA5 := hA.step k5
  have hT5 := HT4.out.below k5 HT4.out.lt
  have hR5 := HR4.out.below k5 (by omega)
  have hk5 := hk4.trans (k5.mono hk4.size)
  clear ct x0 x1 x2 x3 x4 x5 ls0 ls1 ls2 hA HT4 HR4 h4 hA4 hT4 hR4 hk4 k5
  obtain ⟨ge, hge⟩ : ∃ ge, getE E f1 = ge := ⟨_, rfl⟩
  have HGE := Lib.hid hge
  rw [hge]
  clear hge
  obtain ⟨go, gm, gf⟩ := ge
  unfold encE
  have hA := hA5
  have ls9 := hT5.lt
  have t5 : w5.cell? ⟨s9, 0, none⟩ = some (.slice oa E.length oc) := hT5.cell 0 rfl
  have ls0 : s < w5.heap.size := hA.wt.lt
  have ls1 : s + 1 < w5.heap.size := hA.x.lt
  have ls2 : s + 1 + 1 < w5.heap.size := hA.r.lt
  have ct : w5.cell? ⟨s, 0, none⟩ = some (.slice va D.length vc) := hA.wt.cell 0 rfl
  have x0 : w5.cell? ⟨s + 1, 0, none⟩ = some (.int .i64 0) := hA.x.cell 0 rfl
  have x1 : w5.cell? ⟨s + 1, 1, none⟩ = some (.int .i64 f1) := hA.x.cell 1 rfl
  have x2 : w5.cell? ⟨s + 1, 2, none⟩ = some (.int .i64 f2) := hA.x.cell 2 rfl
  have x3 : w5.cell? ⟨s + 1, 3, none⟩ = some (.int .i64 f3) := hA.x.cell 3 rfl
  have x4 : w5.cell? ⟨s + 1, 4, none⟩ = some (.int .i64 f4) := hA.x.cell 4 rfl
  have x5 : w5.cell? ⟨s + 1, 5, none⟩ = some (.int .i64 f5) := hA.x.cell 5 rfl
  go_wp2_with fail
  have k6 : Below w5.heap.size w5 (w5.alloc (.cells #[.int .i64 go, .int .i64 gm, .int .i64 gf] 31)) := (Below.refl _ w5).alloc (Nat.le_refl _) _
  have hG6 := Blk.new w5 #[.int .i64 go, .int .i64 gm, .int .i64 gf] 31
  have h6 := h5.step k6
  have hA6 := hA5.step k6
  have hT6 := hT5.below k6 hT5.lt
  have hR6 := hR5.below k6 (by omega)
  have hk6 := hk5.trans (k6.mono hk5.size)
  obtain ⟨g, hg⟩ : ∃ g, w5.heap.size = g := ⟨_, rfl⟩
  rw [hg] at hG6 ls9 ⊢
  clear ct x0 x1 x2 x3 x4 x5 ls0 ls1 ls2 hA h5 hA5 hT5 hR5 hk5 t5
  generalize w5.alloc (.cells #[.int .i64 go, .int .i64 gm, .int .i64 gf] 31) = w6 at hG6 h6 hA6 hT6 hR6 hk6 ⊢
  clear k6 hg
  have hs6 := hT6.lt
  refine (At_ok (.slice oa E.length oc) E s9 f1 w6 (by omega) (by omega) hR6).mono ?_; rintro e w7 ⟨rfl, k7⟩
  have h7 := h6.step k7
  have hA7 := hA6.step k7
  have hT7 := hT6.below k7 hT6.lt
  have hG7 := hG6.below k7 hG6.lt
  have hR7 := hR6.below k7 (by omega)
  have hk7 := hk6.trans (k7.mono hk6.size)
  clear h6 hA6 hT6 hG6 hR6 hk6 k7 hs6
  have t9 : w7.cell? ⟨s9, 0, none⟩ = some (.slice oa E.length oc) := hT7.cell 0 rfl
  have g0 : w7.cell? ⟨g, 0, none⟩ = some (.int .i64 go) := hG7.cell 0 rfl
  have g1 : w7.cell? ⟨g, 1, none⟩ = some (.int .i64 gm) := hG7.cell 1 rfl
  have g2 : w7.cell? ⟨g, 2, none⟩ = some (.int .i64 gf) := hG7.cell 2 rfl
  cases hh : hasR E f1
  · have hat : atI E f1 = -1 := by unfold atI; rw [if_neg (by rw [hh]; decide)]
    have hz : getE E f1 = ⟨0, 0, 0⟩ := by unfold getE; rw [getR_none hh]; rfl
    have hgz := HGE.out.symm.trans hz
    simp only [Ent.mk.injEq] at hgz
    obtain ⟨rfl, rfl, rfl⟩ := hgz
    rw [hat]
    clear hat hz hh HGE
    go_wp2_with fail
    refine wp_onlyN ?_
    have hAd := hA7.step (Below.refl _ w7).drew
    have hTd := hT7.below (Below.refl _ w7).drew hT7.lt
    have hGd := hG7.below (Below.refl _ w7).drew hG7.lt
    have hd := h7.step (Below.refl _ w7).drew
    have hRd := hR7.below (Below.refl w7.heap.size w7).drew (by have := hT7.lt; omega)
    have hkd : Below w0.heap.size w0 w7.drew := hk7.trans ((Below.refl w7.heap.size w7).drew.mono hk7.size)
    refine wp_region_held_drew (S := A0S s9 g 0 0 (.slice oa E.length oc) ⟨0, 0, 0⟩) (by kernel_rfl) ⟨t9, g0, g1, g2⟩ (fun hHeld => ?_)
    replace t9 : w7.drew.cell? ⟨s9, 0, none⟩ = some (.slice oa E.length oc) := t9
    replace g0 : w7.drew.cell? ⟨g, 0, none⟩ = some (.int .i64 _) := g0
    replace g1 : w7.drew.cell? ⟨g, 1, none⟩ = some (.int .i64 _) := g1
    replace g2 : w7.drew.cell? ⟨g, 2, none⟩ = some (.int .i64 _) := g2
    clear hA7 hT7 hG7 h7 hR7 hk7
    change wpAnyH _ _ _ _ _ _ _ _ w7.drew
    generalize w7.drew = w8 at hAd hTd hGd hd hRd hkd t9 g0 g1 g2 hHeld ⊢
    have cr : w8.cell? ⟨s + 1 + 1, 0, none⟩ = some (.slice none 0 0) := hAd.r.cell 0 rfl
    have fr := hAd.r.frozen 0
    refine wpAnyH_take (i := 0) (v := ?_) rfl (by kernel_rfl) (by kernel_rfl) (by kernel_rfl) (fun _ _ _ h => h) (Or.inl ⟨by rfl, ?_⟩) (by assumption) ?_
    rotate_left
    · (intro Y hSw; (try dsimp only at hSw); obtain ⟨hS0, hS1, hS2, hS3⟩ := hSw; go_simp; try with_reducible rfl)
    try simp only [Act.put, List.getElem_toArray, List.getElem_cons_zero, List.getElem_cons_succ, List.setIfInBounds_toArray, List.set_cons_zero, List.set_cons_succ]
    refine wpAnyH_take (i := 1) (v := ?_) rfl (by kernel_rfl) (by kernel_rfl) (by kernel_rfl) (fun _ _ _ h => h) (Or.inl ⟨by rfl, ?_⟩) (by assumption) ?_
    rotate_left
    · (intro Y hSw; (try dsimp only at hSw); obtain ⟨hS0, hS1, hS2, hS3⟩ := hSw; go_simp; try with_reducible rfl)
    try simp only [Act.put, List.getElem_toArray, List.getElem_cons_zero, List.getElem_cons_succ, List.setIfInBounds_toArray, List.set_cons_zero, List.set_cons_succ]
    refine wpAnyH_take (i := 2) (v := ?_) rfl (by kernel_rfl) (by kernel_rfl) (by kernel_rfl) (fun _ _ _ h => h) (Or.inl ⟨by rfl, ?_⟩) (by assumption) ?_
    rotate_left
    · (intro Y hSw; (try dsimp only at hSw); obtain ⟨hS0, hS1, hS2, hS3⟩ := hSw; go_simp; try with_reducible rfl)
    try simp only [Act.put, List.getElem_toArray, List.getElem_cons_zero, List.getElem_cons_succ, List.setIfInBounds_toArray, List.set_cons_zero, List.set_cons_succ]
    refine wpAnyH_take (i := 4) (v := ?_) rfl (by kernel_rfl) (by kernel_rfl) (by kernel_rfl) (fun _ _ _ h => h) (Or.inl ⟨by rfl, ?_⟩) (by assumption) ?_
    rotate_left
    · (intro Y hSw; (try dsimp only at hSw); obtain ⟨hS0, hS1, hS2, hS3⟩ := hSw; go_simp; try with_reducible rfl)
    try simp only [Act.put, List.getElem_toArray, List.getElem_cons_zero, List.getElem_cons_succ, List.setIfInBounds_toArray, List.set_cons_zero, List.set_cons_succ]
    refine wpAnyH_ready (rs := [3]) (by kernel_rfl) (by simp) ?_
    refine AllReadyH.cons rfl (fun K hK => ?_) AllReadyH.nil
    go_simp
    refine (num_calls _ _).mono ?_; rintro e _ ⟨rfl, rfl⟩
    go_simp
    refine hK.out _ _ (⟨t9, g0, g1, g2⟩) (fun hHeld => ?_)
    clear hK K
    try simp only [Act.put, List.getElem_toArray, List.getElem_cons_zero, List.getElem_cons_succ, List.setIfInBounds_toArray, List.set_cons_zero, List.set_cons_succ]
    refine wpAnyH_take (i := 5) (v := ?_) rfl (by kernel_rfl) (by kernel_rfl) (by kernel_rfl) (fun _ _ _ h => h) (Or.inl ⟨by rfl, ?_⟩) (by assumption) ?_
    rotate_left
    · (intro Y hSw; (try dsimp only at hSw); obtain ⟨hS0, hS1, hS2, hS3⟩ := hSw; go_simp; try with_reducible rfl)
    try simp only [Act.put, List.getElem_toArray, List.getElem_cons_zero, List.getElem_cons_succ, List.setIfInBounds_toArray, List.set_cons_zero, List.set_cons_succ]
    refine wpAnyH_take (i := 6) (v := ?_) rfl (by kernel_rfl) (by kernel_rfl) (by kernel_rfl) (fun _ _ _ h => h) (Or.inl ⟨by rfl, ?_⟩) (by assumption) ?_
    rotate_left
    · (intro Y hSw; (try dsimp only at hSw); obtain ⟨hS0, hS1, hS2, hS3⟩ := hSw; go_simp; try with_reducible rfl)
    try simp only [Act.put, List.getElem_toArray, List.getElem_cons_zero, List.getElem_cons_succ, List.setIfInBounds_toArray, List.set_cons_zero, List.set_cons_succ]
    refine wpAnyH_take (i := 7) (v := ?_) rfl (by kernel_rfl) (by kernel_rfl) (by kernel_rfl) (fun _ _ _ h => h) (Or.inl ⟨by rfl, ?_⟩) (by assumption) ?_
    rotate_left
    · (intro Y hSw; (try dsimp only at hSw); obtain ⟨hS0, hS1, hS2, hS3⟩ := hSw; go_simp; try with_reducible rfl)
    try simp only [Act.put, List.getElem_toArray, List.getElem_cons_zero, List.getElem_cons_succ, List.setIfInBounds_toArray, List.set_cons_zero, List.set_cons_succ]
    refine wpAnyH_take (i := 8) (v := ?_) rfl (by kernel_rfl) (by kernel_rfl) (by kernel_rfl) (fun _ _ _ h => h) (Or.inl ⟨by rfl, ?_⟩) (by assumption) ?_
    rotate_left
    · (intro Y hSw; (try dsimp only at hSw); obtain ⟨hS0, hS1, hS2, hS3⟩ := hSw; go_simp; try with_reducible rfl)
    try simp only [Act.put, List.getElem_toArray, List.getElem_cons_zero, List.getElem_cons_succ, List.setIfInBounds_toArray, List.set_cons_zero, List.set_cons_succ]
    refine wpAnyH_take (i := 9) (v := ?_) rfl (by kernel_rfl) (by kernel_rfl) (by kernel_rfl) (fun _ _ _ h => h) (Or.inl ⟨by rfl, ?_⟩) (by assumption) ?_
    rotate_left
    · (intro Y hSw; (try dsimp only at hSw); obtain ⟨hS0, hS1, hS2, hS3⟩ := hSw; go_simp; try with_reducible rfl)
    try simp only [Act.put, List.getElem_toArray, List.getElem_cons_zero, List.getElem_cons_succ, List.setIfInBounds_toArray, List.set_cons_zero, List.set_cons_succ]
    refine wpAnyH_take (i := 10) (v := ?_) rfl (by kernel_rfl) (by kernel_rfl) (by kernel_rfl) (fun _ _ _ h => h) (Or.inl ⟨by rfl, ?_⟩) (by assumption) ?_
    rotate_left
    · (intro Y hSw; (try dsimp only at hSw); obtain ⟨hS0, hS1, hS2, hS3⟩ := hSw; go_simp; try with_reducible rfl)
    try simp only [Act.put, List.getElem_toArray, List.getElem_cons_zero, List.getElem_cons_succ, List.setIfInBounds_toArray, List.set_cons_zero, List.set_cons_succ]
    refine wpAnyH_take (i := 11) (v := ?_) rfl (by kernel_rfl) (by kernel_rfl) (by kernel_rfl) (fun _ _ _ h => h) (Or.inl ⟨by rfl, ?_⟩) (by assumption) ?_
    rotate_left
    · (intro Y hSw; (try dsimp only at hSw); obtain ⟨hS0, hS1, hS2, hS3⟩ := hSw; go_simp; try with_reducible rfl)
    try simp only [Act.put, List.getElem_toArray, List.getElem_cons_zero, List.getElem_cons_succ, List.setIfInBounds_toArray, List.set_cons_zero, List.set_cons_succ]
    refine wpAnyH_take (i := 12) (v := ?_) rfl (by kernel_rfl) (by kernel_rfl) (by kernel_rfl) (fun _ _ _ h => h) (Or.inl ⟨by rfl, ?_⟩) (by assumption) ?_
    rotate_left
    · (intro Y hSw; (try dsimp only at hSw); obtain ⟨hS0, hS1, hS2, hS3⟩ := hSw; go_simp; try with_reducible rfl)
    try simp only [Act.put, List.getElem_toArray, List.getElem_cons_zero, List.getElem_cons_succ, List.setIfInBounds_toArray, List.set_cons_zero, List.set_cons_succ]
    refine wpAnyH_take (i := 13) (v := ?_) rfl (by kernel_rfl) (by kernel_rfl) (by kernel_rfl) (fun _ _ _ h => h) (Or.inl ⟨by rfl, ?_⟩) (by assumption) ?_
    rotate_left
    · (intro Y hSw; (try dsimp only at hSw); obtain ⟨hS0, hS1, hS2, hS3⟩ := hSw; go_simp; try with_reducible rfl)
    try simp only [Act.put, List.getElem_toArray, List.getElem_cons_zero, List.getElem_cons_succ, List.setIfInBounds_toArray, List.set_cons_zero, List.set_cons_succ]
    refine wpAnyH_take (i := 14) (v := ?_) rfl (by kernel_rfl) (by kernel_rfl) (by kernel_rfl) (fun _ _ _ h => h) (Or.inl ⟨by rfl, ?_⟩) (by assumption) ?_
    rotate_left
    · (intro Y hSw; (try dsimp only at hSw); obtain ⟨hS0, hS1, hS2, hS3⟩ := hSw; go_simp; try with_reducible rfl)
    try simp only [Act.put, List.getElem_toArray, List.getElem_cons_zero, List.getElem_cons_succ, List.setIfInBounds_toArray, List.set_cons_zero, List.set_cons_succ]
    refine wpAnyH_take (i := 15) (v := undef) rfl (by kernel_rfl) (by kernel_rfl) (by kernel_rfl) (fun _ _ _ h => h) (Or.inr ⟨by rfl, rfl⟩) (by assumption) ?_
    try simp only [Act.put, List.getElem_toArray, List.getElem_cons_zero, List.getElem_cons_succ, List.setIfInBounds_toArray, List.set_cons_zero, List.set_cons_succ]
    refine wpAnyH_take (i := 16) (v := undef) rfl (by kernel_rfl) (by kernel_rfl) (by kernel_rfl) (fun _ _ _ h => h) (Or.inr ⟨by rfl, rfl⟩) (by assumption) ?_
    try simp only [Act.put, List.getElem_toArray, List.getElem_cons_zero, List.getElem_cons_succ, List.setIfInBounds_toArray, List.set_cons_zero, List.set_cons_succ]
    refine wpAnyH_take (i := 17) (v := undef) rfl (by kernel_rfl) (by kernel_rfl) (by kernel_rfl) (fun _ _ _ h => h) (Or.inr ⟨by rfl, rfl⟩) (by assumption) ?_
    try simp only [Act.put, List.getElem_toArray, List.getElem_cons_zero, List.getElem_cons_succ, List.setIfInBounds_toArray, List.set_cons_zero, List.set_cons_succ]
    refine wpAnyH_take (i := 18) (v := undef) rfl (by kernel_rfl) (by kernel_rfl) (by kernel_rfl) (fun _ _ _ h => h) (Or.inr ⟨by rfl, rfl⟩) (by assumption) ?_
    try simp only [Act.put, List.getElem_toArray, List.getElem_cons_zero, List.getElem_cons_succ, List.setIfInBounds_toArray, List.set_cons_zero, List.set_cons_succ]
    refine wpAnyH_take (i := 19) (v := undef) rfl (by kernel_rfl) (by kernel_rfl) (by kernel_rfl) (fun _ _ _ h => h) (Or.inr ⟨by rfl, rfl⟩) (by assumption) ?_
    try simp only [Act.put, List.getElem_toArray, List.getElem_cons_zero, List.getElem_cons_succ, List.setIfInBounds_toArray, List.set_cons_zero, List.set_cons_succ]
    refine wpAnyH_take (i := 20) (v := undef) rfl (by kernel_rfl) (by kernel_rfl) (by kernel_rfl) (fun _ _ _ h => h) (Or.inr ⟨by rfl, rfl⟩) (by assumption) ?_
    try simp only [Act.put, List.getElem_toArray, List.getElem_cons_zero, List.getElem_cons_succ, List.setIfInBounds_toArray, List.set_cons_zero, List.set_cons_succ]
    refine wpAnyH_take (i := 21) (v := undef) rfl (by kernel_rfl) (by kernel_rfl) (by kernel_rfl) (fun _ _ _ h => h) (Or.inr ⟨by rfl, rfl⟩) (by assumption) ?_
    try simp only [Act.put, List.getElem_toArray, List.getElem_cons_zero, List.getElem_cons_succ, List.setIfInBounds_toArray, List.set_cons_zero, List.set_cons_succ]
    refine wpAnyH_take (i := 22) (v := undef) rfl (by kernel_rfl) (by kernel_rfl) (by kernel_rfl) (fun _ _ _ h => h) (Or.inr ⟨by rfl, rfl⟩) (by assumption) ?_
    try simp only [Act.put, List.getElem_toArray, List.getElem_cons_zero, List.getElem_cons_succ, List.setIfInBounds_toArray, List.set_cons_zero, List.set_cons_succ]
    refine wpAnyH_take (i := 23) (v := ?_) rfl (by kernel_rfl) (by kernel_rfl) (by kernel_rfl) (fun _ _ _ h => h) (Or.inl ⟨by rfl, ?_⟩) (by assumption) ?_
    rotate_left
    · (intro Y hSw; (try dsimp only at hSw); obtain ⟨hS0, hS1, hS2, hS3⟩ := hSw; go_simp; try with_reducible rfl)
    try simp only [Act.put, List.getElem_toArray, List.getElem_cons_zero, List.getElem_cons_succ, List.setIfInBounds_toArray, List.set_cons_zero, List.set_cons_succ]
    refine wpAnyH_take (i := 24) (v := ?_) rfl (by kernel_rfl) (by kernel_rfl) (by kernel_rfl) (fun _ _ _ h => h) (Or.inl ⟨by rfl, ?_⟩) (by assumption) ?_
    rotate_left
    · (intro Y hSw; (try dsimp only at hSw); obtain ⟨hS0, hS1, hS2, hS3⟩ := hSw; go_simp; try with_reducible rfl)
    try simp only [Act.put, List.getElem_toArray, List.getElem_cons_zero, List.getElem_cons_succ, List.setIfInBounds_toArray, List.set_cons_zero, List.set_cons_succ]
    refine wpAnyH_take (i := 25) (v := ?_) rfl (by kernel_rfl) (by kernel_rfl) (by kernel_rfl) (fun _ _ _ h => h) (Or.inl ⟨by rfl, ?_⟩) (by assumption) ?_
    rotate_left
    · (intro Y hSw; (try dsimp only at hSw); obtain ⟨hS0, hS1, hS2, hS3⟩ := hSw; go_simp; try with_reducible rfl)
    try simp only [Act.put, List.getElem_toArray, List.getElem_cons_zero, List.getElem_cons_succ, List.setIfInBounds_toArray, List.set_cons_zero, List.set_cons_succ]
    refine wpAnyH_take (i := 26) (v := ?_) rfl (by kernel_rfl) (by kernel_rfl) (by kernel_rfl) (fun _ _ _ h => h) (Or.inl ⟨by rfl, ?_⟩) (by assumption) ?_
    rotate_left
    · (intro Y hSw; (try dsimp only at hSw); obtain ⟨hS0, hS1, hS2, hS3⟩ := hSw; go_simp; try with_reducible rfl)
    try simp only [Act.put, List.getElem_toArray, List.getElem_cons_zero, List.getElem_cons_succ, List.setIfInBounds_toArray, List.set_cons_zero, List.set_cons_succ]
    refine wpAnyH_take (i := 27) (v := ?_) rfl (by kernel_rfl) (by kernel_rfl) (by kernel_rfl) (fun _ _ _ h => h) (Or.inl ⟨by rfl, ?_⟩) (by assumption) ?_
    rotate_left
    · (intro Y hSw; (try dsimp only at hSw); obtain ⟨hS0, hS1, hS2, hS3⟩ := hSw; go_simp; try with_reducible rfl)
    try simp only [Act.put, List.getElem_toArray, List.getElem_cons_zero, List.getElem_cons_succ, List.setIfInBounds_toArray, List.set_cons_zero, List.set_cons_succ]
    refine wpAnyH_take (i := 28) (v := ?_) rfl (by kernel_rfl) (by kernel_rfl) (by kernel_rfl) (fun _ _ _ h => h) (Or.inl ⟨by rfl, ?_⟩) (by assumption) ?_
    rotate_left
    · (intro Y hSw; (try dsimp only at hSw); obtain ⟨hS0, hS1, hS2, hS3⟩ := hSw; go_simp; try with_reducible rfl)
    try simp only [Act.put, List.getElem_toArray, List.getElem_cons_zero, List.getElem_cons_succ, List.setIfInBounds_toArray, List.set_cons_zero, List.set_cons_succ]
    refine wpAnyH_take (i := 29) (v := ?_) rfl (by kernel_rfl) (by kernel_rfl) (by kernel_rfl) (fun _ _ _ h => h) (Or.inl ⟨by rfl, ?_⟩) (by assumption) ?_
    rotate_left
    · (intro Y hSw; (try dsimp only at hSw); obtain ⟨hS0, hS1, hS2, hS3⟩ := hSw; go_simp; try with_reducible rfl)
    try simp only [Act.put, List.getElem_toArray, List.getElem_cons_zero, List.getElem_cons_succ, List.setIfInBounds_toArray, List.set_cons_zero, List.set_cons_succ]
    refine wpAnyH_take (i := 30) (v := ?_) rfl (by kernel_rfl) (by kernel_rfl) (by kernel_rfl) (fun _ _ _ h => h) (Or.inl ⟨by rfl, ?_⟩) (by assumption) ?_
    rotate_left
    · (intro Y hSw; (try dsimp only at hSw); obtain ⟨hS0, hS1, hS2, hS3⟩ := hSw; go_simp; try with_reducible rfl)
    try simp only [Act.put, List.getElem_toArray, List.getElem_cons_zero, List.getElem_cons_succ, List.setIfInBounds_toArray, List.set_cons_zero, List.set_cons_succ]
    refine wpAnyH_take (i := 31) (v := ?_) rfl (by kernel_rfl) (by kernel_rfl) (by kernel_rfl) (fun _ _ _ h => h) (Or.inl ⟨by rfl, ?_⟩) (by assumption) ?_
    rotate_left
    · (intro Y hSw; (try dsimp only at hSw); obtain ⟨hS0, hS1, hS2, hS3⟩ := hSw; go_simp; try with_reducible rfl)
    try simp only [Act.put, List.getElem_toArray, List.getElem_cons_zero, List.getElem_cons_succ, List.setIfInBounds_toArray, List.set_cons_zero, List.set_cons_succ]
    refine wpAnyH_take (i := 32) (v := ?_) rfl (by kernel_rfl) (by kernel_rfl) (by kernel_rfl) (fun _ _ _ h => h) (Or.inl ⟨by rfl, ?_⟩) (by assumption) ?_
    rotate_left
    · (intro Y hSw; (try dsimp only at hSw); obtain ⟨hS0, hS1, hS2, hS3⟩ := hSw; go_simp; try with_reducible rfl)
    try simp only [Act.put, List.getElem_toArray, List.getElem_cons_zero, List.getElem_cons_succ, List.setIfInBounds_toArray, List.set_cons_zero, List.set_cons_succ]
    refine wpAnyH_take (i := 33) (v := ?_) rfl (by kernel_rfl) (by kernel_rfl) (by kernel_rfl) (fun _ _ _ h => h) (Or.inl ⟨by rfl, ?_⟩) (by assumption) ?_
    rotate_left
    · (intro Y hSw; (try dsimp only at hSw); obtain ⟨hS0, hS1, hS2, hS3⟩ := hSw; go_simp; try with_reducible rfl)
    try simp only [Act.put, List.getElem_toArray, List.getElem_cons_zero, List.getElem_cons_succ, List.setIfInBounds_toArray, List.set_cons_zero, List.set_cons_succ]
    refine wpAnyH_take (i := 34) (v := ?_) rfl (by kernel_rfl) (by kernel_rfl) (by kernel_rfl) (fun _ _ _ h => h) (Or.inl ⟨by rfl, ?_⟩) (by assumption) ?_
    rotate_left
    · (intro Y hSw; (try dsimp only at hSw); obtain ⟨hS0, hS1, hS2, hS3⟩ := hSw; go_simp; try with_reducible rfl)
    try simp only [Act.put, List.getElem_toArray, List.getElem_cons_zero, List.getElem_cons_succ, List.setIfInBounds_toArray, List.set_cons_zero, List.set_cons_succ]
    refine wpAnyH_ready (rs := [35]) (by kernel_rfl) (by simp) ?_
    refine AllReadyH.cons rfl (fun K hK => ?_) AllReadyH.nil
    go_simp
    have hA8 := hAd.set (.slice oa E.length oc)
    refine hK.out _ _ (⟨(hTd.setOther ⟨s + 1 + 1, 0, none⟩ _ (by dsimp only; omega)).cell 0 rfl, (hGd.setOther ⟨s + 1 + 1, 0, none⟩ _ (by dsimp only; omega)).cell 0 rfl, (hGd.setOther ⟨s + 1 + 1, 0, none⟩ _ (by dsimp only; omega)).cell 1 rfl, (hGd.setOther ⟨s + 1 + 1, 0, none⟩ _ (by dsimp only; omega)).cell 2 rfl⟩) (fun hHeld => ?_)
    clear hK K
    try simp only [Act.put, List.getElem_toArray, List.getElem_cons_zero, List.getElem_cons_succ, List.setIfInBounds_toArray, List.set_cons_zero, List.set_cons_succ]
    refine wpAnyH_take (i := 36) (v := ?_) rfl (by kernel_rfl) (by kernel_rfl) (by kernel_rfl) (fun _ _ _ h => h) (Or.inl ⟨by rfl, ?_⟩) (by assumption) ?_
    rotate_left
    · (intro Y hSw; (try dsimp only at hSw); obtain ⟨hS0, hS1, hS2, hS3⟩ := hSw; go_simp; try with_reducible rfl)
    try simp only [Act.put, List.getElem_toArray, List.getElem_cons_zero, List.getElem_cons_succ, List.setIfInBounds_toArray, List.set_cons_zero, List.set_cons_succ]
    refine wpAnyH_done (by kernel_rfl) ?_ _
    rw [onlyN_normal]
    have k8 : Below s w8 (w8.setCell ⟨s + 1 + 1, 0, none⟩ (.slice oa E.length oc)) := (Below.refl s w8).setCell (p := ⟨s + 1 + 1, 0, none⟩) (by dsimp only; omega) _
    have hlt := hd.blk.lt
    have hbs : b < s := by have := H.out.t.blk.lt; omega
    have hd8 := hd.below k8 hbs hml
    have hR8 : RowAt (w8.setCell ⟨s + 1 + 1, 0, none⟩ (.slice oa E.length oc)).heap.size (w8.setCell ⟨s + 1 + 1, 0, none⟩ (.slice oa E.length oc)) (.slice oa E.length oc) E.length (rowT E) := (hRd.setBox hAd.r (fun i h => by cases h) _).mono (Nat.le_of_lt (by simpa using hTd.lt))
    go_wp2_with fail
    exact ret_pt rfl (s + 1 + 1) rfl hA8.r rfl rfl ⟨b, m, _, rfl, by rw [HE.out]; exact ⟨⟨hd8, hEg, hR8, hkd.setCell (p := ⟨s + 1 + 1, 0, none⟩) (by dsimp only; omega) _, hlo⟩, hA8.c, .inl ⟨rfl, rfl⟩⟩⟩
  · obtain ⟨i, hi, hat, hgi⟩ := atI_at hEg.srt hh
    obtain ⟨b1, o1, rfl, hb1, q⟩ := hR7.gett i hi
    have hy : E[i].2 = ⟨go, gm, gf⟩ := by rw [← hgi]; exact HGE.out
    obtain ⟨⟨yk, yo, ym, yf⟩, hx⟩ : ∃ y, E[i] = y := ⟨_, rfl⟩
    rw [hx] at q hy
    simp only [Ent.mk.injEq] at hy
    obtain ⟨rfl, rfl, rfl⟩ := hy
    rw [hat]
    have HX := Lib.hid hx
    clear hat hgi hh HGE hx
    have i0 : (0 : Int) ≤ i := by omega
    have i1 : (i : Int) < E.length := by omega
    go_wp2_with fail
    refine wp_onlyN ?_
    have hAd := hA7.step (Below.refl _ w7).drew
    have hTd := hT7.below (Below.refl _ w7).drew hT7.lt
    have hGd := hG7.below (Below.refl _ w7).drew hG7.lt
    have hd := h7.step (Below.refl _ w7).drew
    have hRd := hR7.below (Below.refl w7.heap.size w7).drew (by have := hT7.lt; omega)
    have hkd : Below w0.heap.size w0 w7.drew := hk7.trans ((Below.refl w7.heap.size w7).drew.mono hk7.size)
    refine wp_region_held_drew (S := A1S s9 g b1 (o1 + i * 4) (.slice (some ⟨b1, o1, none⟩) E.length oc) (yk, ⟨yo, ym, yf⟩)) (by kernel_rfl) ⟨t9, g0, g1, g2, q.c1, q.c2, q.c3⟩ (fun hHeld => ?_)
    replace t9 : w7.drew.cell? ⟨s9, 0, none⟩ = some (.slice (some ⟨b1, o1, none⟩) E.length oc) := t9
    replace g0 : w7.drew.cell? ⟨g, 0, none⟩ = some (.int .i64 _) := g0
    replace g1 : w7.drew.cell? ⟨g, 1, none⟩ = some (.int .i64 _) := g1
    replace g2 : w7.drew.cell? ⟨g, 2, none⟩ = some (.int .i64 _) := g2
    clear hA7 hT7 hG7 h7 hR7 hk7
    change wpAnyH _ _ _ _ _ _ _ _ w7.drew
    generalize w7.drew = w8 at hAd hTd hGd hd hRd hkd t9 g0 g1 g2 hHeld ⊢
    have cr : w8.cell? ⟨s + 1 + 1, 0, none⟩ = some (.slice none 0 0) := hAd.r.cell 0 rfl
    have fr := hAd.r.frozen 0
    refine wpAnyH_take (i := 0) (v := ?_) rfl (by kernel_rfl) (by kernel_rfl) (by kernel_rfl) (fun _ _ _ h => h) (Or.inl ⟨by rfl, ?_⟩) (by assumption) ?_
    rotate_left
    · (intro Y hSw; (try dsimp only at hSw); obtain ⟨hS0, hS1, hS2, hS3, hS4, hS5, hS6⟩ := hSw; go_simp; try with_reducible rfl)
    try simp only [Act.put, List.getElem_toArray, List.getElem_cons_zero, List.getElem_cons_succ, List.setIfInBounds_toArray, List.set_cons_zero, List.set_cons_succ]
    refine wpAnyH_take (i := 1) (v := ?_) rfl (by kernel_rfl) (by kernel_rfl) (by kernel_rfl) (fun _ _ _ h => h) (Or.inl ⟨by rfl, ?_⟩) (by assumption) ?_
    rotate_left
    · (intro Y hSw; (try dsimp only at hSw); obtain ⟨hS0, hS1, hS2, hS3, hS4, hS5, hS6⟩ := hSw; go_simp; try with_reducible rfl)
    try simp only [Act.put, List.getElem_toArray, List.getElem_cons_zero, List.getElem_cons_succ, List.setIfInBounds_toArray, List.set_cons_zero, List.set_cons_succ]
    refine wpAnyH_take (i := 2) (v := ?_) rfl (by kernel_rfl) (by kernel_rfl) (by kernel_rfl) (fun _ _ _ h => h) (Or.inl ⟨by rfl, ?_⟩) (by assumption) ?_
    rotate_left
    · (intro Y hSw; (try dsimp only at hSw); obtain ⟨hS0, hS1, hS2, hS3, hS4, hS5, hS6⟩ := hSw; go_simp; try with_reducible rfl)
    try simp only [Act.put, List.getElem_toArray, List.getElem_cons_zero, List.getElem_cons_succ, List.setIfInBounds_toArray, List.set_cons_zero, List.set_cons_succ]
    refine wpAnyH_take (i := 4) (v := ?_) rfl (by kernel_rfl) (by kernel_rfl) (by kernel_rfl) (fun _ _ _ h => h) (Or.inl ⟨by rfl, ?_⟩) (by assumption) ?_
    rotate_left
    · (intro Y hSw; (try dsimp only at hSw); obtain ⟨hS0, hS1, hS2, hS3, hS4, hS5, hS6⟩ := hSw; go_simp; try with_reducible rfl)
    try simp only [Act.put, List.getElem_toArray, List.getElem_cons_zero, List.getElem_cons_succ, List.setIfInBounds_toArray, List.set_cons_zero, List.set_cons_succ]
    refine wpAnyH_ready (rs := [3]) (by kernel_rfl) (by simp) ?_
    refine AllReadyH.cons rfl (fun K hK => ?_) AllReadyH.nil
    go_simp
    refine (num_calls _ _).mono ?_; rintro e _ ⟨rfl, rfl⟩
    go_simp
    refine hK.out _ _ (hHeld) (fun hHeld => ?_)
    clear hK K
    try simp only [Act.put, List.getElem_toArray, List.getElem_cons_zero, List.getElem_cons_succ, List.setIfInBounds_toArray, List.set_cons_zero, List.set_cons_succ]
    refine wpAnyH_take (i := 5) (v := ?_) rfl (by kernel_rfl) (by kernel_rfl) (by kernel_rfl) (fun _ _ _ h => h) (Or.inl ⟨by rfl, ?_⟩) (by assumption) ?_
    rotate_left
    · (intro Y hSw; (try dsimp only at hSw); obtain ⟨hS0, hS1, hS2, hS3, hS4, hS5, hS6⟩ := hSw; go_simp; try with_reducible rfl)
    try simp only [Act.put, List.getElem_toArray, List.getElem_cons_zero, List.getElem_cons_succ, List.setIfInBounds_toArray, List.set_cons_zero, List.set_cons_succ]
    refine wpAnyH_take (i := 6) (v := ?_) rfl (by kernel_rfl) (by kernel_rfl) (by kernel_rfl) (fun _ _ _ h => h) (Or.inl ⟨by rfl, ?_⟩) (by assumption) ?_
    rotate_left
    · (intro Y hSw; (try dsimp only at hSw); obtain ⟨hS0, hS1, hS2, hS3, hS4, hS5, hS6⟩ := hSw; go_simp; try with_reducible rfl)
    try simp only [Act.put, List.getElem_toArray, List.getElem_cons_zero, List.getElem_cons_succ, List.setIfInBounds_toArray, List.set_cons_zero, List.set_cons_succ]
    refine wpAnyH_take (i := 7) (v := ?_) rfl (by kernel_rfl) (by kernel_rfl) (by kernel_rfl) (fun _ _ _ h => h) (Or.inl ⟨by rfl, ?_⟩) (by assumption) ?_
    rotate_left
    · (intro Y hSw; (try dsimp only at hSw); obtain ⟨hS0, hS1, hS2, hS3, hS4, hS5, hS6⟩ := hSw; go_simp; try with_reducible rfl)
    try simp only [Act.put, List.getElem_toArray, List.getElem_cons_zero, List.getElem_cons_succ, List.setIfInBounds_toArray, List.set_cons_zero, List.set_cons_succ]
    refine wpAnyH_take (i := 8) (v := ?_) rfl (by kernel_rfl) (by kernel_rfl) (by kernel_rfl) (fun _ _ _ h => h) (Or.inl ⟨by rfl, ?_⟩) (by assumption) ?_
    rotate_left
    · (intro Y hSw; (try dsimp only at hSw); obtain ⟨hS0, hS1, hS2, hS3, hS4, hS5, hS6⟩ := hSw; go_simp; try with_reducible rfl)
    try simp only [Act.put, List.getElem_toArray, List.getElem_cons_zero, List.getElem_cons_succ, List.setIfInBounds_toArray, List.set_cons_zero, List.set_cons_succ]
    refine wpAnyH_take (i := 9) (v := ?_) rfl (by kernel_rfl) (by kernel_rfl) (by kernel_rfl) (fun _ _ _ h => h) (Or.inl ⟨by rfl, ?_⟩) (by assumption) ?_
    rotate_left
    · (intro Y hSw; (try dsimp only at hSw); obtain ⟨hS0, hS1, hS2, hS3, hS4, hS5, hS6⟩ := hSw; go_simp; try with_reducible rfl)
    try simp only [Act.put, List.getElem_toArray, List.getElem_cons_zero, List.getElem_cons_succ, List.setIfInBounds_toArray, List.set_cons_zero, List.set_cons_succ]
    refine wpAnyH_take (i := 10) (v := ?_) rfl (by kernel_rfl) (by kernel_rfl) (by kernel_rfl) (fun _ _ _ h => h) (Or.inl ⟨by rfl, ?_⟩) (by assumption) ?_
    rotate_left
    · (intro Y hSw; (try dsimp only at hSw); obtain ⟨hS0, hS1, hS2, hS3, hS4, hS5, hS6⟩ := hSw; go_simp; try with_reducible rfl)
    try simp only [Act.put, List.getElem_toArray, List.getElem_cons_zero, List.getElem_cons_succ, List.setIfInBounds_toArray, List.set_cons_zero, List.set_cons_succ]
    refine wpAnyH_take (i := 11) (v := ?_) rfl (by kernel_rfl) (by kernel_rfl) (by kernel_rfl) (fun _ _ _ h => h) (Or.inl ⟨by rfl, ?_⟩) (by assumption) ?_
    rotate_left
    · (intro Y hSw; (try dsimp only at hSw); obtain ⟨hS0, hS1, hS2, hS3, hS4, hS5, hS6⟩ := hSw; go_simp; try with_reducible rfl)
    try simp only [Act.put, List.getElem_toArray, List.getElem_cons_zero, List.getElem_cons_succ, List.setIfInBounds_toArray, List.set_cons_zero, List.set_cons_succ]
    refine wpAnyH_take (i := 12) (v := ?_) rfl (by kernel_rfl) (by kernel_rfl) (by kernel_rfl) (fun _ _ _ h => h) (Or.inl ⟨by rfl, ?_⟩) (by assumption) ?_
    rotate_left
    · (intro Y hSw; (try dsimp only at hSw); obtain ⟨hS0, hS1, hS2, hS3, hS4, hS5, hS6⟩ := hSw; go_simp; try with_reducible rfl)
    try simp only [Act.put, List.getElem_toArray, List.getElem_cons_zero, List.getElem_cons_succ, List.setIfInBounds_toArray, List.set_cons_zero, List.set_cons_succ]
    refine wpAnyH_take (i := 13) (v := ?_) rfl (by kernel_rfl) (by kernel_rfl) (by kernel_rfl) (fun _ _ _ h => h) (Or.inl ⟨by rfl, ?_⟩) (by assumption) ?_
    rotate_left
    · (intro Y hSw; (try dsimp only at hSw); obtain ⟨hS0, hS1, hS2, hS3, hS4, hS5, hS6⟩ := hSw; go_simp; try with_reducible rfl)
    try simp only [Act.put, List.getElem_toArray, List.getElem_cons_zero, List.getElem_cons_succ, List.setIfInBounds_toArray, List.set_cons_zero, List.set_cons_succ]
    refine wpAnyH_take (i := 14) (v := ?_) rfl (by kernel_rfl) (by kernel_rfl) (by kernel_rfl) (fun _ _ _ h => h) (Or.inl ⟨by rfl, ?_⟩) (by assumption) ?_
    rotate_left
    · (intro Y hSw; (try dsimp only at hSw); obtain ⟨hS0, hS1, hS2, hS3, hS4, hS5, hS6⟩ := hSw; go_simp; try with_reducible rfl)
    try simp only [Act.put, List.getElem_toArray, List.getElem_cons_zero, List.getElem_cons_succ, List.setIfInBounds_toArray, List.set_cons_zero, List.set_cons_succ]
    refine wpAnyH_take (i := 15) (v := ?_) rfl (by kernel_rfl) (by kernel_rfl) (by kernel_rfl) (fun _ _ _ h => h) (Or.inl ⟨by rfl, ?_⟩) (by assumption) ?_
    rotate_left
    · (intro Y hSw; (try dsimp only at hSw); obtain ⟨hS0, hS1, hS2, hS3, hS4, hS5, hS6⟩ := hSw; go_simp; try with_reducible rfl)
    try simp only [Act.put, List.getElem_toArray, List.getElem_cons_zero, List.getElem_cons_succ, List.setIfInBounds_toArray, List.set_cons_zero, List.set_cons_succ]
    refine wpAnyH_take (i := 16) (v := ?_) rfl (by kernel_rfl) (by kernel_rfl) (by kernel_rfl) (fun _ _ _ h => h) (Or.inl ⟨by rfl, ?_⟩) (by assumption) ?_
    rotate_left
    · (intro Y hSw; (try dsimp only at hSw); obtain ⟨hS0, hS1, hS2, hS3, hS4, hS5, hS6⟩ := hSw; go_simp; try with_reducible rfl)
    try simp only [Act.put, List.getElem_toArray, List.getElem_cons_zero, List.getElem_cons_succ, List.setIfInBounds_toArray, List.set_cons_zero, List.set_cons_succ]
    refine wpAnyH_take (i := 17) (v := ?_) rfl (by kernel_rfl) (by kernel_rfl) (by kernel_rfl) (fun _ _ _ h => h) (Or.inl ⟨by rfl, ?_⟩) (by assumption) ?_
    rotate_left
    · (intro Y hSw; (try dsimp only at hSw); obtain ⟨hS0, hS1, hS2, hS3, hS4, hS5, hS6⟩ := hSw; go_simp; try with_reducible rfl)
    try simp only [Act.put, List.getElem_toArray, List.getElem_cons_zero, List.getElem_cons_succ, List.setIfInBounds_toArray, List.set_cons_zero, List.set_cons_succ]
    refine wpAnyH_take (i := 18) (v := ?_) rfl (by kernel_rfl) (by kernel_rfl) (by kernel_rfl) (fun _ _ _ h => h) (Or.inl ⟨by rfl, ?_⟩) (by assumption) ?_
    rotate_left
    · (intro Y hSw; (try dsimp only at hSw); obtain ⟨hS0, hS1, hS2, hS3, hS4, hS5, hS6⟩ := hSw; go_simp; try with_reducible rfl)
    try simp only [Act.put, List.getElem_toArray, List.getElem_cons_zero, List.getElem_cons_succ, List.setIfInBounds_toArray, List.set_cons_zero, List.set_cons_succ]
    refine wpAnyH_take (i := 19) (v := ?_) rfl (by kernel_rfl) (by kernel_rfl) (by kernel_rfl) (fun _ _ _ h => h) (Or.inl ⟨by rfl, ?_⟩) (by assumption) ?_
    rotate_left
    · (intro Y hSw; (try dsimp only at hSw); obtain ⟨hS0, hS1, hS2, hS3, hS4, hS5, hS6⟩ := hSw; go_simp; try with_reducible rfl)
    try simp only [Act.put, List.getElem_toArray, List.getElem_cons_zero, List.getElem_cons_succ, List.setIfInBounds_toArray, List.set_cons_zero, List.set_cons_succ]
    refine wpAnyH_take (i := 20) (v := ?_) rfl (by kernel_rfl) (by kernel_rfl) (by kernel_rfl) (fun _ _ _ h => h) (Or.inl ⟨by rfl, ?_⟩) (by assumption) ?_
    rotate_left
    · (intro Y hSw; (try dsimp only at hSw); obtain ⟨hS0, hS1, hS2, hS3, hS4, hS5, hS6⟩ := hSw; go_simp; try with_reducible rfl)
    try simp only [Act.put, List.getElem_toArray, List.getElem_cons_zero, List.getElem_cons_succ, List.setIfInBounds_toArray, List.set_cons_zero, List.set_cons_succ]
    refine wpAnyH_take (i := 21) (v := ?_) rfl (by kernel_rfl) (by kernel_rfl) (by kernel_rfl) (fun _ _ _ h => h) (Or.inl ⟨by rfl, ?_⟩) (by assumption) ?_
    rotate_left
    · (intro Y hSw; (try dsimp only at hSw); obtain ⟨hS0, hS1, hS2, hS3, hS4, hS5, hS6⟩ := hSw; go_simp; try with_reducible rfl)
    try simp only [Act.put, List.getElem_toArray, List.getElem_cons_zero, List.getElem_cons_succ, List.setIfInBounds_toArray, List.set_cons_zero, List.set_cons_succ]
    refine wpAnyH_take (i := 22) (v := ?_) rfl (by kernel_rfl) (by kernel_rfl) (by kernel_rfl) (fun _ _ _ h => h) (Or.inl ⟨by rfl, ?_⟩) (by assumption) ?_
    rotate_left
    · (intro Y hSw; (try dsimp only at hSw); obtain ⟨hS0, hS1, hS2, hS3, hS4, hS5, hS6⟩ := hSw; go_simp; try with_reducible rfl)
    try simp only [Act.put, List.getElem_toArray, List.getElem_cons_zero, List.getElem_cons_succ, List.setIfInBounds_toArray, List.set_cons_zero, List.set_cons_succ]
    refine wpAnyH_take (i := 23) (v := ?_) rfl (by kernel_rfl) (by kernel_rfl) (by kernel_rfl) (fun _ _ _ h => h) (Or.inl ⟨by rfl, ?_⟩) (by assumption) ?_
    rotate_left
    · (intro Y hSw; (try dsimp only at hSw); obtain ⟨hS0, hS1, hS2, hS3, hS4, hS5, hS6⟩ := hSw; go_simp; try with_reducible rfl)
    try simp only [Act.put, List.getElem_toArray, List.getElem_cons_zero, List.getElem_cons_succ, List.setIfInBounds_toArray, List.set_cons_zero, List.set_cons_succ]
    refine wpAnyH_take (i := 24) (v := ?_) rfl (by kernel_rfl) (by kernel_rfl) (by kernel_rfl) (fun _ _ _ h => h) (Or.inl ⟨by rfl, ?_⟩) (by assumption) ?_
    rotate_left
    · (intro Y hSw; (try dsimp only at hSw); obtain ⟨hS0, hS1, hS2, hS3, hS4, hS5, hS6⟩ := hSw; go_simp; try with_reducible rfl)
    try simp only [Act.put, List.getElem_toArray, List.getElem_cons_zero, List.getElem_cons_succ, List.setIfInBounds_toArray, List.set_cons_zero, List.set_cons_succ]
    refine wpAnyH_take (i := 25) (v := undef) rfl (by kernel_rfl) (by kernel_rfl) (by kernel_rfl) (fun _ _ _ h => h) (Or.inr ⟨by rfl, rfl⟩) (by assumption) ?_
    try simp only [Act.put, List.getElem_toArray, List.getElem_cons_zero, List.getElem_cons_succ, List.setIfInBounds_toArray, List.set_cons_zero, List.set_cons_succ]
    refine wpAnyH_take (i := 26) (v := undef) rfl (by kernel_rfl) (by kernel_rfl) (by kernel_rfl) (fun _ _ _ h => h) (Or.inr ⟨by rfl, rfl⟩) (by assumption) ?_
    try simp only [Act.put, List.getElem_toArray, List.getElem_cons_zero, List.getElem_cons_succ, List.setIfInBounds_toArray, List.set_cons_zero, List.set_cons_succ]
    refine wpAnyH_take (i := 27) (v := undef) rfl (by kernel_rfl) (by kernel_rfl) (by kernel_rfl) (fun _ _ _ h => h) (Or.inr ⟨by rfl, rfl⟩) (by assumption) ?_
    try simp only [Act.put, List.getElem_toArray, List.getElem_cons_zero, List.getElem_cons_succ, List.setIfInBounds_toArray, List.set_cons_zero, List.set_cons_succ]
    refine wpAnyH_take (i := 28) (v := undef) rfl (by kernel_rfl) (by kernel_rfl) (by kernel_rfl) (fun _ _ _ h => h) (Or.inr ⟨by rfl, rfl⟩) (by assumption) ?_
    try simp only [Act.put, List.getElem_toArray, List.getElem_cons_zero, List.getElem_cons_succ, List.setIfInBounds_toArray, List.set_cons_zero, List.set_cons_succ]
    refine wpAnyH_take (i := 29) (v := undef) rfl (by kernel_rfl) (by kernel_rfl) (by kernel_rfl) (fun _ _ _ h => h) (Or.inr ⟨by rfl, rfl⟩) (by assumption) ?_
    try simp only [Act.put, List.getElem_toArray, List.getElem_cons_zero, List.getElem_cons_succ, List.setIfInBounds_toArray, List.set_cons_zero, List.set_cons_succ]
    refine wpAnyH_take (i := 30) (v := undef) rfl (by kernel_rfl) (by kernel_rfl) (by kernel_rfl) (fun _ _ _ h => h) (Or.inr ⟨by rfl, rfl⟩) (by assumption) ?_
    try simp only [Act.put, List.getElem_toArray, List.getElem_cons_zero, List.getElem_cons_succ, List.setIfInBounds_toArray, List.set_cons_zero, List.set_cons_succ]
    refine wpAnyH_take (i := 31) (v := undef) rfl (by kernel_rfl) (by kernel_rfl) (by kernel_rfl) (fun _ _ _ h => h) (Or.inr ⟨by rfl, rfl⟩) (by assumption) ?_
    try simp only [Act.put, List.getElem_toArray, List.getElem_cons_zero, List.getElem_cons_succ, List.setIfInBounds_toArray, List.set_cons_zero, List.set_cons_succ]
    refine wpAnyH_take (i := 32) (v := ?_) rfl (by kernel_rfl) (by kernel_rfl) (by kernel_rfl) (fun _ _ _ h => h) (Or.inl ⟨by rfl, ?_⟩) (by assumption) ?_
    rotate_left
    · (intro Y hSw; (try dsimp only at hSw); obtain ⟨hS0, hS1, hS2, hS3, hS4, hS5, hS6⟩ := hSw; go_simp; try with_reducible rfl)
    try simp only [Act.put, List.getElem_toArray, List.getElem_cons_zero, List.getElem_cons_succ, List.setIfInBounds_toArray, List.set_cons_zero, List.set_cons_succ]
    refine wpAnyH_take (i := 33) (v := ?_) rfl (by kernel_rfl) (by kernel_rfl) (by kernel_rfl) (fun _ _ _ h => h) (Or.inl ⟨by rfl, ?_⟩) (by assumption) ?_
    rotate_left
    · (intro Y hSw; (try dsimp only at hSw); obtain ⟨hS0, hS1, hS2, hS3, hS4, hS5, hS6⟩ := hSw; go_simp; try with_reducible rfl)
    try simp only [Act.put, List.getElem_toArray, List.getElem_cons_zero, List.getElem_cons_succ, List.setIfInBounds_toArray, List.set_cons_zero, List.set_cons_succ]
    refine wpAnyH_take (i := 34) (v := ?_) rfl (by kernel_rfl) (by kernel_rfl) (by kernel_rfl) (fun _ _ _ h => h) (Or.inl ⟨by rfl, ?_⟩) (by assumption) ?_
    rotate_left
    · (intro Y hSw; (try dsimp only at hSw); obtain ⟨hS0, hS1, hS2, hS3, hS4, hS5, hS6⟩ := hSw; go_simp; try with_reducible rfl)
    try simp only [Act.put, List.getElem_toArray, List.getElem_cons_zero, List.getElem_cons_succ, List.setIfInBounds_toArray, List.set_cons_zero, List.set_cons_succ]
    refine wpAnyH_ready (rs := [35]) (by kernel_rfl) (by simp) ?_
    refine AllReadyH.cons rfl (fun K hK => ?_) AllReadyH.nil
    go_simp
    have hA8 := hAd.set (.slice (some ⟨b1, o1, none⟩) E.length oc)
    obtain ⟨b2, o2, e2, _, q8⟩ := (hRd.setBox hAd.r (fun i h => by cases h) (.slice (some ⟨b1, o1, none⟩) E.length oc)).gett i hi
    simp only [Option.some.injEq, Addr.mk.injEq, and_true] at e2
    obtain ⟨rfl, rfl⟩ := e2
    rw [HX.out] at q8
    refine hK.out _ _ (⟨(hTd.setOther ⟨s + 1 + 1, 0, none⟩ _ (by dsimp only; omega)).cell 0 rfl, (hGd.setOther ⟨s + 1 + 1, 0, none⟩ _ (by dsimp only; omega)).cell 0 rfl, (hGd.setOther ⟨s + 1 + 1, 0, none⟩ _ (by dsimp only; omega)).cell 1 rfl, (hGd.setOther ⟨s + 1 + 1, 0, none⟩ _ (by dsimp only; omega)).cell 2 rfl, q8.c1, q8.c2, q8.c3⟩) (fun hHeld => ?_)
    clear hK K
    try simp only [Act.put, List.getElem_toArray, List.getElem_cons_zero, List.getElem_cons_succ, List.setIfInBounds_toArray, List.set_cons_zero, List.set_cons_succ]
    refine wpAnyH_take (i := 36) (v := ?_) rfl (by kernel_rfl) (by kernel_rfl) (by kernel_rfl) (fun _ _ _ h => h) (Or.inl ⟨by rfl, ?_⟩) (by assumption) ?_
    rotate_left
    · (intro Y hSw; (try dsimp only at hSw); obtain ⟨hS0, hS1, hS2, hS3, hS4, hS5, hS6⟩ := hSw; go_simp; try with_reducible rfl)
    try simp only [Act.put, List.getElem_toArray, List.getElem_cons_zero, List.getElem_cons_succ, List.setIfInBounds_toArray, List.set_cons_zero, List.set_cons_succ]
    refine wpAnyH_done (by kernel_rfl) ?_ _
    rw [onlyN_normal]
    have k8 : Below s w8 (w8.setCell ⟨s + 1 + 1, 0, none⟩ (.slice (some ⟨b1, o1, none⟩) E.length oc)) := (Below.refl s w8).setCell (p := ⟨s + 1 + 1, 0, none⟩) (by dsimp only; omega) _
    have hlt := hd.blk.lt
    have hbs : b < s := by have := H.out.t.blk.lt; omega
    have hd8 := hd.below k8 hbs hml
    have hR8 : RowAt (w8.setCell ⟨s + 1 + 1, 0, none⟩ (.slice (some ⟨b1, o1, none⟩) E.length oc)).heap.size (w8.setCell ⟨s + 1 + 1, 0, none⟩ (.slice (some ⟨b1, o1, none⟩) E.length oc)) (.slice (some ⟨b1, o1, none⟩) E.length oc) E.length (rowT E) := (hRd.setBox hAd.r (fun i h => by cases h) _).mono (Nat.le_of_lt (by simpa using hTd.lt))
    go_wp2_with fail
    exact ret_pt rfl (s + 1 + 1) rfl hA8.r rfl rfl ⟨b, m, _, rfl, by rw [HE.out]; exact ⟨⟨hd8, hEg, hR8, hkd.setCell (p := ⟨s + 1 + 1, 0, none⟩) (by dsimp only; omega) _, hlo⟩, hA8.c, .inl ⟨rfl, rfl⟩⟩⟩
end Go.Proofs.Ytchepkihlnpfeaa
