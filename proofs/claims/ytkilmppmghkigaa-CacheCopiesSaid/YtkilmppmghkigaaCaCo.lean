/-
  Package pinfoldlaw18: CacheCopies. No condition.
-/
import Derived.Test.YtkilmppmghkigaaCaCa
import Derived.StillTailTactics
namespace Go.Proofs.Ytkilmppmghkigaa
open Go.RowKit
attribute [local go_sem] Oper.semAt_some
set_option maxHeartbeats 8000000
set_option maxRecDepth 8000

theorem RefV.keeps {B n : Nat} {W W' : World} {cs : Array Value} {R : Nat → List Int} (h : RefV B W cs R) (k : Keeps n W W') : RefV B W' cs R :=
  ⟨h.size, fun i hi => by obtain ⟨a, c, h1, h2, h3⟩ := h.row i hi; exact ⟨a, c, h1, h2.keeps k, h3⟩⟩
theorem quiet_load32 {C : World → Prop} {o : Oper} {a : Act} {K : Act → Prop} (x : Operand) (ho : o.op = .load 44 x) (g : Nat) (hx : a.eval x = .pointer (some ⟨g, 0, none⟩)) {cs : Array Value} {t : TypeId} (hB : ∀ w, C w → Blk w g cs t) (hs : cs.size = 32)
    (hk : K (a.put o.dst (.agg cs))) : o.quiet Try.prog a C K :=
  ⟨_, fun w hw => by unfold Oper.quietAt; rw [exec_load32 x ho g hx (hB w hw) hs]; exact ⟨rfl, rfl⟩, hk⟩
structure PlyC (ba off : Nat) (x : ActV) (Y : World) : Prop where
  c0 : Y.cell? ⟨ba, off, none⟩ = some (.int .i64 x.f0)
  c1 : Y.cell? ⟨ba, off + 1, none⟩ = some (.int .i64 x.f1)
  c2 : Y.cell? ⟨ba, off + 2, none⟩ = some (.int .i64 x.f2)
  c3 : Y.cell? ⟨ba, off + 3, none⟩ = some (.int .i64 x.f3)
theorem PlyS.c {ba off g : Nat} {x : ActV} {cs : Array Value} {Y : World} (h : PlyS ba off g x cs Y) : PlyC ba off x Y := ⟨h.c0, h.c1, h.c2, h.c3⟩
theorem PlyC.chg {ba off s : Nat} {x : ActV} {Y Z : World} (h : PlyC ba off x Y) (k : Chg s Y Z) (h1 : ba ≠ s) : PlyC ba off x Z := by
  have hl : ba < Y.heap.size := World.block_lt_of_cell? Y _ h.c0
  exact ⟨(World.cell?_of_block (a := ⟨ba, off, none⟩) (k.block ba hl h1)).trans h.c0, (World.cell?_of_block (a := ⟨ba, off + 1, none⟩) (k.block ba hl h1)).trans h.c1, (World.cell?_of_block (a := ⟨ba, off + 2, none⟩) (k.block ba hl h1)).trans h.c2,
    (World.cell?_of_block (a := ⟨ba, off + 3, none⟩) (k.block ba hl h1)).trans h.c3⟩
theorem sameB_comm (L1 L2 : Nat → List Int) (m : Nat) : sameB L1 L2 m = sameB L2 L1 m := by
  unfold sameB
  have : (fun i => decide (L1 i = L2 i)) = fun i => decide (L2 i = L1 i) := by funext i; exact decide_eq_decide.2 eq_comm
  rw [this]
/-- What stands while the slots are gone over. -/
structure Rng (w0 : World) (lc g br : Nat) (cs : Array Value) (L : Nat → List Int) (q : Int) (W : World) : Prop where
  n : Blk W (lc + 1) #[.int .i64 q] 3
  box : Blk W g cs 44
  ref : RefV lc W cs L
  res : Blk W br #[.bool false] 4
  bel : Below w0.heap.size w0 W
  le : lc + 2 ≤ W.heap.size
theorem Rng.keeps {w0 W W' : World} {lc g br m : Nat} {cs : Array Value} {L : Nat → List Int} {q : Int} (h : Rng w0 lc g br cs L q W) (k : Keeps m W W') (hm : w0.heap.size ≤ m) : Rng w0 lc g br cs L q W' :=
  ⟨h.n.keeps k, h.box.keeps k, h.ref.keeps k, h.res.keeps k, h.bel.keeps k hm, Nat.le_trans h.le k.size⟩
theorem Rng.step {w0 W W' : World} {lc g br : Nat} {cs : Array Value} {L : Nat → List Int} {q : Int} (h : Rng w0 lc g br cs L q W) (k : Below W.heap.size W W') : Rng w0 lc g br cs L q W' :=
  ⟨h.n.below k h.n.lt, h.box.below k h.box.lt, h.ref.below k (by have := h.le; omega), h.res.below k h.res.lt, h.bel.trans (k.mono h.bel.size), Nat.le_trans h.le k.size⟩
theorem Rng.set {w0 W : World} {lc g br : Nat} {cs : Array Value} {L : Nat → List Int} {q : Int} (h : Rng w0 lc g br cs L q W) (hg : g < lc) (hbr : br < lc) (hw : w0.heap.size ≤ lc) (x q' : Int) :
    Rng w0 lc g br cs L q' ((W.setCell ⟨lc, 0, none⟩ (.int .i64 x)).setCell ⟨lc + 1, 0, none⟩ (.int .i64 q')) :=
  ⟨(h.n.setOther ⟨lc, 0, none⟩ (.int .i64 x) (by dsimp only; omega)).set 0 (.int .i64 q'), (h.box.setOther ⟨lc, 0, none⟩ _ (by dsimp only; omega)).setOther ⟨lc + 1, 0, none⟩ _ (by dsimp only; omega),
    h.ref.below (((Below.refl lc W).setCell (p := ⟨lc, 0, none⟩) (Nat.le_refl _) _).setCell (p := ⟨lc + 1, 0, none⟩) (by dsimp only; omega) _) (Nat.le_refl _),
    (h.res.setOther ⟨lc, 0, none⟩ _ (by dsimp only; omega)).setOther ⟨lc + 1, 0, none⟩ _ (by dsimp only; omega), (h.bel.setCell (p := ⟨lc, 0, none⟩) (by dsimp only; omega) _).setCell (p := ⟨lc + 1, 0, none⟩) (by dsimp only; omega) _, by simpa using h.le⟩
theorem lenTo_le {L : Nat → List Int} (h : Good L) (a : Nat) : lenTo L a ≤ 8 * a := col_len h 0 a
structure TwoA (b : Nat) (x y : ActV) (W : World) : Prop where
  blk : Blk W b #[.int .i64 x.f0, .int .i64 x.f1, .int .i64 x.f2, .int .i64 x.f3, .int .i64 y.f0, .int .i64 y.f1, .int .i64 y.f2, .int .i64 y.f3] 51
theorem copies_body (v0 : Value) (l : List ActV) (x y : ActV) (w : World) (hv : ActsAt w.heap.size w v0 l) :
    Calls Try.prog 5 #[v0, .agg #[.int .i64 x.f0, .int .i64 x.f1, .int .i64 x.f2, .int .i64 x.f3, .int .i64 y.f0, .int .i64 y.f1, .int .i64 y.f2, .int .i64 y.f3]] w fun e w' => e = .returned (.bool true) ∧ Below w.heap.size w w' := by
  have HV := Lib.hid hv
  obtain ⟨ad, cap, rfl, hcap, hmx, _⟩ := hv
  have hml : l.length ≤ 9223372036854775807 := by unfold maxLen at hmx; omega
  clear hmx
  have hfn := fun (fn : Fn) (x y : Array Value) (w : World) => run_eql_func_nil (P := Try.prog) Try.underlying53 fn x y w
  have HFN := Lib.hid hfn
  clear hfn
  obtain ⟨w0, hw0⟩ : ∃ w0, (w.alloc (.cells #[.int .i64 x.f0, .int .i64 x.f1, .int .i64 x.f2, .int .i64 x.f3, .int .i64 y.f0, .int .i64 y.f1, .int .i64 y.f2, .int .i64 y.f3] 51)).alloc (.cells #[.bool false] 4) = w0 := ⟨_, rfl⟩
  have hb0 : Below w.heap.size w w0 := by rw [← hw0]; exact ((Below.refl _ w).alloc (Nat.le_refl _) _).alloc (by simp) _
  have hT : TwoA w.heap.size x y w0 := ⟨by rw [← hw0]; exact (Blk.new w _ _).alloc _⟩
  have hR : Blk w0 (w.heap.size + 1) #[.bool false] 4 := by rw [← hw0]; exact Blk.newAt _ _ _ (by simp)
  have zr := hR.lt
  have zb := hb0.size
  by_cases h1 : 50 < l.length
  · refine calls_of_wp_marks Try.func5 rfl ?_; simp only [Try.ntmps5, List.size_toArray, List.length_cons, List.length_nil, Nat.reduceAdd, Nat.reduceSub, Array.replicate_succ, Array.replicate_zero, List.push_toArray, List.append_toArray, List.nil_append, List.cons_append]
    go_wp2_with fail
    refine (works_ok _).mono ?_; rintro e w1 ⟨rfl, k⟩
    have hR1 := hR.below k hR.lt
    have hfz := hR1.frozen 0
    have c0 := hR1.cell 0 rfl
    have g1 := hR1.set 0 (.bool true)
    have c1 := g1.cell 0 rfl
    go_wp2_with fail
    refine postM_ret0 (v := .bool true) (by
      simp [results, asAddr]
      simp [go_sem, c1]) ⟨rfl, (hb0.trans (k.mono zb)).setCell (p := ⟨w.heap.size + 1, 0, none⟩) (by simp) _⟩
  refine calls_of_wp_marks Try.func5 rfl ?_; simp only [Try.ntmps5, List.size_toArray, List.length_cons, List.length_nil, Nat.reduceAdd, Nat.reduceSub, Array.replicate_succ, Array.replicate_zero, List.push_toArray, List.append_toArray, List.nil_append, List.cons_append]
  go_wp2_with fail
  clear hw0
  refine (New_calls _).mono ?_; rintro e W ⟨rfl, hp, hb⟩
  go_wp2_with fail
  obtain ⟨W0, hW0⟩ : ∃ W0, W0 = W.alloc (.cells #[.slice none 0 0, .slice none 0 0, .slice none 0 0, .slice none 0 0, .slice none 0 0, .slice none 0 0, .slice none 0 0, .slice none 0 0, .slice none 0 0, .slice none 0 0, .slice none 0 0, .slice none 0 0, .slice none 0 0, .slice none 0 0, .slice none 0 0, .slice none 0 0, .slice none 0 0, .slice none 0 0, .slice none 0 0, .slice none 0 0, .slice none 0 0, .slice none 0 0, .slice none 0 0, .slice none 0 0, .slice none 0 0, .slice none 0 0, .slice none 0 0, .slice none 0 0, .slice none 0 0, .slice none 0 0, .slice none 0 0, .slice none 0 0] 44) := ⟨_, rfl⟩
  rw [← hW0]
  have k0 : Below W.heap.size W W0 := by rw [hW0]; exact (Below.refl _ W).alloc (Nat.le_refl _) _
  have h0 : Play w0 W0 w0.heap.size W.heap.size #[.slice none 0 0, .slice none 0 0, .slice none 0 0, .slice none 0 0, .slice none 0 0, .slice none 0 0, .slice none 0 0, .slice none 0 0, .slice none 0 0, .slice none 0 0, .slice none 0 0, .slice none 0 0, .slice none 0 0, .slice none 0 0, .slice none 0 0, .slice none 0 0, .slice none 0 0, .slice none 0 0, .slice none 0 0, .slice none 0 0, .slice none 0 0, .slice none 0 0, .slice none 0 0, .slice none 0 0, .slice none 0 0, .slice none 0 0, .slice none 0 0, .slice none 0 0, .slice none 0 0, .slice none 0 0, .slice none 0 0, .slice none 0 0] (fun _ => []) := ⟨hp.step k0, good_new, by rw [hW0]; exact Blk.new _ _ _, RefV.zero _ _, hb.trans (k0.mono hb.size), Nat.le_refl _, hb.size, by have := hp.lt; omega⟩
  obtain ⟨g, hg⟩ : ∃ g, W.heap.size = g := ⟨_, rfl⟩
  rw [hg] at h0 ⊢
  clear hW0 k0 hp hb hg
  go_loopw [5, 7] (fun v i wr => ∃ (k s : Nat) (L : Nat → List Int) (cs : Array Value), k ≤ l.length ∧ i = .int .i64 k ∧ v = .pointer (some ⟨s, 0, none⟩) ∧ Play w0 wr s g cs L) (fun _ i _ => l.length - (intOf i).toNat)
  case atStart => exact ⟨0, _, _, _, by omega, rfl, rfl, h0⟩
  case round =>
    obtain ⟨k, s, L, cs, hk, rfl, rfl, hP⟩ := hrel
    clear h0
    by_cases hlt : k < l.length
    · obtain ⟨ba, off, rfl, hA⟩ : ∃ b off, ad = some ⟨b, off, none⟩ ∧ ∀ i (h : i < l.length), ActAt w.heap.size w b (off + i * 4) l[i] := by
        obtain ⟨_, _, hv, _, _, h⟩ := HV.out
        simp only [Value.slice.injEq] at hv
        obtain ⟨rfl, _⟩ := hv
        rcases h with h | h
        · rw [h] at hlt; simp at hlt
        · exact h
      have hAk := ((hA k hlt).below hb0 (Nat.le_refl _)).below hP.bel zb
      clear hA
      obtain ⟨z, hz⟩ : ∃ z, l[k] = z := ⟨_, rfl⟩
      rw [hz] at hAk
      obtain ⟨q0, q1, q2, q3, _, _, _, _, hblt⟩ := hAk
      have i0 : (0 : Int) ≤ k := by omega
      have i1 : (k : Int) < l.length := by omega
      have HP := Lib.hid hP
      have hsz := hP.ref.size
      clear hz hP
      go_wp2_with fail
      refine wp_onlyN ?_
      refine wp_region_held_drew (S := PlyC ba (off + k * 4) z) (by kernel_rfl) ⟨q0, q1, q2, q3⟩ (fun hHeld => ?_)
      refine wpAnyH_take (i := 0) (v := ?_) rfl (by kernel_rfl) (by kernel_rfl) (by kernel_rfl) (fun _ _ _ h => h) (Or.inl ⟨by rfl, ?_⟩) (by assumption) ?_
      rotate_left
      · (intro Y hSw; (try dsimp only at hSw); obtain ⟨hS0, hS1, hS2, hS3⟩ := hSw; go_simp; try with_reducible rfl)
      try simp only [Act.put, List.getElem_toArray, List.getElem_cons_zero, List.getElem_cons_succ, List.setIfInBounds_toArray, List.set_cons_zero, List.set_cons_succ]
      refine wpAnyH_take (i := 2) (v := ?_) rfl (by kernel_rfl) (by kernel_rfl) (by kernel_rfl) (fun _ _ _ h => h) (Or.inl ⟨by rfl, ?_⟩) (by assumption) ?_
      rotate_left
      · (intro Y hSw; (try dsimp only at hSw); obtain ⟨hS0, hS1, hS2, hS3⟩ := hSw; go_simp; try with_reducible rfl)
      try simp only [Act.put, List.getElem_toArray, List.getElem_cons_zero, List.getElem_cons_succ, List.setIfInBounds_toArray, List.set_cons_zero, List.set_cons_succ]
      refine wpAnyH_take (i := 3) (v := ?_) rfl (by kernel_rfl) (by kernel_rfl) (by kernel_rfl) (fun _ _ _ h => h) (Or.inl ⟨by rfl, ?_⟩) (by assumption) ?_
      rotate_left
      · (intro Y hSw; (try dsimp only at hSw); obtain ⟨hS0, hS1, hS2, hS3⟩ := hSw; go_simp; try with_reducible rfl)
      try simp only [Act.put, List.getElem_toArray, List.getElem_cons_zero, List.getElem_cons_succ, List.setIfInBounds_toArray, List.set_cons_zero, List.set_cons_succ]
      refine wpAnyH_take (i := 4) (v := ?_) rfl (by kernel_rfl) (by kernel_rfl) (by kernel_rfl) (fun _ _ _ h => h) (Or.inl ⟨by rfl, ?_⟩) (by assumption) ?_
      rotate_left
      · (intro Y hSw; (try dsimp only at hSw); obtain ⟨hS0, hS1, hS2, hS3⟩ := hSw; go_simp; try with_reducible rfl)
      try simp only [Act.put, List.getElem_toArray, List.getElem_cons_zero, List.getElem_cons_succ, List.setIfInBounds_toArray, List.set_cons_zero, List.set_cons_succ]
      refine wpAnyH_take (i := 5) (v := ?_) rfl (by kernel_rfl) (by kernel_rfl) (by kernel_rfl) (fun _ _ _ h => h) (Or.inl ⟨by rfl, ?_⟩) (by assumption) ?_
      rotate_left
      · (intro Y hSw; (try dsimp only at hSw); obtain ⟨hS0, hS1, hS2, hS3⟩ := hSw; go_simp; try with_reducible rfl)
      try simp only [Act.put, List.getElem_toArray, List.getElem_cons_zero, List.getElem_cons_succ, List.setIfInBounds_toArray, List.set_cons_zero, List.set_cons_succ]
      have hX : PlyS ba (off + k * 4) g z cs wr.drew := ⟨q0, q1, q2, q3, HP.out.box⟩
      have hSh := HP.out.sh.step (Below.refl _ wr).drew
      have hRf := HP.out.ref.below (Below.refl _ wr).drew (Nat.le_refl _)
      have hBl : Below w0.heap.size w0 wr.drew := HP.out.bel.drew
      obtain ⟨lo1, lo2, lo3⟩ := HP.out.lo
      change RefV wr.drew.heap.size _ _ _ at hRf
      clear q0 q1 q2 q3
      change wpAnyH _ _ _ _ _ _ _ _ wr.drew
      generalize wr.drew = Y at hX hSh hRf hBl hHeld ⊢
      refine wpAnyH_ready (rs := [1]) (by kernel_rfl) (by simp) ?_
      refine AllReadyH.cons rfl (fun K hK => ?_) AllReadyH.nil
      rw [if_pos (by rfl)]
      refine wp_load32 _ rfl g rfl hX.row hsz ?_
      refine hK.out _ _ (hX.c) (fun hHeld => ?_)
      clear hK K
      try simp only [Act.put, List.getElem_toArray, List.getElem_cons_zero, List.getElem_cons_succ, List.setIfInBounds_toArray, List.set_cons_zero, List.set_cons_succ]
      refine wpAnyH_ready (rs := [6]) (by kernel_rfl) (by simp) ?_
      refine AllReadyH.cons rfl (fun K hK => ?_) AllReadyH.nil
      go_simp
      refine (act_ok hSh hRf (Nat.le_refl _) HP.out.good z).mono ?_; rintro e Z ⟨s', cs', rfl, p1, p2, p3, p4⟩
      have hne : s' ≠ g := by have := hX.row.lt; omega
      replace hX := hX.chg p3 (by omega) (by omega)
      have hs' : w0.heap.size ≤ s' := by have := hBl.size; omega
      replace hBl := hBl.trans (p3.below lo1 hBl.size)
      clear hSh hRf
      have hsl := p1.lt
      go_simp
      refine hK.out _ _ (hX.c) (fun hHeld => ?_)
      clear hK K
      try simp only [Act.put, List.getElem_toArray, List.getElem_cons_zero, List.getElem_cons_succ, List.setIfInBounds_toArray, List.set_cons_zero, List.set_cons_succ]
      refine wpAnyH_take (i := 7) (v := ?_) rfl (by kernel_rfl) (by kernel_rfl) (by kernel_rfl) (fun _ _ _ h => h) (Or.inl ⟨by rfl, ?_⟩) (by assumption) ?_
      rotate_left
      · (intro Y hSw; (try dsimp only at hSw); obtain ⟨hS0, hS1, hS2, hS3⟩ := hSw; go_simp; try with_reducible rfl)
      try simp only [Act.put, List.getElem_toArray, List.getElem_cons_zero, List.getElem_cons_succ, List.setIfInBounds_toArray, List.set_cons_zero, List.set_cons_succ]
      refine wpAnyH_take (i := 8) (v := ?_) rfl (by kernel_rfl) (by kernel_rfl) (by kernel_rfl) (fun _ _ _ h => h) (Or.inl ⟨by rfl, ?_⟩) (by assumption) ?_
      rotate_left
      · (intro Y hSw; (try dsimp only at hSw); obtain ⟨hS0, hS1, hS2, hS3⟩ := hSw; go_simp; try with_reducible rfl)
      try simp only [Act.put, List.getElem_toArray, List.getElem_cons_zero, List.getElem_cons_succ, List.setIfInBounds_toArray, List.set_cons_zero, List.set_cons_succ]
      refine wpAnyH_take (i := 9) (v := ?_) rfl (by kernel_rfl) (by kernel_rfl) (by kernel_rfl) (fun _ _ _ h => h) (Or.inl ⟨by rfl, ?_⟩) (by assumption) ?_
      rotate_left
      · (intro Y hSw; (try dsimp only at hSw); obtain ⟨hS0, hS1, hS2, hS3⟩ := hSw; go_simp; try with_reducible rfl)
      try simp only [Act.put, List.getElem_toArray, List.getElem_cons_zero, List.getElem_cons_succ, List.setIfInBounds_toArray, List.set_cons_zero, List.set_cons_succ]
      refine wpAnyH_take (i := 10) (v := ?_) rfl (by kernel_rfl) (by kernel_rfl) (by kernel_rfl) (fun _ _ _ h => h) (Or.inl ⟨by rfl, ?_⟩) (by assumption) ?_
      rotate_left
      · (intro Y hSw; (try dsimp only at hSw); obtain ⟨hS0, hS1, hS2, hS3⟩ := hSw; go_simp; try with_reducible rfl)
      try simp only [Act.put, List.getElem_toArray, List.getElem_cons_zero, List.getElem_cons_succ, List.setIfInBounds_toArray, List.set_cons_zero, List.set_cons_succ]
      obtain ⟨Y, rfl⟩ : ∃ Y : World, Y = Z := ⟨_, rfl⟩
      refine wpAnyH_take (i := 11) (v := ?_) rfl (by kernel_rfl) (by kernel_rfl) (by kernel_rfl) (fun _ _ _ h => h) (Or.inl ⟨by rfl, ?_⟩) (by assumption) ?_
      rotate_left
      · (intro Y hSw; (try dsimp only at hSw); obtain ⟨hS0, hS1, hS2, hS3⟩ := hSw; go_simp; try with_reducible rfl)
      try simp only [Act.put, List.getElem_toArray, List.getElem_cons_zero, List.getElem_cons_succ, List.setIfInBounds_toArray, List.set_cons_zero, List.set_cons_succ]
      refine wpAnyH_ready (rs := [12]) (by kernel_rfl) (by simp) ?_
      refine AllReadyH.cons rfl (fun K hK => ?_) AllReadyH.nil
      rw [if_pos (by rfl)]
      refine wp_store32 _ _ rfl g cs' rfl rfl hX.row hsz p2.size p2.one ?_
      have kc := (Chg.refl g Y).setRow cs'
      have hNz : NoInt Y g := NoInt.of hX.row HP.out.ref.slices
      refine hK.out _ _ (hX.c.chg kc (by omega)) (fun hHeld => ?_)
      clear hK K
      try simp only [Act.put, List.getElem_toArray, List.getElem_cons_zero, List.getElem_cons_succ, List.setIfInBounds_toArray, List.set_cons_zero, List.set_cons_succ]
      refine wpAnyH_done (by kernel_rfl) ?_ _
      rw [onlyN_normal]
      have u1 := p1.turnedN hNz hne kc
      have u2 := p2.turnedN hNz kc
      have u3 := hX.row.setRow cs'
      have u5 := hBl.trans (kc.below lo2 hBl.size)
      have hz2 := kc.size
      clear hX p1 p2 hBl hHeld hNz
      generalize Y.setRow g cs' = Z at u1 u2 u3 u5 hz2 kc ⊢
      go_wp2_with fail
      exact ⟨⟨k + 1, s', _, cs', by omega, by go_num, rfl, u1, HP.out.good.actA z, u3, u2.mono hz2, u5, hs', lo2, hne⟩, by simp [intOf]; omega⟩
    · obtain rfl : k = l.length := by omega
      obtain ⟨lo1, lo2, lo3⟩ := hP.lo
      have hG := hP.good
      have hsz := hP.ref.size
      have hsw := hP.sh.lt
      go_wp2_with fail
      refine (Copy_ok hP.sh hG.few).mono ?_; rintro e W1 ⟨c, rfl, hc, pc, k1⟩
      have hS1 := hP.sh.step k1
      have hBx1 := hP.box.below k1 hP.box.lt
      have hRf1 := hP.ref.below k1 (Nat.le_refl _)
      have hBl1 := hP.bel.trans (k1.mono hP.bel.size)
      have hz1 := k1.size
      have hgw := hP.box.lt
      have hcw := pc.lt
      clear hP
      go_wp2_with fail
      refine (All_calls (ons_live hS1 hG 0 (by omega)) (col_nodup hG 0 4) (fun t _ => hG.few _)).mono ?_; rintro e W2 ⟨s9, mb, rfl, l9, lm, hQ, hM, k2⟩
      have hS2 := hS1.step k2
      have pc2 := pc.step k2
      have hBx2 := hBx1.below k2 hBx1.lt
      have hRf2 := (hRf1.below k2 hz1).mono (Nat.le_trans hz1 k2.size)
      have hBl2 := hBl1.trans (k2.mono hBl1.size)
      have hz2 := k2.size
      clear hS1 pc hBx1 hRf1 hBl1 k1 k2
      have hT2 : TwoA w.heap.size x y W2 := ⟨hT.blk.below hBl2 hT.blk.lt⟩
      have t0 := hT2.blk.cell 0 rfl
      have t1 := hT2.blk.cell 1 rfl
      have t2 := hT2.blk.cell 2 rfl
      have t3 := hT2.blk.cell 3 rfl
      go_wp2_with (first | refine wpList_load32 rfl _ rfl g rfl hBx2 hsz ?_)
      refine (act_ok hS2 hRf2 (Nat.le_refl _) hG x).mono ?_; rintro e W3 ⟨sa, ca, rfl, pa, ra, ka, ha⟩
      clear t0 t1 t2 t3
      have hz3 := ka.size
      have hcs : c ≠ s := by omega
      have hc3 := pc2.turnedN hS2.no hcs ka
      have hBx3 := ka.blk hBx2 (Ne.symm lo3)
      have hRf3 := (RefV.turned hRf2 hS2 ka).mono hz3
      have hBl3 := hBl2.trans (ka.below lo1 hBl2.size)
      have hQ3 := ka.blk hQ (by omega)
      have hM3 := ka.map hM (by omega)
      have hG1 := hG.actA x
      have hsa : sa ≠ c := by rcases ha with rfl | ha <;> omega
      have hsal := pa.lt
      have hgc : g ≠ c := by omega
      have hw0c : w0.heap.size ≤ c := by omega
      clear hc pc2 hBx2 hRf2 hBl2 hQ hM
      obtain ⟨go, hgo⟩ : ∃ go, W3.heap.size = go := ⟨_, rfl⟩
      obtain ⟨W4, hW4⟩ : ∃ W4, (W3.alloc (.cells #[.slice none 0 0, .slice none 0 0, .slice none 0 0, .slice none 0 0, .slice none 0 0, .slice none 0 0, .slice none 0 0, .slice none 0 0, .slice none 0 0, .slice none 0 0, .slice none 0 0, .slice none 0 0, .slice none 0 0, .slice none 0 0, .slice none 0 0, .slice none 0 0, .slice none 0 0, .slice none 0 0, .slice none 0 0, .slice none 0 0, .slice none 0 0, .slice none 0 0, .slice none 0 0, .slice none 0 0, .slice none 0 0, .slice none 0 0, .slice none 0 0, .slice none 0 0, .slice none 0 0, .slice none 0 0, .slice none 0 0, .slice none 0 0] 44)).setRow go ca = W4 := ⟨_, rfl⟩
      have hN : Blk (W3.alloc (.cells #[.slice none 0 0, .slice none 0 0, .slice none 0 0, .slice none 0 0, .slice none 0 0, .slice none 0 0, .slice none 0 0, .slice none 0 0, .slice none 0 0, .slice none 0 0, .slice none 0 0, .slice none 0 0, .slice none 0 0, .slice none 0 0, .slice none 0 0, .slice none 0 0, .slice none 0 0, .slice none 0 0, .slice none 0 0, .slice none 0 0, .slice none 0 0, .slice none 0 0, .slice none 0 0, .slice none 0 0, .slice none 0 0, .slice none 0 0, .slice none 0 0, .slice none 0 0, .slice none 0 0, .slice none 0 0, .slice none 0 0, .slice none 0 0] 44)) go #[.slice none 0 0, .slice none 0 0, .slice none 0 0, .slice none 0 0, .slice none 0 0, .slice none 0 0, .slice none 0 0, .slice none 0 0, .slice none 0 0, .slice none 0 0, .slice none 0 0, .slice none 0 0, .slice none 0 0, .slice none 0 0, .slice none 0 0, .slice none 0 0, .slice none 0 0, .slice none 0 0, .slice none 0 0, .slice none 0 0, .slice none 0 0, .slice none 0 0, .slice none 0 0, .slice none 0 0, .slice none 0 0, .slice none 0 0, .slice none 0 0, .slice none 0 0, .slice none 0 0, .slice none 0 0, .slice none 0 0, .slice none 0 0] 44 := by rw [← hgo]; exact Blk.new _ _ _
      have k4 : Below W3.heap.size W3 W4 := by rw [← hW4]; exact bel_setRow ((Below.refl _ W3).alloc (Nat.le_refl _) _) (Nat.le_of_eq hgo) ca
      have ho4 : Blk W4 go ca 44 := by rw [← hW4]; exact hN.setRow ca
      have hz4 := k4.size
      have pa4 := pa.step k4
      have ra4 := (ra.below k4 (Nat.le_refl _)).mono hz4
      have hc4 := hc3.step k4
      have hBx4 := hBx3.below k4 hBx3.lt
      have hRf4 := (hRf3.below k4 (Nat.le_refl _)).mono hz4
      have hBl4 := hBl3.trans (k4.mono hBl3.size)
      have hQ4 := hQ3.below k4 hQ3.lt
      have hM4 := hM3.below k4 hM3.lt
      clear hc3 hBx3 hRf3 hBl3 hQ3 hM3 pa
      have hT4 : TwoA w.heap.size x y W4 := ⟨hT.blk.below hBl4 hT.blk.lt⟩
      have t0 := hT4.blk.cell 4 rfl
      have t1 := hT4.blk.cell 5 rfl
      have t2 := hT4.blk.cell 6 rfl
      have t3 := hT4.blk.cell 7 rfl
      go_wp2_with (first | refine wpList_load32 rfl _ rfl g rfl hBx4 hsz ?_ | refine wpList_store32 rfl _ _ rfl go ca rfl rfl hN rfl ra.size ra.one ?_)
      refine (act_ok hc4 hRf4 (Nat.le_refl _) hG y).mono ?_; rintro e W5 ⟨sb, cb, rfl, pb, rb, kb, hb⟩
      clear t0 t1 t2 t3 hW4 hN
      have hz5 := kb.size
      have hgoc : go ≠ c := by omega
      clear hgo
      have pa5 := pa4.turnedN hc4.no hsa kb
      have ra5 := (RefV.turned ra4 hc4 kb).mono hz5
      have ho5 := kb.blk ho4 hgoc
      have hBx5 := kb.blk hBx4 hgc
      have hRf5 := (RefV.turned hRf4 hc4 kb).mono hz5
      have hBl5 := hBl4.trans (kb.below hw0c hBl4.size)
      have hQ5 := kb.blk hQ4 (by omega)
      have hM5 := kb.map hM4 (by omega)
      have hG2 := hG.actA y
      clear pa4 ra4 ho4 hBx4 hRf4 hBl4 hQ4 hM4 hc4
      obtain ⟨gb, hgb⟩ : ∃ gb, W5.heap.size = gb := ⟨_, rfl⟩
      obtain ⟨W6, hW6⟩ : ∃ W6, (W5.alloc (.cells #[.slice none 0 0, .slice none 0 0, .slice none 0 0, .slice none 0 0, .slice none 0 0, .slice none 0 0, .slice none 0 0, .slice none 0 0, .slice none 0 0, .slice none 0 0, .slice none 0 0, .slice none 0 0, .slice none 0 0, .slice none 0 0, .slice none 0 0, .slice none 0 0, .slice none 0 0, .slice none 0 0, .slice none 0 0, .slice none 0 0, .slice none 0 0, .slice none 0 0, .slice none 0 0, .slice none 0 0, .slice none 0 0, .slice none 0 0, .slice none 0 0, .slice none 0 0, .slice none 0 0, .slice none 0 0, .slice none 0 0, .slice none 0 0] 44)).setRow gb cb = W6 := ⟨_, rfl⟩
      have hN : Blk (W5.alloc (.cells #[.slice none 0 0, .slice none 0 0, .slice none 0 0, .slice none 0 0, .slice none 0 0, .slice none 0 0, .slice none 0 0, .slice none 0 0, .slice none 0 0, .slice none 0 0, .slice none 0 0, .slice none 0 0, .slice none 0 0, .slice none 0 0, .slice none 0 0, .slice none 0 0, .slice none 0 0, .slice none 0 0, .slice none 0 0, .slice none 0 0, .slice none 0 0, .slice none 0 0, .slice none 0 0, .slice none 0 0, .slice none 0 0, .slice none 0 0, .slice none 0 0, .slice none 0 0, .slice none 0 0, .slice none 0 0, .slice none 0 0, .slice none 0 0] 44)) gb #[.slice none 0 0, .slice none 0 0, .slice none 0 0, .slice none 0 0, .slice none 0 0, .slice none 0 0, .slice none 0 0, .slice none 0 0, .slice none 0 0, .slice none 0 0, .slice none 0 0, .slice none 0 0, .slice none 0 0, .slice none 0 0, .slice none 0 0, .slice none 0 0, .slice none 0 0, .slice none 0 0, .slice none 0 0, .slice none 0 0, .slice none 0 0, .slice none 0 0, .slice none 0 0, .slice none 0 0, .slice none 0 0, .slice none 0 0, .slice none 0 0, .slice none 0 0, .slice none 0 0, .slice none 0 0, .slice none 0 0, .slice none 0 0] 44 := by rw [← hgb]; exact Blk.new _ _ _
      have k6 : Below W5.heap.size W5 W6 := by rw [← hW6]; exact bel_setRow ((Below.refl _ W5).alloc (Nat.le_refl _) _) (Nat.le_of_eq hgb) cb
      have hb6 : Blk W6 gb cb 44 := by rw [← hW6]; exact hN.setRow cb
      have hz6 := k6.size
      have pa6 := pa5.step k6
      have pb6 := pb.step k6
      have ra6 := (ra5.below k6 (Nat.le_refl _)).mono hz6
      have rb6 := (rb.below k6 (Nat.le_refl _)).mono hz6
      have ho6 := ho5.below k6 ho5.lt
      have hBx6 := hBx5.below k6 hBx5.lt
      have hRf6 := (hRf5.below k6 (Nat.le_refl _)).mono hz6
      have hBl6 := hBl5.trans (k6.mono hBl5.size)
      have hQ6 := hQ5.below k6 hQ5.lt
      have hM6 := hM5.below k6 hM5.lt
      clear pa5 ra5 ho5 hBx5 hRf5 hBl5 hQ5 hM5 pb
      go_wp2_with (first | refine wpList_store32 rfl _ _ rfl gb cb rfl rfl hN rfl rb.size rb.one ?_)
      clear hW6 hN hgb k6
      have sza := ra6.size
      have szb := rb6.size
      have hcm : sameB (actA L y) (actA L x) 32 = sameB (actA L x) (actA L y) 32 := sameB_comm _ _ _
      refine wp_region_after W6.heap.size (by kernel_rfl) (by kernel_rfl) ?_
      repeat (first | (go_big_quiet_want; refine quiet_load32 _ rfl go rfl (fun X hX => by obtain ⟨x, rfl⟩ := hX; exact ho6.below (After.below x) ho6.lt) sza ?_; (simp only [Act.put, List.getElem_toArray, List.getElem_cons_zero, List.getElem_cons_succ, List.setIfInBounds_toArray, List.set_cons_zero, List.set_cons_succ]); go_big_quiet_on) | (go_big_quiet_want; refine quiet_load32 _ rfl gb rfl (fun X hX => by obtain ⟨x, rfl⟩ := hX; exact hb6.below (After.below x) hb6.lt) szb ?_; (simp only [Act.put, List.getElem_toArray, List.getElem_cons_zero, List.getElem_cons_succ, List.setIfInBounds_toArray, List.set_cons_zero, List.set_cons_succ]); go_big_quiet_on) | go_big_quiet_step (first | (go_at_call 17; first | exact after_call (Nat.le_refl _) (is_ok (pa6.step (After.below _)) (ra6.below (After.below _) (Nat.le_refl _)) (After.below _).size hG1) | exact after_call (Nat.le_refl _) (is_ok (pb6.step (After.below _)) (rb6.below (After.below _) (Nat.le_refl _)) (After.below _).size hG2)) | (go_at_call 19; first | exact after_call (Nat.le_refl _) (Same_ok (pa6.step (After.below _)) (pb6.step (After.below _)) hG1.few hG2.few) | exact after_call (Nat.le_refl _) (Same_ok (pb6.step (After.below _)) (pa6.step (After.below _)) hG2.few hG1.few)) | (go_at_call 22; exact after_call (Nat.le_refl _) (rSame_ok (ra6.below (After.below _) (Nat.le_refl _)) (rb6.below (After.below _) (Nat.le_refl _)) (After.below _).size hG1.few hG2.few))))
      refine wpQuiet_nil ?_
      rintro W7 ⟨xx, hx⟩
      have k7 : Below W6.heap.size W6 W7 := by rw [hx]; exact xx.2
      clear hx xx hcm
      have hBx7 := hBx6.below k7 hBx6.lt
      have hRf7 := (hRf6.below k7 (Nat.le_refl _)).mono k7.size
      have hBl7 := hBl6.trans (k7.mono hBl6.size)
      have hQ7 := hQ6.below k7 hQ6.lt
      have hM7 := hM6.below k7 hM6.lt
      have hR7 := hR.below hBl7 hR.lt
      have hz7 := k7.size
      clear pa6 pb6 ra6 rb6 ho6 hb6 hBx6 hRf6 hBl6 hQ6 hM6 k7
      have hfn := HFN.out
      clear hT2 ra ka ha rb kb hb sza szb hz6 hz7 hR
      go_wp2_with fail
      obtain ⟨W8, hW8⟩ : ∃ W8, W8 = (W7.alloc (.cells #[.int .i64 (-1)] 3)).alloc (.cells #[.int .i64 0] 3) := ⟨_, rfl⟩
      rw [← hW8]
      obtain ⟨lc, hlc⟩ : ∃ lc, W7.heap.size = lc := ⟨_, rfl⟩
      have k8 : Below W7.heap.size W7 W8 := by rw [hW8]; exact ((Below.refl _ W7).alloc (Nat.le_refl _) _).alloc (by simp) _
      have z8 : W8.heap.size = lc + 2 := by rw [hW8, ← hlc]; simp
      have hLc : Blk W8 lc #[.int .i64 (-1)] 3 := by rw [hW8, ← hlc]; exact (Blk.new _ _ _).alloc _
      have hNc : Blk W8 (lc + 1) #[.int .i64 0] 3 := by rw [hW8]; exact Blk.newAt _ _ _ (by simp [hlc])
      have hQ8 := hQ7.below k8 hQ7.lt
      have hM8 := hM7.below k8 hM7.lt
      have hRg8 : Rng w0 lc g (w.heap.size + 1) cs L 0 W8 := ⟨hNc, hBx7.below k8 hBx7.lt, by rw [← hlc]; exact hRf7.below k8 (Nat.le_refl _), hR7.below k8 hR7.lt, hBl7.trans (k8.mono hBl7.size), by omega⟩
      have hs9 : s9 < lc := by have := hQ7.lt; omega
      have hm9 : mb < lc := by have := hM7.lt; omega
      have hg9 : g < lc := by have := hBx7.lt; omega
      have hr9 : w.heap.size + 1 < lc := by have := hR7.lt; omega
      have hwl : w0.heap.size ≤ lc := by have := hBl7.size; omega
      rw [hlc]
      clear hW8 hlc k8 hBx7 hRf7 hBl7 hQ7 hM7 hR7 hfn
      have hnd := col_nodup hG 0 4
      have hrg := col_rng hG 0
      have hll := lenTo_le hG 4
      have hlm : (allL (pTo (colL L 0) 4)).length = lenTo L 4 := allL_len _
      have hnx : ∀ pre x suf, allL (pTo (colL L 0) 4) = pre ++ x :: suf → lastK pre < x.1 ∧ hasI L 0 x.1 = x.2 := fun pre x suf h => ⟨allL_next hnd (fun y hy => (hrg y hy).1) h, has_all L 0 (by rw [h]; simp)⟩
      refine wp_rangeS1 rfl (enters_of Try.func46 (by kernel_rfl) rfl) (all_iterC s9 mb (pTo (colL L 0) 4) (by have : (pTo (colL L 0) 4).length = lenTo L 4 := rfl; omega) (fun x hx => wf_i64 (by have := hrg x hx; omega) (by have := hrg x hx; omega))) (fun _ => rfl)
        (fun hi pre W => Rng w0 lc g (w.heap.size + 1) cs L pre.length W ∧ pre.length < 3 ∧ Blk W lc #[.int .i64 (lastK pre)] 3 ∧ Blk W s9 #[.map (some mb)] 83 ∧ MapI W mb (encP (pTo (colL L 0) 4)))
        (fun c W => c = .exit 2 ∧ 3 ≤ lenTo L 4 ∧ Rng w0 lc g (w.heap.size + 1) cs L 3 W) ?a1 ?ha ?hI ?hIx ?hA ?h0 ?hbody ?hdone ?hstop
      case ha => intro m l x W K hK; gi_wp2; exact hK
      case hI => rintro hi pre X Y ⟨h1, h2, h3, h4, h5⟩ hk; exact ⟨h1.keeps hk (by omega), h2, h3.keeps hk, h4.keeps hk, h5.keeps hk⟩
      case hIx => rintro c X Y ⟨hc, h1, h2⟩ hk; exact ⟨hc, h1, h2.keeps hk (by omega)⟩
      case hA => rintro hi pre W ⟨_, _, _, h7, h8⟩; exact ⟨h7.cell 0 rfl, h8⟩
      case h0 => intro hi hh; exact ⟨hRg8, by simp, hLc, hQ8, hM8⟩
      case hbody =>
        rintro m lp hi pre ⟨xi, xt⟩ suf W hxs hl hrec hhi hhW ⟨h1, h2, h3, h4, h5⟩
        obtain ⟨n1, n2⟩ := hnx pre (xi, xt) suf hxs
        dsimp only at n1 n2
        have hlen9 : pre.length + 1 ≤ lenTo L 4 := by have := congrArg List.length hxs; rw [hlm] at this; simp at this; omega
        have d0 : decide (xi ≤ lastK pre) = false := decide_eq_false (by omega)
        have c1 := h3.cell 0 rfl
        have c2 := h1.n.cell 0 rfl
        gi_wp2_with (first | refine wpListIn_load32 (by rfl) _ rfl g rfl h1.box hsz ?_)
        refine ((rHas_ok h1.ref (by have := h1.le; omega) hG.few 0 (by omega) xi).inR lp).mono ?_; rintro e Wh ⟨rfl, kh⟩
        rw [n2]
        have H1 := h1.step kh
        have H3 := h3.below kh h3.lt
        have H4 := h4.below kh h4.lt
        have H5 := h5.below kh h5.lt
        have c1' := H3.cell 0 rfl
        have f1 := H3.frozen 0
        have c2' := H1.n.cell 0 rfl
        have f2 := H1.n.frozen 0
        have hsm : Sm W8.heap.size hi W ((Wh.setCell ⟨lc, 0, none⟩ (.int .i64 xi)).setCell ⟨lc + 1, 0, none⟩ (.int .i64 ((pre.length : Int) + 1))) := ((Sm.of_below kh hhW).setCell _ (Or.inr (by dsimp only; omega)) _).setCell _ (Or.inr (by dsimp only; omega)) _
        have G1 := H1.set hg9 hr9 hwl xi ((pre.length : Int) + 1)
        have G3 := (H3.set 0 (.int .i64 xi)).setOther ⟨lc + 1, 0, none⟩ (.int .i64 ((pre.length : Int) + 1)) (by dsimp only; omega)
        have G4 := (H4.setOther ⟨lc, 0, none⟩ (.int .i64 xi) (by dsimp only; omega)).setOther ⟨lc + 1, 0, none⟩ (.int .i64 ((pre.length : Int) + 1)) (by dsimp only; omega)
        have G5 := (H5.setCell ⟨lc, 0, none⟩ (.int .i64 xi) (by dsimp only; omega)).setCell ⟨lc + 1, 0, none⟩ (.int .i64 ((pre.length : Int) + 1)) (by dsimp only; omega)
        have HX := Lib.hid hxs
        have p0 : (0 : Int) ≤ pre.length := by omega
        have p3 : (pre.length : Int) < 3 := by omega
        clear hxs h1 h3 h4 h5 c1 c2 H1 H3 H4 H5 n1 n2 d0
        by_cases h9 : pre.length = 2
        · have e9 : ((pre.length : Int) + 1 == 3) = true := by rw [h9]; rfl
          have e8 : (pre.length : Int) + 1 = 3 := by omega
          have E8 := Lib.hid e8
          clear e8
          gi_wp2_with fail
          exact ⟨by rw [← E8.out]; exact hsm, rfl, by omega, by rw [← E8.out]; exact G1⟩
        · have e9 : ((pre.length : Int) + 1 == 3) = false := by simp; omega
          gi_wp2_with fail
          refine ⟨hsm, by simpa using G1, by simp; omega, ?_, G4, G5⟩
          rw [lastK_snoc]
          simpa using G3
      case hdone =>
        rintro D W hi hD ⟨hRg, h2, h3, h4, h5⟩ hK
        obtain ⟨q, hq⟩ : ∃ q : Int, ((allL (pTo (colL L 0) 4)).length : Int) = q := ⟨_, rfl⟩
        rw [hq] at hRg
        have hqm : q = min 3 ((lenTo L 4 : Nat) : Int) := by omega
        clear h3 h4 h5 hq h2
        go_wp2_with fail
        have hfn9 := hRg.box
        go_loopw [20, 21] (fun v i wr => ∃ t : Nat, t ≤ 4 ∧ i = .int .i64 t ∧ v = .int .i64 (lenTo L t) ∧ W = wr) (fun _ i _ => 4 - (intOf i).toNat)
        case atStart => exact ⟨0, by omega, rfl, rfl, rfl⟩
        case round =>
          obtain ⟨t, ht, rfl, rfl, rfl⟩ := hrel
          by_cases hlt9 : t < 4
          · obtain ⟨a9, c9, g9, _, _⟩ := hRg.ref.row (t * 8) (by omega)
            have q9 := hRg.box.cell _ g9
            have hs9 := lenTo_succ L t
            have hl9 := lenTo_le hG (t + 1)
            generalize (L (t * 8)).length = ln at q9 hs9
            generalize lenTo L t = sm at hs9
            have i0 : (0 : Int) ≤ t := by omega
            have i1 : (t : Int) < 4 := by omega
            have hb9 : sm + ln ≤ 40 := by omega
            have HS := Lib.hid hs9
            clear hs9 g9
            go_wp2_with fail
            exact ⟨⟨t + 1, by omega, by go_num, by rw [HS.out]; go_num, trivial⟩, by simp [intOf]; omega⟩
          · obtain rfl : t = 4 := by omega
            have cn := hRg.n.cell 0 rfl
            go_wp2_with fail
            refine (works_ok _).mono ?_; rintro e Wf ⟨rfl, kf⟩
            have hF := hRg.step kf
            have cr := hF.res.cell 0 rfl
            have fr := hF.res.frozen 0
            have hDn : D ≠ w.heap.size + 1 := by omega
            have hKf : Wf.heap[D]? = some (.deferred (some [])) := (kf.block D (Array.getElem?_eq_some_iff.1 hK).1).trans hK
            have hK2 : (Wf.setCell ⟨w.heap.size + 1, 0, none⟩ (.bool true)).heap[D]? = some (.deferred (some [])) := (Below.heap_setCell Wf ⟨w.heap.size + 1, 0, none⟩ _ D hDn).trans hKf
            have hDl := (Array.getElem?_eq_some_iff.1 hK2).1
            have u4 : Blk ((Wf.setCell ⟨w.heap.size + 1, 0, none⟩ (.bool true)).putObj D (.deferred none)) (w.heap.size + 1) _ _ := (World.putObj_heap_other (Ne.symm hDn)).trans (hF.res.set 0 (.bool true))
            have c4 := u4.cell 0 rfl
            have kz := (hb0.trans (hF.bel.mono zb)).setCell (p := ⟨w.heap.size + 1, 0, none⟩) (by dsimp only; omega) (.bool true)
            go_wp2_with fail
            refine postM_ret hK2 (v := .bool true) (by
              simp [results, asAddr]
              simp [go_sem, c4]) ⟨rfl, below_putObj kz (by omega) _ hDl⟩
      case hstop =>
        rintro D c W hD ⟨rfl, h3, hRg⟩ hK
        obtain ⟨q, hq⟩ : ∃ q : Int, (3 : Int) = q := ⟨_, rfl⟩
        rw [hq] at hRg
        have hqm : q = min 3 ((lenTo L 4 : Nat) : Int) := by omega
        clear h3 hq
        go_wp2_with fail
        have hfn9 := hRg.box
        go_loopw [20, 21] (fun v i wr => ∃ t : Nat, t ≤ 4 ∧ i = .int .i64 t ∧ v = .int .i64 (lenTo L t) ∧ W = wr) (fun _ i _ => 4 - (intOf i).toNat)
        case atStart => exact ⟨0, by omega, rfl, rfl, rfl⟩
        case round =>
          obtain ⟨t, ht, rfl, rfl, rfl⟩ := hrel
          by_cases hlt9 : t < 4
          · obtain ⟨a9, c9, g9, _, _⟩ := hRg.ref.row (t * 8) (by omega)
            have q9 := hRg.box.cell _ g9
            have hs9 := lenTo_succ L t
            have hl9 := lenTo_le hG (t + 1)
            generalize (L (t * 8)).length = ln at q9 hs9
            generalize lenTo L t = sm at hs9
            have i0 : (0 : Int) ≤ t := by omega
            have i1 : (t : Int) < 4 := by omega
            have hb9 : sm + ln ≤ 40 := by omega
            have HS := Lib.hid hs9
            clear hs9 g9
            go_wp2_with fail
            exact ⟨⟨t + 1, by omega, by go_num, by rw [HS.out]; go_num, trivial⟩, by simp [intOf]; omega⟩
          · obtain rfl : t = 4 := by omega
            have cn := hRg.n.cell 0 rfl
            go_wp2_with fail
            refine (works_ok _).mono ?_; rintro e Wf ⟨rfl, kf⟩
            have hF := hRg.step kf
            have cr := hF.res.cell 0 rfl
            have fr := hF.res.frozen 0
            have hDn : D ≠ w.heap.size + 1 := by omega
            have hKf : Wf.heap[D]? = some (.deferred (some [])) := (kf.block D (Array.getElem?_eq_some_iff.1 hK).1).trans hK
            have hK2 : (Wf.setCell ⟨w.heap.size + 1, 0, none⟩ (.bool true)).heap[D]? = some (.deferred (some [])) := (Below.heap_setCell Wf ⟨w.heap.size + 1, 0, none⟩ _ D hDn).trans hKf
            have hDl := (Array.getElem?_eq_some_iff.1 hK2).1
            have u4 : Blk ((Wf.setCell ⟨w.heap.size + 1, 0, none⟩ (.bool true)).putObj D (.deferred none)) (w.heap.size + 1) _ _ := (World.putObj_heap_other (Ne.symm hDn)).trans (hF.res.set 0 (.bool true))
            have c4 := u4.cell 0 rfl
            have kz := (hb0.trans (hF.bel.mono zb)).setCell (p := ⟨w.heap.size + 1, 0, none⟩) (by dsimp only; omega) (.bool true)
            go_wp2_with fail
            refine postM_ret hK2 (v := .bool true) (by
              simp [results, asAddr]
              simp [go_sem, c4]) ⟨rfl, below_putObj kz (by omega) _ hDl⟩
end Go.Proofs.Ytkilmppmghkigaa
