/-
  Package pinfoldlaw07: FramePlays. No condition.
-/
import Derived.Test.YtfmkjckckekliaaFrDs
import Derived.Test.YtfmkjckckekliaaFrDm
import Derived.Test.YtfmkjckckekliaaFrDn
namespace Go.Proofs.Ytfmkjckckekliaa
open Go.RowKit
attribute [local go_sem] Oper.semAt_some
set_option maxHeartbeats 2000000
set_option maxRecDepth 8000

theorem act_ok {w0 W : World} {b bf br : Nat} {many : Int} {F : List Fr} {R : List (Int × Int)} {v : Value} (h : Pl w0 W b bf br many F R v) (x : ActV) (hxv : RowAt W.heap.size W x.v x.bs.length (intVals .u8 x.bs)) (hbl : x.bs.length ≤ 300) (hbw : ∀ y ∈ x.bs, 0 ≤ y ∧ y < 256) :
    Calls Try.prog 21 #[.pointer (some ⟨b, 0, none⟩), .agg (poolV v (docR R)), .agg #[.int .i64 x.what, .int .i64 x.who, .int .i64 x.n, .int .i64 x.at_, x.v]] W fun e w' =>
      ∃ b' bf' br' F' R' v', e = .returned (.tuple #[.pointer (some ⟨b', 0, none⟩), .agg (poolV v' (docR R')), .bool true]) ∧ ActE w0 W w' b bf br many F R b' bf' br' F' R' v' := by
  by_cases h0 : x.what = 0
  · exact act0_ok h x h0 hxv hbl hbw
  by_cases h1 : x.what = 1
  · exact act1_ok h x h1 hxv hbl hbw
  by_cases h2 : x.what = 2
  · exact act2_ok h x h2 hxv hbl hbw
  by_cases h3 : x.what = 3
  · exact act3_ok h x h3 hxv hbl hbw
  by_cases h4 : x.what = 4
  · exact act4_ok h x h4 hxv hbl hbw
  exact act5_ok h x ⟨h0, h1, h2, h3, h4⟩ hxv hbl hbw
def isSl (v : Value) : Prop := ∃ a n c, v = .slice a n c
theorem RowAt.sl {B n : Nat} {W : World} {v : Value} {xs : List Value} (h : RowAt B W v n xs) : isSl v := by
  obtain ⟨a, c, rfl, _⟩ := h.len
  exact ⟨_, _, _, rfl⟩
theorem isSl.one {v : Value} (h : isSl v) : v.oneCell' = true := by
  obtain ⟨a, n, c, rfl⟩ := h
  rfl
theorem Chg2.blk {c d : Nat} {W W' : World} (h : Chg2 c d W W') {b : Nat} {cs : Array Value} {t : TypeId} (hB : Blk W b cs t) (h1 : b ≠ c) (h2 : b ≠ d) : Blk W' b cs t := (h.block b hB.lt h1 h2).trans hB
theorem Pl.step {w W W' : World} {b bf br : Nat} {many : Int} {F : List Fr} {R : List (Int × Int)} {v : Value} (h : Pl w W b bf br many F R v) (k : Below W.heap.size W W') : Pl w W' b bf br many F R v :=
  ⟨h.live.step k, h.g, (h.r.below k (Nat.le_refl _)).mono k.size⟩
theorem Pl.set {w W : World} {b bf br e : Nat} {many : Int} {F : List Fr} {R : List (Int × Int)} {v u : Value} {V : List Int} (h : Pl w W b bf br many F R v) (hb : Blk W e (poolV u V) 54) (hu : isSl u) (he : w.heap.size ≤ e) (h1 : b ≠ e) (h2 : bf ≠ e) (h3 : br ≠ e) (vs : List Value) :
    Pl w (W.setCells e 0 vs) b bf br many F R v := by
  obtain ⟨a, n, c, rfl⟩ := hu
  have hk := bel_setCells h.live.bel he vs 0
  have hz := bel_setCells (Below.refl e W) (Nat.le_refl _) vs 0
  exact ⟨⟨h.live.pool.setCellsO vs 0 h1 h2 h3, hk, h.live.lf, h.live.lr⟩, h.g, (h.r.setPool hb vs 0).mono hz.size⟩
/-- A pool and the document's, and a box that holds one of the document's. -/
structure Lq (w W : World) (b bf br g : Nat) (many : Int) (F : List Fr) (R : List (Int × Int)) (v vx : Value) (Vx : List Int) : Prop where
  p : Pl w W b bf br many F R v
  x : Blk W g (poolV vx Vx) 54
  sx : isSl vx
  lo : w.heap.size ≤ g
  n1 : b ≠ g
  n2 : bf ≠ g
  n3 : br ≠ g
section
variable {w W W' : World} {b bf br g d b' bf' br' : Nat} {many : Int} {F F' : List Fr} {R R' : List (Int × Int)} {v v' vx : Value} {Vx : List Int}
theorem Lq.step (h : Lq w W b bf br g many F R v vx Vx) (k : Below W.heap.size W W') : Lq w W' b bf br g many F R v vx Vx :=
  ⟨h.p.step k, h.x.below k h.x.lt, h.sx, h.lo, h.n1, h.n2, h.n3⟩
theorem Lq.act (h : Lq w W b bf br g many F R v vx Vx) (k : ActE w W W' b bf br many F R b' bf' br' F' R' v') : Lq w W' b' bf' br' g many F' R' v' vx Vx := by
  have hg := h.x.lt
  have h1 := h.n1
  have h2 := h.n2
  have h3 := h.n3
  refine ⟨k.p, k.c.blk h.x (Ne.symm h2) (Ne.symm h3), h.sx, h.lo, ?_, ?_, ?_⟩ <;> rcases k.n with ⟨rfl, rfl, rfl⟩ | ⟨q1, q2, q3⟩ <;> first | assumption | omega
/-- Besides, a box that is to be laid. -/
structure Ld (w W : World) (b bf br g d : Nat) (many : Int) (F : List Fr) (R : List (Int × Int)) (v vx : Value) (Vx : List Int) : Prop where
  l : Lq w W b bf br g many F R v vx Vx
  n : Blk W d (poolV (.slice none 0 0) zeros64) 54
  ne : g ≠ d
  lo : w.heap.size ≤ d
  n1 : b ≠ d
  n2 : bf ≠ d
  n3 : br ≠ d
theorem Ld.act (h : Ld w W b bf br g d many F R v vx Vx) (k : ActE w W W' b bf br many F R b' bf' br' F' R' v') : Ld w W' b' bf' br' g d many F' R' v' vx Vx := by
  have hg := h.n.lt
  have h1 := h.n1
  have h2 := h.n2
  have h3 := h.n3
  refine ⟨h.l.act k, k.c.blk h.n (Ne.symm h2) (Ne.symm h3), h.ne, h.lo, ?_, ?_, ?_⟩ <;> rcases k.n with ⟨rfl, rfl, rfl⟩ | ⟨q1, q2, q3⟩ <;> first | assumption | omega
theorem Lq.al (h : Lq w W b bf br g many F R v vx Vx) (hW : W' = W.alloc (.cells Try.zeroCells54 54)) : Ld w W' b bf br g W.heap.size many F R v vx Vx := by
  subst hW
  have h1 := h.p.live.pool.blk.lt
  have h2 := h.p.live.pool.fr.lt
  have h3 := h.p.live.pool.re.lt
  exact ⟨h.step ((Below.refl _ W).alloc (Nat.le_refl _) _), zbox W, Nat.ne_of_lt h.x.lt, h.p.live.bel.size, by omega, by omega, by omega⟩
theorem Ld.put (h : Ld w W b bf br g d many F R v vx Vx) (u : Value) (V : List Int) (hV : V.length = 64) :
    Lq w (W.setCells d 0 (poolV u V).toList) b bf br g many F R v vx Vx ∧ Blk (W.setCells d 0 (poolV u V).toList) d (poolV u V) 54 :=
  ⟨⟨h.l.p.set h.n ⟨_, _, _, rfl⟩ h.lo h.n1 h.n2 h.n3 _, h.l.x.setCellsO _ 0 h.ne, h.l.sx, h.l.lo, h.l.n1, h.l.n2, h.l.n3⟩, h.n.whole _ ((poolV_size _ hV).trans (poolV_size _ rfl).symm)⟩
theorem Lq.put (h : Lq w W b bf br g many F R v vx Vx) (hVx : Vx.length = 64) (u : Value) (hu : isSl u) (V : List Int) (hV : V.length = 64) :
    Lq w (W.setCells g 0 (poolV u V).toList) b bf br g many F R v u V :=
  ⟨h.p.set h.x h.sx h.lo h.n1 h.n2 h.n3 _, h.x.whole _ ((poolV_size _ hV).trans (poolV_size _ hVx).symm), hu, h.lo, h.n1, h.n2, h.n3⟩
end
structure PlyS (ba off g : Nat) (x : ActV) (V : Array Value) (Y : World) : Prop where
  c0 : Y.cell? ⟨ba, off, none⟩ = some (.int .i64 x.what)
  c1 : Y.cell? ⟨ba, off + 1, none⟩ = some (.int .i64 x.who)
  c2 : Y.cell? ⟨ba, off + 2, none⟩ = some (.int .i64 x.n)
  c3 : Y.cell? ⟨ba, off + 3, none⟩ = some (.int .i64 x.at_)
  c4 : Y.cell? ⟨ba, off + 4, none⟩ = some x.v
  r : Blk Y g V 54
theorem PlyS.mk' {B ba off g : Nat} {x : ActV} {V : Array Value} {Y : World} (h : ActAt B Y ba off x) (k : Blk Y g V 54) : PlyS ba off g x V Y := ⟨h.c0, h.c1, h.c2, h.c3, h.c4, k⟩
theorem newL_doc (n : Nat) : newL n = docL n [] := by
  refine List.ext_getElem (by rw [newL_len, docL_len]) fun i h1 h2 => ?_
  rw [docL_get]
  simp only [newL, List.getElem_replicate]
  rfl
theorem plays_body (many : Int) (v1 : Value) (l : List ActV) (w : World) (hv : ActsAt w.heap.size w v1 l) :
    Calls Try.prog 5 #[.int .i64 many, v1] w fun e w' => e = .returned (.bool true) ∧ Below w.heap.size w w' := by
  have HVL := Lib.hid hv
  obtain ⟨ad, cap, rfl, hcap, hmx, _⟩ := hv
  have hml : l.length ≤ 9223372036854775807 := by unfold maxLen at hmx; omega
  clear hmx
  cases hf : fewI l 50
  · go_enter Try.func5, Try.ntmps5
    go_wp2_with fail
    refine (few_ok _ l 50 _ w HVL.out).mono ?_; rintro e _ ⟨rfl, rfl⟩
    rw [hf]
    clear hf
    go_wp2_with fail
    refine (works_ok _).mono ?_; rintro e w1 ⟨rfl, k⟩
    go_wp2_with fail
    go_ret
    exact ⟨rfl, k⟩
  have HF := Lib.hid hf
  by_cases hm : 12 < many
  · go_enter Try.func5, Try.ntmps5
    go_wp2_with fail
    refine (few_ok _ l 50 _ w HVL.out).mono ?_; rintro e _ ⟨rfl, rfl⟩
    rw [HF.out]
    clear hf
    go_wp2_with fail
    refine (works_ok _).mono ?_; rintro e w1 ⟨rfl, k⟩
    go_wp2_with fail
    go_ret
    exact ⟨rfl, k⟩
  by_cases hneg : many < 0
  · go_enter Try.func5, Try.ntmps5
    go_wp2_with fail
    refine (few_ok _ l 50 _ w HVL.out).mono ?_; rintro e _ ⟨rfl, rfl⟩
    rw [HF.out]
    clear hf
    go_wp2_with fail
    refine (New_no many (.inl hneg) _).mono ?_; rintro e w1 ⟨rfl, k1⟩
    go_wp2_with fail
    refine (rNew_no many (.inl hneg) _).mono ?_; rintro e w2 ⟨rfl, k2⟩
    have HNB := Lib.hid (zbox w2)
    go_wp2_with (refine wpList_storeBG ty65 rfl _ _ rfl w2.heap.size (poolV (.slice none 0 0) zeros64) rfl rfl HNB.out (poolV_size _ rfl) (poolV_size _ rfl) (poolV_one rfl _) ?_)
    intro w3 hw3
    obtain ⟨k3, hB3⟩ := newbox rfl hw3
    have kk := (k1.trans (k2.mono k1.size)).trans (k3.mono (Nat.le_trans k1.size k2.size))
    clear hw3 k1 k2 k3 HNB hB3
    go_wp2_with fail
    refine (none_ok _ _).mono ?_; rintro e w4 ⟨rfl, k4⟩
    replace kk := kk.trans (k4.mono kk.size)
    clear k4
    go_wp2_with fail
    refine (num_calls _ _).mono ?_; rintro e _ ⟨rfl, rfl⟩
    go_wp2_with fail
    refine (works_ok _).mono ?_; rintro e w5 ⟨rfl, k5⟩
    replace kk := kk.trans (k5.mono kk.size)
    clear k5
    go_wp2_with fail
    go_ret
    exact ⟨rfl, kk⟩
  obtain ⟨n, rfl⟩ : ∃ n : Nat, many = n := ⟨many.toNat, by omega⟩
  go_enter Try.func5, Try.ntmps5
  go_wp2_with fail
  refine (few_ok _ l 50 _ w HVL.out).mono ?_; rintro e _ ⟨rfl, rfl⟩
  rw [HF.out]
  clear hf
  go_wp2_with fail
  refine (New_calls n (by omega) (by omega) w).mono ?_; rintro e w1 ⟨b0, bf0, br0, rfl, hp, lf, lr, lb, k1⟩
  go_wp2_with fail
  refine (rNew_ok n (by omega) _).mono ?_; rintro e w2 ⟨v2, rfl, hr2, k2⟩
  have hdl : newL n = docL (n : Int).toNat [] := by
    rw [Int.toNat_natCast]
    exact newL_doc n
  have HDR := Lib.hid (show zeros64 = docR [] by decide)
  rw [hdl] at hr2
  clear hdl
  have hP2 : Pl w w2 b0 bf0 br0 n [] [] v2 := ⟨⟨hp.step k2, k1.trans (k2.mono k1.size), lf, lr⟩, good_new n (by omega) (by omega), hr2⟩
  have HSL2 := Lib.hid hr2.sl
  have hb9 := hP2.live.pool.blk.lt
  have hf9 := hP2.live.pool.fr.lt
  have hr9 := hP2.live.pool.re.lt
  clear hr2 hp lf lr lb k1 k2
  have HNB := Lib.hid (zbox w2)
  go_wp2_with (refine wpList_storeBG ty65 rfl _ _ rfl w2.heap.size (poolV v2 zeros64) rfl rfl HNB.out (poolV_size _ rfl) (poolV_size _ rfl) (poolV_one HSL2.out.one _) ?_)
  intro w3 hw3
  obtain ⟨k3, hB3⟩ := newbox rfl hw3
  rw [HDR.out] at hB3
  have hL3 : Lq w w3 b0 bf0 br0 w2.heap.size n [] [] v2 v2 (docR []) := ⟨hP2.step k3, hB3, HSL2.out, hP2.live.bel.size, by omega, by omega, by omega⟩
  obtain ⟨g, hg⟩ : ∃ g, w2.heap.size = g := ⟨_, rfl⟩
  rw [hg] at hL3 ⊢
  clear hw3 k3 hB3 hP2 HNB hb9 hf9 hr9 hg
  go_wp2_with fail
  refine (none_ok _ _).mono ?_; rintro e w4 ⟨rfl, k4⟩
  have hL4 := hL3.step k4
  clear k4 hL3
  go_wp2_with fail
  go_loopw [5, 9] (fun t i wr => ∃ (k b bf br : Nat) (F : List Fr) (R : List (Int × Int)) (v : Value), k ≤ l.length ∧ i = .int .i64 k ∧ t = .pointer (some ⟨b, 0, none⟩) ∧ Lq w wr b bf br g n F R v v (docR R)) (fun _ i _ => l.length - (intOf i).toNat)
  case atStart => exact ⟨0, _, _, _, _, _, _, by omega, rfl, rfl, hL4⟩
  case round =>
    obtain ⟨k, b, bf, br, F, R, v, hk, rfl, rfl, hL⟩ := hrel
    rename_i wr
    clear hL4
    have HV := Lib.hid (docR_len R)
    by_cases hlt : k < l.length
    · obtain ⟨ba, off, rfl, hA⟩ : ∃ b off, ad = some ⟨b, off, none⟩ ∧ ∀ i (h : i < l.length), ActAt w.heap.size w b (off + i * 5) l[i] := by
        obtain ⟨_, _, hv, _, _, h⟩ := HVL.out
        simp only [Value.slice.injEq] at hv
        obtain ⟨rfl, _⟩ := hv
        rcases h with h | h
        · rw [h] at hlt; simp at hlt
        · exact h
      have hAk := hA k hlt
      clear hA
      have hbl : l[k].bs.length ≤ 300 := by
        have h9 := HF.out
        unfold fewI at h9
        rw [Bool.and_eq_true] at h9
        have := of_decide_eq_true h9.1 l[k] (List.getElem_mem hlt)
        omega
      obtain ⟨x, hx⟩ : ∃ x, l[k] = x := ⟨_, rfl⟩
      rw [hx] at hAk hbl
      have i0 : (0 : Int) ≤ k := by omega
      have i1 : (k : Int) < l.length := by omega
      have HAKW := Lib.hid hAk.bw
      have HACT := Lib.hid (fun (Y : World) (h : Pl w Y b bf br n F R v) (hr : RowAt Y.heap.size Y x.v x.bs.length (intVals .u8 x.bs)) => act_ok h x hr hbl HAKW.out)
      have HAK := Lib.hid hAk
      have hst : PlyS ba (off + k * 5) g x (poolV v (docR R)) wr.drew := PlyS.mk' (hAk.below hL.p.live.bel.drew (Nat.le_refl _)) hL.x.drew
      have HL := Lib.hid hL
      clear hx hL hAk hbl
      go_wp2_with fail
      refine wp_onlyN ?_
      refine wp_region_held_drew (S := PlyS ba (off + k * 5) g x (poolV v (docR R))) (by kernel_rfl) hst (fun hHeld => ?_)
      have hL := HL.out.step (Below.refl _ wr).drew
      have hAk := HAK.out
      clear HL HAK hst
      change wpAnyH _ _ _ _ _ _ _ _ wr.drew
      generalize wr.drew = Y at hL hHeld ⊢
      refine wpAnyH_take (i := 0) (v := ?_) rfl (by kernel_rfl) (by kernel_rfl) (by kernel_rfl) (fun _ _ _ h => h) (Or.inl ⟨by rfl, ?_⟩) (by assumption) ?_
      rotate_left
      · (intro Y hSw; (try dsimp only at hSw); obtain ⟨hS0, hS1, hS2, hS3, hS4, hS5⟩ := hSw; go_simp; try with_reducible rfl)
      try simp only [Act.put, List.getElem_toArray, List.getElem_cons_zero, List.getElem_cons_succ, List.setIfInBounds_toArray, List.set_cons_zero, List.set_cons_succ]
      refine wpAnyH_take (i := 1) (v := .agg (poolV v (docR R))) rfl (by kernel_rfl) (by kernel_rfl) (by kernel_rfl) (fun _ _ _ h => h) (Or.inl ⟨by rfl, fun Y hSw => exec_loadB ty65 _ rfl g rfl hSw.r (poolV_size _ HV.out)⟩) (by assumption) ?_
      try simp only [Act.put, List.getElem_toArray, List.getElem_cons_zero, List.getElem_cons_succ, List.setIfInBounds_toArray, List.set_cons_zero, List.set_cons_succ]
      refine wpAnyH_take (i := 2) (v := ?_) rfl (by kernel_rfl) (by kernel_rfl) (by kernel_rfl) (fun _ _ _ h => h) (Or.inl ⟨by rfl, ?_⟩) (by assumption) ?_
      rotate_left
      · (intro Y hSw; (try dsimp only at hSw); obtain ⟨hS0, hS1, hS2, hS3, hS4, hS5⟩ := hSw; go_simp; try with_reducible rfl)
      try simp only [Act.put, List.getElem_toArray, List.getElem_cons_zero, List.getElem_cons_succ, List.setIfInBounds_toArray, List.set_cons_zero, List.set_cons_succ]
      refine wpAnyH_take (i := 3) (v := ?_) rfl (by kernel_rfl) (by kernel_rfl) (by kernel_rfl) (fun _ _ _ h => h) (Or.inl ⟨by rfl, ?_⟩) (by assumption) ?_
      rotate_left
      · (intro Y hSw; (try dsimp only at hSw); obtain ⟨hS0, hS1, hS2, hS3, hS4, hS5⟩ := hSw; go_simp; try with_reducible rfl)
      try simp only [Act.put, List.getElem_toArray, List.getElem_cons_zero, List.getElem_cons_succ, List.setIfInBounds_toArray, List.set_cons_zero, List.set_cons_succ]
      refine wpAnyH_take (i := 4) (v := ?_) rfl (by kernel_rfl) (by kernel_rfl) (by kernel_rfl) (fun _ _ _ h => h) (Or.inl ⟨by rfl, ?_⟩) (by assumption) ?_
      rotate_left
      · (intro Y hSw; (try dsimp only at hSw); obtain ⟨hS0, hS1, hS2, hS3, hS4, hS5⟩ := hSw; go_simp; try with_reducible rfl)
      try simp only [Act.put, List.getElem_toArray, List.getElem_cons_zero, List.getElem_cons_succ, List.setIfInBounds_toArray, List.set_cons_zero, List.set_cons_succ]
      refine wpAnyH_take (i := 5) (v := ?_) rfl (by kernel_rfl) (by kernel_rfl) (by kernel_rfl) (fun _ _ _ h => h) (Or.inl ⟨by rfl, ?_⟩) (by assumption) ?_
      rotate_left
      · (intro Y hSw; (try dsimp only at hSw); obtain ⟨hS0, hS1, hS2, hS3, hS4, hS5⟩ := hSw; go_simp; try with_reducible rfl)
      try simp only [Act.put, List.getElem_toArray, List.getElem_cons_zero, List.getElem_cons_succ, List.setIfInBounds_toArray, List.set_cons_zero, List.set_cons_succ]
      refine wpAnyH_ready (rs := [6, 11]) (by kernel_rfl) (by simp) ?_
      refine AllReadyH.cons rfl (fun K hK => ?_) (AllReadyH.cons rfl (fun K hK => ?_) AllReadyH.nil)
      · go_simp
        have hrx := ((hAk.row.below hL.p.live.bel (Nat.le_refl _)).mono hL.p.live.bel.size)
        refine (HACT.out Y hL.p hrx).mono ?_; rintro e Y2 ⟨b', bf', br', F', R', v', rfl, hE2⟩
        replace hL := hL.act hE2
        clear hE2 hrx
        go_simp
        refine hK.out _ _ (PlyS.mk' (hAk.below hL.p.live.bel (Nat.le_refl _)) hL.x) (fun hHeld => ?_)
        clear hK K
        try simp only [Act.put, List.getElem_toArray, List.getElem_cons_zero, List.getElem_cons_succ, List.setIfInBounds_toArray, List.set_cons_zero, List.set_cons_succ]
        refine wpAnyH_take (i := 7) (v := ?_) rfl (by kernel_rfl) (by kernel_rfl) (by kernel_rfl) (fun _ _ _ h => h) (Or.inl ⟨by rfl, ?_⟩) (by assumption) ?_
        rotate_left
        · (intro Y hSw; (try dsimp only at hSw); obtain ⟨hS0, hS1, hS2, hS3, hS4, hS5⟩ := hSw; go_simp; try with_reducible rfl)
        try simp only [Act.put, List.getElem_toArray, List.getElem_cons_zero, List.getElem_cons_succ, List.setIfInBounds_toArray, List.set_cons_zero, List.set_cons_succ]
        refine wpAnyH_take (i := 8) (v := ?_) rfl (by kernel_rfl) (by kernel_rfl) (by kernel_rfl) (fun _ _ _ h => h) (Or.inl ⟨by rfl, ?_⟩) (by assumption) ?_
        rotate_left
        · (intro Y hSw; (try dsimp only at hSw); obtain ⟨hS0, hS1, hS2, hS3, hS4, hS5⟩ := hSw; go_simp; try with_reducible rfl)
        try simp only [Act.put, List.getElem_toArray, List.getElem_cons_zero, List.getElem_cons_succ, List.setIfInBounds_toArray, List.set_cons_zero, List.set_cons_succ]
        refine wpAnyH_take (i := 9) (v := ?_) rfl (by kernel_rfl) (by kernel_rfl) (by kernel_rfl) (fun _ _ _ h => h) (Or.inl ⟨by rfl, ?_⟩) (by assumption) ?_
        rotate_left
        · (intro Y hSw; (try dsimp only at hSw); obtain ⟨hS0, hS1, hS2, hS3, hS4, hS5⟩ := hSw; go_simp; try with_reducible rfl)
        try simp only [Act.put, List.getElem_toArray, List.getElem_cons_zero, List.getElem_cons_succ, List.setIfInBounds_toArray, List.set_cons_zero, List.set_cons_succ]
        refine wpAnyH_take (i := 10) (v := ?_) rfl (by kernel_rfl) (by kernel_rfl) (by kernel_rfl) (fun _ _ _ h => h) (Or.inl ⟨by rfl, ?_⟩) (by assumption) ?_
        rotate_left
        · (intro Y hSw; (try dsimp only at hSw); obtain ⟨hS0, hS1, hS2, hS3, hS4, hS5⟩ := hSw; go_simp; try with_reducible rfl)
        try simp only [Act.put, List.getElem_toArray, List.getElem_cons_zero, List.getElem_cons_succ, List.setIfInBounds_toArray, List.set_cons_zero, List.set_cons_succ]
        refine wpAnyH_ready (rs := [11]) (by kernel_rfl) (by simp) ?_
        refine AllReadyH.cons rfl (fun K hK => ?_) AllReadyH.nil
        go_simp
        generalize hZ : World.alloc Y2 _ = Z
        replace hL := hL.al hZ.symm
        clear hZ
        obtain ⟨d, hd⟩ : ∃ d, Y2.heap.size = d := ⟨_, rfl⟩
        rw [hd] at hL ⊢
        refine hK.out _ _ (PlyS.mk' (hAk.below hL.l.p.live.bel (Nat.le_refl _)) hL.l.x) (fun hHeld => ?_)
        clear hK K
        try simp only [Act.put, List.getElem_toArray, List.getElem_cons_zero, List.getElem_cons_succ, List.setIfInBounds_toArray, List.set_cons_zero, List.set_cons_succ]
        refine wpAnyH_take (i := 12) (v := ?_) rfl (by kernel_rfl) (by kernel_rfl) (by kernel_rfl) (fun _ _ _ h => h) (Or.inl ⟨by rfl, ?_⟩) (by assumption) ?_
        rotate_left
        · (intro Y hSw; (try dsimp only at hSw); obtain ⟨hS0, hS1, hS2, hS3, hS4, hS5⟩ := hSw; go_simp; try with_reducible rfl)
        try simp only [Act.put, List.getElem_toArray, List.getElem_cons_zero, List.getElem_cons_succ, List.setIfInBounds_toArray, List.set_cons_zero, List.set_cons_succ]
        refine wpAnyH_ready (rs := [13]) (by kernel_rfl) (by simp) ?_
        refine AllReadyH.cons rfl (fun K hK => ?_) AllReadyH.nil
        rw [if_pos (by rfl)]
        have HSL := Lib.hid hL.l.p.r.sl
        have HV' := Lib.hid (docR_len R')
        refine wp_storeB ty65 _ _ rfl d (poolV v' (docR R')) rfl rfl hL.n (poolV_size _ rfl) (poolV_size _ HV'.out) (poolV_one HSL.out.one _) ?_
        obtain ⟨hL2, hN2⟩ := hL.put v' (docR R') HV'.out
        have hne := hL.ne
        refine hK.out _ _ (PlyS.mk' (hAk.below hL2.p.live.bel (Nat.le_refl _)) hL2.x) (fun hHeld => ?_)
        clear hK K
        try simp only [Act.put, List.getElem_toArray, List.getElem_cons_zero, List.getElem_cons_succ, List.setIfInBounds_toArray, List.set_cons_zero, List.set_cons_succ]
        refine wpAnyH_take (i := 14) (v := ?_) rfl (by kernel_rfl) (by kernel_rfl) (by kernel_rfl) (fun _ _ _ h => h) (Or.inl ⟨by rfl, ?_⟩) (by assumption) ?_
        rotate_left
        · (intro Y hSw; (try dsimp only at hSw); obtain ⟨hS0, hS1, hS2, hS3, hS4, hS5⟩ := hSw; go_simp; try with_reducible rfl)
        try simp only [Act.put, List.getElem_toArray, List.getElem_cons_zero, List.getElem_cons_succ, List.setIfInBounds_toArray, List.set_cons_zero, List.set_cons_succ]
        refine wpAnyH_done (by kernel_rfl) ?_ _
        rw [onlyN_normal]
        clear hL hHeld
        generalize World.setCells Z d 0 _ = Z2 at hL2 hN2 ⊢
        go_wp2_with fail
        refine wp_onlyN ?_
        refine wp_region_held_drew (S := fun Y => Blk Y d (poolV v' (docR R')) 54) (by kernel_rfl) hN2.drew (fun hHeld => ?_)
        have hL3 := hL2.step (Below.refl _ Z2).drew
        have hN3 := hN2.drew
        clear hL2 hN2
        change wpAnyH _ _ _ _ _ _ _ _ Z2.drew
        generalize Z2.drew = Z3 at hL3 hN3 hHeld ⊢
        refine wpAnyH_take (i := 0) (v := ?_) rfl (by kernel_rfl) (by kernel_rfl) (by kernel_rfl) (fun _ _ _ h => h) (Or.inl ⟨by rfl, ?_⟩) (by assumption) ?_
        rotate_left
        · (intro Y hSw; (try dsimp only at hSw); obtain hS0 := hSw; go_simp; try with_reducible rfl)
        try simp only [Act.put, List.getElem_toArray, List.getElem_cons_zero, List.getElem_cons_succ, List.setIfInBounds_toArray, List.set_cons_zero, List.set_cons_succ]
        refine wpAnyH_take (i := 1) (v := .agg (poolV v' (docR R'))) rfl (by kernel_rfl) (by kernel_rfl) (by kernel_rfl) (fun _ _ _ h => h) (Or.inl ⟨by rfl, fun Y hSw => exec_loadB ty65 _ rfl d rfl hSw (poolV_size _ HV'.out)⟩) (by assumption) ?_
        try simp only [Act.put, List.getElem_toArray, List.getElem_cons_zero, List.getElem_cons_succ, List.setIfInBounds_toArray, List.set_cons_zero, List.set_cons_succ]
        refine wpAnyH_take (i := 2) (v := ?_) rfl (by kernel_rfl) (by kernel_rfl) (by kernel_rfl) (fun _ _ _ h => h) (Or.inl ⟨by rfl, ?_⟩) (by assumption) ?_
        rotate_left
        · (intro Y hSw; (try dsimp only at hSw); obtain hS0 := hSw; go_simp; try with_reducible rfl)
        try simp only [Act.put, List.getElem_toArray, List.getElem_cons_zero, List.getElem_cons_succ, List.setIfInBounds_toArray, List.set_cons_zero, List.set_cons_succ]
        refine wpAnyH_ready (rs := [3]) (by kernel_rfl) (by simp) ?_
        refine AllReadyH.cons rfl (fun K hK => ?_) AllReadyH.nil
        rw [if_pos (by rfl)]
        refine wp_storeB ty65 _ _ rfl g (poolV v' (docR R')) rfl rfl hL3.x (poolV_size _ HV.out) (poolV_size _ HV'.out) (poolV_one HSL.out.one _) ?_
        have hL4 := hL3.put HV.out v' HSL.out (docR R') HV'.out
        have hN4 := hN3.setCellsO (poolV v' (docR R')).toList 0 (Ne.symm hne)
        refine hK.out _ _ (hN4) (fun hHeld => ?_)
        clear hK K
        try simp only [Act.put, List.getElem_toArray, List.getElem_cons_zero, List.getElem_cons_succ, List.setIfInBounds_toArray, List.set_cons_zero, List.set_cons_succ]
        refine wpAnyH_done (by kernel_rfl) ?_ _
        rw [onlyN_normal]
        clear hL3 hN3 hN4 hHeld
        generalize World.setCells Z3 g 0 _ = Z4 at hL4 ⊢
        go_wp2_with fail
        exact ⟨⟨k + 1, b', bf', br', F', R', v', by omega, by go_num, rfl, hL4⟩, by simp [intOf]; omega⟩
      · go_simp
        generalize hZ : World.alloc Y _ = Y1
        replace hL := hL.al hZ.symm
        clear hZ
        obtain ⟨d, hd⟩ : ∃ d, Y.heap.size = d := ⟨_, rfl⟩
        rw [hd] at hL ⊢
        refine hK.out _ _ (PlyS.mk' (hAk.below hL.l.p.live.bel (Nat.le_refl _)) hL.l.x) (fun hHeld => ?_)
        clear hK K
        try simp only [Act.put, List.getElem_toArray, List.getElem_cons_zero, List.getElem_cons_succ, List.setIfInBounds_toArray, List.set_cons_zero, List.set_cons_succ]
        refine wpAnyH_ready (rs := [6]) (by kernel_rfl) (by simp) ?_
        refine AllReadyH.cons rfl (fun K hK => ?_) AllReadyH.nil
        go_simp
        have hrx := ((hAk.row.below hL.l.p.live.bel (Nat.le_refl _)).mono hL.l.p.live.bel.size)
        refine (HACT.out Y1 hL.l.p hrx).mono ?_; rintro e Z ⟨b', bf', br', F', R', v', rfl, hE2⟩
        replace hL := hL.act hE2
        clear hE2 hrx
        go_simp
        refine hK.out _ _ (PlyS.mk' (hAk.below hL.l.p.live.bel (Nat.le_refl _)) hL.l.x) (fun hHeld => ?_)
        clear hK K
        try simp only [Act.put, List.getElem_toArray, List.getElem_cons_zero, List.getElem_cons_succ, List.setIfInBounds_toArray, List.set_cons_zero, List.set_cons_succ]
        refine wpAnyH_take (i := 7) (v := ?_) rfl (by kernel_rfl) (by kernel_rfl) (by kernel_rfl) (fun _ _ _ h => h) (Or.inl ⟨by rfl, ?_⟩) (by assumption) ?_
        rotate_left
        · (intro Y hSw; (try dsimp only at hSw); obtain hS0 := hSw; go_simp; try with_reducible rfl)
        try simp only [Act.put, List.getElem_toArray, List.getElem_cons_zero, List.getElem_cons_succ, List.setIfInBounds_toArray, List.set_cons_zero, List.set_cons_succ]
        refine wpAnyH_take (i := 8) (v := ?_) rfl (by kernel_rfl) (by kernel_rfl) (by kernel_rfl) (fun _ _ _ h => h) (Or.inl ⟨by rfl, ?_⟩) (by assumption) ?_
        rotate_left
        · (intro Y hSw; (try dsimp only at hSw); obtain hS0 := hSw; go_simp; try with_reducible rfl)
        try simp only [Act.put, List.getElem_toArray, List.getElem_cons_zero, List.getElem_cons_succ, List.setIfInBounds_toArray, List.set_cons_zero, List.set_cons_succ]
        refine wpAnyH_take (i := 9) (v := ?_) rfl (by kernel_rfl) (by kernel_rfl) (by kernel_rfl) (fun _ _ _ h => h) (Or.inl ⟨by rfl, ?_⟩) (by assumption) ?_
        rotate_left
        · (intro Y hSw; (try dsimp only at hSw); obtain hS0 := hSw; go_simp; try with_reducible rfl)
        try simp only [Act.put, List.getElem_toArray, List.getElem_cons_zero, List.getElem_cons_succ, List.setIfInBounds_toArray, List.set_cons_zero, List.set_cons_succ]
        refine wpAnyH_take (i := 10) (v := ?_) rfl (by kernel_rfl) (by kernel_rfl) (by kernel_rfl) (fun _ _ _ h => h) (Or.inl ⟨by rfl, ?_⟩) (by assumption) ?_
        rotate_left
        · (intro Y hSw; (try dsimp only at hSw); obtain hS0 := hSw; go_simp; try with_reducible rfl)
        try simp only [Act.put, List.getElem_toArray, List.getElem_cons_zero, List.getElem_cons_succ, List.setIfInBounds_toArray, List.set_cons_zero, List.set_cons_succ]
        refine wpAnyH_take (i := 12) (v := ?_) rfl (by kernel_rfl) (by kernel_rfl) (by kernel_rfl) (fun _ _ _ h => h) (Or.inl ⟨by rfl, ?_⟩) (by assumption) ?_
        rotate_left
        · (intro Y hSw; (try dsimp only at hSw); obtain hS0 := hSw; go_simp; try with_reducible rfl)
        try simp only [Act.put, List.getElem_toArray, List.getElem_cons_zero, List.getElem_cons_succ, List.setIfInBounds_toArray, List.set_cons_zero, List.set_cons_succ]
        refine wpAnyH_ready (rs := [13]) (by kernel_rfl) (by simp) ?_
        refine AllReadyH.cons rfl (fun K hK => ?_) AllReadyH.nil
        rw [if_pos (by rfl)]
        have HSL := Lib.hid hL.l.p.r.sl
        have HV' := Lib.hid (docR_len R')
        refine wp_storeB ty65 _ _ rfl d (poolV v' (docR R')) rfl rfl hL.n (poolV_size _ rfl) (poolV_size _ HV'.out) (poolV_one HSL.out.one _) ?_
        obtain ⟨hL2, hN2⟩ := hL.put v' (docR R') HV'.out
        have hne := hL.ne
        refine hK.out _ _ (PlyS.mk' (hAk.below hL2.p.live.bel (Nat.le_refl _)) hL2.x) (fun hHeld => ?_)
        clear hK K
        try simp only [Act.put, List.getElem_toArray, List.getElem_cons_zero, List.getElem_cons_succ, List.setIfInBounds_toArray, List.set_cons_zero, List.set_cons_succ]
        refine wpAnyH_take (i := 14) (v := ?_) rfl (by kernel_rfl) (by kernel_rfl) (by kernel_rfl) (fun _ _ _ h => h) (Or.inl ⟨by rfl, ?_⟩) (by assumption) ?_
        rotate_left
        · (intro Y hSw; (try dsimp only at hSw); obtain hS0 := hSw; go_simp; try with_reducible rfl)
        try simp only [Act.put, List.getElem_toArray, List.getElem_cons_zero, List.getElem_cons_succ, List.setIfInBounds_toArray, List.set_cons_zero, List.set_cons_succ]
        refine wpAnyH_done (by kernel_rfl) ?_ _
        rw [onlyN_normal]
        clear hL hHeld
        generalize World.setCells Z d 0 _ = Z2 at hL2 hN2 ⊢
        go_wp2_with fail
        refine wp_onlyN ?_
        refine wp_region_held_drew (S := fun Y => Blk Y d (poolV v' (docR R')) 54) (by kernel_rfl) hN2.drew (fun hHeld => ?_)
        have hL3 := hL2.step (Below.refl _ Z2).drew
        have hN3 := hN2.drew
        clear hL2 hN2
        change wpAnyH _ _ _ _ _ _ _ _ Z2.drew
        generalize Z2.drew = Z3 at hL3 hN3 hHeld ⊢
        refine wpAnyH_take (i := 0) (v := ?_) rfl (by kernel_rfl) (by kernel_rfl) (by kernel_rfl) (fun _ _ _ h => h) (Or.inl ⟨by rfl, ?_⟩) (by assumption) ?_
        rotate_left
        · (intro Y hSw; (try dsimp only at hSw); obtain hS0 := hSw; go_simp; try with_reducible rfl)
        try simp only [Act.put, List.getElem_toArray, List.getElem_cons_zero, List.getElem_cons_succ, List.setIfInBounds_toArray, List.set_cons_zero, List.set_cons_succ]
        refine wpAnyH_take (i := 1) (v := .agg (poolV v' (docR R'))) rfl (by kernel_rfl) (by kernel_rfl) (by kernel_rfl) (fun _ _ _ h => h) (Or.inl ⟨by rfl, fun Y hSw => exec_loadB ty65 _ rfl d rfl hSw (poolV_size _ HV'.out)⟩) (by assumption) ?_
        try simp only [Act.put, List.getElem_toArray, List.getElem_cons_zero, List.getElem_cons_succ, List.setIfInBounds_toArray, List.set_cons_zero, List.set_cons_succ]
        refine wpAnyH_take (i := 2) (v := ?_) rfl (by kernel_rfl) (by kernel_rfl) (by kernel_rfl) (fun _ _ _ h => h) (Or.inl ⟨by rfl, ?_⟩) (by assumption) ?_
        rotate_left
        · (intro Y hSw; (try dsimp only at hSw); obtain hS0 := hSw; go_simp; try with_reducible rfl)
        try simp only [Act.put, List.getElem_toArray, List.getElem_cons_zero, List.getElem_cons_succ, List.setIfInBounds_toArray, List.set_cons_zero, List.set_cons_succ]
        refine wpAnyH_ready (rs := [3]) (by kernel_rfl) (by simp) ?_
        refine AllReadyH.cons rfl (fun K hK => ?_) AllReadyH.nil
        rw [if_pos (by rfl)]
        refine wp_storeB ty65 _ _ rfl g (poolV v' (docR R')) rfl rfl hL3.x (poolV_size _ HV.out) (poolV_size _ HV'.out) (poolV_one HSL.out.one _) ?_
        have hL4 := hL3.put HV.out v' HSL.out (docR R') HV'.out
        have hN4 := hN3.setCellsO (poolV v' (docR R')).toList 0 (Ne.symm hne)
        refine hK.out _ _ (hN4) (fun hHeld => ?_)
        clear hK K
        try simp only [Act.put, List.getElem_toArray, List.getElem_cons_zero, List.getElem_cons_succ, List.setIfInBounds_toArray, List.set_cons_zero, List.set_cons_succ]
        refine wpAnyH_done (by kernel_rfl) ?_ _
        rw [onlyN_normal]
        clear hL3 hN3 hN4 hHeld
        generalize World.setCells Z3 g 0 _ = Z4 at hL4 ⊢
        go_wp2_with fail
        exact ⟨⟨k + 1, b', bf', br', F', R', v', by omega, by go_num, rfl, hL4⟩, by simp [intOf]; omega⟩
    · obtain rfl : k = l.length := by omega
      have HBX := Lib.hid hL.x
      go_wp2_with fail
      refine (num_calls _ _).mono ?_; rintro e _ ⟨rfl, rfl⟩
      go_wp2_with (refine wpList_loadWM ty65 (by rfl) _ rfl g 0 rfl _ HBX.out.rng0 (by simpa using poolV_size _ HV.out) ?_)
      refine (is_ok hL.p.live.pool hL.p.g v wr.heap.size (Nat.le_refl _) hL.p.r).mono ?_; rintro e w5 ⟨rfl, k5⟩
      have hp5 := hL.p.step k5
      clear k5 HBX hL
      go_wp2_with fail
      refine (Same_ln hp5.live.pool (q := none) (.inl rfl)).mono ?_; rintro e w6 ⟨rfl, k6⟩
      have hp6 := hp5.step k6
      clear k6 hp5
      go_wp2_with fail
      refine (Same_nl hp6.live.pool (q := none) (.inl rfl)).mono ?_; rintro e w7 ⟨rfl, k7⟩
      have hp7 := hp6.step k7
      clear k7 hp6
      go_wp2_with fail
      refine (works_ok _).mono ?_; rintro e w8 ⟨rfl, k8⟩
      have hp8 := hp7.step k8
      clear k8 hp7
      go_wp2_with fail
      go_ret
      exact ⟨rfl, hp8.live.bel⟩
end Go.Proofs.Ytfmkjckckekliaa
