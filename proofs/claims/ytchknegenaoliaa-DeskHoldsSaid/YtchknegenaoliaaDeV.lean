/-
  Package pinfoldref21: Create, Bind. Conditions: small generations.
-/
import Derived.Test.YtchknegenaoliaaDeU
namespace Go.Proofs.Ytchknegenaoliaa
open Go.RowKit
attribute [local go_sem] Oper.semAt_some
set_option maxHeartbeats 1000000
set_option maxRecDepth 4000

theorem ty2 : RowTy Try.prog 28 2 := rowTy_of Try.underlying28 rfl (by kernel_rfl)
theorem ret_r3 {fn : Func} {R : Ending → World → Prop} {a : Act} {w : World} {p q u : Tmp} (h : fn.results = #[.cell p 52, .cell q 28, .tmp u]) (g g2 : Nat) {cs ds : Array Value} {t t2 : TypeId} (hp : a.tmps.getD p undef = .pointer (some ⟨g, 0, none⟩))
    (hq : a.tmps.getD q undef = .pointer (some ⟨g2, 0, none⟩)) (hB : Blk w g cs t) (hs : cs.size = 24) (hB2 : Blk w g2 ds t2) (hs2 : ds.size = 2) (hd : a.defers = []) (hR : R (.returned (.tuple #[.agg cs, .agg ds, a.tmps.getD u undef])) w) : bodyPost Try.prog fn R .ret a w := by
  refine bodyPost_ret (v := .tuple #[.agg cs, .agg ds, a.tmps.getD u undef]) ?_ hd hR
  have hp' : a.tmps[p]?.getD undef = .pointer (some ⟨g, 0, none⟩) := by simpa using hp
  have hq' : a.tmps[q]?.getD undef = .pointer (some ⟨g2, 0, none⟩) := by simpa using hq
  simp [results, h, hp', hq', asAddr, run_loadVarB ty24 hB hs, run_loadVarB ty2 hB2 hs2]
theorem ret_r2 {fn : Func} {R : Ending → World → Prop} {a : Act} {w : World} {p u v : Tmp} (h : fn.results = #[.cell p 52, .tmp u, .tmp v]) (g : Nat) {cs : Array Value} {t : TypeId} (hp : a.tmps.getD p undef = .pointer (some ⟨g, 0, none⟩))
    (hB : Blk w g cs t) (hs : cs.size = 24) (hd : a.defers = []) (hR : R (.returned (.tuple #[.agg cs, a.tmps.getD u undef, a.tmps.getD v undef])) w) : bodyPost Try.prog fn R .ret a w := by
  refine bodyPost_ret (v := .tuple #[.agg cs, a.tmps.getD u undef, a.tmps.getD v undef]) ?_ hd hR
  have hp' : a.tmps[p]?.getD undef = .pointer (some ⟨g, 0, none⟩) := by simpa using hp
  simp [results, h, hp', asAddr, run_loadVarB ty24 hB hs]
theorem one2 (a b : Int) : (#[Value.int .i64 a, Value.int .i64 b] : Array Value).all (·.oneCell') = true := by simp [Value.oneCell']
theorem Blk.wholeL {W : World} {b : Nat} {cs : Array Value} {t : TypeId} (h : Blk W b cs t) (vs : Array Value) (hs : vs.size = cs.size) : Blk (W.setCells b 0 vs.toList) b vs t := h.whole vs hs
theorem creE_q {P : List Ten} {n q f : Int} (hs : inS n = true) (h : badN q 1073741824 = true) : creE P n q f = 2 := by unfold creE; rw [if_neg (by rw [hs]; decide), if_pos h]
theorem creE_f {P : List Ten} {n q f : Int} (hs : inS n = true) (h0 : badN q 1073741824 = false) (h : badN f 16384 = true) : creE P n q f = 2 := by unfold creE; rw [if_neg (by rw [hs]; decide), if_neg (by rw [h0]; decide), if_pos h]
theorem badN_l {n m : Int} (h : n < 0) : badN n m = true := by unfold badN; exact decide_eq_true (.inl h)
theorem badN_h {n m : Int} (h : m < n) : badN n m = true := by unfold badN; exact decide_eq_true (.inr h)
theorem badN_o {n m : Int} (h : ¬ n < 0) (h2 : ¬ m < n) : badN n m = false := by unfold badN; exact decide_eq_false (fun e => e.elim h h2)
structure RcrS (s k : Nat) (g : Int) (cs : Array Value) (Y : World) : Prop where
  b : Blk Y s cs 52
  g : cs[k * 4]? = some (.int .i64 g)
theorem rCreate_ok {P : List Ten} {H : List Hnd} (hL : RefL P H) (n q f : Int) (hgn : ∀ x ∈ P, 0 ≤ x.g ∧ x.g ≤ 1000000) (w : World) :
    Calls Try.prog 35 #[.agg (refV P H), .int .i64 n, .int .i64 q, .int .i64 f] w fun e w' => e = .returned (.tuple #[.agg (refV (creP P n q f) H), encH (creH P n q f), .int .i64 (creE P n q f)]) ∧ Below w.heap.size w w' := by
  obtain ⟨w0, hw0⟩ : ∃ w0, ((w.alloc (.cells (refV P H) 52)).alloc (.cells (refV [zT, zT, zT, zT] [⟨0, 0⟩, ⟨0, 0⟩, ⟨0, 0⟩, ⟨0, 0⟩]) 52)).alloc (.cells #[.int .i64 0, .int .i64 0] 28) = w0 := ⟨_, rfl⟩
  have k0 : Below w.heap.size w w0 := by rw [← hw0]; exact (((Below.refl _ w).alloc (Nat.le_refl _) _).alloc (by simp) _).alloc (by simp; omega) _
  have hA : Blk w0 w.heap.size (refV P H) 52 := by rw [← hw0]; exact ((Blk.new w _ _).alloc _).alloc _
  have hO : Blk w0 (w.heap.size + 1) (refV [zT, zT, zT, zT] [⟨0, 0⟩, ⟨0, 0⟩, ⟨0, 0⟩, ⟨0, 0⟩]) 52 := by rw [← hw0]; exact (Blk.newAt _ _ _ (by simp)).alloc _
  have hR : Blk w0 (w.heap.size + 1 + 1) #[.int .i64 0, .int .i64 0] 28 := by rw [← hw0]; exact Blk.newAt _ _ _ (by simp)
  obtain ⟨s, hs⟩ : ∃ s, w.heap.size = s := ⟨_, rfl⟩
  have HS := Lib.hid hs
  rw [hs] at hA hO hR k0
  have hz9 : (refV [zT, zT, zT, zT] [⟨0, 0⟩, ⟨0, 0⟩, ⟨0, 0⟩, ⟨0, 0⟩]).size = 24 := rfl
  have HSZ := Lib.hid hL.size
  have HSZ9 := Lib.hid hz9
  have hw0' : ((w.alloc (.cells (refV P H) 52)).alloc (.cells #[.int .i64 0, .bool false, .int .i64 0, .int .i64 0, .int .i64 0, .bool false, .int .i64 0, .int .i64 0, .int .i64 0, .bool false, .int .i64 0, .int .i64 0, .int .i64 0, .bool false, .int .i64 0, .int .i64 0, .int .i64 0, .int .i64 0, .int .i64 0, .int .i64 0, .int .i64 0, .int .i64 0, .int .i64 0, .int .i64 0] 52)).alloc (.cells #[.int .i64 0, .int .i64 0] 28) = w0 := hw0
  clear hw0 hz9
  go_enter Try.func35, Try.ntmps35
  go_wp2_with fail
  clear hw0' hs
  refine (Slot_calls _ _).mono ?_; rintro e _ ⟨rfl, rfl⟩
  by_cases hi : inS n = true
  · rw [hi]
    by_cases q1 : q < 0
    · have he : creE P n q f = 2 := creE_q hi (badN_l q1)
      have HE := Lib.hid he
      have HP := Lib.hid (show creP P n q f = P by unfold creP; rw [if_neg (by rw [he]; decide)])
      have HH := Lib.hid (show creH P n q f = ⟨0, 0⟩ by unfold creH; rw [if_neg (by rw [he]; decide)])
      clear he
      go_wp2_with (first | refine wpList_loadB ty24 rfl _ rfl s rfl hA HSZ.out ?_ | refine wpList_storeB ty24 rfl _ _ rfl (s + 1) (refV P H) rfl rfl hO HSZ9.out HSZ.out (refV_one P H) ?_ | refine wpList_storeB ty2 rfl _ _ rfl (s + 1 + 1) #[.int .i64 0, .int .i64 0] rfl rfl (hR.setCellsO (refV P H).toList 0 (by omega)) rfl rfl (one2 _ _) ?_)
      refine ret_r3 rfl (s + 1) (s + 1 + 1) rfl rfl ((hO.whole (refV P H) (HSZ.out.trans HSZ9.out.symm)).setCellsO _ _ (by omega)) HSZ.out ((hR.setCellsO (refV P H).toList 0 (by omega)).whole #[.int .i64 0, .int .i64 0] rfl) rfl rfl ?_
      exact ⟨by rw [HE.out, HP.out, HH.out]; rfl, by rw [HS.out]; exact bel_setCells (bel_setCells k0 (by omega) _ _) (by omega) _ _⟩
    · by_cases q2 : 1073741824 < q
      · have he : creE P n q f = 2 := creE_q hi (badN_h q2)
        have HE := Lib.hid he
        have HP := Lib.hid (show creP P n q f = P by unfold creP; rw [if_neg (by rw [he]; decide)])
        have HH := Lib.hid (show creH P n q f = ⟨0, 0⟩ by unfold creH; rw [if_neg (by rw [he]; decide)])
        clear he
        go_wp2_with (first | refine wpList_loadB ty24 rfl _ rfl s rfl hA HSZ.out ?_ | refine wpList_storeB ty24 rfl _ _ rfl (s + 1) (refV P H) rfl rfl hO HSZ9.out HSZ.out (refV_one P H) ?_ | refine wpList_storeB ty2 rfl _ _ rfl (s + 1 + 1) #[.int .i64 0, .int .i64 0] rfl rfl (hR.setCellsO (refV P H).toList 0 (by omega)) rfl rfl (one2 _ _) ?_)
        refine ret_r3 rfl (s + 1) (s + 1 + 1) rfl rfl ((hO.whole (refV P H) (HSZ.out.trans HSZ9.out.symm)).setCellsO _ _ (by omega)) HSZ.out ((hR.setCellsO (refV P H).toList 0 (by omega)).whole #[.int .i64 0, .int .i64 0] rfl) rfl rfl ?_
        exact ⟨by rw [HE.out, HP.out, HH.out]; rfl, by rw [HS.out]; exact bel_setCells (bel_setCells k0 (by omega) _ _) (by omega) _ _⟩
      · have hq := badN_o q1 q2
        by_cases f1 : f < 0
        · have he : creE P n q f = 2 := creE_f hi hq (badN_l f1)
          have HE := Lib.hid he
          have HP := Lib.hid (show creP P n q f = P by unfold creP; rw [if_neg (by rw [he]; decide)])
          have HH := Lib.hid (show creH P n q f = ⟨0, 0⟩ by unfold creH; rw [if_neg (by rw [he]; decide)])
          clear he
          go_wp2_with (first | refine wpList_loadB ty24 rfl _ rfl s rfl hA HSZ.out ?_ | refine wpList_storeB ty24 rfl _ _ rfl (s + 1) (refV P H) rfl rfl hO HSZ9.out HSZ.out (refV_one P H) ?_ | refine wpList_storeB ty2 rfl _ _ rfl (s + 1 + 1) #[.int .i64 0, .int .i64 0] rfl rfl (hR.setCellsO (refV P H).toList 0 (by omega)) rfl rfl (one2 _ _) ?_)
          refine ret_r3 rfl (s + 1) (s + 1 + 1) rfl rfl ((hO.whole (refV P H) (HSZ.out.trans HSZ9.out.symm)).setCellsO _ _ (by omega)) HSZ.out ((hR.setCellsO (refV P H).toList 0 (by omega)).whole #[.int .i64 0, .int .i64 0] rfl) rfl rfl ?_
          exact ⟨by rw [HE.out, HP.out, HH.out]; rfl, by rw [HS.out]; exact bel_setCells (bel_setCells k0 (by omega) _ _) (by omega) _ _⟩
        · by_cases f2 : 16384 < f
          · have he : creE P n q f = 2 := creE_f hi hq (badN_h f2)
            have HE := Lib.hid he
            have HP := Lib.hid (show creP P n q f = P by unfold creP; rw [if_neg (by rw [he]; decide)])
            have HH := Lib.hid (show creH P n q f = ⟨0, 0⟩ by unfold creH; rw [if_neg (by rw [he]; decide)])
            clear he
            go_wp2_with (first | refine wpList_loadB ty24 rfl _ rfl s rfl hA HSZ.out ?_ | refine wpList_storeB ty24 rfl _ _ rfl (s + 1) (refV P H) rfl rfl hO HSZ9.out HSZ.out (refV_one P H) ?_ | refine wpList_storeB ty2 rfl _ _ rfl (s + 1 + 1) #[.int .i64 0, .int .i64 0] rfl rfl (hR.setCellsO (refV P H).toList 0 (by omega)) rfl rfl (one2 _ _) ?_)
            refine ret_r3 rfl (s + 1) (s + 1 + 1) rfl rfl ((hO.whole (refV P H) (HSZ.out.trans HSZ9.out.symm)).setCellsO _ _ (by omega)) HSZ.out ((hR.setCellsO (refV P H).toList 0 (by omega)).whole #[.int .i64 0, .int .i64 0] rfl) rfl rfl ?_
            exact ⟨by rw [HE.out, HP.out, HH.out]; rfl, by rw [HS.out]; exact bel_setCells (bel_setCells k0 (by omega) _ _) (by omega) _ _⟩
          · have hf := badN_o f1 f2
            have hs' := inS_iff.1 hi
            obtain ⟨k, rfl⟩ : ∃ k : Nat, n = k := ⟨n.toNat, by omega⟩
            have hk : k < 4 := by omega
            have i0 : (0 : Int) ≤ k := by omega
            have i1 : (k : Int) < 4 := by omega
            obtain ⟨v0, v1, v2, v3⟩ := refV_ten hL k hk
            have r0 := hA.cell _ v0
            have r1 := hA.cell _ v1
            have r2 := hA.cell _ v2
            have r3 := hA.cell _ v3
            have hgb := hgn _ (tenD_mem hL.p hs')
            have hE : creE P k q f = if (tenD P k).t = true then 310 else 0 := by unfold creE; rw [if_neg (by rw [hi]; decide), if_neg (by rw [hq]; decide), if_neg (by rw [hf]; decide)]
            have hP : creP P k q f = if creE P k q f = 0 then P.set k ⟨(tenD P k).g + 1, true, q, f⟩ else P := by unfold creP; rw [Int.toNat_natCast]
            have hH : creH P k q f = if creE P k q f = 0 then ⟨k, (tenD P k).g + 1⟩ else ⟨0, 0⟩ := rfl
            generalize tenD P k = x at r0 r1 r2 r3 hgb hE hP hH
            obtain ⟨xg, xt, xq, xf⟩ := x
            dsimp only at r0 r1 r2 r3 hgb hE hP hH
            clear v0 v1 v2 v3
            cases xt with
            | true =>
              rw [if_pos rfl] at hE
              rw [hE, if_neg (by decide)] at hP hH
              have HE := Lib.hid hE
              have HP := Lib.hid hP
              have HH := Lib.hid hH
              clear hE hP hH hgb r0 r2 r3
              go_wp2_with (first | refine wpList_loadB ty24 rfl _ rfl s rfl hA HSZ.out ?_ | refine wpList_storeB ty24 rfl _ _ rfl (s + 1) (refV P H) rfl rfl hO HSZ9.out HSZ.out (refV_one P H) ?_ | refine wpList_storeB ty2 rfl _ _ rfl (s + 1 + 1) #[.int .i64 0, .int .i64 0] rfl rfl (hR.setCellsO (refV P H).toList 0 (by omega)) rfl rfl (one2 _ _) ?_)
              refine ret_r3 rfl (s + 1) (s + 1 + 1) rfl rfl ((hO.whole (refV P H) (HSZ.out.trans HSZ9.out.symm)).setCellsO _ _ (by omega)) HSZ.out ((hR.setCellsO (refV P H).toList 0 (by omega)).whole #[.int .i64 0, .int .i64 0] rfl) rfl rfl ?_
              exact ⟨by rw [HE.out, HP.out, HH.out]; rfl, by rw [HS.out]; exact bel_setCells (bel_setCells k0 (by omega) _ _) (by omega) _ _⟩
            | false =>
              rw [if_neg (by decide)] at hE
              rw [hE, if_pos rfl] at hP hH
              have HE := Lib.hid hE
              have HP := Lib.hid hP
              have HH := Lib.hid hH
              clear hE hP hH
              have hwr : IntKind.i64.wrap (xg + 1) = xg + 1 := IntWalk.i64_in _ (by omega)
              have e0 := hA.frozen (k * 4)
              have e1 := hA.frozen (k * 4 + 1)
              have e2 := hA.frozen (k * 4 + 2)
              have e3 := hA.frozen (k * 4 + 3)
              have HA0 := Lib.hid hA
              have HR0 := Lib.hid hR
              have HO0 := Lib.hid hO
              have HK0 := Lib.hid k0
              have HS4 := Lib.hid hs'
              have HI0 := Lib.hid hi
              clear hq hf hgb hgn hs' hA hR hO k0 hi
              go_wp2_with fail
              have hA := HA0.out
              have hR := HR0.out
              have hO := HO0.out
              have k0 := HK0.out
              have hs' := HS4.out
              have hA1 := (((hA.set (k * 4) (.int .i64 (xg + 1))).set (k * 4 + 1) (.bool true)).set (k * 4 + 2) (.int .i64 q)).set (k * 4 + 3) (.int .i64 f)
              have hst := refV_setTen hL k hk ⟨xg + 1, true, q, f⟩
              dsimp only at hst
              rw [hst] at hA1
              have hL1 : RefL (P.set k ⟨xg + 1, true, q, f⟩) H := ⟨by rw [List.length_set]; exact hL.p, hL.h⟩
              have hx1 := (refV_ten hL1 k hk).1
              have htd := tenD_set hL.p hs' ⟨xg + 1, true, q, f⟩ hs'
              rw [Int.toNat_natCast, if_pos rfl] at htd
              rw [htd] at hx1
              dsimp only at hx1
              have hne1 : s + 1 ≠ s := by omega
              have hne2 : s + 1 + 1 ≠ s := by omega
              have hO1 := (((hO.setOther ⟨s, k * 4, none⟩ (.int .i64 (xg + 1)) hne1).setOther ⟨s, k * 4 + 1, none⟩ (.bool true) hne1).setOther ⟨s, k * 4 + 2, none⟩ (.int .i64 q) hne1).setOther ⟨s, k * 4 + 3, none⟩ (.int .i64 f) hne1
              have hR1 := (((hR.setOther ⟨s, k * 4, none⟩ (.int .i64 (xg + 1)) hne2).setOther ⟨s, k * 4 + 1, none⟩ (.bool true) hne2).setOther ⟨s, k * 4 + 2, none⟩ (.int .i64 q) hne2).setOther ⟨s, k * 4 + 3, none⟩ (.int .i64 f) hne2
              have kk := (((k0.setCell (p := ⟨s, k * 4, none⟩) (Nat.le_refl _) (.int .i64 (xg + 1))).setCell (p := ⟨s, k * 4 + 1, none⟩) (Nat.le_refl _) (.bool true)).setCell (p := ⟨s, k * 4 + 2, none⟩) (Nat.le_refl _) (.int .i64 q)).setCell (p := ⟨s, k * 4 + 3, none⟩) (Nat.le_refl _) (.int .i64 f)
              have HSZ1 := Lib.hid hL1.size
              have HX1 := Lib.hid hx1
              clear hst htd
              generalize World.setCell (World.setCell (World.setCell (World.setCell w0 _ _) _ _) _ _) _ _ = w1 at hA1 hO1 hR1 kk ⊢
              generalize P.set k ⟨xg + 1, true, q, f⟩ = P1 at hA1 hL1 HX1 HSZ1 HP
              have hx1 := HX1.out
              have r9 : w1.drew.cell? ⟨s, k * 4, none⟩ = some (.int .i64 (xg + 1)) := hA1.cell _ hx1
              clear hA hO hR k0 r0 r1 r2 r3 e0 e1 e2 e3
              refine wp_onlyN ?_
              refine wp_region_held_drew (S := RcrS s k (xg + 1) (refV P1 H)) (by kernel_rfl) ⟨hA1.drew, hx1⟩ (fun hHeld => ?_)
              have hA2 := hA1.drew
              have hO2 := hO1.drew
              have hR2 := hR1.drew
              have kk2 := kk.drew
              change wpAnyH _ _ _ _ _ _ _ _ w1.drew
              generalize w1.drew = w2 at hA2 hO2 hR2 kk2 hHeld r9 ⊢
              refine wpAnyH_take (i := 0) (v := .agg (refV P1 H)) rfl (by kernel_rfl) (by kernel_rfl) (by kernel_rfl) (fun _ _ _ h => h) (Or.inl ⟨by rfl, fun Y hSw => exec_loadB ty24 _ rfl s rfl hSw.b HSZ1.out⟩) (by assumption) ?_
              try simp only [Act.put, List.getElem_toArray, List.getElem_cons_zero, List.getElem_cons_succ, List.setIfInBounds_toArray, List.set_cons_zero, List.set_cons_succ]
              refine wpAnyH_take (i := 1) (v := ?_) rfl (by kernel_rfl) (by kernel_rfl) (by kernel_rfl) (fun _ _ _ h => h) (Or.inl ⟨by rfl, ?_⟩) (by assumption) ?_
              rotate_left
              · (intro Y hSw; (try dsimp only at hSw); obtain ⟨hS0, hS1⟩ := hSw; go_simp; try with_reducible rfl)
              try simp only [Act.put, List.getElem_toArray, List.getElem_cons_zero, List.getElem_cons_succ, List.setIfInBounds_toArray, List.set_cons_zero, List.set_cons_succ]
              refine wpAnyH_take (i := 2) (v := ?_) rfl (by kernel_rfl) (by kernel_rfl) (by kernel_rfl) (fun _ _ _ h => h) (Or.inl ⟨by rfl, ?_⟩) (by assumption) ?_
              rotate_left
              · (intro Y hSw; (try dsimp only at hSw); obtain ⟨hS0, hS1⟩ := hSw; go_simp; try with_reducible rfl)
              try simp only [Act.put, List.getElem_toArray, List.getElem_cons_zero, List.getElem_cons_succ, List.setIfInBounds_toArray, List.set_cons_zero, List.set_cons_succ]
              refine wpAnyH_take (i := 3) (v := ?_) rfl (by kernel_rfl) (by kernel_rfl) (by kernel_rfl) (fun _ _ _ h => h) (Or.inl ⟨by rfl, ?_⟩) (by assumption) ?_
              rotate_left
              · (intro Y hSw; (try dsimp only at hSw); obtain ⟨hS0, hS1⟩ := hSw; go_simp; try with_reducible rfl)
              try simp only [Act.put, List.getElem_toArray, List.getElem_cons_zero, List.getElem_cons_succ, List.setIfInBounds_toArray, List.set_cons_zero, List.set_cons_succ]
              refine wpAnyH_take (i := 4) (v := ?_) rfl (by kernel_rfl) (by kernel_rfl) (by kernel_rfl) (fun _ _ _ h => h) (Or.inl ⟨by rfl, ?_⟩) (by assumption) ?_
              rotate_left
              · (intro Y hSw; (try dsimp only at hSw); obtain ⟨hS0, hS1⟩ := hSw; go_simp; try with_reducible rfl)
              try simp only [Act.put, List.getElem_toArray, List.getElem_cons_zero, List.getElem_cons_succ, List.setIfInBounds_toArray, List.set_cons_zero, List.set_cons_succ]
              refine wpAnyH_take (i := 5) (v := ?_) rfl (by kernel_rfl) (by kernel_rfl) (by kernel_rfl) (fun _ _ _ h => h) (Or.inl ⟨by rfl, ?_⟩) (by assumption) ?_
              rotate_left
              · (intro Y hSw; (try dsimp only at hSw); obtain ⟨hS0, hS1⟩ := hSw; go_simp; try with_reducible rfl)
              try simp only [Act.put, List.getElem_toArray, List.getElem_cons_zero, List.getElem_cons_succ, List.setIfInBounds_toArray, List.set_cons_zero, List.set_cons_succ]
              refine wpAnyH_take (i := 6) (v := .int .i64 (xg + 1)) rfl (by kernel_rfl) (by kernel_rfl) (by kernel_rfl) (fun _ _ _ h => h) (Or.inl ⟨by rfl, by intro Y hSw; have c9 := hSw.b.cell _ hSw.g; go_simp⟩) (by assumption) ?_
              try simp only [Act.put, List.getElem_toArray, List.getElem_cons_zero, List.getElem_cons_succ, List.setIfInBounds_toArray, List.set_cons_zero, List.set_cons_succ]
              refine wpAnyH_take (i := 7) (v := ?_) rfl (by kernel_rfl) (by kernel_rfl) (by kernel_rfl) (fun _ _ _ h => h) (Or.inl ⟨by rfl, ?_⟩) (by assumption) ?_
              rotate_left
              · (intro Y hSw; (try dsimp only at hSw); obtain ⟨hS0, hS1⟩ := hSw; go_simp; try with_reducible rfl)
              try simp only [Act.put, List.getElem_toArray, List.getElem_cons_zero, List.getElem_cons_succ, List.setIfInBounds_toArray, List.set_cons_zero, List.set_cons_succ]
              refine wpAnyH_ready (rs := [8]) (by kernel_rfl) (by simp) ?_
              refine AllReadyH.cons rfl (fun K hK => ?_) AllReadyH.nil
              rw [if_pos (by rfl)]
              refine wp_storeB ty24 _ _ rfl (s + 1) (refV P1 H) rfl rfl hO2 HSZ9.out HSZ1.out (refV_one P1 H) ?_
              have hA3 := hA2.setCellsO (refV P1 H).toList 0 (show s ≠ s + 1 by omega)
              have hO3 := hO2.whole (refV P1 H) (HSZ1.out.trans HSZ9.out.symm)
              have hR3 := hR2.setCellsO (refV P1 H).toList 0 (show s + 1 + 1 ≠ s + 1 by omega)
              have kk3 := bel_setCells kk2 (show s ≤ s + 1 by omega) (refV P1 H).toList 0
              refine hK.out _ _ (⟨hA3, hx1⟩) (fun hHeld => ?_)
              clear hK K
              try simp only [Act.put, List.getElem_toArray, List.getElem_cons_zero, List.getElem_cons_succ, List.setIfInBounds_toArray, List.set_cons_zero, List.set_cons_succ]
              generalize World.setCells w2 (s + 1) 0 _ = w3 at hA3 hO3 hR3 kk3 hHeld ⊢
              refine wpAnyH_ready (rs := [9]) (by kernel_rfl) (by simp) ?_
              refine AllReadyH.cons rfl (fun K hK => ?_) AllReadyH.nil
              rw [if_pos (by rfl)]
              refine wp_storeB ty2 _ _ rfl (s + 1 + 1) #[.int .i64 k, .int .i64 (xg + 1)] rfl rfl hR3 rfl rfl (one2 _ _) ?_
              have hA4 := hA3.setCellsO [.int .i64 (k : Int), .int .i64 (xg + 1)] 0 (show s ≠ s + 1 + 1 by omega)
              have hO4 := hO3.setCellsO [.int .i64 (k : Int), .int .i64 (xg + 1)] 0 (show s + 1 ≠ s + 1 + 1 by omega)
              have hR4 := hR3.whole #[.int .i64 (k : Int), .int .i64 (xg + 1)] rfl
              have kk4 := bel_setCells kk3 (show s ≤ s + 1 + 1 by omega) [.int .i64 (k : Int), .int .i64 (xg + 1)] 0
              refine hK.out _ _ (⟨hA4, hx1⟩) (fun hHeld => ?_)
              clear hK K
              try simp only [Act.put, List.getElem_toArray, List.getElem_cons_zero, List.getElem_cons_succ, List.setIfInBounds_toArray, List.set_cons_zero, List.set_cons_succ]
              refine wpAnyH_take (i := 10) (v := ?_) rfl (by kernel_rfl) (by kernel_rfl) (by kernel_rfl) (fun _ _ _ h => h) (Or.inl ⟨by rfl, ?_⟩) (by assumption) ?_
              rotate_left
              · (intro Y hSw; (try dsimp only at hSw); obtain ⟨hS0, hS1⟩ := hSw; go_simp; try with_reducible rfl)
              try simp only [Act.put, List.getElem_toArray, List.getElem_cons_zero, List.getElem_cons_succ, List.setIfInBounds_toArray, List.set_cons_zero, List.set_cons_succ]
              refine wpAnyH_done (by kernel_rfl) ?_ _
              rw [onlyN_normal]
              go_wp2_with fail
              exact ret_r3 rfl (s + 1) (s + 1 + 1) rfl rfl hO4 HSZ1.out hR4 rfl rfl ⟨by rw [HE.out, HP.out, HH.out]; rfl, by rw [HS.out]; exact kk4⟩
  · have hi' : inS n = false := by simpa using hi
    rw [hi']
    clear hi
    have he : creE P n q f = 2 := by unfold creE; rw [if_pos hi']
    have HE := Lib.hid he
    have HP := Lib.hid (show creP P n q f = P by unfold creP; rw [if_neg (by rw [he]; decide)])
    have HH := Lib.hid (show creH P n q f = ⟨0, 0⟩ by unfold creH; rw [if_neg (by rw [he]; decide)])
    clear he hi'
    go_wp2_with (first | refine wpList_loadB ty24 rfl _ rfl s rfl hA HSZ.out ?_ | refine wpList_storeB ty24 rfl _ _ rfl (s + 1) (refV P H) rfl rfl hO HSZ9.out HSZ.out (refV_one P H) ?_ | refine wpList_storeB ty2 rfl _ _ rfl (s + 1 + 1) #[.int .i64 0, .int .i64 0] rfl rfl (hR.setCellsO (refV P H).toList 0 (by omega)) rfl rfl (one2 _ _) ?_)
    refine ret_r3 rfl (s + 1) (s + 1 + 1) rfl rfl ((hO.whole (refV P H) (HSZ.out.trans HSZ9.out.symm)).setCellsO _ _ (by omega)) HSZ.out ((hR.setCellsO (refV P H).toList 0 (by omega)).whole #[.int .i64 0, .int .i64 0] rfl) rfl rfl ?_
    exact ⟨by rw [HE.out, HP.out, HH.out]; rfl, by rw [HS.out]; exact bel_setCells (bel_setCells k0 (by omega) _ _) (by omega) _ _⟩
end Go.Proofs.Ytchknegenaoliaa
