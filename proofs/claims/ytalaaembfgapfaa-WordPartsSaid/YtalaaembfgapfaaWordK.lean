/-
  Package word: Parts.
-/
import Derived.Test.YtalaaembfgapfaaWordJ
import Derived.Scope
import Derived.Stop.RegionWithIn
namespace Go.Proofs.Ytalaaembfgapfaa
open Go.RowKit
attribute [local go_sem] Oper.semAt_some
set_option maxHeartbeats 1000000

def partI (l : List Int) (s c : Nat) : List Int := (l.drop (c * s)).take s
theorem partI_len (l : List Int) (s c : Nat) : (partI l s c).length = min s (l.length - c * s) := by unfold partI; simp
theorem Parts_calls (ad : Option Addr) (n cap : Nat) (s : Int) (w : World) : Calls Try.prog 33 #[.slice ad n cap, .int .i64 s] w fun e w' =>
    e = .returned (.func (.func 38) #[] #[.pointer (some ⟨w.heap.size + 1, 0, none⟩), .pointer (some ⟨w.heap.size, 0, none⟩)]) ∧ w' = (w.alloc (.cells #[.slice ad n cap] 23)).alloc (.cells #[.int .i64 s] 3) := by
  go_enter Try.func33, Try.ntmps33
  go_wp2
  go_ret
  exact ⟨rfl, rfl⟩
/-- What Parts gives: where a part begins, and its bytes, in memory made for it. -/
def PartE (l : List Int) (s : Nat) (B c : Nat) (W0 W1 : World) (vals : Array Value) : Prop :=
  ∃ g cp : Nat, vals = #[.int .i64 (c * s : Nat), .slice (some ⟨g, 0, none⟩) (partI l s c).length cp] ∧ W1.ownsRow W0.heap.size 5 1 (.slice (some ⟨g, 0, none⟩) (partI l s c).length cp) (partI l s c).length (intVals .u8 (partI l s c)) ∧ B + 6 ≤ W0.heap.size
def PartA (b off n cap s : Nat) (l : List Int) (B0 bb bs : Nat) (W : World) : Prop :=
  W.cell? ⟨bb, 0, none⟩ = some (.slice (some ⟨b, off, none⟩) n cap) ∧ W.cell? ⟨bs, 0, none⟩ = some (.int .i64 s) ∧ RowAt B0 W (.slice (some ⟨b, off, none⟩) n cap) n (intVals .u8 l) ∧ B0 ≤ W.heap.size
theorem range_split {m c : Nat} {pre suf : List Nat} (h : List.range m = pre ++ c :: suf) : c = pre.length ∧ pre.length < m := by
  have h1 : pre.length < (List.range m).length := by rw [h]; simp
  refine ⟨?_, by simpa using h1⟩
  have h2 := range_get m pre.length h1
  rw [List.getElem_of_eq h] at h2
  simpa using h2
theorem partI_get (l : List Int) (s c i : Nat) (h : i < (partI l s c).length) (h' : c * s + i < l.length) : (partI l s c)[i] = l[c * s + i] := by simp [partI]
/-- A part of a row is a row. -/
theorem part_row {B b off n cap : Nat} {W : World} {l : List Int} (h : RowAt B W (.slice (some ⟨b, off, none⟩) n cap) n (intVals .u8 l)) (hln : l.length = n) (s c : Nat) (hc : c * s < n) (hs : 1 ≤ s) (q : Nat) (hq : (partI l s c).length ≤ q) :
    RowAt B W (.slice (some ⟨b, off + c * s, none⟩) (partI l s c).length q) (partI l s c).length (intVals .u8 (partI l s c)) := by
  refine ⟨_, q, rfl, ⟨hq, fun h => by cases h⟩, .inr ⟨b, off + c * s, rfl, ?_, fun i hi => ?_⟩⟩
  · obtain ⟨a, cap', he, _, h0 | ⟨b', off', ha, hb, _⟩⟩ := h
    · exfalso; have := congrArg List.length h0; rw [intVals_len] at this; simp at this; subst this; simp at hln; omega
    · simp only [Value.slice.injEq] at he
      obtain ⟨he, _, _⟩ := he
      rw [ha] at he
      cases he
      exact hb
  · obtain ⟨a, cap', he, _, h0 | ⟨b', off', ha, hb, hcell⟩⟩ := h
    · exfalso; have := congrArg List.length h0; rw [intVals_len] at this; simp at this; subst this; simp at hln; omega
    · simp only [Value.slice.injEq] at he
      obtain ⟨he, _, _⟩ := he
      rw [ha] at he
      cases he
      rw [intVals_len] at hi
      have hp := partI_len l s c
      have hi2 : c * s + i < l.length := by omega
      rw [Nat.add_assoc, hcell (c * s + i) (by rw [intVals_len]; exact hi2), intVals_get _ _ _ hi2, intVals_get _ _ _ hi, partI_get l s c i hi hi2]
theorem Parts_iter (b off n cap s : Nat) (l : List Int) (hln : l.length = n) (hs : 1 ≤ s) (hn : n ≤ 1000000) (hcap : n ≤ cap) (hcm : cap ≤ maxLen) (hs63 : s ≤ maxLen) (B0 bb bs : Nat) :
    IterR Try.prog 38 #[.pointer (some ⟨bs, 0, none⟩), .pointer (some ⟨bb, 0, none⟩)] 6 (some 1) (PartE l s) (List.range (nch n s)) (PartA b off n cap s l B0 bb bs) := by
  intro L J Jx W hJ hJx hO hOx hA hY h0
  obtain ⟨c0, c1, _, _⟩ := hA _ _ h0
  have HO := Lib.hid (hO 1 rfl)
  have HOx := Lib.hid (hOx 1 rfl)
  have HA := Lib.hid hA
  have HY := Lib.hid hY
  clear hO hOx hA hY
  have l0 := World.block_lt_of_cell? W _ c0
  have l1 := World.block_lt_of_cell? W _ c1
  have hs0 : ¬ (s : Int) < 1 := by omega
  refine calls_of_wp_marks Try.func38 rfl ?_; simp only [Try.ntmps38, List.size_toArray, List.length_cons, List.length_nil, Nat.reduceAdd, Nat.reduceSub, Array.replicate_succ, Array.replicate_zero, List.push_toArray, List.append_toArray, List.nil_append, List.cons_append]
  go_wp2_with fail
  obtain ⟨wa, hwa⟩ : ∃ wa, W.alloc (.cells #[.func (.yield L) #[] #[]] 68) = wa := ⟨_, rfl⟩
  rw [hwa]
  have hza : wa.heap.size = W.heap.size + 1 := by rw [← hwa]; simp
  have hka : Keeps W.heap.size W wa := by rw [← hwa]; exact (Keeps.refl _ W).alloc (Nat.le_refl _) _
  have bY : Blk wa W.heap.size #[.func (.yield L) #[] #[]] 68 := by rw [← hwa]; exact Blk.new W _ _
  have c1a := hka.cell c1
  clear hwa
  refine wp_scope_straight ?_
  go_wp2_with fail
  refine wp_label ?_
  obtain ⟨wb, hwb⟩ : ∃ wb, wa.alloc (.cells #[.int .i64 0] 3) = wb := ⟨_, rfl⟩
  rw [hwb]
  have hzb : wb.heap.size = W.heap.size + 2 := by rw [← hwb]; simp [hza]
  have hkb : Keeps W.heap.size W wb := by rw [← hwb]; exact hka.alloc (by omega) _
  have bY' : Blk wb W.heap.size #[.func (.yield L) #[] #[]] 68 := by rw [← hwb]; exact bY.alloc _
  have bT : Blk wb (W.heap.size + 1) #[.int .i64 0] 3 := by rw [← hwb]; exact Blk.newAt _ _ _ hza.symm
  have c0b := hkb.cell c0
  have c1b := hkb.cell c1
  clear hwb c1a bY hka hza
  go_wp2_with fail
  refine (Chunk_calls _ _ _ (s : Int) (by omega) _).mono ?_; rintro e w' ⟨rfl, rfl⟩
  go_wp2_with fail
  obtain ⟨wc, hwc⟩ : ∃ wc, (wb.alloc (.cells #[.slice (some ⟨b, off, none⟩) n cap] 23)).alloc (.cells #[.int .i64 s] 3) = wc := ⟨_, rfl⟩
  rw [hwc]
  have hzc : wc.heap.size = W.heap.size + 4 := by rw [← hwc]; simp [hzb]
  have hkc : Keeps W.heap.size W wc := by rw [← hwc]; exact (hkb.alloc (by omega) _).alloc (by omega) _
  have bYc : Blk wc W.heap.size #[.func (.yield L) #[] #[]] 68 := by rw [← hwc]; exact (bY'.alloc _).alloc _
  have bTc : Blk wc (W.heap.size + 1) #[.int .i64 0] 3 := by rw [← hwc]; exact (bT.alloc _).alloc _
  have bBc : Blk wc (W.heap.size + 2) #[.slice (some ⟨b, off, none⟩) n cap] 23 := by rw [← hwc]; exact (Blk.newAt _ _ _ hzb.symm).alloc _
  have bSc : Blk wc (W.heap.size + 2 + 1) #[.int .i64 s] 3 := by rw [← hwc]; exact Blk.newAt _ _ _ (by simp [hzb])
  clear hwc bY' bT c0b c1b hkb hzb hs0
  refine wp_rangeR1 rfl (enters_of Try.func42 (by kernel_rfl) rfl) ((Chunk_iter b off n cap s hs hn hcap hcm hs63 (W.heap.size + 2) (W.heap.size + 2 + 1)).toR) (fun _ _ _ _ vals h => by subst h; rfl)
    (fun pre X => J pre X ∧ Blk X W.heap.size #[.func (.yield L) #[] #[]] 68 ∧ Blk X (W.heap.size + 1) #[.int .i64 (min (pre.length * s) n : Nat)] 3 ∧ Blk X (W.heap.size + 2) #[.slice (some ⟨b, off, none⟩) n cap] 23 ∧ Blk X (W.heap.size + 2 + 1) #[.int .i64 s] 3)
    (fun c X => c = .exit 0 ∧ Jx () X) ?a1 ?hassign ?hI ?hIx ?hE ?hO ?hOx ?hA ?h0 ?hbody ?hdone ?hstop
  case hassign =>
    rintro m l' B x W0 X vals K hE hK
    subst hE
    dsimp only
    generalize chunkV b off n s x = v at hK ⊢
    gi_wp2
    exact hK v rfl
  case hI => rintro pre X Y ⟨h1, h2, h3, h4, h5⟩ hk; exact ⟨hJ _ _ _ h1 (hk.mono (by omega)), h2.keeps hk, h3.keeps hk, h4.keeps hk, h5.keeps hk⟩
  case hIx => rintro c X Y ⟨h1, h2⟩ hk; exact ⟨h1, hJx _ _ _ h2 (hk.mono (by omega))⟩
  case hE => exact fun _ _ _ _ _ _ h _ => h
  case hO => rintro o ho; cases ho
  case hOx => rintro o ho; cases ho
  case hA => rintro pre X ⟨h1, h2, h3, h4, h5⟩; exact ⟨h4.cell 0 rfl, h5.cell 0 rfl⟩
  case h0 => exact ⟨hJ _ _ _ h0 hkc, bYc, by simpa using bTc, bBc, bSc⟩
  case hdone =>
    rintro D X hD ⟨h1, h2, h3, h4, h5⟩ hK
    go_wp2_with fail
    rw [Exit.noGoto_normal]
    exact postM_end hK (results_none rfl _ _ _) ⟨⟨_, rfl⟩, .inl (hJ _ _ _ h1 (Keeps.putObj _ (by omega) hK rfl))⟩
  case hstop =>
    rintro D c X hD ⟨rfl, h1⟩ hK
    go_wp2_with fail
    rw [Exit.noGoto_normal]
    exact postM_end hK (results_none rfl _ _ _) ⟨⟨_, rfl⟩, .inr (hJx _ _ _ h1 (Keeps.putObj _ (by omega) hK rfl))⟩
  case hbody =>
    rintro m l' pre c suf W0 X vals v hv hxs hl hrec ⟨hJ0, bY0, bT0, bB0, bS0⟩ hkX h2 hE
    have hJX := hJ _ _ _ hJ0 (hkX.mono (by omega))
    have bYX := bY0.keeps hkX
    have bTX := bT0.keeps hkX
    have bBX := bB0.keeps hkX
    have bSX := bS0.keeps hkX
    have h3 := hkX.size
    clear hJ0 bY0 bT0 bB0 bS0 hkX
    subst hv
    simp only [Array.mk.injEq, List.cons.injEq, and_true] at hE
    subst hE
    obtain ⟨rfl, hlt⟩ := range_split hxs
    have hlo := nch_lt hs hlt
    have hzX : W.heap.size + 6 ≤ X.heap.size := by omega
    obtain ⟨_, _, hrX, hB0⟩ := HA.out _ _ hJX
    generalize hcq : pre.length = c at *
    have hml : (partI l s c).length = min s (n - c * s) := by rw [partI_len, hln]
    have hm0 : 0 < (partI l s c).length := by omega
    have hm1 : (partI l s c).length < 140737488355328 := by omega
    have hrow := part_row hrX hln s c hlo hs _ (Nat.le_refl _)
    have hCV : chunkV b off n s c = .slice (some ⟨b, off + c * s, none⟩) (partI l s c).length (partI l s c).length := by unfold chunkV; rw [hml]
    rw [show min (c * s) n = c * s by omega] at bTX
    rw [hCV]
    have hrowd : RowAt B0 X.drew (.slice (some ⟨b, off + c * s, none⟩) (partI l s c).length (partI l s c).length) (partI l s c).length (intVals .u8 (partI l s c)) := hrow.below ((Below.refl _ X).drewN 1) (Nat.le_refl _)
    have HCl := Lib.hid (Clone_ok _ (partI l s c) B0 X.drew hB0 hm0 hm1 hrowd)
    have hJd : J pre X.drew := hJ _ _ _ hJX ((Keeps.refl _ _).drewN 1)
    have hYc : ∀ (W1 : World) (g cp : Nat), Below X.drew.heap.size X.drew W1 → W1.ownsRow X.drew.heap.size 5 1 (.slice (some ⟨g, 0, none⟩) (partI l s c).length cp) (partI l s c).length (intVals .u8 (partI l s c)) →
        Yields Try.prog L #[.int .i64 (c * s : Nat), .slice (some ⟨g, 0, none⟩) (partI l s c).length cp] W1 fun e W' => Sm W.heap.size (W.heap.size + 6) W1 W' ∧ ∃ t : Bool, e = .returned (.bool t) ∧ (t = true → J (pre ++ [c]) W') ∧ (t = false → Jx () W') := by
      intro W1 g cp hb ho
      refine (HY.out pre c suf X.drew W1 _ hxs hJd (by simp; omega) (Keeps.of_below hb (by simp; omega) (Nat.le_refl _)) ⟨g, cp, rfl, ho, by simp; omega⟩).mono ?_
      rintro e W' ⟨h1, ⟨h2, h3⟩ | ⟨h2, h3⟩⟩
      · exact ⟨h1, true, h2, fun _ => h3, (fun h => by cases h)⟩
      · exact ⟨h1, false, h2, (fun h => by cases h), fun _ => h3⟩
    have HYc := Lib.hid hYc
    have BY := bYX.drew
    have BT := bTX.drew
    have cY := bYX.drew.cell 0 rfl
    have cT := bTX.drew.cell 0 rfl
    have zd : X.drew.heap.size = X.heap.size := rfl
    have HNx := Lib.hid (show min ((pre ++ [c]).length * s) n = c * s + (partI l s c).length by rw [List.length_append, hcq, List.length_singleton, Nat.succ_mul]; omega)
    have hle : ((c * s : Nat) : Int) + ((partI l s c).length : Nat) ≤ 1000000 := by omega
    have hle0 : (0 : Int) ≤ ((c * s : Nat) : Int) + ((partI l s c).length : Nat) := by omega
    clear hCV hrX HY hYc hJd hrow hrowd hcq hlt hml hm1
    generalize c * s = i at *
    gi_wp2_with fail
    gi_region_with (first
      | (refine ((HCl.out).inR l').mono ?_
         rintro e w2 ⟨g, cp, rfl, ho, hb⟩
         have cY2 := (BY.below hb (by omega)).cell 0 rfl
         have cT2 := (BT.below hb (by omega)).cell 0 rfl
         obtain ⟨fn, tmps, assign, body, hy, hR⟩ := HYc.out w2 g cp hb ho)
      | (refine (RoundIn_inR l' (hR _)).mono ?_
         rintro e w3 ⟨hSm, t, rfl, hJ3, hJx3⟩))
    all_goals
      have hSX : Sm (W.heap.size + 4) (W.heap.size + 6) X w3 := ((Sm.refl _ _ X).drew.trans (Sm.of_below hb (by omega))).trans ⟨hSm.1, fun k h1 h2 => hSm.2 k (by omega) (by omega)⟩
    all_goals
      have keepB : ∀ {k : Nat} {cs : Array Value} {t : TypeId}, W.heap.size ≤ k → k < W.heap.size + 6 → Blk X k cs t → Blk w3 k cs t := fun h1 h2 hB => (hSm.2 _ h1 h2).trans ((hb.block _ (by omega)).trans hB.drew)
      have bY3 := keepB (by omega) (by omega) bYX
      have bT3 := keepB (by omega) (by omega) bTX
      have bB3 := keepB (by omega) (by omega) bBX
      have bS3 := keepB (by omega) (by omega) bSX
      have cT3 : w3.cell? ⟨W.heap.size + 1, 0, none⟩ = some (.int .i64 i) := bT3.cell 0 rfl
      have fT3 := bT3.frozen 0
      clear keepB hR hy ho hb BY BT cY cT cY2 cT2 HCl HYc
      cases t
      · gi_wp2_with fail
        exact ⟨hSX, rfl, hJx3 (by trivial)⟩
      · gi_wp2_with fail
        refine ⟨hSX.setCell ⟨W.heap.size + 1, 0, none⟩ (.inr (by show W.heap.size + 1 < W.heap.size + 4; omega)) _, HO.out _ _ _ (hJ3 (by trivial)), bY3.setOther _ _ (by simp), ?_, bB3.setOther _ _ (by simp), bS3.setOther _ _ (by show W.heap.size + 2 + 1 ≠ W.heap.size + 1; omega)⟩
        rw [HNx.out]
        exact bT3.set 0 _
end Go.Proofs.Ytalaaembfgapfaa
