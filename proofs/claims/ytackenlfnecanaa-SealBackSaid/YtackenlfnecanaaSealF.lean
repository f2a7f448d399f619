/-
  Package seal: what a tag's bytes must be, pair by pair (pairs, Look). Conditions: the bounds of the kinds; lengths up to maxLen.
-/
import Derived.Test.YtackenlfnecanaaSealE2
import Derived.Test.YtackenlfnecanaaCoreB
import Derived.Scope
namespace Go.Proofs.Ytackenlfnecanaa
open Go.RowKit
attribute [local go_sem] Oper.semAt_some
set_option maxHeartbeats 1000000
set_option maxRecDepth 4000

theorem All_calls (ad : Option Addr) (n cap : Nat) (w : World) : Calls Try.prog 50 #[.slice ad n cap] w fun e w' => e = .returned (.func (.func 62) #[] #[.pointer (some ⟨w.heap.size, 0, none⟩)]) ∧ w' = w.alloc (.cells #[.slice ad n cap] 96) := by
  go_enter Try.func50, Try.ntmps50
  go_wp2
  go_ret
  exact ⟨rfl, rfl⟩
theorem pairs_calls (ad : Option Addr) (n cap : Nat) (w : World) : Calls Try.prog 31 #[.slice ad n cap] w fun e w' => e = .returned (.func (.func 62) #[] #[.pointer (some ⟨w.heap.size, 0, none⟩)]) ∧ w' = w.alloc (.cells #[.slice ad n cap] 96) := by
  go_enter Try.func31, Try.ntmps31
  go_wp2_with fail
  refine (All_calls _ _ _ _).mono ?_; rintro e w1 ⟨rfl, rfl⟩
  go_wp2_with fail
  go_ret
  exact ⟨rfl, rfl⟩
abbrev Sl := Option Addr × Nat × Nat
def prs (h a l b : Sl) : List (Int × Sl × Sl) := [(0, h, a), (1, l, b)]
theorem prs_iter (ad0 ad1 ad2 ad3 : Option Addr) (n0 n1 n2 n3 cp0 cp1 cp2 cp3 : Nat) (bb bs : Nat) :
    IterK Try.prog 62 #[.pointer (some ⟨bs, 0, none⟩)] (fun p : Int × Sl × Sl => #[.int .i64 p.1, .agg #[.slice p.2.1.1 p.2.1.2.1 p.2.1.2.2, .slice p.2.2.1 p.2.2.2.1 p.2.2.2.2]]) (prs (ad0, n0, cp0) (ad1, n1, cp1) (ad2, n2, cp2) (ad3, n3, cp3))
      (fun W => W.cell? ⟨bs, 0, none⟩ = some (.slice (some ⟨bb, 0, none⟩) 2 2) ∧ W.cell? ⟨bb, 0, none⟩ = some (.slice ad0 n0 cp0) ∧ W.cell? ⟨bb, 1, none⟩ = some (.slice ad1 n1 cp1) ∧ W.cell? ⟨bb, 2, none⟩ = some (.slice ad2 n2 cp2) ∧ W.cell? ⟨bb, 3, none⟩ = some (.slice ad3 n3 cp3)) := by
  intro L J Jx W hJ hJx hA hY h0
  obtain ⟨hc0, _⟩ := hA _ _ h0
  refine calls_in Try.func62 rfl ?_; simp only [Try.ntmps62, List.size_toArray, List.length_cons, List.length_nil, Nat.reduceAdd, Nat.reduceSub, Array.replicate_succ, Array.replicate_zero, List.push_toArray, List.append_toArray, List.nil_append, List.cons_append]
  gi_wp2
  gi_loopw [7] (fun i wr => ∃ k : Nat, k ≤ 2 ∧ i = .int .i64 k ∧ J ((prs (ad0, n0, cp0) (ad1, n1, cp1) (ad2, n2, cp2) (ad3, n3, cp3)).take k) wr ∧ W.heap.size ≤ wr.heap.size) (fun i _ => 2 - (intOf i).toNat)
  case atStart => exact ⟨0, by omega, rfl, by simpa using h0, Nat.le_refl _⟩
  case round =>
    clear hc0
    obtain ⟨k, hk, rfl, hJk, hsz⟩ := hrel
    obtain ⟨hc1, d0, d1, d2, d3⟩ := hA _ _ hJk
    have hcase : k = 0 ∨ k = 1 ∨ k = 2 := by omega
    rcases hcase with rfl | rfl | rfl
    · have hJ1 : J [] (wr.alloc (.cells #[.slice ad0 n0 cp0, .slice ad1 n1 cp1] 43)) := hJ _ _ _ hJk ((Keeps.refl _ wr).alloc hsz _)
      obtain ⟨fn, tmps, assign, body, hy, hR⟩ := hY [] (0, (ad0, n0, cp0), (ad1, n1, cp1)) [(1, (ad2, n2, cp2), (ad3, n3, cp3))] _ rfl hJ1 (by simp; omega)
      clear hY
      gi_wp2_with fail
      refine (hR _).mono ?_; rintro e W3 (⟨rfl, hJ3, hs3⟩ | ⟨rfl, hJx3, hs3⟩)
      · gi_wp2
        go_roundw
        case rel => exact ⟨1, by omega, by go_num, hJ3, by simp at hs3; omega⟩
        case measure => simp [intOf]
      · gi_wp2
        refine bodyPost_ret (results_none rfl _ _ _) rfl ?_
        exact ⟨⟨_, rfl⟩, .inr hJx3⟩
    · have hJ1 : J [(0, (ad0, n0, cp0), (ad1, n1, cp1))] (wr.alloc (.cells #[.slice ad2 n2 cp2, .slice ad3 n3 cp3] 43)) := hJ _ _ _ hJk ((Keeps.refl _ wr).alloc hsz _)
      obtain ⟨fn, tmps, assign, body, hy, hR⟩ := hY [(0, (ad0, n0, cp0), (ad1, n1, cp1))] (1, (ad2, n2, cp2), (ad3, n3, cp3)) [] _ rfl hJ1 (by simp; omega)
      clear hY
      gi_wp2_with fail
      refine (hR _).mono ?_; rintro e W3 (⟨rfl, hJ3, hs3⟩ | ⟨rfl, hJx3, hs3⟩)
      · gi_wp2
        go_roundw
        case rel => exact ⟨2, by omega, by go_num, hJ3, by simp at hs3; omega⟩
        case measure => simp [intOf]
      · gi_wp2
        refine bodyPost_ret (results_none rfl _ _ _) rfl ?_
        exact ⟨⟨_, rfl⟩, .inr hJx3⟩
    · gi_wp2
      go_end0
      exact ⟨⟨_, rfl⟩, .inl hJk⟩
theorem Look_no (key at_ c s n : Int) (ha : 0 ≤ at_) (ha' : at_ < 4294967296) (hn : 0 ≤ n) (hn' : n < 4294967296) (hr : rightI c s = false) (v u : Value) (w : World) :
    Calls Try.prog 17 #[.int .u64 key, .int .u32 at_, .agg #[.int .i64 c, .int .i64 s, .int .u32 n], v, u] w fun e w' => e = .returned (.tuple #[.int .i64 0, .int .i64 2]) ∧ Below w.heap.size w w' := by
  refine calls_of_wp_marks Try.func17 rfl ?_; simp only [Try.ntmps17, List.size_toArray, List.length_cons, List.length_nil, Nat.reduceAdd, Nat.reduceSub, Array.replicate_succ, Array.replicate_zero, List.push_toArray, List.append_toArray, List.nil_append, List.cons_append]
  go_wp2_with fail
  refine wp_scope_straight ?_
  go_wp2_with fail
  refine (Head_ok key at_ c s n ha ha' hn hn' _).mono ?_; rintro e w1 ⟨v1, e0, rfl, hr1, h1⟩
  obtain ⟨rfl, rfl⟩ := hr1.2 hr
  go_wp2_with fail
  refine postM_ret0 (results_tmp2 rfl _ _ _) ⟨rfl, ((Below.refl _ w).alloc (Nat.le_refl _) _).trans (h1.mono (by simp))⟩
structure LookAt (w : World) (bo : Nat) (s0 s1 s2 s3 : Value) (h l H T : List Int) (W : World) : Prop where
  out : Blk W bo #[.int .i64 0] 44
  arr : Blk W (bo + 1) #[s0, s1, s2, s3] 43
  box : Blk W (bo + 1 + 1) #[.slice (some ⟨bo + 1, 0, none⟩) 2 2] 96
  r0 : RowAt bo W s0 h.length (intVals .u8 h)
  r1 : RowAt bo W s1 H.length (intVals .u8 H)
  r2 : RowAt bo W s2 l.length (intVals .u8 l)
  r3 : RowAt bo W s3 T.length (intVals .u8 T)
  bel : Below w.heap.size w W
  lo : w.heap.size ≤ bo
  sz : bo + 3 ≤ W.heap.size
section
variable {w : World} {bo : Nat} {s0 s1 s2 s3 : Value} {h l H T : List Int} {W W' : World}
theorem LookAt.keeps {B : Nat} (k : LookAt w bo s0 s1 s2 s3 h l H T W) (hk : Keeps B W W') (hB : w.heap.size ≤ B) : LookAt w bo s0 s1 s2 s3 h l H T W' :=
  ⟨k.out.keeps hk, k.arr.keeps hk, k.box.keeps hk, k.r0.keeps hk, k.r1.keeps hk, k.r2.keeps hk, k.r3.keeps hk, k.bel.keeps hk hB, k.lo, Nat.le_trans k.sz hk.size⟩
theorem LookAt.below (k : LookAt w bo s0 s1 s2 s3 h l H T W) (hk : Below W.heap.size W W') : LookAt w bo s0 s1 s2 s3 h l H T W' :=
  k.keeps (Keeps.of_below (B := W.heap.size) hk (Nat.le_refl _) (Nat.le_refl _)) (by have := k.lo; have := k.sz; omega)
theorem LookAt.alloc (k : LookAt w bo s0 s1 s2 s3 h l H T W) (o : Obj) : LookAt w bo s0 s1 s2 s3 h l H T (W.alloc o) :=
  k.below ((Below.refl _ W).alloc (Nat.le_refl _) o)
end
theorem prs_split {h a l b : Sl} {pre : List (Int × Sl × Sl)} {x : Int × Sl × Sl} {suf : List (Int × Sl × Sl)} (e : prs h a l b = pre ++ x :: suf) :
    (pre = [] ∧ x = (0, h, a)) ∨ (pre = [(0, h, a)] ∧ x = (1, l, b)) := by
  unfold prs at e
  match pre, e with
  | [], e => simp at e; exact .inl ⟨rfl, e.1.symm⟩
  | [p], e => simp at e; exact .inr ⟨by rw [← e.1], e.2.1.symm⟩
  | p :: q :: r, e => simp at e
theorem Look_yes (key at_ c s n : Int) (ha : 0 ≤ at_) (ha' : at_ < 4294967296) (hn : 0 ≤ n) (hn' : n < 4294967296) (hr : rightI c s = true) (v u : Value) (h l : List Int) (hhl : h.length ≤ maxLen) (hll : l.length ≤ maxLen) (B : Nat) (w : World) (hB : B ≤ w.heap.size) (hv : RowAt B w v h.length (intVals .u8 h)) (hu : RowAt B w u l.length (intVals .u8 l)) :
    Calls Try.prog 17 #[.int .u64 key, .int .u32 at_, .agg #[.int .i64 c, .int .i64 s, .int .u32 n], v, u] w fun e w' =>
      e = .returned (.tuple #[.int .i64 (lookI h l (sealB (foldI [key, at_]) (wordI c s n)) (sealB (foldI [at_, key]) (wordI c s n))), .int .i64 0]) ∧ Below w.heap.size w w' := by
  obtain ⟨ad0, cp0, rfl, _, _⟩ := id hv
  obtain ⟨ad2, cp2, rfl, _, _⟩ := id hu
  obtain ⟨H, hH⟩ : ∃ H, sealB (foldI [key, at_]) (wordI c s n) = H := ⟨_, rfl⟩
  obtain ⟨T, hT⟩ : ∃ T, sealB (foldI [at_, key]) (wordI c s n) = T := ⟨_, rfl⟩
  have hHl : H.length = 16 := by rw [← hH]; exact sealB_len _ _
  have hTl : T.length = 16 := by rw [← hT]; exact sealB_len _ _
  rw [hH, hT]
  have HH := Lib.hid hH
  have HT := Lib.hid hT
  clear hH hT
  obtain ⟨w0, hw0⟩ : ∃ w0, w.alloc (.cells #[.int .i64 c, .int .i64 s, .int .u32 n] 27) = w0 := ⟨_, rfl⟩
  have hX : Blk w0 w.heap.size #[.int .i64 c, .int .i64 s, .int .u32 n] 27 := by rw [← hw0]; exact Blk.new w _ _
  have hb0 : Below w.heap.size w w0 := by rw [← hw0]; exact (Below.refl _ w).alloc (Nat.le_refl _) _
  have z0 := hb0.size
  refine calls_of_wp_marks Try.func17 rfl ?_; simp only [Try.ntmps17, List.size_toArray, List.length_cons, List.length_nil, Nat.reduceAdd, Nat.reduceSub, Array.replicate_succ, Array.replicate_zero, List.push_toArray, List.append_toArray, List.nil_append, List.cons_append]
  go_wp2_with fail
  clear hw0
  have y0 : w0.cell? ⟨w.heap.size, 0, none⟩ = some (.int .i64 c) := hX.cell 0 rfl
  have y1 : w0.cell? ⟨w.heap.size, 1, none⟩ = some (.int .i64 s) := hX.cell 1 rfl
  have y2 : w0.cell? ⟨w.heap.size, 2, none⟩ = some (.int .u32 n) := hX.cell 2 rfl
  refine wp_scope_straight ?_
  go_wp2_with fail
  clear y0 y1 y2
  refine (Head_ok key at_ c s n ha ha' hn hn' _).mono ?_; rintro e w1 ⟨v1, e0, rfl, hr1, h1⟩
  obtain ⟨rfl, ho1⟩ := hr1.1 hr
  have z1 := h1.size
  have hX1 := hX.below h1 hX.lt
  have x0 : w1.cell? ⟨w.heap.size, 0, none⟩ = some (.int .i64 c) := hX1.cell 0 rfl
  have x1 : w1.cell? ⟨w.heap.size, 1, none⟩ = some (.int .i64 s) := hX1.cell 1 rfl
  have x2 : w1.cell? ⟨w.heap.size, 2, none⟩ = some (.int .u32 n) := hX1.cell 2 rfl
  go_wp2_with fail
  refine (Tail_ok key at_ c s n ha ha' hn hn' _).mono ?_; rintro e w2 ⟨v2, e0, rfl, hr2, h2⟩
  obtain ⟨rfl, ho2⟩ := hr2.1 hr
  have z2 := h2.size
  rw [HH.out] at ho1
  rw [HT.out] at ho2
  have hR1 : RowAt w2.heap.size w2 v1 H.length (intVals .u8 H) := by
    rw [hHl]; exact (RowAt.of_owns ho1 (Nat.le_refl _)).below h2 (Nat.le_refl _) |>.mono z2
  have hR2 : RowAt w2.heap.size w2 v2 T.length (intVals .u8 T) := by rw [hTl]; exact RowAt.of_owns ho2 (Nat.le_refl _)
  have hk2 : Below w.heap.size w w2 := hb0.trans ((h1.mono z0).trans (h2.mono (by omega)))
  have hV := (hv.below hk2 hB).mono (by omega : B ≤ w2.heap.size)
  have hU := (hu.below hk2 hB).mono (by omega : B ≤ w2.heap.size)
  clear h1 h2 ho1 ho2 hr1 hr2 hX hX1 x0 x1 x2 hv hu
  have HV := Lib.hid hV
  have HU := Lib.hid hU
  have HR1 := Lib.hid hR1
  have HR2 := Lib.hid hR2
  obtain ⟨ad1, cp1, rfl, _, _⟩ := hR1
  obtain ⟨ad3, cp3, rfl, _, _⟩ := hR2
  rw [hHl] at HR1
  rw [hTl] at HR2
  go_wp2_with fail
  refine wp_label ?_
  go_wp2_with fail
  refine (pairs_calls _ _ _ _).mono ?_; rintro e w3' ⟨rfl, rfl⟩
  obtain ⟨w3, hw3⟩ : ∃ w3, ((w2.alloc (.cells #[.int .i64 0] 44)).alloc (.cells #[.slice ad0 h.length cp0, .slice ad1 16 cp1, .slice ad2 l.length cp2, .slice ad3 16 cp3] 43)).alloc (.cells #[.slice (some ⟨w2.heap.size + 1, 0, none⟩) 2 2] 96) = w3 := ⟨_, rfl⟩
  have hk3 : Below w2.heap.size w2 w3 := by rw [← hw3]; exact (((Below.refl _ w2).alloc (Nat.le_refl _) _).alloc (by simp) _).alloc (by simp; omega) _
  have hL : LookAt w w2.heap.size (.slice ad0 h.length cp0) (.slice ad1 16 cp1) (.slice ad2 l.length cp2) (.slice ad3 16 cp3) h l H T w3 := by
    refine ⟨?_, ?_, ?_, HV.out.below hk3 (Nat.le_refl _), ?_, HU.out.below hk3 (Nat.le_refl _), ?_, hk2.trans (hk3.mono hk2.size), hk2.size, by rw [← hw3]; simp⟩
    · rw [← hw3]; exact ((Blk.new w2 _ _).alloc _).alloc _
    · rw [← hw3]; exact (Blk.newAt _ _ _ (by simp)).alloc _
    · rw [← hw3]; exact Blk.newAt _ _ _ (by simp)
    · rw [hHl]; exact HR1.out.below hk3 (Nat.le_refl _)
    · rw [hTl]; exact HR2.out.below hk3 (Nat.le_refl _)
  go_wp2_with fail
  clear hw3 hV hU hk3
  have z3 := hL.sz
  have l3 := hL.lo
  generalize w2.heap.size = bo at *
  refine wp_rangeB rfl (enters_of Try.func62 (by kernel_rfl) rfl) (prs_iter ad0 ad1 ad2 ad3 h.length 16 l.length 16 cp0 cp1 cp2 cp3 (bo + 1) (bo + 1 + 1)) (fun _ => rfl)
    (fun pre W => LookAt w bo (.slice ad0 h.length cp0) (.slice ad1 16 cp1) (.slice ad2 l.length cp2) (.slice ad3 16 cp3) h l H T W ∧ (1 ≤ pre.length → h = H) ∧ (2 ≤ pre.length → l = T))
    (fun c W => c = .exit 0 ∧ Blk W bo #[.int .i64 (lookI h l H T)] 44 ∧ Below w.heap.size w W)
    ?a1 (fun pre x b W => Blk W b #[.slice x.2.1.1 x.2.1.2.1 x.2.1.2.2, .slice x.2.2.1 x.2.2.2.1 x.2.2.2.2] 43 ∧ LookAt w bo (.slice ad0 h.length cp0) (.slice ad1 16 cp1) (.slice ad2 l.length cp2) (.slice ad3 16 cp3) h l H T W ∧ (1 ≤ pre.length → h = H)) ?hI ?hIx ?hMid ?hA ?h0 ?hassign ?hbody ?hdone ?hstop
  case hI => rintro pre X Y ⟨h1, h2, h3⟩ hk; exact ⟨h1.keeps hk (by omega), h2, h3⟩
  case hIx => rintro c X Y ⟨hc, h1, h2⟩ hk; exact ⟨hc, h1.keeps hk, h2.keeps hk (by omega)⟩
  case hMid => rintro pre x b X Y ⟨h1, h2, h3⟩ hk; exact ⟨h1.keeps hk, h2.keeps hk (by omega), h3⟩
  case hA => rintro pre W ⟨h1, _, _⟩; exact ⟨h1.box.cell 0 rfl, h1.arr.cell 0 rfl, h1.arr.cell 1 rfl, h1.arr.cell 2 rfl, h1.arr.cell 3 rfl⟩
  case h0 => exact ⟨hL, fun h => absurd h (by simp), fun h => absurd h (by simp)⟩
  case hassign =>
    rintro m L pre x suf W K hxs ⟨h1, h2, h3⟩ hlt hK
    gi_wp2
    have hM := hK W.heap.size _ ((KeepsRec.refl W).alloc _) ⟨Blk.new W #[.slice x.2.1.1 x.2.1.2.1 x.2.1.2.2, .slice x.2.2.1 x.2.2.2.1 x.2.2.2.2] 43, h1.alloc _, h2⟩
    generalize W.heap.size = b at hM ⊢
    exact hM
  case hbody =>
    rintro m L pre x suf b W hxs hl hrec ⟨hB, h1, h2⟩
    rcases prs_split hxs with ⟨rfl, rfl⟩ | ⟨rfl, rfl⟩
    · have hD := Differ_ok _ _ h H bo W (by have := h1.sz; omega) hhl (by rw [hHl]; unfold maxLen; omega) h1.r0 h1.r1
      have hiff := differI_iff h H
      have hb0 : W.cell? ⟨b, 0, none⟩ = some (.slice ad0 h.length cp0) := hB.cell 0 rfl
      have hb1 : W.cell? ⟨b, 1, none⟩ = some (.slice ad1 16 cp1) := hB.cell 1 rfl
      obtain ⟨d, hd⟩ : ∃ d, differI h H = d := ⟨_, rfl⟩
      rw [hd] at hD hiff
      clear hd
      gi_wp2_with fail
      refine (hD.inR L).mono ?_; rintro e W1 ⟨rfl, k1⟩
      have hL1 := h1.below k1
      have hr1 := KeepsRec.of_below k1 (Nat.le_refl _)
      by_cases he : h = H
      · have hdl : d < 0 := hiff.2 he
        gi_wp2_with fail
        exact ⟨hr1, hL1, fun _ => he, fun hh => absurd hh (by simp)⟩
      · have hdl : 0 ≤ d := by
          rcases Int.lt_or_le d 0 with h9 | h9
          · exact absurd (hiff.1 h9) he
          · exact h9
        have c1 : W1.cell? ⟨bo, 0, none⟩ = some (.int .i64 0) := hL1.out.cell 0 rfl
        have f1 := hL1.out.frozen 0
        have hlk : lookI h l H T = 1 := by simp [lookI, he]
        gi_wp2_with fail
        exact ⟨hr1.setCell _ _, rfl, by first | exact hL1.out.set 0 _ | (rw [hlk]; exact hL1.out.set 0 _), hL1.bel.setCell (p := ⟨bo, 0, none⟩) hL1.lo _⟩
    · obtain rfl := h2 (by simp)
      have hD := Differ_ok _ _ l T bo W (by have := h1.sz; omega) hll (by rw [hTl]; unfold maxLen; omega) h1.r2 h1.r3
      have hiff := differI_iff l T
      have hb0 : W.cell? ⟨b, 0, none⟩ = some (.slice ad2 l.length cp2) := hB.cell 0 rfl
      have hb1 : W.cell? ⟨b, 1, none⟩ = some (.slice ad3 16 cp3) := hB.cell 1 rfl
      obtain ⟨d, hd⟩ : ∃ d, differI l T = d := ⟨_, rfl⟩
      rw [hd] at hD hiff
      clear hd
      gi_wp2_with fail
      refine (hD.inR L).mono ?_; rintro e W1 ⟨rfl, k1⟩
      have hL1 := h1.below k1
      have hr1 := KeepsRec.of_below k1 (Nat.le_refl _)
      by_cases he : l = T
      · have hdl : d < 0 := hiff.2 he
        have HE := Lib.hid he
        clear he hiff
        gi_wp2_with fail
        rw [hHl] at hL1
        exact ⟨hr1, hL1, fun _ => HE.out⟩
      · have hdl : 0 ≤ d := by
          rcases Int.lt_or_le d 0 with h9 | h9
          · exact absurd (hiff.1 h9) he
          · exact h9
        have c1 : W1.cell? ⟨bo, 0, none⟩ = some (.int .i64 0) := hL1.out.cell 0 rfl
        have f1 := hL1.out.frozen 0
        have hlk : lookI h l h T = 2 := by simp [lookI, he]
        gi_wp2_with fail
        exact ⟨hr1.setCell _ _, rfl, by first | exact hL1.out.set 0 _ | (rw [hlk]; exact hL1.out.set 0 _), hL1.bel.setCell (p := ⟨bo, 0, none⟩) hL1.lo _⟩
  case hdone =>
    rintro D W hD ⟨h1, h2, h3⟩ hK
    obtain rfl := h2 (by simp [prs])
    obtain rfl := h3 (by simp [prs])
    have c1 : W.cell? ⟨bo, 0, none⟩ = some (.int .i64 0) := h1.out.cell 0 rfl
    go_wp2_with fail
    exact postM_ret hK (results_tmp2 rfl _ _ _) ⟨by simp [lookI], below_putObj h1.bel (by omega) _ (Array.getElem?_eq_some_iff.1 hK).1⟩
  case hstop =>
    rintro D c W hD ⟨rfl, h1, h2⟩ hK
    have c1 : W.cell? ⟨bo, 0, none⟩ = some (.int .i64 (lookI h l H T)) := h1.cell 0 rfl
    go_wp2_with fail
    exact postM_ret hK (results_tmp2 rfl _ _ _) ⟨rfl, below_putObj h2 (by omega) _ (Array.getElem?_eq_some_iff.1 hK).1⟩
end Go.Proofs.Ytackenlfnecanaa
