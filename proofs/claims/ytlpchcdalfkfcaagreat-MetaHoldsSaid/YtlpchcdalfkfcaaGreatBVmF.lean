/-
 Package vmem: what comes of a reach, part by part. Conditions: books in order; reaches within the addresses.
-/
import Derived.Test.YtlpchcdalfkfcaaGreatBVmE
import Derived.Test.YtlpchcdalfkfcaaGreatBWordD
namespace Go.Proofs.YtlpchcdalfkfcaaGreat
open Go.RowKit
attribute [local go_sem] Oper.semAt_some
set_option maxHeartbeats 4000000
set_option maxRecDepth 4000

/-- A drawn region in a round, walked with what is held. -/
theorem wpInR_held {P : Program} {n l id : Nat} {ops : Array Oper} {Q : Exit → Act → World → Prop} {S : World → Prop} {a : Act} {w : World} (hm : P.follows .mixedOrders = true) (hd : noDefer ops = true) (hS : S w.drew)
  (h : S w.drew → wpAnyH P .any ops (onlyN Q) S ops.size (Array.replicate ops.size false) a w.drew) : (Code.region id ops true).wpIn (Fence.wide.inRound l) n P Q a w :=
 wpIn_mono (wpIn_region_of_any hm hd (fun _ _ h => h) (wpAny_of_held _ _ _ _ (h hS))) (fun e a w hq => by cases e <;> first | exact hq | exact hq.elim)
theorem ChgM.recs {k : Mb} {s : Ms} {W W' : World} (h : ChgM k W W') (hm : MemAt W k s) : KeepsRec W W' := by
 refine ⟨h.size, fun i o hi ho => ?_⟩
 have hl := (Array.getElem?_eq_some_iff.1 hi).1
 refine (h.block i hl ?_ ?_ ?_).trans hi
 ·rintro rfl
  obtain ⟨l, _, es, cl, h1, _⟩ := hm.tb.mp
  rw [h1] at hi; cases hi; cases ho
 ·rintro rfl
  obtain ⟨es, cl, h1, _⟩ := hm.pl.fr
  rw [h1] at hi; cases hi; cases ho
 ·rintro rfl
  obtain ⟨es, cl, h1, _⟩ := hm.pl.re
  rw [h1] at hi; cases hi; cases ho
theorem ChgM.setc {k : Mb} {W X : World} (h : ChgM k W X) (a : Addr) (v : Value) (hb : W.heap.size ≤ a.block) : ChgM k W (X.setCell a v) := ⟨h.os, h.tape, h.output, by simpa using h.size, fun i hi h1 h2 h3 => (Below.heap_setCell X a v i (by omega)).trans (h.block i hi h1 h2 h3)⟩
theorem ChgM.put {k : Mb} {D : Nat} {W X : World} (h : ChgM k W X) (o : Obj) (hb : W.heap.size ≤ D) : ChgM k W (X.putObj D o) := ⟨h.os, h.tape, h.output, by simpa using h.size, fun i hi h1 h2 h3 => (World.putObj_heap_other (by omega)).trans (h.block i hi h1 h2 h3)⟩
theorem MemAt.keeps {n : Nat} {W W' : World} {k : Mb} {s : Ms} (h : MemAt W k s) (hk : Keeps n W W') : MemAt W' k s := by
 obtain ⟨l, hp, hm⟩ := h.tb.mp
 exact ⟨h.blk.keeps hk, ⟨h.tb.blk.keeps hk, ⟨l, hp, hm.keeps hk⟩⟩, ⟨h.pl.blk.keeps hk, h.pl.fr.keeps hk, h.pl.re.keeps hk, h.pl.ne⟩, h.n1, h.n2⟩
theorem MemAt.setc {W : World} {k : Mb} {s : Ms} (h : MemAt W k s) {c : Nat} {cs : Array Value} {t : TypeId} (hb : Blk W c cs t) (h1 : k.b ≠ c) (h2 : k.t ≠ c) (h3 : k.p ≠ c) (v : Value) : MemAt (W.setCell ⟨c, 0, none⟩ v) k s := by
 obtain ⟨q1, q2, q3⟩ := h.nes hb
 have hc := (Chg.refl c W).setc ⟨c, 0, none⟩ v rfl
 exact ⟨hc.blk h.blk h1, h.tb.chg hc h2 (Ne.symm q1), ⟨hc.blk h.pl.blk h3, hc.map h.pl.fr (Ne.symm q2), hc.map h.pl.re (Ne.symm q3), h.pl.ne⟩, h.n1, h.n2⟩
/-- Boxes of each. -/
structure EchI (k : Mb) (w W : World) (byf : Nat) (caps : Array Value) (at_ many : Int) (v : Value) : Prop where
 c0 : Blk W w.heap.size #[.pointer (some ⟨k.b, 0, none⟩)] 38
 c1 : Blk W (w.heap.size + 1) #[v] 44
 c2 : Blk W (w.heap.size + 1 + 1) #[.func (.func byf) #[] caps] 162
 c3 : Blk W (w.heap.size + 1 + 1 + 1) #[.int .u32 at_] 24
 c4 : Blk W (w.heap.size + 1 + 1 + 1 + 1) #[.int .i64 many] 3
 ch : ChgM k w W
section
variable {k : Mb} {w W W' : World} {byf : Nat} {caps : Array Value} {at_ many : Int} {v : Value}
theorem EchI.keeps {n : Nat} (h : EchI k w W byf caps at_ many v) (hk : Keeps n W W') (hn : w.heap.size ≤ n) : EchI k w W' byf caps at_ many v :=
 ⟨h.c0.keeps hk, h.c1.keeps hk, h.c2.keeps hk, h.c3.keeps hk, h.c4.keeps hk, h.ch.more hk.below hn⟩
theorem EchI.step (h : EchI k w W byf caps at_ many v) (j : Below W.heap.size W W') : EchI k w W' byf caps at_ many v :=
 ⟨h.c0.below j h.c0.lt, h.c1.below j h.c1.lt, h.c2.below j h.c2.lt, h.c3.below j h.c3.lt, h.c4.below j h.c4.lt, h.ch.more j h.ch.size⟩
theorem EchI.chg {s : Ms} (h : EchI k w W byf caps at_ many v) (hm : MemAt W k s) (j : ChgM k W W') : EchI k w W' byf caps at_ many v :=
 ⟨j.cells hm h.c0, j.cells hm h.c1, j.cells hm h.c2, j.cells hm h.c3, j.cells hm h.c4, h.ch.trans j⟩
theorem EchI.set (h : EchI k w W byf caps at_ many v) (u : Value) : EchI k w (W.setCell ⟨w.heap.size + 1, 0, none⟩ u) byf caps at_ many u :=
 ⟨h.c0.setOther _ _ (by dsimp only; omega), h.c1.set 0 u, h.c2.setOther _ _ (by dsimp only; omega), h.c3.setOther _ _ (by dsimp only; omega), h.c4.setOther _ _ (by dsimp only; omega), h.ch.setc _ _ (by dsimp only; omega)⟩
end
/-- What each wants of what is done, part by part. -/
structure EachH (k : Mb) (D : Tb) (B : Nat) (byf : Nat) (caps : Array Value) (xs : List (Int × Int × Int)) (St : List (Int × Int × Int) → Value → World → Prop) : Prop where
 mem : ∀ pre v W, St pre v W → ∃ s, MemAt W k s ∧ s.D = D
 sl : ∀ pre v W, St pre v W → ∃ a n c, v = .slice a n c
 kp : ∀ pre v X Y, St pre v X → Keeps (B + 5) X Y → St pre v Y
 set : ∀ pre v X u u', St pre v X → Blk X (B + 1) #[u'] 44 → St pre v (X.setCell ⟨B + 1, 0, none⟩ u)
 eg : ∀ args W, (callFunc byf args).run Tryz.prog W = .ok (.enter byf args) W
 by_ : ∀ pre x suf v W, xs = pre ++ x :: suf → St pre v W → Calls Tryz.prog byf (#[v, .int .i64 (getE D x.1).f, encPart x] ++ caps) W fun e W' => ∃ v', e = .returned v' ∧ St (pre ++ [x]) v' W' ∧ ChgM k W W'
structure EcS (g kb kt b : Nat) (n : Int) (Y : World) : Prop where
 e0 : Y.cell? ⟨g, 0, none⟩ = some (.pointer (some ⟨kb, 0, none⟩))
 e1 : Y.cell? ⟨kb, 0, none⟩ = some (.pointer (some ⟨kt, 0, none⟩))
 e2 : Y.cell? ⟨b, 0, none⟩ = some (.int .i64 n)
/-- What stands within a round. -/
structure EcR (k : Mb) (D : Tb) (w W0 W : World) (byf : Nat) (caps : Array Value) (at_ many : Int) (b : Nat) (pre : List (Int × Int × Int)) (x : Int × Int × Int) (v : Value) (St : List (Int × Int × Int) → Value → World → Prop) : Prop where
 st : St pre v W
 e : EchI k w W byf caps at_ many v
 x : Blk W b #[.int .i64 x.1, .int .i64 x.2.1, .int .i64 x.2.2] 160
 r : KeepsRec W0 W
 z : w.heap.size + 5 ≤ W.heap.size
theorem EcR.step {k : Mb} {D : Tb} {w W0 W W' : World} {byf : Nat} {caps : Array Value} {at_ many : Int} {b : Nat} {pre : List (Int × Int × Int)} {x : Int × Int × Int} {v : Value} {St : List (Int × Int × Int) → Value → World → Prop} {xs : List (Int × Int × Int)} (H : EachH k D w.heap.size byf caps xs St)
  (h : EcR k D w W0 W byf caps at_ many b pre x v St) (j : Below W.heap.size W W') : EcR k D w W0 W' byf caps at_ many b pre x v St :=
 ⟨H.kp _ _ _ _ h.st (Keeps.of_below j h.z (Nat.le_refl _)), h.e.step j, h.x.below j h.x.lt, h.r.trans (KeepsRec.of_below j (Nat.le_refl _)), Nat.le_trans h.z j.size⟩
theorem EcR.s {k : Mb} {D : Tb} {w W0 W : World} {byf : Nat} {caps : Array Value} {at_ many : Int} {b : Nat} {pre : List (Int × Int × Int)} {x : Int × Int × Int} {v : Value} {St : List (Int × Int × Int) → Value → World → Prop} {xs : List (Int × Int × Int)} (H : EachH k D w.heap.size byf caps xs St)
  (h : EcR k D w W0 W byf caps at_ many b pre x v St) : EcS w.heap.size k.b k.t b x.1 W := by
 obtain ⟨s, hm, _⟩ := H.mem _ _ _ h.st
 exact ⟨h.e.c0.cell 0 rfl, hm.cells.1, h.x.cell 0 rfl⟩
theorem EcR.get {k : Mb} {D : Tb} {w W0 W : World} {byf : Nat} {caps : Array Value} {at_ many : Int} {b : Nat} {pre : List (Int × Int × Int)} {x : Int × Int × Int} {v : Value} {St : List (Int × Int × Int) → Value → World → Prop} {xs : List (Int × Int × Int)} (H : EachH k D w.heap.size byf caps xs St)
  (h : EcR k D w W0 W byf caps at_ many b pre x v St) (n : Int) : Calls Tryz.prog 84 #[.pointer (some ⟨k.t, 0, none⟩), .int .i64 n] W fun e w' => e = .returned (.tuple #[encE (getE D n), .bool (hasR D n)]) ∧ Below W.heap.size W w' := by
 obtain ⟨s, hm, rfl⟩ := H.mem _ _ _ h.st
 exact Get_ok hm.tb n
theorem each_ok {k : Mb} {D : Tb} {w : World} {byf : Nat} {caps : Array Value} {at_ many : Int} {St : List (Int × Int × Int) → Value → World → Prop} (H : Hid (EachH k D w.heap.size byf caps (partsL at_ many) St)) {ad : Option Addr} {n c : Nat}
  (hst : Hid (∀ W, Below w.heap.size w W → w.heap.size + 5 ≤ W.heap.size → St [] (.slice ad n c) W)) (h0 : 0 ≤ at_) (h1 : at_ < 4294967296) (h2 : 0 ≤ many) (h3 : many ≤ 16777216) :
  Calls Tryz.prog 99 #[.pointer (some ⟨k.b, 0, none⟩), .int .u32 at_, .int .i64 many, .slice ad n c, .func (.func byf) #[] caps] w fun e w' => ∃ v, e = .returned v ∧ St (partsL at_ many) v w' ∧ ChgM k w w' := by
 obtain ⟨w1, hw1⟩ : ∃ w1, ((w.alloc (.cells #[.pointer (some ⟨k.b, 0, none⟩)] 38)).alloc (.cells #[.slice ad n c] 44)).alloc (.cells #[.func (.func byf) #[] caps] 162) = w1 := ⟨_, rfl⟩
 have a0 : Blk w1 w.heap.size #[.pointer (some ⟨k.b, 0, none⟩)] 38 := by rw [← hw1]; exact ((Blk.new w _ _).alloc _).alloc _
 have a1 : Blk w1 (w.heap.size + 1) #[.slice ad n c] 44 := by rw [← hw1]; exact (Blk.newAt _ _ _ (by simp)).alloc _
 have a2 : Blk w1 (w.heap.size + 1 + 1) #[.func (.func byf) #[] caps] 162 := by rw [← hw1]; exact Blk.newAt _ _ _ (by simp)
 have k1 : Below w.heap.size w w1 := by rw [← hw1]; exact (((Below.refl _ w).alloc (Nat.le_refl _) _).alloc (by simp) _).alloc (by simp; omega) _
 have Z1 := Lib.hid (show w1.heap.size = w.heap.size + 1 + 1 + 1 by rw [← hw1]; simp)
 refine calls_of_wp_marks Tryz.func99 rfl ?_; simp only [Tryz.ntmps99, List.size_toArray, List.length_cons, List.length_nil, Nat.reduceAdd, Nat.reduceSub, Array.replicate_succ, Array.replicate_zero, List.push_toArray, List.append_toArray, List.nil_append, List.cons_append]
 go_wp2_with fail
 clear hw1
 refine (vparts_ok at_ many w1).mono ?_; rintro e w2 ⟨rfl, d1, d2, hw2⟩
 have k2 : Below w1.heap.size w1 w2 := by rw [hw2]; exact ((Below.refl _ w1).alloc (Nat.le_refl _) _).alloc (by simp) _
 have z2 : w.heap.size + 5 ≤ w2.heap.size := by have := Z1.out; rw [hw2]; simp; omega
 rw [Z1.out] at d1 d2 ⊢
 have hI0 : EchI k w w2 byf caps at_ many (.slice ad n c) := ⟨a0.below k2 a0.lt, a1.below k2 a1.lt, a2.below k2 a2.lt, d1, d2, .of_below (k1.trans (k2.mono k1.size))⟩
 have hS0 : St [] (.slice ad n c) w2 := hst.out w2 (k1.trans (k2.mono k1.size)) (by omega)
 clear hw2 a0 a1 a2 k1 k2 d1 d2 hst
 go_wp2_with fail
 refine wp_rangeB rfl (enters_of Tryz.func198 (by kernel_rfl) rfl) (parts_iter (w.heap.size + 1 + 1 + 1) (w.heap.size + 1 + 1 + 1 + 1) at_ many h0 h1 h2 h3) (fun _ => rfl)
  (fun pre W => ∃ v, St pre v W ∧ EchI k w W byf caps at_ many v)
  (fun c W => False)
  ?a1 (fun pre x b W => Blk W b #[.int .i64 x.1, .int .i64 x.2.1, .int .i64 x.2.2] 160 ∧ w2.heap.size ≤ b ∧ ∃ v, St pre v W ∧ EchI k w W byf caps at_ many v) ?hI ?hIx ?hMid ?hA ?h0 ?hassign ?hbody ?hdone ?hstop
 case hassign =>
  rintro m l pre x suf W K hxs ⟨v, q1, q2⟩ hlt hK
  unfold encPart
  gi_wp2_with fail
  have hj := (Below.refl W.heap.size W).alloc (Nat.le_refl _) (.cells #[.int .i64 x.1, .int .i64 x.2.1, .int .i64 x.2.2] 160)
  have hM := hK W.heap.size _ ((KeepsRec.refl W).alloc _) ⟨Blk.new W #[.int .i64 x.1, .int .i64 x.2.1, .int .i64 x.2.2] 160, by have := q2.c4.lt; omega, v, H.out.kp _ _ _ _ q1 (Keeps.of_below hj (by have := q2.c4.lt; omega) (Nat.le_refl _)), q2.step hj⟩
  generalize W.heap.size = b at hM ⊢
  exact hM
 case hI => rintro pre X Y ⟨v, q1, q2⟩ hk; exact ⟨v, H.out.kp _ _ _ _ q1 (hk.mono (by omega)), q2.keeps hk (by omega)⟩
 case hIx => rintro c X Y hc hk; exact hc
 case hMid => rintro pre x b X Y ⟨q0, qz, v, q1, q2⟩ hk; exact ⟨q0.keeps hk, qz, v, H.out.kp _ _ _ _ q1 (hk.mono (by omega)), q2.keeps hk (by omega)⟩
 case hA => rintro pre W ⟨v, _, q⟩; exact ⟨q.c3.cell 0 rfl, q.c4.cell 0 rfl⟩
 case h0 => exact ⟨_, hS0, hI0⟩
 case hbody =>
  rintro m l pre x suf b W hxs hl hrec ⟨hX, hbz, v, hS, hE⟩
  obtain ⟨sa, sn, sc, rfl⟩ := H.out.sl _ _ _ hS
  have hR : EcR k D w W W.drew byf caps at_ many b pre x (.slice sa sn sc) St :=
   EcR.step H.out ⟨hS, hE, hX, KeepsRec.refl W, by have := hE.c4.lt; omega⟩ (Below.refl _ W).drew
  clear hX hS hE hS0 hI0
  gi_wp2_with fail
  refine wpInR_held (S := EcS w.heap.size k.b k.t b x.1) (by kernel_rfl) (by kernel_rfl) (hR.s H.out) (fun hHeld => ?_)
  change wpAnyH _ _ _ _ _ _ _ _ W.drew
  obtain ⟨U, hU⟩ : ∃ U, U = W.drew := ⟨_, rfl⟩
  rw [← hU] at hR hHeld
  obtain ⟨Y, hY⟩ : ∃ Y, Y = W.drew := ⟨_, rfl⟩
  rw [← hY]
  have kY : Below U.heap.size U Y := by rw [hY, hU]; exact Below.refl _ _
  clear hY hU
  replace hHeld := (hR.step H.out kY).s H.out
  refine wpAnyH_take (i := 0) (v := ?_) rfl (by kernel_rfl) (by kernel_rfl) (by kernel_rfl) (fun _ _ _ h => h) (Or.inl ⟨by rfl, ?_⟩) (by assumption) ?_
  rotate_left
  ·(intro Y hSw; (try dsimp only at hSw); obtain ⟨hS0, hS1, hS2⟩ := hSw; go_simp; try with_reducible rfl)
  try simp only [Act.put, pu1, pu2, pu3, pu4, pu5, pu6]
  refine wpAnyH_take (i := 1) (v := ?_) rfl (by kernel_rfl) (by kernel_rfl) (by kernel_rfl) (fun _ _ _ h => h) (Or.inl ⟨by rfl, ?_⟩) (by assumption) ?_
  rotate_left
  ·(intro Y hSw; (try dsimp only at hSw); obtain ⟨hS0, hS1, hS2⟩ := hSw; go_simp; try with_reducible rfl)
  try simp only [Act.put, pu1, pu2, pu3, pu4, pu5, pu6]
  refine wpAnyH_take (i := 2) (v := ?_) rfl (by kernel_rfl) (by kernel_rfl) (by kernel_rfl) (fun _ _ _ h => h) (Or.inl ⟨by rfl, ?_⟩) (by assumption) ?_
  rotate_left
  ·(intro Y hSw; (try dsimp only at hSw); obtain ⟨hS0, hS1, hS2⟩ := hSw; go_simp; try with_reducible rfl)
  try simp only [Act.put, pu1, pu2, pu3, pu4, pu5, pu6]
  refine wpAnyH_take (i := 3) (v := ?_) rfl (by kernel_rfl) (by kernel_rfl) (by kernel_rfl) (fun _ _ _ h => h) (Or.inl ⟨by rfl, ?_⟩) (by assumption) ?_
  rotate_left
  ·(intro Y hSw; (try dsimp only at hSw); obtain ⟨hS0, hS1, hS2⟩ := hSw; go_simp; try with_reducible rfl)
  try simp only [Act.put, pu1, pu2, pu3, pu4, pu5, pu6]
  refine wpAnyH_take (i := 4) (v := ?_) rfl (by kernel_rfl) (by kernel_rfl) (by kernel_rfl) (fun _ _ _ h => h) (Or.inl ⟨by rfl, ?_⟩) (by assumption) ?_
  rotate_left
  ·(intro Y hSw; (try dsimp only at hSw); obtain ⟨hS0, hS1, hS2⟩ := hSw; go_simp; try with_reducible rfl)
  try simp only [Act.put, pu1, pu2, pu3, pu4, pu5, pu6]
  refine wpAnyH_take (i := 5) (v := ?_) rfl (by kernel_rfl) (by kernel_rfl) (by kernel_rfl) (fun _ _ _ h => h) (Or.inl ⟨by rfl, ?_⟩) (by assumption) ?_
  rotate_left
  ·(intro Y hSw; (try dsimp only at hSw); obtain ⟨hS0, hS1, hS2⟩ := hSw; go_simp; try with_reducible rfl)
  try simp only [Act.put, pu1, pu2, pu3, pu4, pu5, pu6]
  refine wpAnyH_take (i := 6) (v := ?_) rfl (by kernel_rfl) (by kernel_rfl) (by kernel_rfl) (fun _ _ _ h => h) (Or.inl ⟨by rfl, ?_⟩) (by assumption) ?_
  rotate_left
  ·(intro Y hSw; (try dsimp only at hSw); obtain ⟨hS0, hS1, hS2⟩ := hSw; go_simp; try with_reducible rfl)
  try simp only [Act.put, pu1, pu2, pu3, pu4, pu5, pu6]
  refine wpAnyH_ready (rs := [7, 11]) (by kernel_rfl) (by simp) ?_
  refine AllReadyH.cons rfl (fun K hK => ?_) (AllReadyH.cons rfl (fun K hK => ?_) AllReadyH.nil)
  ·go_simp
   refine ((hR.step H.out kY).get H.out x.1).mono ?_; rintro e Z ⟨rfl, j2⟩
   replace kY := kY.trans (j2.mono kY.size)
   clear j2
   unfold encE
   go_simp
   refine hK.out _ _ ((hR.step H.out kY).s H.out) (fun hHeld => ?_)
   clear hK K
   try simp only [Act.put, pu1, pu2, pu3, pu4, pu5, pu6]
   refine wpAnyH_take (i := 8) (v := ?_) rfl (by kernel_rfl) (by kernel_rfl) (by kernel_rfl) (fun _ _ _ h => h) (Or.inl ⟨by rfl, ?_⟩) (by assumption) ?_
   rotate_left
   ·(intro Y hSw; (try dsimp only at hSw); obtain ⟨hS0, hS1, hS2⟩ := hSw; go_simp; try with_reducible rfl)
   try simp only [Act.put, pu1, pu2, pu3, pu4, pu5, pu6]
   refine wpAnyH_take (i := 9) (v := ?_) rfl (by kernel_rfl) (by kernel_rfl) (by kernel_rfl) (fun _ _ _ h => h) (Or.inl ⟨by rfl, ?_⟩) (by assumption) ?_
   rotate_left
   ·(intro Y hSw; (try dsimp only at hSw); obtain ⟨hS0, hS1, hS2⟩ := hSw; go_simp; try with_reducible rfl)
   try simp only [Act.put, pu1, pu2, pu3, pu4, pu5, pu6]
   refine wpAnyH_take (i := 10) (v := ?_) rfl (by kernel_rfl) (by kernel_rfl) (by kernel_rfl) (fun _ _ _ h => h) (Or.inl ⟨by rfl, ?_⟩) (by assumption) ?_
   rotate_left
   ·(intro Y hSw; (try dsimp only at hSw); obtain ⟨hS0, hS1, hS2⟩ := hSw; go_simp; try with_reducible rfl)
   try simp only [Act.put, pu1, pu2, pu3, pu4, pu5, pu6]
   obtain ⟨Y, rfl⟩ : ∃ Y : World, Y = Z := ⟨_, rfl⟩
   refine wpAnyH_ready (rs := [11]) (by kernel_rfl) (by simp) ?_
   refine AllReadyH.cons rfl (fun K hK => ?_) AllReadyH.nil
   go_simp
   obtain ⟨g, hg⟩ : ∃ g, Y.heap.size = g := ⟨_, rfl⟩
   obtain ⟨Z, hZ⟩ : ∃ Z, Y.alloc (.cells #[.int .i64 0, .int .i64 0, .int .i64 0] 97) = Z := ⟨_, rfl⟩
   have jz : Below Y.heap.size Y Z := by rw [← hZ]; exact (Below.refl _ Y).alloc (Nat.le_refl _) _
   have hN : Blk Z g #[.int .i64 0, .int .i64 0, .int .i64 0] 97 := by rw [← hZ, ← hg]; exact Blk.new Y _ _
   have hgU : U.heap.size ≤ g := by rw [← hg]; exact kY.size
   rw [hZ, hg]
   replace kY := kY.trans (jz.mono kY.size)
   clear hZ jz hg
   refine hK.out _ _ ((hR.step H.out kY).s H.out) (fun hHeld => ?_)
   clear hK K
   try simp only [Act.put, pu1, pu2, pu3, pu4, pu5, pu6]
   obtain ⟨Y, rfl⟩ : ∃ Y : World, Y = Z := ⟨_, rfl⟩
   obtain ⟨⟨yo, ym, yf⟩, hy⟩ : ∃ y, getE D x.1 = y := ⟨_, rfl⟩
   have HY := Lib.hid hy
   rw [hy]
   clear hy
   have n0 := hN.cell 0 rfl
   have n1 := hN.cell 1 rfl
   have n2 := hN.cell 2 rfl
   have f0 := hN.frozen 0
   have f1 := hN.frozen 1
   have f2 := hN.frozen 2
   have hN3 := ((hN.set 0 (.int .i64 yo)).set 1 (.int .i64 ym)).set 2 (.int .i64 yf)
   have kN := ((kY.setCell (p := ⟨g, 0, none⟩) hgU (.int .i64 yo)).setCell (p := ⟨g, 1, none⟩) hgU (.int .i64 ym)).setCell (p := ⟨g, 2, none⟩) hgU (.int .i64 yf)
   refine wpAnyH_ready (rs := [12]) (by kernel_rfl) (by simp) ?_
   refine AllReadyH.cons rfl (fun K hK => ?_) AllReadyH.nil
   go_simp
   refine hK.out _ _ ((hR.step H.out kN).s H.out) (fun hHeld => ?_)
   clear hK K
   try simp only [Act.put, pu1, pu2, pu3, pu4, pu5, pu6]
   refine wpAnyH_take (i := 13) (v := ?_) rfl (by kernel_rfl) (by kernel_rfl) (by kernel_rfl) (fun _ _ _ h => h) (Or.inl ⟨by rfl, ?_⟩) (by assumption) ?_
   rotate_left
   ·(intro Y hSw; (try dsimp only at hSw); obtain ⟨hS0, hS1, hS2⟩ := hSw; go_simp; try with_reducible rfl)
   try simp only [Act.put, pu1, pu2, pu3, pu4, pu5, pu6]
   refine wpAnyH_done (by kernel_rfl) ?_ _
   rw [onlyN_normal]
   have hR3 := hR.step H.out kN
   clear n0 n1 n2 f0 f1 f2 hN hgU hHeld kY kN hR
   generalize World.setCell _ ⟨g, 2, none⟩ _ = Y3 at hN3 hR3 ⊢
   have q0 : Y3.cell? ⟨w.heap.size + 1, 0, none⟩ = some (.slice sa sn sc) := hR3.e.c1.cell 0 rfl
   have q1 : Y3.cell? ⟨w.heap.size + 1 + 1, 0, none⟩ = some (.func (.func byf) #[] caps) := hR3.e.c2.cell 0 rfl
   have q2 : Y3.cell? ⟨g, 2, none⟩ = some (.int .i64 yf) := hN3.cell 2 rfl
   have x0 : Y3.cell? ⟨b, 0, none⟩ = some (.int .i64 x.1) := hR3.x.cell 0 rfl
   have x1 : Y3.cell? ⟨b, 1, none⟩ = some (.int .i64 x.2.1) := hR3.x.cell 1 rfl
   have x2 : Y3.cell? ⟨b, 2, none⟩ = some (.int .i64 x.2.2) := hR3.x.cell 2 rfl
   have heg := H.out.eg
   obtain ⟨s9, hm9, _⟩ := H.out.mem _ _ _ hR3.st
   have hc := H.out.by_ pre x suf _ Y3 hxs hR3.st
   rw [HY.out] at hc
   unfold encPart at hc
   have HC := Lib.hid hc
   clear hc
   gi_wp2_with fail
   refine (HC.out.inR l).mono ?_; rintro e Z ⟨v', rfl, st', ch'⟩
   obtain ⟨va, vn, vc, rfl⟩ := H.out.sl _ _ _ st'
   have hE4 := hR3.e.chg hm9 ch'
   have hr4 := hR3.r.trans (ch'.recs hm9)
   have c4 : Z.cell? ⟨w.heap.size + 1, 0, none⟩ = some (.slice sa sn sc) := hE4.c1.cell 0 rfl
   have f4 := hE4.c1.frozen 0
   have hS5 := H.out.set _ _ _ (.slice va vn vc) _ st' hE4.c1
   have hE5 := hE4.set (.slice va vn vc)
   clear hR3 hN3 q0 q1 q2 x0 x1 x2 heg HC ch' hm9
   gi_wp2_with fail
   exact ⟨hr4.setCell _ _, _, hS5, hE5⟩
  ·go_simp
   obtain ⟨g, hg⟩ : ∃ g, Y.heap.size = g := ⟨_, rfl⟩
   obtain ⟨Z, hZ⟩ : ∃ Z, Y.alloc (.cells #[.int .i64 0, .int .i64 0, .int .i64 0] 97) = Z := ⟨_, rfl⟩
   have jz : Below Y.heap.size Y Z := by rw [← hZ]; exact (Below.refl _ Y).alloc (Nat.le_refl _) _
   have hN : Blk Z g #[.int .i64 0, .int .i64 0, .int .i64 0] 97 := by rw [← hZ, ← hg]; exact Blk.new Y _ _
   have hgU : U.heap.size ≤ g := by rw [← hg]; exact kY.size
   rw [hZ, hg]
   replace kY := kY.trans (jz.mono kY.size)
   clear hZ jz hg
   refine hK.out _ _ ((hR.step H.out kY).s H.out) (fun hHeld => ?_)
   clear hK K
   try simp only [Act.put, pu1, pu2, pu3, pu4, pu5, pu6]
   obtain ⟨Y, rfl⟩ : ∃ Y : World, Y = Z := ⟨_, rfl⟩
   refine wpAnyH_ready (rs := [7]) (by kernel_rfl) (by simp) ?_
   refine AllReadyH.cons rfl (fun K hK => ?_) AllReadyH.nil
   go_simp
   refine ((hR.step H.out kY).get H.out x.1).mono ?_; rintro e Z ⟨rfl, j2⟩
   replace kY := kY.trans (j2.mono kY.size)
   replace hN := hN.below j2 hN.lt
   clear j2
   unfold encE
   go_simp
   refine hK.out _ _ ((hR.step H.out kY).s H.out) (fun hHeld => ?_)
   clear hK K
   try simp only [Act.put, pu1, pu2, pu3, pu4, pu5, pu6]
   refine wpAnyH_take (i := 8) (v := ?_) rfl (by kernel_rfl) (by kernel_rfl) (by kernel_rfl) (fun _ _ _ h => h) (Or.inl ⟨by rfl, ?_⟩) (by assumption) ?_
   rotate_left
   ·(intro Y hSw; (try dsimp only at hSw); obtain ⟨hS0, hS1, hS2⟩ := hSw; go_simp; try with_reducible rfl)
   try simp only [Act.put, pu1, pu2, pu3, pu4, pu5, pu6]
   refine wpAnyH_take (i := 9) (v := ?_) rfl (by kernel_rfl) (by kernel_rfl) (by kernel_rfl) (fun _ _ _ h => h) (Or.inl ⟨by rfl, ?_⟩) (by assumption) ?_
   rotate_left
   ·(intro Y hSw; (try dsimp only at hSw); obtain ⟨hS0, hS1, hS2⟩ := hSw; go_simp; try with_reducible rfl)
   try simp only [Act.put, pu1, pu2, pu3, pu4, pu5, pu6]
   refine wpAnyH_take (i := 10) (v := ?_) rfl (by kernel_rfl) (by kernel_rfl) (by kernel_rfl) (fun _ _ _ h => h) (Or.inl ⟨by rfl, ?_⟩) (by assumption) ?_
   rotate_left
   ·(intro Y hSw; (try dsimp only at hSw); obtain ⟨hS0, hS1, hS2⟩ := hSw; go_simp; try with_reducible rfl)
   try simp only [Act.put, pu1, pu2, pu3, pu4, pu5, pu6]
   obtain ⟨Y, rfl⟩ : ∃ Y : World, Y = Z := ⟨_, rfl⟩
   obtain ⟨⟨yo, ym, yf⟩, hy⟩ : ∃ y, getE D x.1 = y := ⟨_, rfl⟩
   have HY := Lib.hid hy
   rw [hy]
   clear hy
   have n0 := hN.cell 0 rfl
   have n1 := hN.cell 1 rfl
   have n2 := hN.cell 2 rfl
   have f0 := hN.frozen 0
   have f1 := hN.frozen 1
   have f2 := hN.frozen 2
   have hN3 := ((hN.set 0 (.int .i64 yo)).set 1 (.int .i64 ym)).set 2 (.int .i64 yf)
   have kN := ((kY.setCell (p := ⟨g, 0, none⟩) hgU (.int .i64 yo)).setCell (p := ⟨g, 1, none⟩) hgU (.int .i64 ym)).setCell (p := ⟨g, 2, none⟩) hgU (.int .i64 yf)
   refine wpAnyH_ready (rs := [12]) (by kernel_rfl) (by simp) ?_
   refine AllReadyH.cons rfl (fun K hK => ?_) AllReadyH.nil
   go_simp
   refine hK.out _ _ ((hR.step H.out kN).s H.out) (fun hHeld => ?_)
   clear hK K
   try simp only [Act.put, pu1, pu2, pu3, pu4, pu5, pu6]
   refine wpAnyH_take (i := 13) (v := ?_) rfl (by kernel_rfl) (by kernel_rfl) (by kernel_rfl) (fun _ _ _ h => h) (Or.inl ⟨by rfl, ?_⟩) (by assumption) ?_
   rotate_left
   ·(intro Y hSw; (try dsimp only at hSw); obtain ⟨hS0, hS1, hS2⟩ := hSw; go_simp; try with_reducible rfl)
   try simp only [Act.put, pu1, pu2, pu3, pu4, pu5, pu6]
   refine wpAnyH_done (by kernel_rfl) ?_ _
   rw [onlyN_normal]
   have hR3 := hR.step H.out kN
   clear n0 n1 n2 f0 f1 f2 hN hgU hHeld kY kN hR
   generalize World.setCell _ ⟨g, 2, none⟩ _ = Y3 at hN3 hR3 ⊢
   have q0 : Y3.cell? ⟨w.heap.size + 1, 0, none⟩ = some (.slice sa sn sc) := hR3.e.c1.cell 0 rfl
   have q1 : Y3.cell? ⟨w.heap.size + 1 + 1, 0, none⟩ = some (.func (.func byf) #[] caps) := hR3.e.c2.cell 0 rfl
   have q2 : Y3.cell? ⟨g, 2, none⟩ = some (.int .i64 yf) := hN3.cell 2 rfl
   have x0 : Y3.cell? ⟨b, 0, none⟩ = some (.int .i64 x.1) := hR3.x.cell 0 rfl
   have x1 : Y3.cell? ⟨b, 1, none⟩ = some (.int .i64 x.2.1) := hR3.x.cell 1 rfl
   have x2 : Y3.cell? ⟨b, 2, none⟩ = some (.int .i64 x.2.2) := hR3.x.cell 2 rfl
   have heg := H.out.eg
   obtain ⟨s9, hm9, _⟩ := H.out.mem _ _ _ hR3.st
   have hc := H.out.by_ pre x suf _ Y3 hxs hR3.st
   rw [HY.out] at hc
   unfold encPart at hc
   have HC := Lib.hid hc
   clear hc
   gi_wp2_with fail
   refine (HC.out.inR l).mono ?_; rintro e Z ⟨v', rfl, st', ch'⟩
   obtain ⟨va, vn, vc, rfl⟩ := H.out.sl _ _ _ st'
   have hE4 := hR3.e.chg hm9 ch'
   have hr4 := hR3.r.trans (ch'.recs hm9)
   have c4 : Z.cell? ⟨w.heap.size + 1, 0, none⟩ = some (.slice sa sn sc) := hE4.c1.cell 0 rfl
   have f4 := hE4.c1.frozen 0
   have hS5 := H.out.set _ _ _ (.slice va vn vc) _ st' hE4.c1
   have hE5 := hE4.set (.slice va vn vc)
   clear hR3 hN3 q0 q1 q2 x0 x1 x2 heg HC ch' hm9
   gi_wp2_with fail
   exact ⟨hr4.setCell _ _, _, hS5, hE5⟩
 case hdone =>
  rintro D9 W hD ⟨v, q1, q2⟩ hK
  obtain ⟨va, vn, vc, rfl⟩ := H.out.sl _ _ _ q1
  have c4 : W.cell? ⟨w.heap.size + 1, 0, none⟩ = some (.slice va vn vc) := q2.c1.cell 0 rfl
  go_wp2_with fail
  exact postM_ret hK (results_tmp rfl _ _ _) ⟨.slice va vn vc, rfl, H.out.kp _ _ _ _ q1 (Keeps.putObj _ (by omega) hK rfl), q2.ch.put _ (by omega)⟩
 case hstop =>
  rintro D c W hD hc hK
  exact hc.elim
end Go.Proofs.YtlpchcdalfkfcaaGreat

