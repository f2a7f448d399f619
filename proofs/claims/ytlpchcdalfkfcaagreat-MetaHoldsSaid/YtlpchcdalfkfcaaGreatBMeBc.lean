/-
 Package meta: the great record of bytes. Conditions: a row of as many bytes.
-/
import Derived.Test.YtlpchcdalfkfcaaGreatBMeBb
namespace Go.Proofs.YtlpchcdalfkfcaaGreat
open Go.RowKit Go.ChangeShapes
attribute [local go_sem] Oper.semAt_some
set_option maxHeartbeats 8000000
set_option maxRecDepth 8000

/-- Four bytes from i on. -/
def w4 (l : List Int) (i : Nat) : Int := l.getD i 0 + 256 * (l.getD (i + 1) 0 + 256 * (l.getD (i + 2) 0 + 256 * l.getD (i + 3) 0))
/-- The great record of the first j parts of bytes. -/
def grtJ (l : List Int) (j : Nat) : Int × Int × Int × Int := (if 1 ≤ j then l.getD 0 0 else 0, if 3 ≤ j then l.getD 2 0 + 256 * l.getD 3 0 else 0, if 4 ≤ j then w4 l 4 else 0, if 5 ≤ j then w4 l 8 else 0)
def grtOk (l : List Int) : Bool := decide (l.getD 1 0 = 0) && (decide (w4 l 12 = 0) && rgtG (grtJ l 6).1 (grtJ l 6).2.1 (grtJ l 6).2.2.1 (grtJ l 6).2.2.2)
theorem row_subG {B g cap : Nat} {W : World} {l : List Int} (hv : RowAt B W (.slice (some ⟨g, 0, none⟩) 16 cap) 16 (intVals .u8 l)) (hl : l.length = 16) (o n : Nat) (L : List Int) (hn : L.length = n) (hL : ∀ i, i < n → L[i]? = l[o + i]?) (ho : o + n ≤ 16) (hc : n ≤ cap - o) :
  RowAt B W (.slice (some ⟨g, o, none⟩) n (cap - o)) L.length (intVals .u8 L) := by
 obtain ⟨ad, c, he, _, hx⟩ := hv
 simp only [Value.slice.injEq] at he
 obtain ⟨rfl, _, rfl⟩ := he
 rcases hx with hx | ⟨b, off, e, hlt, hcell⟩
 ·have := congrArg List.length hx
  rw [intVals_len, hl] at this
  cases this
 ·simp only [Option.some.injEq, Addr.mk.injEq, and_true] at e
  obtain ⟨rfl, rfl⟩ := e
  subst hn
  refine ⟨_, _, rfl, ⟨hc, fun e => by cases e⟩, .inr ⟨g, o, rfl, hlt, fun i hi => ?_⟩⟩
  rw [intVals_len] at hi
  have h8 : o + i < l.length := by omega
  have h1 := hcell (o + i) (by rw [intVals_len]; exact h8)
  rw [intVals_get _ _ _ h8, Nat.zero_add] at h1
  have h2 := hL i hi
  rw [List.getElem?_eq_getElem hi, List.getElem?_eq_getElem h8] at h2
  rw [h1, intVals_get _ _ _ hi]
  simp only [Option.some.injEq] at h2
  rw [h2]
theorem rng6 {j' j : Nat} {suf : List Nat} (h : List.range 6 = List.range j' ++ j :: suf) : j = j' ∧ j' < 6 := by
 have h1 : j' < 6 := by
  have := congrArg List.length h
  simp at this
  omega
 have h2 := congrArg (fun l : List Nat => l[j']?) h
 simp [h1] at h2
 exact ⟨h2.symm, h1⟩
theorem mcutsG_calls (g1 n1 c1 g2 n2 c2 : Nat) (f : FuncId) (w : World) : Calls Tryz.prog 180 #[.agg #[.slice (some ⟨g1, 0, none⟩) n1 c1, .func (.func f) #[] #[]], .slice (some ⟨g2, 0, none⟩) n2 c2] w fun e w' => e = .returned (.func (.func 206) #[] #[.pointer (some ⟨w.heap.size, 0, none⟩), .pointer (some ⟨w.heap.size + 1, 0, none⟩)]) ∧
  w' = (w.alloc (.cells #[.slice (some ⟨g1, 0, none⟩) n1 c1, .func (.func f) #[] #[]] 112)).alloc (.cells #[.slice (some ⟨g2, 0, none⟩) n2 c2] 44) := by
 go_enter Tryz.func180, Tryz.ntmps180
 go_wp2_with fail
 go_ret
 exact ⟨rfl, rfl⟩
theorem run_neq_fnG (f : FuncId) (W : World) : (binOp .neq 176 (.func (.func f) #[] #[]) .nilFunc).run Tryz.prog W = .ok (.bool true) W := by kernel_rfl
theorem run_neq_nilG (W : World) : (binOp .neq 176 .nilFunc .nilFunc).run Tryz.prog W = .ok (.bool false) W := by kernel_rfl
theorem mtakeG2_calls {W : World} {b : Nat} {x y z u : Value} {t : TypeId} (h : Blk W b #[x, y, z, u] t) (n : Int) : Calls Tryz.prog 115 #[.pointer (some ⟨b, 0, none⟩), .int .i64 n] W fun e W' => e = .returned (.tuple #[]) ∧ W' = W.setCell ⟨b, 0, none⟩ (.int .i64 n) := by
 have c0 := h.cell 0 (v := x) rfl
 have f0 := h.frozen 0
 clear h
 go_enter Tryz.func115, Tryz.ntmps115
 go_wp2_with fail
 go_end0
 exact ⟨rfl, rfl⟩
theorem mtakeG4_calls {W : World} {b : Nat} {x y z u : Value} {t : TypeId} (h : Blk W b #[x, y, z, u] t) (n : Int) : Calls Tryz.prog 117 #[.pointer (some ⟨b, 0, none⟩), .int .i64 n] W fun e W' => e = .returned (.tuple #[]) ∧ W' = W.setCell ⟨b, 1, none⟩ (.int .i64 n) := by
 have c0 := h.cell 1 (v := y) rfl
 have f0 := h.frozen 1
 clear h
 go_enter Tryz.func117, Tryz.ntmps117
 go_wp2_with fail
 go_end0
 exact ⟨rfl, rfl⟩
theorem mtakeG6_calls {W : World} {b : Nat} {x y z u : Value} {t : TypeId} (h : Blk W b #[x, y, z, u] t) (n : Int) : Calls Tryz.prog 119 #[.pointer (some ⟨b, 0, none⟩), .int .i64 n] W fun e W' => e = .returned (.tuple #[]) ∧ W' = W.setCell ⟨b, 2, none⟩ (.int .i64 n) := by
 have c0 := h.cell 2 (v := z) rfl
 have f0 := h.frozen 2
 clear h
 go_enter Tryz.func119, Tryz.ntmps119
 go_wp2_with fail
 go_end0
 exact ⟨rfl, rfl⟩
theorem mtakeG8_calls {W : World} {b : Nat} {x y z u : Value} {t : TypeId} (h : Blk W b #[x, y, z, u] t) (n : Int) : Calls Tryz.prog 121 #[.pointer (some ⟨b, 0, none⟩), .int .i64 n] W fun e W' => e = .returned (.tuple #[]) ∧ W' = W.setCell ⟨b, 3, none⟩ (.int .i64 n) := by
 have c0 := h.cell 3 (v := u) rfl
 have f0 := h.frozen 3
 clear h
 go_enter Tryz.func121, Tryz.ntmps121
 go_wp2_with fail
 go_end0
 exact ⟨rfl, rfl⟩
/-- What holds between the rounds. -/
structure RcIG (w W : World) (gp : Nat) (l : List Int) (j : Nat) : Prop where
 j4 : j ≤ 6
 l1 : 2 ≤ j → l.getD 1 0 = 0
 l6 : 6 ≤ j → w4 l 12 = 0
 x : Blk W (w.heap.size + 3) #[.slice (some ⟨gp, 0, none⟩) 6 6, .func (.func 122) #[] #[]] 112
 s : Blk W w.heap.size #[.slice (some ⟨gp, 0, none⟩) 6 6, .func (.func 122) #[] #[]] 112
 r : Blk W (w.heap.size + 1) #[.int .i64 (grtJ l j).1, .int .i64 (grtJ l j).2.1, .int .i64 (grtJ l j).2.2.1, .int .i64 (grtJ l j).2.2.2] 54
 i : Blk W (w.heap.size + 1 + 1) #[.bool true] 4
 k : Below w.heap.size w W
 z : w.heap.size + 5 ≤ W.heap.size
theorem RcIG.keeps {w X Y : World} {gp j n : Nat} {l : List Int} (h : RcIG w X gp l j) (hk : Keeps n X Y) (hn : w.heap.size ≤ n) : RcIG w Y gp l j :=
 ⟨h.j4, h.l1, h.l6, h.x.keeps hk, h.s.keeps hk, h.r.keeps hk, h.i.keeps hk, h.k.keeps hk hn, Nat.le_trans h.z hk.size⟩
structure RcXG (w W : World) (gp : Nat) (l : List Int) : Prop where
 no : grtOk l = false
 s : Blk W w.heap.size #[.slice (some ⟨gp, 0, none⟩) 6 6, .func (.func 122) #[] #[]] 112
 r : ∃ x y z u, Blk W (w.heap.size + 1) #[.int .i64 x, .int .i64 y, .int .i64 z, .int .i64 u] 54
 i : Blk W (w.heap.size + 1 + 1) #[.bool false] 4
 k : Below w.heap.size w W
 z : w.heap.size + 5 ≤ W.heap.size
theorem RcXG.keeps {w X Y : World} {gp n : Nat} {l : List Int} (h : RcXG w X gp l) (hk : Keeps n X Y) (hn : w.heap.size ≤ n) : RcXG w Y gp l :=
 ⟨h.no, h.s.keeps hk, by obtain ⟨x, y, z, u, h⟩ := h.r; exact ⟨x, y, z, u, h.keeps hk⟩, h.i.keeps hk, h.k.keeps hk hn, Nat.le_trans h.z hk.size⟩
def pcG (j : Nat) : Array Value := #[parG[3 * j]?.getD undef, parG[3 * j + 1]?.getD undef, parG[3 * j + 2]?.getD undef]
theorem grt_info : (Tryz.prog.info? 54).map (·.size) = some 4 := by kernel_rfl
theorem Blk.set4G {W : World} {b : Nat} {x0 x1 x2 x3 : Value} {t : TypeId} (h : Blk W b #[x0, x1, x2, x3] t) (v0 v1 v2 v3 : Value) :
  Blk ((((W.setCell ⟨b, 0, none⟩ v0).setCell ⟨b, 1, none⟩ v1).setCell ⟨b, 2, none⟩ v2).setCell ⟨b, 3, none⟩ v3) b #[v0, v1, v2, v3] t := (((h.set 0 v0).set 1 v1).set 2 v2).set 3 v3
theorem post_grt {F : Fence} {n : Nat} {fn : Func} {R : Ending → World → Prop} {tmps : Array Value} {D b4 b5 : Nat} {W : World} {x y z u : Value} {v : Bool} {t t' : TypeId} (hres : fn.results = #[.cell 4 54, .cell 5 4])
  (h4 : tmps.getD 4 undef = .pointer (some ⟨b4, 0, none⟩)) (h5 : tmps.getD 5 undef = .pointer (some ⟨b5, 0, none⟩)) (hR : Blk W b4 #[x, y, z, u] t) (hI : Blk W b5 #[.bool v] t') (hK : W.heap[D]? = some (.deferred (some []))) (h4D : b4 ≠ D) (h5D : b5 ≠ D)
  (hRet : R (.returned (.tuple #[.agg #[x, y, z, u], .bool v])) (W.putObj D (.deferred none))) : bodyPostM F n Tryz.prog fn R .ret { tmps := tmps, defers := [{ target := .collected D, args := #[] }] } W := by
 refine postM_ret hK ?_ hRet
 have p4 : tmps[4]?.getD undef = .pointer (some ⟨b4, 0, none⟩) := by simpa using h4
 have p5 : tmps[5]?.getD undef = .pointer (some ⟨b5, 0, none⟩) := by simpa using h5
 have hR' := hR.putObj (.deferred none) h4D
 have e0 : (W.putObj D (.deferred none)).cell? ⟨b4, 0, none⟩ = some x := hR'.cell 0 rfl
 have e1 : (W.putObj D (.deferred none)).cell? ⟨b4, 1, none⟩ = some y := hR'.cell 1 rfl
 have e2 : (W.putObj D (.deferred none)).cell? ⟨b4, 2, none⟩ = some z := hR'.cell 2 rfl
 have e3 : (W.putObj D (.deferred none)).cell? ⟨b4, 3, none⟩ = some u := hR'.cell 3 rfl
 have c0 : (W.putObj D (.deferred none)).cell? ⟨b5, 0, none⟩ = some (.bool v) := (hI.putObj _ h5D).cell 0 rfl
 simp [results, hres, p4, p5, asAddr, go_sem, e0, e1, e2, e3, c0]
theorem recordG_ok {w : World} {gp g cap B : Nat} (l : List Int) (hl : l.length = 16) (hb : ∀ x ∈ l, 0 ≤ x ∧ x < 256) (hcap : 16 ≤ cap) (hcm : cap ≤ maxLen) (hG : Blk w gp parG 178) (hv : RowAt B w (.slice (some ⟨g, 0, none⟩) 16 cap) 16 (intVals .u8 l)) (hB : B ≤ w.heap.size) :
  Calls Tryz.prog 113 #[.agg #[.slice (some ⟨gp, 0, none⟩) 6 6, .func (.func 122) #[] #[]], .slice (some ⟨g, 0, none⟩) 16 cap] w fun e w' =>
   e = .returned (.tuple #[if grtOk l = true then .agg #[.int .i64 (grtJ l 6).1, .int .i64 (grtJ l 6).2.1, .int .i64 (grtJ l 6).2.2.1, .int .i64 (grtJ l 6).2.2.2] else .agg #[.int .i64 0, .int .i64 0, .int .i64 0, .int .i64 0], .bool (grtOk l)]) ∧ Below w.heap.size w w' := by
 obtain ⟨a0, a1, a2, a3, a4, a5, a6, a7, a8, a9, a10, a11, a12, a13, a14, a15, rfl⟩ : ∃ a0 a1 a2 a3 a4 a5 a6 a7 a8 a9 a10 a11 a12 a13 a14 a15, l = [a0, a1, a2, a3, a4, a5, a6, a7, a8, a9, a10, a11, a12, a13, a14, a15] := by
  match l, hl with
  | [a0, a1, a2, a3, a4, a5, a6, a7, a8, a9, a10, a11, a12, a13, a14, a15], _ => exact ⟨a0, a1, a2, a3, a4, a5, a6, a7, a8, a9, a10, a11, a12, a13, a14, a15, rfl⟩
 have HB := Lib.hid hb
 have HV := Lib.hid hv
 have HL := Lib.hid hl
 clear hb hv hl
 obtain ⟨w1, hw1⟩ : ∃ w1, ((w.alloc (.cells #[.slice (some ⟨gp, 0, none⟩) 6 6, .func (.func 122) #[] #[]] 112)).alloc (.cells #[.int .i64 0, .int .i64 0, .int .i64 0, .int .i64 0] 54)).alloc (.cells #[.bool false] 4) = w1 := ⟨_, rfl⟩
 have hS1 : Blk w1 w.heap.size #[.slice (some ⟨gp, 0, none⟩) 6 6, .func (.func 122) #[] #[]] 112 := by rw [← hw1]; exact ((Blk.new w _ _).alloc _).alloc _
 have hR1 : Blk w1 (w.heap.size + 1) #[.int .i64 0, .int .i64 0, .int .i64 0, .int .i64 0] 54 := by rw [← hw1]; exact (Blk.newAt _ _ _ (by simp)).alloc _
 have hI1 : Blk w1 (w.heap.size + 1 + 1) #[.bool false] 4 := by rw [← hw1]; exact Blk.newAt _ _ _ (by simp)
 have k1 : Below w.heap.size w w1 := by rw [← hw1]; exact (((Below.refl _ w).alloc (Nat.le_refl _) _).alloc (by simp) _).alloc (by simp; omega) _
 have z1 : w1.heap.size = w.heap.size + 3 := by rw [← hw1]; simp
 have HW1 := Lib.hid hw1
 clear hw1
 refine calls_of_wp_marks Tryz.func113 rfl ?_; simp only [Tryz.ntmps113, List.size_toArray, List.length_cons, List.length_nil, Nat.reduceAdd, Nat.reduceSub, Array.replicate_succ, Array.replicate_zero, List.push_toArray, List.append_toArray, List.nil_append, List.cons_append]
 go_wp2_with fail
 rw [HW1.out]
 clear HW1
 refine wp_scope_straight ?_
 have i0 := hI1.cell 0 (v := .bool false) rfl
 have if0 := hI1.frozen 0
 go_wp2_with fail
 clear i0 if0
 obtain ⟨w1', hw1'⟩ : ∃ w1', w1.setCell ⟨w.heap.size + 1 + 1, 0, none⟩ (.bool true) = w1' := ⟨_, rfl⟩
 replace hS1 : Blk w1' w.heap.size #[.slice (some ⟨gp, 0, none⟩) 6 6, .func (.func 122) #[] #[]] 112 := by rw [← hw1']; exact hS1.setOther _ _ (by simp; omega)
 replace hR1 : Blk w1' (w.heap.size + 1) #[.int .i64 0, .int .i64 0, .int .i64 0, .int .i64 0] 54 := by rw [← hw1']; exact hR1.setOther _ _ (by simp)
 replace hI1 : Blk w1' (w.heap.size + 1 + 1) #[.bool true] 4 := by rw [← hw1']; exact hI1.set 0 (.bool true)
 replace k1 : Below w.heap.size w w1' := by rw [← hw1']; exact k1.setCell (by simp; omega) _
 replace z1 : w1'.heap.size = w.heap.size + 3 := by rw [← hw1']; simpa using z1
 rw [hw1']
 clear hw1'
 refine wp_label ?_
 have hG1 := hG.below k1 hG.lt
 have d0 := hS1.cell 0 (v := .slice (some ⟨gp, 0, none⟩) 6 6) rfl
 have d1 := hS1.cell 1 (v := .func (.func 122) #[] #[]) rfl
 go_wp2_with fail
 refine (mcutsG_calls _ _ _ _ _ _ _ _).mono ?_; rintro e w2 ⟨rfl, hw2⟩
 have hX2 : Blk w2 w1'.heap.size #[.slice (some ⟨gp, 0, none⟩) 6 6, .func (.func 122) #[] #[]] 112 := by rw [hw2]; exact (Blk.new w1' _ _).alloc _
 have hO2 : Blk w2 (w1'.heap.size + 1) #[.slice (some ⟨g, 0, none⟩) 16 cap] 44 := by rw [hw2]; exact Blk.newAt _ _ _ (by simp)
 have k2' : Below w1'.heap.size w1' w2 := by rw [hw2]; exact ((Below.refl _ w1').alloc (Nat.le_refl _) _).alloc (by simp) _
 have z2 : w2.heap.size = w.heap.size + 5 := by rw [hw2]; simp; omega
 have hS2 := hS1.below k2' hS1.lt
 have hR2 := hR1.below k2' hR1.lt
 have hI2 := hI1.below k2' hI1.lt
 have hG2 := hG1.below k2' hG1.lt
 have k2 := k1.trans (k2'.mono k1.size)
 clear hw2 k2' hS1 hR1 hI1 hG1 k1 d0 d1
 rw [z1] at hX2 hO2 ⊢
 go_wp2_with fail
 refine wp_rangeO (ob := w.heap.size + 3 + 1) rfl (enters_of Tryz.func206 (by kernel_rfl) rfl) (by omega) (cutsG_iter (w.heap.size + 3) gp (w.heap.size + 3 + 1) g cap hcap hcm) (fun _ _ => rfl)
  (fun pre W => ∃ j, pre = List.range j ∧ RcIG w W gp [a0, a1, a2, a3, a4, a5, a6, a7, a8, a9, a10, a11, a12, a13, a14, a15] j)
  (fun c W => c = .exit 0 ∧ RcXG w W gp [a0, a1, a2, a3, a4, a5, a6, a7, a8, a9, a10, a11, a12, a13, a14, a15])
  (fun pre j a' W => ∃ b, pre = List.range j ∧ a' = ⟨#[.agg #[.slice (some ⟨gp, 0, none⟩) 6 6, .func (.func 122) #[] #[]], .slice (some ⟨g, 0, none⟩) 16 cap, .pointer (some ⟨w.heap.size, 0, none⟩), undef, .pointer (some ⟨w.heap.size + 1, 0, none⟩), .pointer (some ⟨w.heap.size + 1 + 1, 0, none⟩), .pointer (some ⟨b, 0, none⟩), .slice (some ⟨g, oG j, none⟩) (wG j) (cap - oG j), undef, undef, undef, .agg #[.slice (some ⟨gp, 0, none⟩) 6 6, .func (.func 122) #[] #[]], .slice (some ⟨g, 0, none⟩) 16 cap, .func (.func 206) #[] #[.pointer (some ⟨w.heap.size + 3, 0, none⟩), .pointer (some ⟨w.heap.size + 3 + 1, 0, none⟩)], pvG j, .slice (some ⟨g, oG j, none⟩) (wG j) (cap - oG j), undef, undef, undef, undef, undef, undef, undef, undef, undef, undef, undef, undef, undef, undef, undef, undef, undef, undef, undef, undef, undef, undef, undef, undef, undef, undef, undef, undef, undef, undef, undef, undef, undef, undef, undef, undef, undef], []⟩ ∧ RcIG w W gp [a0, a1, a2, a3, a4, a5, a6, a7, a8, a9, a10, a11, a12, a13, a14, a15] j ∧ Blk W b (pcG j) 178 ∧ w.heap.size + 5 ≤ b)
  ?hI ?hIx ?hMid ?hO ?hS ?hA ?h0 hO2 ?hassign ?hbody ?hdone ?hstop
 case hI => rintro pre X Y ⟨j, h1, h2⟩ hk; exact ⟨j, h1, h2.keeps hk (by omega)⟩
 case hIx => rintro c X Y ⟨h1, h2⟩ hk; exact ⟨h1, h2.keeps hk (by omega)⟩
 case hMid => rintro pre j a' X Y ⟨b, h1, h2, h3, h4, h5⟩ hk; exact ⟨b, h1, h2, h3.keeps hk (by omega), h4.keeps hk, h5⟩
 case hO => rintro pre X v ⟨j, h1, h⟩; exact ⟨j, h1, h.j4, h.l1, h.l6, h.x.setOther _ _ (by simp), h.s.setOther _ _ (by simp; omega), h.r.setOther _ _ (by simp), h.i.setOther _ _ (by simp), h.k.setCell (by simp; omega) _, by simpa using h.z⟩
 case hS => exact fun X Y h hk => h.keeps hk
 case hA => rintro pre X ⟨j, h1, h⟩; exact ⟨h.x, hG.below h.k hG.lt⟩
 case h0 => exact ⟨0, rfl, by omega, fun h => by omega, fun h => by omega, hX2, hS2, hR2, hI2, k2, by omega⟩
 case hassign =>
  rintro m l' pre j suf W hxs ⟨j', h1, h⟩ hz
  subst h1
  obtain ⟨rfl, hlt⟩ := rng6 hxs
  rcases (show j = 0 ∨ j = 1 ∨ j = 2 ∨ j = 3 ∨ j = 4 ∨ j = 5 by omega) with rfl | rfl | rfl | rfl | rfl | rfl
  ·rw [show pvG 0 = .agg #[.int .i64 1, .func (.func 114) #[] #[], .func (.func 115) #[] #[]] from rfl]
   gi_wp2_with fail
   exact ⟨(Sm.refl _ _ W).alloc (Nat.le_refl _) _, _, trivial, rfl, ⟨h.j4, h.l1, h.l6, h.x.alloc _, h.s.alloc _, h.r.alloc _, h.i.alloc _, h.k.alloc h.k.size _, by simp; have := h.z; omega⟩, Blk.new W _ _, h.z⟩
  ·rw [show pvG 1 = .agg #[.int .i64 1, .nilFunc, .nilFunc] from rfl]
   gi_wp2_with fail
   exact ⟨(Sm.refl _ _ W).alloc (Nat.le_refl _) _, _, trivial, rfl, ⟨h.j4, h.l1, h.l6, h.x.alloc _, h.s.alloc _, h.r.alloc _, h.i.alloc _, h.k.alloc h.k.size _, by simp; have := h.z; omega⟩, Blk.new W _ _, h.z⟩
  ·rw [show pvG 2 = .agg #[.int .i64 2, .func (.func 116) #[] #[], .func (.func 117) #[] #[]] from rfl]
   gi_wp2_with fail
   exact ⟨(Sm.refl _ _ W).alloc (Nat.le_refl _) _, _, trivial, rfl, ⟨h.j4, h.l1, h.l6, h.x.alloc _, h.s.alloc _, h.r.alloc _, h.i.alloc _, h.k.alloc h.k.size _, by simp; have := h.z; omega⟩, Blk.new W _ _, h.z⟩
  ·rw [show pvG 3 = .agg #[.int .i64 4, .func (.func 118) #[] #[], .func (.func 119) #[] #[]] from rfl]
   gi_wp2_with fail
   exact ⟨(Sm.refl _ _ W).alloc (Nat.le_refl _) _, _, trivial, rfl, ⟨h.j4, h.l1, h.l6, h.x.alloc _, h.s.alloc _, h.r.alloc _, h.i.alloc _, h.k.alloc h.k.size _, by simp; have := h.z; omega⟩, Blk.new W _ _, h.z⟩
  ·rw [show pvG 4 = .agg #[.int .i64 4, .func (.func 120) #[] #[], .func (.func 121) #[] #[]] from rfl]
   gi_wp2_with fail
   exact ⟨(Sm.refl _ _ W).alloc (Nat.le_refl _) _, _, trivial, rfl, ⟨h.j4, h.l1, h.l6, h.x.alloc _, h.s.alloc _, h.r.alloc _, h.i.alloc _, h.k.alloc h.k.size _, by simp; have := h.z; omega⟩, Blk.new W _ _, h.z⟩
  ·rw [show pvG 5 = .agg #[.int .i64 4, .nilFunc, .nilFunc] from rfl]
   gi_wp2_with fail
   exact ⟨(Sm.refl _ _ W).alloc (Nat.le_refl _) _, _, trivial, rfl, ⟨h.j4, h.l1, h.l6, h.x.alloc _, h.s.alloc _, h.r.alloc _, h.i.alloc _, h.k.alloc h.k.size _, by simp; have := h.z; omega⟩, Blk.new W _ _, h.z⟩
 case hbody =>
  rintro m l' pre j suf a' W hi hxs hll hrec hhi ⟨b, h1, rfl, h, hP, hbz⟩
  subst h1
  obtain ⟨_, hlt⟩ := rng6 hxs
  have hvW := HV.out.below h.k hB
  have HVW := Lib.hid hvW
  clear hvW
  rcases (show j = 0 ∨ j = 1 ∨ j = 2 ∨ j = 3 ∨ j = 4 ∨ j = 5 by omega) with rfl | rfl | rfl | rfl | rfl | rfl
  ·have hLB : ∀ x ∈ ([a0] : List Int), 0 ≤ x ∧ x < 256 := fun x hx => HB.out x (by simp only [List.mem_cons, List.not_mem_nil, or_false] at hx; rcases hx with rfl <;> simp)
   have hRS : ∀ i, i < 1 → ([a0] : List Int)[i]? = ([a0, a1, a2, a3, a4, a5, a6, a7, a8, a9, a10, a11, a12, a13, a14, a15] : List Int)[0 + i]? := by
    intro i hi
    match i, hi with
    | 0, _ => rfl
   have hV : valI [a0] = a0 := by simp [valI]
   have qa0 := HB.out a0 (by simp)
   have hg := Get_okO (.slice (some ⟨g, 0, none⟩) 1 (cap - 0)) [a0] hLB B W (Nat.le_trans hB h.k.size) (show isW ((1 : Nat) : Int) = true from by decide) (row_subG HVW.out HL.out 0 1 [a0] rfl hRS (by omega) (by omega))
   change Calls _ _ #[.slice (some ⟨g, oG 0, none⟩) (wG 0) (cap - oG 0)] _ _ at hg
   rw [hV] at hg
   clear hLB hRS hV
   have eg := enters_of (P := Tryz.prog) Tryz.func115 (by kernel_rfl) rfl
   have p2 := hP.cell 2 (v := .func (.func 115) #[] #[]) rfl
   have i0 := h.i.cell 0 (v := .bool true) rfl
   have if0 := h.i.frozen 0
   gi_wp2_with fail
   refine (hg.inR l').mono ?_; rintro e W1 ⟨rfl, k3⟩
   have hP1 := hP.below k3 hP.lt
   have hS1 := h.s.below k3 h.s.lt
   have hX1 := h.x.below k3 h.x.lt
   have hR1 := h.r.below k3 h.r.lt
   have hI1 := h.i.below k3 h.i.lt
   have kk := h.k.trans (k3.mono h.k.size)
   have hz := h.z
   have hz3 := k3.size
   have hl1 := h.l1
   clear hg p2 i0 if0 h hP
   have p2 := hP1.cell 2 (v := .func (.func 115) #[] #[]) rfl
   have i0 := hI1.cell 0 (v := .bool true) rfl
   have if0 := hI1.frozen 0
   have hnf := fun W => run_neq_fnG 115 W
   have hS2 := hS1.setOther ⟨w.heap.size + 1 + 1, 0, none⟩ (.bool true) (by simp; omega)
   have hX2 := hX1.setOther ⟨w.heap.size + 1 + 1, 0, none⟩ (.bool true) (by simp)
   have hR2 := hR1.setOther ⟨w.heap.size + 1 + 1, 0, none⟩ (.bool true) (by simp)
   have hI2 := hI1.set 0 (.bool true)
   have hP2 := hP1.setOther ⟨w.heap.size + 1 + 1, 0, none⟩ (.bool true) (by simp; omega)
   have k2 := kk.setCell (p := ⟨w.heap.size + 1 + 1, 0, none⟩) (by simp; omega) (.bool true)
   have sm2 : Sm (w.heap.size + 3 + 1) hi W (W1.setCell ⟨w.heap.size + 1 + 1, 0, none⟩ (.bool true)) := (Sm.of_below k3 hhi).setCell _ (.inr (by simp)) _
   obtain ⟨Y, hY⟩ : ∃ Y, W1.setCell ⟨w.heap.size + 1 + 1, 0, none⟩ (.bool true) = Y := ⟨_, rfl⟩
   have hzY : W1.heap.size = Y.heap.size := by rw [← hY]; simp
   rw [hY] at hS2 hX2 hR2 hI2 hP2 k2 sm2
   have HY := Lib.hid hY
   clear hS1 hX1 hR1 hI1 hP1 hY
   gi_wp2_with fail
   rw [HY.out]
   refine ((mtakeG2_calls hR2 a0).inR l').mono ?_; rintro e _ ⟨rfl, rfl⟩
   gi_wp2_with fail
   refine ⟨sm2.setCell _ (.inr (by simp)) _, 0 + 1, rfl, by omega, fun h => by omega, fun h => by omega, hX2.setOther _ _ (by simp), hS2.setOther _ _ (by simp), ?_, hI2.setOther _ _ (by simp), k2.setCell (by simp) _, by simp; omega⟩
   exact hR2.set 0 (.int .i64 a0)
  ·have hLB : ∀ x ∈ ([a1] : List Int), 0 ≤ x ∧ x < 256 := fun x hx => HB.out x (by simp only [List.mem_cons, List.not_mem_nil, or_false] at hx; rcases hx with rfl <;> simp)
   have hRS : ∀ i, i < 1 → ([a1] : List Int)[i]? = ([a0, a1, a2, a3, a4, a5, a6, a7, a8, a9, a10, a11, a12, a13, a14, a15] : List Int)[1 + i]? := by
    intro i hi
    match i, hi with
    | 0, _ => rfl
   obtain ⟨v, hvv⟩ : ∃ v, a1 = v := ⟨_, rfl⟩
   have hV : valI [a1] = v := by rw [← hvv]; simp [valI]
   have hg := Get_okO (.slice (some ⟨g, 1, none⟩) 1 (cap - 1)) [a1] hLB B W (Nat.le_trans hB h.k.size) (show isW ((1 : Nat) : Int) = true from by decide) (row_subG HVW.out HL.out 1 1 [a1] rfl hRS (by omega) (by omega))
   change Calls _ _ #[.slice (some ⟨g, oG 1, none⟩) (wG 1) (cap - oG 1)] _ _ at hg
   rw [hV] at hg
   have HVV := Lib.hid hvv
   clear hLB hRS hV hvv
   gi_wp2_with fail
   refine (hg.inR l').mono ?_; rintro e W1 ⟨rfl, k3⟩
   have hP1 := hP.below k3 hP.lt
   have hS1 := h.s.below k3 h.s.lt
   have hX1 := h.x.below k3 h.x.lt
   have hR1 := h.r.below k3 h.r.lt
   have hI1 := h.i.below k3 h.i.lt
   have kk := h.k.trans (k3.mono h.k.size)
   have hz := h.z
   have hz3 := k3.size
   have hl1 := h.l1
   clear hg h hP
   have p2 := hP1.cell 2 (v := .nilFunc) rfl
   have i0 := hI1.cell 0 (v := .bool true) rfl
   have if0 := hI1.frozen 0
   have hnn := fun W => run_neq_nilG W
   by_cases e1 : v = 0
   ·subst e1
    have hS2 := hS1.setOther ⟨w.heap.size + 1 + 1, 0, none⟩ (.bool true) (by simp; omega)
    have hX2 := hX1.setOther ⟨w.heap.size + 1 + 1, 0, none⟩ (.bool true) (by simp)
    have hR2 := hR1.setOther ⟨w.heap.size + 1 + 1, 0, none⟩ (.bool true) (by simp)
    have hI2 := hI1.set 0 (.bool true)
    have k2 := kk.setCell (p := ⟨w.heap.size + 1 + 1, 0, none⟩) (by simp; omega) (.bool true)
    have sm2 : Sm (w.heap.size + 3 + 1) hi W (W1.setCell ⟨w.heap.size + 1 + 1, 0, none⟩ (.bool true)) := (Sm.of_below k3 hhi).setCell _ (.inr (by simp)) _
    gi_wp2_with fail
    refine ⟨sm2, 2, rfl, by omega, fun _ => HVV.out, fun h => by omega, hX2, hS2, ?_, hI2, k2, by simp; omega⟩
    simpa [grtJ, w4] using hR2
   ·have e2 : (v == 0) = false := by simpa using e1
    have hS2 := hS1.setOther ⟨w.heap.size + 1 + 1, 0, none⟩ (.bool false) (by simp; omega)
    have hR2 := hR1.setOther ⟨w.heap.size + 1 + 1, 0, none⟩ (.bool false) (by simp)
    have hI2 := hI1.set 0 (.bool false)
    have k2 := kk.setCell (p := ⟨w.heap.size + 1 + 1, 0, none⟩) (by simp; omega) (.bool false)
    have sm2 : Sm (w.heap.size + 3 + 1) hi W (W1.setCell ⟨w.heap.size + 1 + 1, 0, none⟩ (.bool false)) := (Sm.of_below k3 hhi).setCell _ (.inr (by simp)) _
    gi_wp2_with fail
    have hno : grtOk [a0, a1, a2, a3, a4, a5, a6, a7, a8, a9, a10, a11, a12, a13, a14, a15] = false := by
     have h1 : a1 ≠ 0 := by rw [HVV.out]; exact e1
     unfold grtOk
     rw [show decide (List.getD [a0, a1, a2, a3, a4, a5, a6, a7, a8, a9, a10, a11, a12, a13, a14, a15] 1 0 = 0) = false from decide_eq_false h1]
     rfl
    exact ⟨sm2, rfl, hno, hS2, ⟨_, _, _, _, hR2⟩, hI2, k2, by simp; omega⟩
  ·have hLB : ∀ x ∈ ([a2, a3] : List Int), 0 ≤ x ∧ x < 256 := fun x hx => HB.out x (by simp only [List.mem_cons, List.not_mem_nil, or_false] at hx; rcases hx with rfl | rfl <;> simp)
   have hRS : ∀ i, i < 2 → ([a2, a3] : List Int)[i]? = ([a0, a1, a2, a3, a4, a5, a6, a7, a8, a9, a10, a11, a12, a13, a14, a15] : List Int)[2 + i]? := by
    intro i hi
    match i, hi with
    | 0, _ => rfl
    | 1, _ => rfl
   have hV : valI [a2, a3] = a2 + 256 * a3 := by simp [valI]; omega
   have qa2 := HB.out a2 (by simp)
   have qa3 := HB.out a3 (by simp)
   have hg := Get_okO (.slice (some ⟨g, 2, none⟩) 2 (cap - 2)) [a2, a3] hLB B W (Nat.le_trans hB h.k.size) (show isW ((2 : Nat) : Int) = true from by decide) (row_subG HVW.out HL.out 2 2 [a2, a3] rfl hRS (by omega) (by omega))
   change Calls _ _ #[.slice (some ⟨g, oG 2, none⟩) (wG 2) (cap - oG 2)] _ _ at hg
   rw [hV] at hg
   clear hLB hRS hV
   have eg := enters_of (P := Tryz.prog) Tryz.func117 (by kernel_rfl) rfl
   have p2 := hP.cell 2 (v := .func (.func 117) #[] #[]) rfl
   have i0 := h.i.cell 0 (v := .bool true) rfl
   have if0 := h.i.frozen 0
   gi_wp2_with fail
   refine (hg.inR l').mono ?_; rintro e W1 ⟨rfl, k3⟩
   have hP1 := hP.below k3 hP.lt
   have hS1 := h.s.below k3 h.s.lt
   have hX1 := h.x.below k3 h.x.lt
   have hR1 := h.r.below k3 h.r.lt
   have hI1 := h.i.below k3 h.i.lt
   have kk := h.k.trans (k3.mono h.k.size)
   have hz := h.z
   have hz3 := k3.size
   have hl1 := h.l1
   clear hg p2 i0 if0 h hP
   have p2 := hP1.cell 2 (v := .func (.func 117) #[] #[]) rfl
   have i0 := hI1.cell 0 (v := .bool true) rfl
   have if0 := hI1.frozen 0
   have hnf := fun W => run_neq_fnG 117 W
   have hS2 := hS1.setOther ⟨w.heap.size + 1 + 1, 0, none⟩ (.bool true) (by simp; omega)
   have hX2 := hX1.setOther ⟨w.heap.size + 1 + 1, 0, none⟩ (.bool true) (by simp)
   have hR2 := hR1.setOther ⟨w.heap.size + 1 + 1, 0, none⟩ (.bool true) (by simp)
   have hI2 := hI1.set 0 (.bool true)
   have hP2 := hP1.setOther ⟨w.heap.size + 1 + 1, 0, none⟩ (.bool true) (by simp; omega)
   have k2 := kk.setCell (p := ⟨w.heap.size + 1 + 1, 0, none⟩) (by simp; omega) (.bool true)
   have sm2 : Sm (w.heap.size + 3 + 1) hi W (W1.setCell ⟨w.heap.size + 1 + 1, 0, none⟩ (.bool true)) := (Sm.of_below k3 hhi).setCell _ (.inr (by simp)) _
   obtain ⟨Y, hY⟩ : ∃ Y, W1.setCell ⟨w.heap.size + 1 + 1, 0, none⟩ (.bool true) = Y := ⟨_, rfl⟩
   have hzY : W1.heap.size = Y.heap.size := by rw [← hY]; simp
   rw [hY] at hS2 hX2 hR2 hI2 hP2 k2 sm2
   have HY := Lib.hid hY
   clear hS1 hX1 hR1 hI1 hP1 hY
   gi_wp2_with fail
   rw [HY.out]
   refine ((mtakeG4_calls hR2 (a2 + 256 * a3)).inR l').mono ?_; rintro e _ ⟨rfl, rfl⟩
   gi_wp2_with fail
   refine ⟨sm2.setCell _ (.inr (by simp)) _, 2 + 1, rfl, by omega, fun _ => hl1 (by omega), fun h => by omega, hX2.setOther _ _ (by simp), hS2.setOther _ _ (by simp), ?_, hI2.setOther _ _ (by simp), k2.setCell (by simp) _, by simp; omega⟩
   exact hR2.set 1 (.int .i64 (a2 + 256 * a3))
  ·have hLB : ∀ x ∈ ([a4, a5, a6, a7] : List Int), 0 ≤ x ∧ x < 256 := fun x hx => HB.out x (by simp only [List.mem_cons, List.not_mem_nil, or_false] at hx; rcases hx with rfl | rfl | rfl | rfl <;> simp)
   have hRS : ∀ i, i < 4 → ([a4, a5, a6, a7] : List Int)[i]? = ([a0, a1, a2, a3, a4, a5, a6, a7, a8, a9, a10, a11, a12, a13, a14, a15] : List Int)[4 + i]? := by
    intro i hi
    match i, hi with
    | 0, _ => rfl
    | 1, _ => rfl
    | 2, _ => rfl
    | 3, _ => rfl
   have hV : valI [a4, a5, a6, a7] = a4 + 256 * (a5 + 256 * (a6 + 256 * a7)) := by simp [valI]; omega
   have qa4 := HB.out a4 (by simp)
   have qa5 := HB.out a5 (by simp)
   have qa6 := HB.out a6 (by simp)
   have qa7 := HB.out a7 (by simp)
   have hg := Get_okO (.slice (some ⟨g, 4, none⟩) 4 (cap - 4)) [a4, a5, a6, a7] hLB B W (Nat.le_trans hB h.k.size) (show isW ((4 : Nat) : Int) = true from by decide) (row_subG HVW.out HL.out 4 4 [a4, a5, a6, a7] rfl hRS (by omega) (by omega))
   change Calls _ _ #[.slice (some ⟨g, oG 3, none⟩) (wG 3) (cap - oG 3)] _ _ at hg
   rw [hV] at hg
   clear hLB hRS hV
   have eg := enters_of (P := Tryz.prog) Tryz.func119 (by kernel_rfl) rfl
   have p2 := hP.cell 2 (v := .func (.func 119) #[] #[]) rfl
   have i0 := h.i.cell 0 (v := .bool true) rfl
   have if0 := h.i.frozen 0
   gi_wp2_with fail
   refine (hg.inR l').mono ?_; rintro e W1 ⟨rfl, k3⟩
   have hP1 := hP.below k3 hP.lt
   have hS1 := h.s.below k3 h.s.lt
   have hX1 := h.x.below k3 h.x.lt
   have hR1 := h.r.below k3 h.r.lt
   have hI1 := h.i.below k3 h.i.lt
   have kk := h.k.trans (k3.mono h.k.size)
   have hz := h.z
   have hz3 := k3.size
   have hl1 := h.l1
   clear hg p2 i0 if0 h hP
   have p2 := hP1.cell 2 (v := .func (.func 119) #[] #[]) rfl
   have i0 := hI1.cell 0 (v := .bool true) rfl
   have if0 := hI1.frozen 0
   have hnf := fun W => run_neq_fnG 119 W
   have hS2 := hS1.setOther ⟨w.heap.size + 1 + 1, 0, none⟩ (.bool true) (by simp; omega)
   have hX2 := hX1.setOther ⟨w.heap.size + 1 + 1, 0, none⟩ (.bool true) (by simp)
   have hR2 := hR1.setOther ⟨w.heap.size + 1 + 1, 0, none⟩ (.bool true) (by simp)
   have hI2 := hI1.set 0 (.bool true)
   have hP2 := hP1.setOther ⟨w.heap.size + 1 + 1, 0, none⟩ (.bool true) (by simp; omega)
   have k2 := kk.setCell (p := ⟨w.heap.size + 1 + 1, 0, none⟩) (by simp; omega) (.bool true)
   have sm2 : Sm (w.heap.size + 3 + 1) hi W (W1.setCell ⟨w.heap.size + 1 + 1, 0, none⟩ (.bool true)) := (Sm.of_below k3 hhi).setCell _ (.inr (by simp)) _
   obtain ⟨Y, hY⟩ : ∃ Y, W1.setCell ⟨w.heap.size + 1 + 1, 0, none⟩ (.bool true) = Y := ⟨_, rfl⟩
   have hzY : W1.heap.size = Y.heap.size := by rw [← hY]; simp
   rw [hY] at hS2 hX2 hR2 hI2 hP2 k2 sm2
   have HY := Lib.hid hY
   clear hS1 hX1 hR1 hI1 hP1 hY
   gi_wp2_with fail
   rw [HY.out]
   refine ((mtakeG6_calls hR2 (a4 + 256 * (a5 + 256 * (a6 + 256 * a7)))).inR l').mono ?_; rintro e _ ⟨rfl, rfl⟩
   gi_wp2_with fail
   refine ⟨sm2.setCell _ (.inr (by simp)) _, 3 + 1, rfl, by omega, fun _ => hl1 (by omega), fun h => by omega, hX2.setOther _ _ (by simp), hS2.setOther _ _ (by simp), ?_, hI2.setOther _ _ (by simp), k2.setCell (by simp) _, by simp; omega⟩
   exact hR2.set 2 (.int .i64 (a4 + 256 * (a5 + 256 * (a6 + 256 * a7))))
  ·have hLB : ∀ x ∈ ([a8, a9, a10, a11] : List Int), 0 ≤ x ∧ x < 256 := fun x hx => HB.out x (by simp only [List.mem_cons, List.not_mem_nil, or_false] at hx; rcases hx with rfl | rfl | rfl | rfl <;> simp)
   have hRS : ∀ i, i < 4 → ([a8, a9, a10, a11] : List Int)[i]? = ([a0, a1, a2, a3, a4, a5, a6, a7, a8, a9, a10, a11, a12, a13, a14, a15] : List Int)[8 + i]? := by
    intro i hi
    match i, hi with
    | 0, _ => rfl
    | 1, _ => rfl
    | 2, _ => rfl
    | 3, _ => rfl
   have hV : valI [a8, a9, a10, a11] = a8 + 256 * (a9 + 256 * (a10 + 256 * a11)) := by simp [valI]; omega
   have qa8 := HB.out a8 (by simp)
   have qa9 := HB.out a9 (by simp)
   have qa10 := HB.out a10 (by simp)
   have qa11 := HB.out a11 (by simp)
   have hg := Get_okO (.slice (some ⟨g, 8, none⟩) 4 (cap - 8)) [a8, a9, a10, a11] hLB B W (Nat.le_trans hB h.k.size) (show isW ((4 : Nat) : Int) = true from by decide) (row_subG HVW.out HL.out 8 4 [a8, a9, a10, a11] rfl hRS (by omega) (by omega))
   change Calls _ _ #[.slice (some ⟨g, oG 4, none⟩) (wG 4) (cap - oG 4)] _ _ at hg
   rw [hV] at hg
   clear hLB hRS hV
   have eg := enters_of (P := Tryz.prog) Tryz.func121 (by kernel_rfl) rfl
   have p2 := hP.cell 2 (v := .func (.func 121) #[] #[]) rfl
   have i0 := h.i.cell 0 (v := .bool true) rfl
   have if0 := h.i.frozen 0
   gi_wp2_with fail
   refine (hg.inR l').mono ?_; rintro e W1 ⟨rfl, k3⟩
   have hP1 := hP.below k3 hP.lt
   have hS1 := h.s.below k3 h.s.lt
   have hX1 := h.x.below k3 h.x.lt
   have hR1 := h.r.below k3 h.r.lt
   have hI1 := h.i.below k3 h.i.lt
   have kk := h.k.trans (k3.mono h.k.size)
   have hz := h.z
   have hz3 := k3.size
   have hl1 := h.l1
   clear hg p2 i0 if0 h hP
   have p2 := hP1.cell 2 (v := .func (.func 121) #[] #[]) rfl
   have i0 := hI1.cell 0 (v := .bool true) rfl
   have if0 := hI1.frozen 0
   have hnf := fun W => run_neq_fnG 121 W
   have hS2 := hS1.setOther ⟨w.heap.size + 1 + 1, 0, none⟩ (.bool true) (by simp; omega)
   have hX2 := hX1.setOther ⟨w.heap.size + 1 + 1, 0, none⟩ (.bool true) (by simp)
   have hR2 := hR1.setOther ⟨w.heap.size + 1 + 1, 0, none⟩ (.bool true) (by simp)
   have hI2 := hI1.set 0 (.bool true)
   have hP2 := hP1.setOther ⟨w.heap.size + 1 + 1, 0, none⟩ (.bool true) (by simp; omega)
   have k2 := kk.setCell (p := ⟨w.heap.size + 1 + 1, 0, none⟩) (by simp; omega) (.bool true)
   have sm2 : Sm (w.heap.size + 3 + 1) hi W (W1.setCell ⟨w.heap.size + 1 + 1, 0, none⟩ (.bool true)) := (Sm.of_below k3 hhi).setCell _ (.inr (by simp)) _
   obtain ⟨Y, hY⟩ : ∃ Y, W1.setCell ⟨w.heap.size + 1 + 1, 0, none⟩ (.bool true) = Y := ⟨_, rfl⟩
   have hzY : W1.heap.size = Y.heap.size := by rw [← hY]; simp
   rw [hY] at hS2 hX2 hR2 hI2 hP2 k2 sm2
   have HY := Lib.hid hY
   clear hS1 hX1 hR1 hI1 hP1 hY
   gi_wp2_with fail
   rw [HY.out]
   refine ((mtakeG8_calls hR2 (a8 + 256 * (a9 + 256 * (a10 + 256 * a11)))).inR l').mono ?_; rintro e _ ⟨rfl, rfl⟩
   gi_wp2_with fail
   refine ⟨sm2.setCell _ (.inr (by simp)) _, 4 + 1, rfl, by omega, fun _ => hl1 (by omega), fun h => by omega, hX2.setOther _ _ (by simp), hS2.setOther _ _ (by simp), ?_, hI2.setOther _ _ (by simp), k2.setCell (by simp) _, by simp; omega⟩
   exact hR2.set 3 (.int .i64 (a8 + 256 * (a9 + 256 * (a10 + 256 * a11))))
  ·have hLB : ∀ x ∈ ([a12, a13, a14, a15] : List Int), 0 ≤ x ∧ x < 256 := fun x hx => HB.out x (by simp only [List.mem_cons, List.not_mem_nil, or_false] at hx; rcases hx with rfl | rfl | rfl | rfl <;> simp)
   have hRS : ∀ i, i < 4 → ([a12, a13, a14, a15] : List Int)[i]? = ([a0, a1, a2, a3, a4, a5, a6, a7, a8, a9, a10, a11, a12, a13, a14, a15] : List Int)[12 + i]? := by
    intro i hi
    match i, hi with
    | 0, _ => rfl
    | 1, _ => rfl
    | 2, _ => rfl
    | 3, _ => rfl
   obtain ⟨v, hvv⟩ : ∃ v, a12 + 256 * (a13 + 256 * (a14 + 256 * a15)) = v := ⟨_, rfl⟩
   have hV : valI [a12, a13, a14, a15] = v := by rw [← hvv]; simp [valI]; omega
   have hg := Get_okO (.slice (some ⟨g, 12, none⟩) 4 (cap - 12)) [a12, a13, a14, a15] hLB B W (Nat.le_trans hB h.k.size) (show isW ((4 : Nat) : Int) = true from by decide) (row_subG HVW.out HL.out 12 4 [a12, a13, a14, a15] rfl hRS (by omega) (by omega))
   change Calls _ _ #[.slice (some ⟨g, oG 5, none⟩) (wG 5) (cap - oG 5)] _ _ at hg
   rw [hV] at hg
   have HVV := Lib.hid hvv
   clear hLB hRS hV hvv
   gi_wp2_with fail
   refine (hg.inR l').mono ?_; rintro e W1 ⟨rfl, k3⟩
   have hP1 := hP.below k3 hP.lt
   have hS1 := h.s.below k3 h.s.lt
   have hX1 := h.x.below k3 h.x.lt
   have hR1 := h.r.below k3 h.r.lt
   have hI1 := h.i.below k3 h.i.lt
   have kk := h.k.trans (k3.mono h.k.size)
   have hz := h.z
   have hz3 := k3.size
   have hl1 := h.l1
   clear hg h hP
   have p2 := hP1.cell 2 (v := .nilFunc) rfl
   have i0 := hI1.cell 0 (v := .bool true) rfl
   have if0 := hI1.frozen 0
   have hnn := fun W => run_neq_nilG W
   by_cases e1 : v = 0
   ·subst e1
    have hS2 := hS1.setOther ⟨w.heap.size + 1 + 1, 0, none⟩ (.bool true) (by simp; omega)
    have hX2 := hX1.setOther ⟨w.heap.size + 1 + 1, 0, none⟩ (.bool true) (by simp)
    have hR2 := hR1.setOther ⟨w.heap.size + 1 + 1, 0, none⟩ (.bool true) (by simp)
    have hI2 := hI1.set 0 (.bool true)
    have k2 := kk.setCell (p := ⟨w.heap.size + 1 + 1, 0, none⟩) (by simp; omega) (.bool true)
    have sm2 : Sm (w.heap.size + 3 + 1) hi W (W1.setCell ⟨w.heap.size + 1 + 1, 0, none⟩ (.bool true)) := (Sm.of_below k3 hhi).setCell _ (.inr (by simp)) _
    gi_wp2_with fail
    refine ⟨sm2, 6, rfl, by omega, fun _ => hl1 (by omega), fun _ => HVV.out, hX2, hS2, ?_, hI2, k2, by simp; omega⟩
    simpa [grtJ, w4] using hR2
   ·have e2 : (v == 0) = false := by simpa using e1
    have hS2 := hS1.setOther ⟨w.heap.size + 1 + 1, 0, none⟩ (.bool false) (by simp; omega)
    have hR2 := hR1.setOther ⟨w.heap.size + 1 + 1, 0, none⟩ (.bool false) (by simp)
    have hI2 := hI1.set 0 (.bool false)
    have k2 := kk.setCell (p := ⟨w.heap.size + 1 + 1, 0, none⟩) (by simp; omega) (.bool false)
    have sm2 : Sm (w.heap.size + 3 + 1) hi W (W1.setCell ⟨w.heap.size + 1 + 1, 0, none⟩ (.bool false)) := (Sm.of_below k3 hhi).setCell _ (.inr (by simp)) _
    gi_wp2_with fail
    have hno : grtOk [a0, a1, a2, a3, a4, a5, a6, a7, a8, a9, a10, a11, a12, a13, a14, a15] = false := by
     have h1 : w4 [a0, a1, a2, a3, a4, a5, a6, a7, a8, a9, a10, a11, a12, a13, a14, a15] 12 ≠ 0 := by rw [show w4 [a0, a1, a2, a3, a4, a5, a6, a7, a8, a9, a10, a11, a12, a13, a14, a15] 12 = v from HVV.out]; exact e1
     unfold grtOk
     rw [decide_eq_false h1, Bool.false_and, Bool.and_false]
    exact ⟨sm2, rfl, hno, hS2, ⟨_, _, _, _, hR2⟩, hI2, k2, by simp; omega⟩
 case hdone =>
  rintro D W hD ⟨j, h1, h⟩ hK
  have hj : j = 6 := by
   have := congrArg List.length h1
   simp at this
   omega
  subst hj
  have hDb : w.heap.size + 1 + 1 < D := by omega
  obtain ⟨x, hx⟩ : ∃ x, (grtJ [a0, a1, a2, a3, a4, a5, a6, a7, a8, a9, a10, a11, a12, a13, a14, a15] 6).1 = x := ⟨_, rfl⟩
  obtain ⟨y, hy⟩ : ∃ x, (grtJ [a0, a1, a2, a3, a4, a5, a6, a7, a8, a9, a10, a11, a12, a13, a14, a15] 6).2.1 = x := ⟨_, rfl⟩
  obtain ⟨z, hz⟩ : ∃ x, (grtJ [a0, a1, a2, a3, a4, a5, a6, a7, a8, a9, a10, a11, a12, a13, a14, a15] 6).2.2.1 = x := ⟨_, rfl⟩
  obtain ⟨u, hu⟩ : ∃ x, (grtJ [a0, a1, a2, a3, a4, a5, a6, a7, a8, a9, a10, a11, a12, a13, a14, a15] 6).2.2.2 = x := ⟨_, rfl⟩
  have hr := h.r
  rw [hx, hy, hz, hu] at hr
  have HX := Lib.hid (And.intro hx (And.intro hy (And.intro hz hu)))
  clear hx hy hz hu
  have i0 := h.i.cell 0 (v := .bool true) rfl
  have if0 := h.i.frozen 0
  have c0 := hr.cell 0 (v := .int .i64 x) rfl
  have c1 := hr.cell 1 (v := .int .i64 y) rfl
  have c2 := hr.cell 2 (v := .int .i64 z) rfl
  have c3 := hr.cell 3 (v := .int .i64 u) rfl
  have g0 := hr.frozen 0
  have g1 := hr.frozen 1
  have g2 := hr.frozen 2
  have g3 := hr.frozen 3
  have s1 := h.s.cell 1 (v := .func (.func 122) #[] #[]) rfl
  have eg := enters_of (P := Tryz.prog) Tryz.func122 (by kernel_rfl) rfl
  go_wp2_with fail
  refine (mrightG_calls x y z u _).mono ?_; rintro e W1 ⟨rfl, k1⟩
  have hr1 := hr.below k1 hr.lt
  have hi1 := h.i.below k1 h.i.lt
  have kk := h.k.trans (k1.mono h.k.size)
  have hKl := (Array.getElem?_eq_some_iff.1 hK).1
  have hK1 : W1.heap[D]? = some (.deferred (some [])) := (k1.block D hKl).trans hK
  have hl1 := h.l1 (by omega)
  have hl6 := h.l6 (by omega)
  have HOK := Lib.hid (show grtOk [a0, a1, a2, a3, a4, a5, a6, a7, a8, a9, a10, a11, a12, a13, a14, a15] = rgtG x y z u by
   obtain ⟨e1, e2, e3, e4⟩ := HX.out
   unfold grtOk
   rw [decide_eq_true hl1, decide_eq_true hl6, e1, e2, e3, e4]
   rfl)
  clear i0 if0 c0 c1 c2 c3 g0 g1 g2 g3 s1 hr hK k1 hl1 hl6
  have i0 := hi1.cell 0 (v := .bool true) rfl
  have if0 := hi1.frozen 0
  have c0 := hr1.cell 0 (v := .int .i64 x) rfl
  have c1 := hr1.cell 1 (v := .int .i64 y) rfl
  have c2 := hr1.cell 2 (v := .int .i64 z) rfl
  have c3 := hr1.cell 3 (v := .int .i64 u) rfl
  have g0 := hr1.frozen 0
  have g1 := hr1.frozen 1
  have g2 := hr1.frozen 2
  have g3 := hr1.frozen 3
  have zl := hr1.lt
  have zl2 := hi1.lt
  cases hgt : rgtG x y z u
  ·rw [hgt] at HOK
   clear hgt
   go_wp2_with fail
   rw [Exit.noGoto_ret]
   have hr2 := (((((hr1.setOther ⟨w.heap.size + 1 + 1, 0, none⟩ (.bool false) (by simp)).set4G (.int .i64 0) (.int .i64 0) (.int .i64 0) (.int .i64 0)).setOther ⟨w.heap.size + 1 + 1, 0, none⟩ (.bool false) (by simp)).alloc (.cells #[.int .i64 0, .int .i64 0, .int .i64 0, .int .i64 0] 54)))
   have hi2 := (((((((hi1.set 0 (.bool false)).setOther ⟨w.heap.size + 1, 0, none⟩ (.int .i64 0) (by simp)).setOther ⟨w.heap.size + 1, 1, none⟩ (.int .i64 0) (by simp)).setOther ⟨w.heap.size + 1, 2, none⟩ (.int .i64 0) (by simp)).setOther ⟨w.heap.size + 1, 3, none⟩ (.int .i64 0) (by simp)).set 0 (.bool false)).alloc (.cells #[.int .i64 0, .int .i64 0, .int .i64 0, .int .i64 0] 54))
   have kz := ((((((kk.setCell (p := ⟨w.heap.size + 1 + 1, 0, none⟩) (by simp; omega) (.bool false)).setCell (p := ⟨w.heap.size + 1, 0, none⟩) (by simp) (.int .i64 0)).setCell (p := ⟨w.heap.size + 1, 1, none⟩) (by simp) (.int .i64 0)).setCell (p := ⟨w.heap.size + 1, 2, none⟩) (by simp) (.int .i64 0)).setCell (p := ⟨w.heap.size + 1, 3, none⟩) (by simp) (.int .i64 0)).setCell (p := ⟨w.heap.size + 1 + 1, 0, none⟩) (by simp; omega) (.bool false)).alloc (by simp; omega) (.cells #[.int .i64 0, .int .i64 0, .int .i64 0, .int .i64 0] 54)
   refine post_grt (b4 := w.heap.size + 1) (b5 := w.heap.size + 1 + 1) (v := false) Tryz.results113 rfl rfl hr2 hi2 ?_ (by omega) (by omega) ⟨?_, ?_⟩
   ·exact (((((((((KeepsRec.refl W1).setCell _ _).setCell _ _).setCell _ _).setCell _ _).setCell _ _).setCell _ _).alloc _)).same D _ hK1 rfl
   ·rw [HOK.out]; rfl
   ·exact below_putObj kz (by omega) _ (by have := (Array.getElem?_eq_some_iff.1 hK1).1; simp; omega)
  ·rw [hgt] at HOK
   clear hgt
   go_wp2_with fail
   rw [Exit.noGoto_ret]
   have hr2 := ((((hr1.setOther ⟨w.heap.size + 1 + 1, 0, none⟩ (.bool true) (by simp)).set4G (.int .i64 x) (.int .i64 y) (.int .i64 z) (.int .i64 u)).setOther ⟨w.heap.size + 1 + 1, 0, none⟩ (.bool true) (by simp)))
   have hi2 := ((((((hi1.set 0 (.bool true)).setOther ⟨w.heap.size + 1, 0, none⟩ (.int .i64 x) (by simp)).setOther ⟨w.heap.size + 1, 1, none⟩ (.int .i64 y) (by simp)).setOther ⟨w.heap.size + 1, 2, none⟩ (.int .i64 z) (by simp)).setOther ⟨w.heap.size + 1, 3, none⟩ (.int .i64 u) (by simp)).set 0 (.bool true))
   have kz := ((((((kk.setCell (p := ⟨w.heap.size + 1 + 1, 0, none⟩) (by simp; omega) (.bool true)).setCell (p := ⟨w.heap.size + 1, 0, none⟩) (by simp) (.int .i64 x)).setCell (p := ⟨w.heap.size + 1, 1, none⟩) (by simp) (.int .i64 y)).setCell (p := ⟨w.heap.size + 1, 2, none⟩) (by simp) (.int .i64 z)).setCell (p := ⟨w.heap.size + 1, 3, none⟩) (by simp) (.int .i64 u)).setCell (p := ⟨w.heap.size + 1 + 1, 0, none⟩) (by simp; omega) (.bool true))
   refine post_grt (b4 := w.heap.size + 1) (b5 := w.heap.size + 1 + 1) (v := true) Tryz.results113 rfl rfl hr2 hi2 ?_ (by omega) (by omega) ⟨?_, ?_⟩
   ·exact ((((((((KeepsRec.refl W1).setCell _ _).setCell _ _).setCell _ _).setCell _ _).setCell _ _).setCell _ _)).same D _ hK1 rfl
   ·rw [HOK.out, HX.out.1, HX.out.2.1, HX.out.2.2.1, HX.out.2.2.2]; rfl
   ·exact below_putObj kz (by omega) _ (by have := (Array.getElem?_eq_some_iff.1 hK1).1; simp; omega)
 case hstop =>
  rintro D c W hD ⟨rfl, h⟩ hK
  obtain ⟨x, y, z, u, hr⟩ := h.r
  have hDb : w.heap.size + 1 + 1 < D := by omega
  have i0 := h.i.cell 0 (v := .bool false) rfl
  have if0 := h.i.frozen 0
  have c0 := hr.cell 0 (v := .int .i64 x) rfl
  have c1 := hr.cell 1 (v := .int .i64 y) rfl
  have c2 := hr.cell 2 (v := .int .i64 z) rfl
  have c3 := hr.cell 3 (v := .int .i64 u) rfl
  have g0 := hr.frozen 0
  have g1 := hr.frozen 1
  have g2 := hr.frozen 2
  have g3 := hr.frozen 3
  have zl := hr.lt
  have zl2 := h.i.lt
  go_wp2_with fail
  rw [Exit.noGoto_ret]
  have hr2 := (((((hr.setOther ⟨w.heap.size + 1 + 1, 0, none⟩ (.bool false) (by simp)).set4G (.int .i64 0) (.int .i64 0) (.int .i64 0) (.int .i64 0)).setOther ⟨w.heap.size + 1 + 1, 0, none⟩ (.bool false) (by simp)).alloc (.cells #[.int .i64 0, .int .i64 0, .int .i64 0, .int .i64 0] 54)))
  have hi2 := (((((((h.i.set 0 (.bool false)).setOther ⟨w.heap.size + 1, 0, none⟩ (.int .i64 0) (by simp)).setOther ⟨w.heap.size + 1, 1, none⟩ (.int .i64 0) (by simp)).setOther ⟨w.heap.size + 1, 2, none⟩ (.int .i64 0) (by simp)).setOther ⟨w.heap.size + 1, 3, none⟩ (.int .i64 0) (by simp)).set 0 (.bool false)).alloc (.cells #[.int .i64 0, .int .i64 0, .int .i64 0, .int .i64 0] 54))
  have HN := Lib.hid h.no
  have kz := ((((((h.k.setCell (p := ⟨w.heap.size + 1 + 1, 0, none⟩) (by simp; omega) (.bool false)).setCell (p := ⟨w.heap.size + 1, 0, none⟩) (by simp) (.int .i64 0)).setCell (p := ⟨w.heap.size + 1, 1, none⟩) (by simp) (.int .i64 0)).setCell (p := ⟨w.heap.size + 1, 2, none⟩) (by simp) (.int .i64 0)).setCell (p := ⟨w.heap.size + 1, 3, none⟩) (by simp) (.int .i64 0)).setCell (p := ⟨w.heap.size + 1 + 1, 0, none⟩) (by simp; omega) (.bool false)).alloc (by simp; omega) (.cells #[.int .i64 0, .int .i64 0, .int .i64 0, .int .i64 0] 54)
  refine post_grt (b4 := w.heap.size + 1) (b5 := w.heap.size + 1 + 1) (v := false) Tryz.results113 rfl rfl hr2 hi2 ?_ (by omega) (by omega) ⟨?_, ?_⟩
  ·exact (((((((((KeepsRec.refl W).setCell _ _).setCell _ _).setCell _ _).setCell _ _).setCell _ _).setCell _ _).alloc _)).same D _ hK rfl
  ·rw [HN.out]; rfl
  ·exact below_putObj kz (by omega) _ (by have := (Array.getElem?_eq_some_iff.1 hK).1; simp; omega)
end Go.Proofs.YtlpchcdalfkfcaaGreat

