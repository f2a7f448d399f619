/-
 Package vmem: whether an owner reaches a page; what is wrong with a reach. Conditions: books in order.
-/
import Derived.Test.YtlpchcdalfkfcaaGreatBVmA
import Derived.Test.YtlpchcdalfkfcaaGreatBPgA
namespace Go.Proofs.YtlpchcdalfkfcaaGreat
open Go.RowKit
attribute [local go_sem] Oper.semAt_some
set_option maxHeartbeats 2000000
set_option maxRecDepth 4000

/-- Does an owner reach a page? -/
def rchB (D : Tb) (owner may n : Int) : Bool := hasR D n && (decide (owner = -2) || (decide ((getE D n).o = owner) && decide (may ≤ (getE D n).m)))
def badMany (n : Int) : Bool := !(decide (1 ≤ n) && decide (n ≤ 16777216))
def badWho (o : Int) : Bool := !(decide (o = -2) || (decide (0 ≤ o) && decide (o < 64)))
/-- What is wrong with a reach. -/
def rchE (D : Tb) (owner at_ many may : Int) : Int :=
 if badMany many = true then 2 else if badWho owner = true then 2 else if 16777216 - many < at_ then 4 else if ((partsL at_ many).all fun x => rchB D owner may x.1) = true then 0 else 190
theorem reaches_ok (k : Mb) (owner may : Int) (w : World) : Calls Tryz.prog 172 #[.pointer (some ⟨k.b, 0, none⟩), .int .i64 owner, .int .i64 may] w fun e w' =>
  e = .returned (.func (.func 197) #[] #[.pointer (some ⟨w.heap.size, 0, none⟩), .pointer (some ⟨w.heap.size + 1, 0, none⟩), .pointer (some ⟨w.heap.size + 1 + 1, 0, none⟩)]) ∧
  (Blk w' w.heap.size #[.pointer (some ⟨k.b, 0, none⟩)] 38 ∧ Blk w' (w.heap.size + 1) #[.int .i64 owner] 3 ∧ Blk w' (w.heap.size + 1 + 1) #[.int .i64 may] 95) ∧ Below w.heap.size w w' := by
 go_enter Tryz.func172, Tryz.ntmps172
 go_wp2_with fail
 go_ret
 exact ⟨rfl, ⟨((Blk.new w _ _).alloc _).alloc _, (Blk.newAt _ _ _ (by simp)).alloc _, Blk.newAt _ _ _ (by simp)⟩, (((Below.refl _ w).alloc (Nat.le_refl _) _).alloc (by simp) _).alloc (by simp; omega) _⟩
theorem reaches1_ok {w : World} {k : Mb} {s : Ms} (h : MemAt w k s) {p1 p2 p3 : Nat} {owner may : Int} (h1 : w.cell? ⟨p1, 0, none⟩ = some (.pointer (some ⟨k.b, 0, none⟩))) (h2 : w.cell? ⟨p2, 0, none⟩ = some (.int .i64 owner)) (h3 : w.cell? ⟨p3, 0, none⟩ = some (.int .i64 may)) (n : Int) :
  Calls Tryz.prog 197 #[.int .i64 n, .pointer (some ⟨p1, 0, none⟩), .pointer (some ⟨p2, 0, none⟩), .pointer (some ⟨p3, 0, none⟩)] w fun e w' => e = .returned (.bool (rchB s.D owner may n)) ∧ Below w.heap.size w w' := by
 obtain ⟨c0, c1⟩ := h.cells
 have l2 := World.block_lt_of_cell? w _ h2
 have l3 := World.block_lt_of_cell? w _ h3
 obtain ⟨r, hr⟩ : ∃ r, rchB s.D owner may n = r := ⟨_, rfl⟩
 rw [hr]
 unfold rchB at hr
 have HR := Lib.hid hr
 clear hr
 go_enter Tryz.func197, Tryz.ntmps197
 go_wp2_with fail
 refine (Get_ok h.tb n).mono ?_; rintro e w1 ⟨rfl, k1⟩
 have q2 : w1.cell? ⟨p2, 0, none⟩ = some (.int .i64 owner) := (k1.cell (p := ⟨p2, 0, none⟩) l2).trans h2
 have q3 : w1.cell? ⟨p3, 0, none⟩ = some (.int .i64 may) := (k1.cell (p := ⟨p3, 0, none⟩) l3).trans h3
 have m2 : p2 < w1.heap.size := Nat.lt_of_lt_of_le l2 k1.size
 have m3 : p3 < w1.heap.size := Nat.lt_of_lt_of_le l3 k1.size
 unfold encE
 obtain ⟨x, hx⟩ : ∃ x, getE s.D n = x := ⟨_, rfl⟩
 rw [hx] at HR ⊢
 obtain ⟨xo, xm, xf⟩ := x
 dsimp only
 obtain ⟨w2, hw2⟩ : ∃ w2, w1.alloc (.cells #[.int .i64 xo, .int .i64 xm, .int .i64 xf] 97) = w2 := ⟨_, rfl⟩
 have k2 : Below w1.heap.size w1 w2 := by rw [← hw2]; exact (Below.refl _ w1).alloc (Nat.le_refl _) _
 have hX : Blk w2 w1.heap.size #[.int .i64 xo, .int .i64 xm, .int .i64 xf] 97 := by rw [← hw2]; exact Blk.new w1 _ _
 have x0 := hX.cell 0 rfl
 have x1 := hX.cell 1 rfl
 have r2 : w2.cell? ⟨p2, 0, none⟩ = some (.int .i64 owner) := (k2.cell (p := ⟨p2, 0, none⟩) m2).trans q2
 have r3 : w2.cell? ⟨p3, 0, none⟩ = some (.int .i64 may) := (k2.cell (p := ⟨p3, 0, none⟩) m3).trans q3
 have kk := k1.trans (k2.mono k1.size)
 clear hx h1 h2 h3 q2 q3 c0 c1
 obtain ⟨y, hy⟩ : ∃ y, hasR s.D n = y := ⟨_, rfl⟩
 rw [hy] at HR ⊢
 clear hy
 cases y
 ·go_wp2_with fail
  go_ret
  exact ⟨by rw [← HR.out]; rfl, kk⟩
 ·by_cases e1 : owner = -2
  ·subst e1
   go_wp2_with fail
   go_ret
   exact ⟨by rw [← HR.out]; rfl, kk⟩
  ·have e1' : (owner == -2) = false := by simpa using e1
   by_cases e2 : xo = owner
   ·subst e2
    by_cases e3 : may ≤ xm
    ·go_wp2_with fail
     go_ret
     exact ⟨by rw [← HR.out]; simp; omega, kk⟩
    ·go_wp2_with fail
     go_ret
     exact ⟨by rw [← HR.out]; simp; omega, kk⟩
   ·have e2' : (xo == owner) = false := by simpa using e2
    go_wp2_with fail
    go_ret
    exact ⟨by rw [← HR.out]; simp; omega, kk⟩
theorem asked1_ok {w : World} {p : Nat} {n : Int} (hp : w.cell? ⟨p, 0, none⟩ = some (.int .i64 n)) : Calls Tryz.prog 168 #[.pointer (some ⟨p, 0, none⟩)] w fun e w' => e = .returned (.bool (!badMany n)) ∧ Below w.heap.size w w' := by
 unfold badMany
 rw [Bool.not_not]
 by_cases h1 : 1 ≤ n
 ·by_cases h2 : n ≤ 16777216
  ·go_enter Tryz.func168, Tryz.ntmps168
   go_wp2_with fail
   go_ret
   exact ⟨by simp <;> omega, Below.refl _ _⟩
  ·go_enter Tryz.func168, Tryz.ntmps168
   go_wp2_with fail
   go_ret
   exact ⟨by simp <;> omega, Below.refl _ _⟩
 ·go_enter Tryz.func168, Tryz.ntmps168
  go_wp2_with fail
  go_ret
  exact ⟨by simp <;> omega, Below.refl _ _⟩
theorem asked2_ok {w : World} {p : Nat} {o : Int} (hp : w.cell? ⟨p, 0, none⟩ = some (.int .i64 o)) : Calls Tryz.prog 169 #[.pointer (some ⟨p, 0, none⟩)] w fun e w' => e = .returned (.bool (!badWho o)) ∧ Below w.heap.size w w' := by
 unfold badWho
 rw [Bool.not_not]
 by_cases h0 : o = -2
 ·subst h0
  go_enter Tryz.func169, Tryz.ntmps169
  go_wp2_with fail
  go_ret
  exact ⟨rfl, Below.refl _ _⟩
 ·have h0' : (o == -2) = false := by simpa using h0
  have h9 : decide (o = -2) = false := decide_eq_false h0
  by_cases h1 : 0 ≤ o
  ·by_cases h2 : o < 64
   ·go_enter Tryz.func169, Tryz.ntmps169
    go_wp2_with fail
    go_ret
    exact ⟨by simp <;> omega, Below.refl _ _⟩
   ·go_enter Tryz.func169, Tryz.ntmps169
    go_wp2_with fail
    go_ret
    exact ⟨by simp <;> omega, Below.refl _ _⟩
  ·go_enter Tryz.func169, Tryz.ntmps169
   go_wp2_with fail
   go_ret
   exact ⟨by simp <;> omega, Below.refl _ _⟩
theorem asked3_ok {w : World} {p q : Nat} {a n : Int} (hp : w.cell? ⟨p, 0, none⟩ = some (.int .u32 a)) (hq : w.cell? ⟨q, 0, none⟩ = some (.int .i64 n)) (h0 : 0 ≤ a) (h1 : a < 4294967296) (h2 : 1 ≤ n) (h3 : n ≤ 16777216) :
  Calls Tryz.prog 170 #[.pointer (some ⟨p, 0, none⟩), .pointer (some ⟨q, 0, none⟩)] w fun e w' => e = .returned (.bool (!decide (16777216 - n < a))) ∧ Below w.heap.size w w' := by
 have e1 : IntKind.i64.wrap a = a := IntWalk.i64_in _ (by omega)
 obtain ⟨r, hr⟩ : ∃ r, (!decide (16777216 - n < a)) = r := ⟨_, rfl⟩
 rw [hr]
 have HR := Lib.hid hr
 clear hr
 by_cases h4 : 16777216 - n < a
 ·go_enter Tryz.func170, Tryz.ntmps170
  have h5 : decide (a ≤ 16777216 - n) = false := by simp; omega
  go_wp2_with fail
  go_ret
  exact ⟨by rw [← HR.out]; simp; omega, Below.refl _ _⟩
 ·go_enter Tryz.func170, Tryz.ntmps170
  have h5 : decide (a ≤ 16777216 - n) = true := by simp; omega
  go_wp2_with fail
  go_ret
  exact ⟨by rw [← HR.out]; simp; omega, Below.refl _ _⟩
end Go.Proofs.YtlpchcdalfkfcaaGreat


/-
 Package vmem: what is wrong with a reach: the last question; all of them. Conditions: books in order.
-/
namespace Go.Proofs.YtlpchcdalfkfcaaGreat
open Go.RowKit
attribute [local go_sem] Oper.semAt_some
set_option maxHeartbeats 4000000
set_option maxRecDepth 4000

theorem asked4_ok {w : World} {k : Mb} {s : Ms} (h : MemAt w k s) {p0 p1 p2 p3 p4 : Nat} {owner may at_ many : Int} (c0 : w.cell? ⟨p0, 0, none⟩ = some (.pointer (some ⟨k.b, 0, none⟩))) (c1 : w.cell? ⟨p1, 0, none⟩ = some (.int .i64 owner)) (c2 : w.cell? ⟨p2, 0, none⟩ = some (.int .i64 may))
  (c3 : w.cell? ⟨p3, 0, none⟩ = some (.int .u32 at_)) (c4 : w.cell? ⟨p4, 0, none⟩ = some (.int .i64 many)) (h0 : 0 ≤ at_) (h1 : at_ < 4294967296) (h2 : 0 ≤ many) (h3 : many ≤ 16777216) :
  Calls Tryz.prog 171 #[.pointer (some ⟨p0, 0, none⟩), .pointer (some ⟨p1, 0, none⟩), .pointer (some ⟨p2, 0, none⟩), .pointer (some ⟨p3, 0, none⟩), .pointer (some ⟨p4, 0, none⟩)] w fun e w' =>
   e = .returned (.int .i64 (if ((partsL at_ many).all fun x => rchB s.D owner may x.1) = true then 0 else 190)) ∧ Below w.heap.size w w' := by
 obtain ⟨r, hr⟩ : ∃ r : Int, (if ((partsL at_ many).all fun x => rchB s.D owner may x.1) = true then (0 : Int) else 190) = r := ⟨_, rfl⟩
 rw [hr]
 have HR := Lib.hid hr
 clear hr
 have q3 := World.block_lt_of_cell? w _ c3
 have q4 := World.block_lt_of_cell? w _ c4
 obtain ⟨w0, hw0⟩ : ∃ w0, w.alloc (.cells #[.int .i64 0] 25) = w0 := ⟨_, rfl⟩
 have b0 : Blk w0 w.heap.size #[.int .i64 0] 25 := by rw [← hw0]; exact Blk.new w _ _
 have k0 : Below w.heap.size w w0 := by rw [← hw0]; exact (Below.refl _ w).alloc (Nat.le_refl _) _
 have m0 := h.step k0
 refine calls_of_wp_marks Tryz.func171 rfl ?_; simp only [Tryz.ntmps171, List.size_toArray, List.length_cons, List.length_nil, Nat.reduceAdd, Nat.reduceSub, Array.replicate_succ, Array.replicate_zero, List.push_toArray, List.append_toArray, List.nil_append, List.cons_append]
 go_wp2_with fail
 clear hw0
 have a0 : w0.cell? ⟨p0, 0, none⟩ = some (.pointer (some ⟨k.b, 0, none⟩)) := (k0.cell (p := ⟨p0, 0, none⟩) (World.block_lt_of_cell? w _ c0)).trans c0
 have a1 : w0.cell? ⟨p1, 0, none⟩ = some (.int .i64 owner) := (k0.cell (p := ⟨p1, 0, none⟩) (World.block_lt_of_cell? w _ c1)).trans c1
 have a2 : w0.cell? ⟨p2, 0, none⟩ = some (.int .i64 may) := (k0.cell (p := ⟨p2, 0, none⟩) (World.block_lt_of_cell? w _ c2)).trans c2
 have a3 : w0.cell? ⟨p3, 0, none⟩ = some (.int .u32 at_) := (k0.cell (p := ⟨p3, 0, none⟩) q3).trans c3
 have a4 : w0.cell? ⟨p4, 0, none⟩ = some (.int .i64 many) := (k0.cell (p := ⟨p4, 0, none⟩) q4).trans c4
 have z0 := k0.size
 clear c0 c1 c2 c3 c4
 refine wp_scope_straight ?_
 go_wp2_with fail
 refine (reaches_ok k owner may w0).mono ?_; rintro e w1 ⟨rfl, ⟨r0, r1, r2⟩, k1⟩
 have z1 := k1.size
 have lr := r2.lt
 obtain ⟨rb, hrb⟩ : ∃ rb, w0.heap.size = rb := ⟨_, rfl⟩
 rw [hrb] at r0 r1 r2 lr
 have HRB := Lib.hid hrb
 obtain ⟨w2, hw2⟩ : ∃ w2, w1.alloc (.cells #[.func (.func 197) #[] #[.pointer (some ⟨rb, 0, none⟩), .pointer (some ⟨rb + 1, 0, none⟩), .pointer (some ⟨rb + 1 + 1, 0, none⟩)]] 79) = w2 := ⟨_, rfl⟩
 have k2 : Below w1.heap.size w1 w2 := by rw [← hw2]; exact (Below.refl _ w1).alloc (Nat.le_refl _) _
 have b2 : Blk w2 w1.heap.size #[.func (.func 197) #[] #[.pointer (some ⟨rb, 0, none⟩), .pointer (some ⟨rb + 1, 0, none⟩), .pointer (some ⟨rb + 1 + 1, 0, none⟩)]] 79 := by rw [← hw2]; exact Blk.new w1 _ _
 rw [hrb]
 go_wp2_with fail
 refine wp_label ?_
 clear hw2 hrb
 have g2 : Below rb w0 w2 := by have := k1.trans (k2.mono z1); rw [HRB.out] at this; exact this
 have a3' : w2.cell? ⟨p3, 0, none⟩ = some (.int .u32 at_) := (g2.cell (p := ⟨p3, 0, none⟩) (by have := HRB.out; dsimp only; omega)).trans a3
 have a4' : w2.cell? ⟨p4, 0, none⟩ = some (.int .i64 many) := (g2.cell (p := ⟨p4, 0, none⟩) (by have := HRB.out; dsimp only; omega)).trans a4
 go_wp2_with fail
 refine (vparts_ok at_ many w2).mono ?_; rintro e w3 ⟨rfl, d1, d2, hw3⟩
 have k3 : Below w2.heap.size w2 w3 := by rw [hw3]; exact ((Below.refl _ w2).alloc (Nat.le_refl _) _).alloc (by simp) _
 have z2 := k2.size
 have z3 := k3.size
 obtain ⟨pa, hpa⟩ : ∃ pa, w2.heap.size = pa := ⟨_, rfl⟩
 have HPA := Lib.hid hpa
 rw [hpa] at d1 d2 ⊢
 obtain ⟨g6, hg6⟩ : ∃ g6, w1.heap.size = g6 := ⟨_, rfl⟩
 have HG6 := Lib.hid hg6
 rw [hg6] at b2 ⊢
 have e2 := b2.below k3 b2.lt
 have r0' := (r0.below k2 r0.lt).below k3 (Nat.lt_of_lt_of_le r0.lt z2)
 have r1' := (r1.below k2 r1.lt).below k3 (Nat.lt_of_lt_of_le r1.lt z2)
 have r2' := (r2.below k2 r2.lt).below k3 (Nat.lt_of_lt_of_le r2.lt z2)
 have n3 : MemAt w3 k s := ((m0.step k1).step k2).step k3
 obtain ⟨g5, hg5⟩ : ∃ g5, w.heap.size = g5 := ⟨_, rfl⟩
 have f2 : Below rb w0 w3 := g2.trans (k3.mono (by have := HRB.out; omega))
 have b5 : Blk w3 g5 #[.int .i64 0] 25 := by rw [← hg5]; exact b0.below f2 (by have := b0.lt; have := HRB.out; omega)
 have kw : Below w.heap.size w w3 := k0.trans (f2.mono (by have := HRB.out; omega))
 have l5 : g5 < rb := by have := b0.lt; have := HRB.out; omega
 have l6 := e2.lt
 have l7 := d2.lt
 have HG5 := Lib.hid hg5
 have HKW := Lib.hid kw
 have HS3 := Lib.hid (show rb + 3 ≤ w3.heap.size by have := r2'.lt; omega)
 rw [hg5]
 clear hw3 k1 k2 k3 g2 a0 a1 a2 a3 a4 a3' a4' r0 r1 r2 b0 b2 m0 h hpa hg6 hg5 kw f2 k0
 go_wp2_with fail
 refine wp_rangeB rfl (enters_of Tryz.func198 (by kernel_rfl) rfl) (parts_iter pa (pa + 1) at_ many h0 h1 h2 h3) (fun _ => rfl)
  (fun pre W => (∀ x ∈ pre, rchB s.D owner may x.1 = true) ∧ Below w3.heap.size w3 W)
  (fun c W => c = .ret ∧ (∃ pre x suf, partsL at_ many = pre ++ x :: suf ∧ rchB s.D owner may x.1 = false) ∧ Blk W g5 #[.int .i64 190] 25 ∧ Below g5 w3 W)
  ?a1 (fun pre x b W => Blk W b #[.int .i64 x.1, .int .i64 x.2.1, .int .i64 x.2.2] 160 ∧ w3.heap.size ≤ b ∧ (∀ x ∈ pre, rchB s.D owner may x.1 = true) ∧ Below w3.heap.size w3 W) ?hI ?hIx ?hMid ?hA ?h0 ?hassign ?hbody ?hdone ?hstop
 case hassign =>
  rintro m l pre x suf W K hxs ⟨q1, q2⟩ hlt hK
  unfold encPart
  gi_wp2_with fail
  have hM := hK W.heap.size _ ((KeepsRec.refl W).alloc _) ⟨Blk.new W #[.int .i64 x.1, .int .i64 x.2.1, .int .i64 x.2.2] 160, q2.size, q1, q2.alloc q2.size _⟩
  generalize W.heap.size = b at hM ⊢
  exact hM
 case hI => rintro pre X Y ⟨q1, q2⟩ hk; exact ⟨q1, q2.keeps hk (Nat.le_refl _)⟩
 case hIx => rintro c X Y ⟨q1, q2, q3, q4⟩ hk; exact ⟨q1, q2, q3.keeps hk, q4.keeps hk (by omega)⟩
 case hMid => rintro pre x b X Y ⟨q1, q2, q3, q4⟩ hk; exact ⟨q1.keeps hk, q2, q3, q4.keeps hk (Nat.le_refl _)⟩
 case hA => rintro pre W ⟨_, q⟩; exact ⟨(d1.below q d1.lt).cell 0 rfl, (d2.below q d2.lt).cell 0 rfl⟩
 case h0 => exact ⟨fun x hx => (by cases hx), Below.refl _ _⟩
 case hbody =>
  rintro m l pre x suf b W hxs hl hrec ⟨hX, hbz, hall, hbw⟩
  have e6 : W.cell? ⟨g6, 0, none⟩ = some _ := (e2.below hbw e2.lt).cell 0 rfl
  have f0 : W.cell? ⟨b, 0, none⟩ = some (.int .i64 x.1) := hX.cell 0 rfl
  gi_wp2_with fail
  refine ((reaches1_ok (n3.step hbw) ((r0'.below hbw r0'.lt).cell 0 rfl) ((r1'.below hbw r1'.lt).cell 0 rfl) ((r2'.below hbw r2'.lt).cell 0 rfl) x.1).inR l).mono ?_; rintro e W2 ⟨rfl, j2⟩
  have hb2 : Below w3.heap.size w3 W2 := hbw.trans (j2.mono hbw.size)
  have hr2 : KeepsRec W W2 := KeepsRec.of_below j2 (Nat.le_refl _)
  obtain ⟨y, hy⟩ : ∃ y, rchB s.D owner may x.1 = y := ⟨_, rfl⟩
  have HY := Lib.hid hy
  rw [hy]
  clear hy j2 e6 f0
  cases y
  ·have b5' := b5.below hb2 b5.lt
   have c5 : W2.cell? ⟨g5, 0, none⟩ = some (.int .i64 0) := b5'.cell 0 rfl
   have f5 := b5'.frozen 0
   have HB5 := Lib.hid b5'
   clear b5'
   gi_wp2_with fail
   exact ⟨hr2.setCell _ _, rfl, ⟨_, _, _, hxs, HY.out⟩, HB5.out.set 0 _, (hb2.mono (show g5 ≤ w3.heap.size by have := HS3.out; omega)).setCell (p := ⟨g5, 0, none⟩) (Nat.le_refl _) _⟩
  ·gi_wp2_with fail
   refine ⟨hr2, fun z hz => ?_, hb2⟩
   rcases List.mem_append.1 hz with h | h
   ·exact hall z h
   ·rw [List.mem_singleton.1 h]; exact HY.out
 case hdone =>
  rintro D W hD ⟨q1, q2⟩ hK
  have hr : r = 0 := by rw [← HR.out, if_pos (List.all_eq_true.2 q1)]
  have b5' := b5.below q2 b5.lt
  have c5 : W.cell? ⟨g5, 0, none⟩ = some (.int .i64 0) := b5'.cell 0 rfl
  have f5 := b5'.frozen 0
  have HB5 := Lib.hid b5'
  clear b5'
  go_wp2_with fail
  try rw [Exit.noGoto_ret]
  have hKf : (W.setCell ⟨g5, 0, none⟩ (.int .i64 0)).heap[D]? = some (.deferred (some [])) := (Below.heap_setCell W _ _ D (by dsimp only; omega)).trans hK
  have gF := (HB5.out.set 0 (.int .i64 0)).putObj (.deferred none) (show g5 ≠ D by omega)
  have tF := gF.cell 0 (v := .int .i64 0) rfl
  refine postM_ret (v := .int .i64 0) hKf (by simp [results, Tryz.results171, go_sem, tF]) ⟨by rw [hr], ?_⟩
  have h9 := HS3.out
  rw [HG5.out] at HKW ⊢
  exact below_putObj ((HKW.out.trans (q2.mono (by omega))).setCell (p := ⟨g5, 0, none⟩) (Nat.le_refl _) _) (by omega) _ (Array.getElem?_eq_some_iff.1 hKf).1
 case hstop =>
  rintro D c W hD ⟨rfl, ⟨pre, x, suf, q1, q2⟩, q3, q4⟩ hK
  have hr : r = 190 := by
   rw [← HR.out, if_neg]
   rw [List.all_eq_true]
   intro h9
   have := h9 x (by rw [q1]; simp)
   rw [q2] at this
   cases this
  go_wp2_with fail
  try rw [Exit.noGoto_ret]
  have gF := q3.putObj (.deferred none) (show g5 ≠ D by omega)
  have tF := gF.cell 0 (v := .int .i64 190) rfl
  refine postM_ret (v := .int .i64 190) hK (by simp [results, Tryz.results171, go_sem, tF]) ⟨by rw [hr], ?_⟩
  rw [HG5.out] at HKW ⊢
  exact below_putObj (HKW.out.trans (q4.mono (by omega))) (by omega) _ (Array.getElem?_eq_some_iff.1 hK).1
end Go.Proofs.YtlpchcdalfkfcaaGreat

