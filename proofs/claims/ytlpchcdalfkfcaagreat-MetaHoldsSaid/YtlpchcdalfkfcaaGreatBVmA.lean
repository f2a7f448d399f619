/-
 Package vmem: what a memory is; questions, one by one; New, Reserve. Conditions: books in order.
-/
import Derived.Test.YtlpchcdalfkfcaaGreatBFrT
import Derived.Test.YtlpchcdalfkfcaaGreatBPgD
namespace Go.Proofs.YtlpchcdalfkfcaaGreat
open Go.RowKit
attribute [local go_sem] Oper.semAt_some
set_option maxHeartbeats 1000000
set_option maxRecDepth 4000

/-- Where a memory lies: its block; the table's, its map's; the pool's, its two maps'. -/
structure Mb where
 b : Nat
 t : Nat
 tm : Nat
 p : Nat
 pf : Nat
 pr : Nat
/-- What it has. -/
structure Ms where
 many : Int
 F : List Fr
 R : List (Int × Int)
 D : Tb
deriving DecidableEq
structure MemAt (W : World) (k : Mb) (s : Ms) : Prop where
 blk : Blk W k.b #[.pointer (some ⟨k.t, 0, none⟩), .pointer (some ⟨k.p, 0, none⟩)] 145
 tb : TblAt W k.t k.tm s.D
 pl : PoolAt W k.p k.pf k.pr s.many s.F s.R
 n1 : k.tm ≠ k.pf
 n2 : k.tm ≠ k.pr
/-- Of what was there, nothing turns but the memory's three maps. -/
structure ChgM (k : Mb) (W W' : World) : Prop where
 os : W'.os = W.os
 tape : W'.tape = W.tape
 output : W'.output = W.output
 size : W.heap.size ≤ W'.heap.size
 block : ∀ i, i < W.heap.size → i ≠ k.tm → i ≠ k.pf → i ≠ k.pr → W'.heap[i]? = W.heap[i]?
theorem ChgM.of_below {k : Mb} {W W' : World} (h : Below W.heap.size W W') : ChgM k W W' := ⟨h.os, h.tape, h.output, h.size, fun i hi _ _ _ => h.block i hi⟩
theorem ChgM.of_tm {k : Mb} {W W' : World} (h : Chg k.tm W W') : ChgM k W W' := ⟨h.os, h.tape, h.output, h.size, fun i hi h1 _ _ => h.block i hi h1⟩
theorem ChgM.of_pf {k : Mb} {W W' : World} (h : Chg k.pf W W') : ChgM k W W' := ⟨h.os, h.tape, h.output, h.size, fun i hi _ h1 _ => h.block i hi h1⟩
theorem ChgM.of_pr {k : Mb} {W W' : World} (h : Chg k.pr W W') : ChgM k W W' := ⟨h.os, h.tape, h.output, h.size, fun i hi _ _ h1 => h.block i hi h1⟩
theorem ChgM.trans {k : Mb} {X Y Z : World} (h : ChgM k X Y) (j : ChgM k Y Z) : ChgM k X Z :=
 ⟨j.os.trans h.os, j.tape.trans h.tape, j.output.trans h.output, Nat.le_trans h.size j.size, fun i hi h1 h2 h3 => (j.block i (Nat.lt_of_lt_of_le hi h.size) h1 h2 h3).trans (h.block i hi h1 h2 h3)⟩
theorem ChgM.more {k : Mb} {W X Y : World} {n : Nat} (h : ChgM k W X) (j : Below n X Y) (hn : W.heap.size ≤ n) : ChgM k W Y :=
 ⟨j.os.trans h.os, j.tape.trans h.tape, j.output.trans h.output, Nat.le_trans h.size j.size, fun i hi h1 h2 h3 => (j.block i (by omega)).trans (h.block i hi h1 h2 h3)⟩
theorem ChgM.blk {k : Mb} {W W' : World} {c : Nat} {cs : Array Value} {t : TypeId} (h : ChgM k W W') (hb : Blk W c cs t) (h1 : c ≠ k.tm) (h2 : c ≠ k.pf) (h3 : c ≠ k.pr) : Blk W' c cs t := (h.block c hb.lt h1 h2 h3).trans hb
theorem ChgM.below {k : Mb} {W W' : World} {B : Nat} (h : ChgM k W W') (h1 : B ≤ k.tm) (h2 : B ≤ k.pf) (h3 : B ≤ k.pr) (hz : B ≤ W.heap.size) : Below B W W' := ⟨h.os, h.tape, h.output, h.size, fun i hi => h.block i (by omega) (by omega) (by omega) (by omega)⟩
section
variable {W W' : World} {k : Mb} {s : Ms}
theorem MemAt.step (h : MemAt W k s) (j : Below W.heap.size W W') : MemAt W' k s := ⟨h.blk.below j h.blk.lt, h.tb.step j, h.pl.step j, h.n1, h.n2⟩
theorem MemAt.cells (h : MemAt W k s) : W.cell? ⟨k.b, 0, none⟩ = some (.pointer (some ⟨k.t, 0, none⟩)) ∧ W.cell? ⟨k.b, 1, none⟩ = some (.pointer (some ⟨k.p, 0, none⟩)) := ⟨h.blk.cell 0 rfl, h.blk.cell 1 rfl⟩
/-- A block of cells is none of the maps. -/
theorem MemAt.nes (h : MemAt W k s) {c : Nat} {cs : Array Value} {t : TypeId} (hb : Blk W c cs t) : c ≠ k.tm ∧ c ≠ k.pf ∧ c ≠ k.pr := by
 refine ⟨?_, ?_, ?_⟩
 ·rintro rfl
  obtain ⟨l, _, es, cl, h1, _⟩ := h.tb.mp
  unfold Blk at hb
  rw [h1] at hb; cases hb
 ·rintro rfl
  obtain ⟨es, cl, h1, _⟩ := h.pl.fr
  unfold Blk at hb
  rw [h1] at hb; cases hb
 ·rintro rfl
  obtain ⟨es, cl, h1, _⟩ := h.pl.re
  unfold Blk at hb
  rw [h1] at hb; cases hb
theorem ChgM.cells (h : ChgM k W W') (hm : MemAt W k s) {c : Nat} {cs : Array Value} {t : TypeId} (hb : Blk W c cs t) : Blk W' c cs t := by
 obtain ⟨h1, h2, h3⟩ := hm.nes hb
 exact h.blk hb h1 h2 h3
theorem MemAt.table (h : MemAt W k s) {D : Tb} (ht : TblAt W' k.t k.tm D) (j : Chg k.tm W W') : MemAt W' k { s with D := D } := by
 obtain ⟨_, h2, h3⟩ := h.nes h.blk
 obtain ⟨q1, _, _⟩ := h.nes h.blk
 obtain ⟨p1, _, _⟩ := h.nes h.pl.blk
 exact ⟨j.blk h.blk q1, ht, ⟨j.blk h.pl.blk p1, j.map h.pl.fr (Ne.symm h.n1), j.map h.pl.re (Ne.symm h.n2), h.pl.ne⟩, h.n1, h.n2⟩
theorem MemAt.frames (h : MemAt W k s) {F : List Fr} (hp : PoolAt W' k.p k.pf k.pr s.many F s.R) (j : Chg k.pf W W') : MemAt W' k { s with F := F } := by
 obtain ⟨_, h2, _⟩ := h.nes h.blk
 obtain ⟨_, t2, _⟩ := h.nes h.tb.blk
 exact ⟨j.blk h.blk h2, h.tb.chg j t2 h.n1, hp, h.n1, h.n2⟩
theorem MemAt.owners (h : MemAt W k s) {R : List (Int × Int)} (hp : PoolAt W' k.p k.pf k.pr s.many s.F R) (j : Chg k.pr W W') : MemAt W' k { s with R := R } := by
 obtain ⟨_, _, h3⟩ := h.nes h.blk
 obtain ⟨_, _, t3⟩ := h.nes h.tb.blk
 exact ⟨j.blk h.blk h3, h.tb.chg j t3 h.n2, hp, h.n1, h.n2⟩
end
theorem vnone_ok {w : World} {k : Mb} {s : Ms} (h : MemAt w k s) : Calls Tryz.prog 80 #[.pointer (some ⟨k.b, 0, none⟩)] w fun e w' => e = .returned (.bool false) ∧ w = w' := by
 obtain ⟨c0, c1⟩ := h.cells
 go_enter Tryz.func80, Tryz.ntmps80
 go_wp2_with fail
 go_ret
 exact ⟨rfl, rfl⟩
/-! ### Questions -/
/-- A question: what is called, with what; its answer. -/
structure Qn where
 fn : Nat
 caps : Array Value
 ans : Int
def firstN : List Qn → Int
 | [] => 0
 | a :: r => if a.ans = 0 then firstN r else a.ans
theorem firstN_hit : ∀ (l : List Qn) (k : Nat) (h : k < l.length), (∀ j (hj : j < l.length), j < k → l[j].ans = 0) → l[k].ans ≠ 0 → firstN l = l[k].ans
 | a :: r, 0, _, _, hw => by simp only [List.getElem_cons_zero] at hw ⊢; rw [firstN, if_neg hw]
 | a :: r, k + 1, h, hn, hw => by
  have h0 := hn 0 (by simp) (by omega)
  simp only [List.getElem_cons_zero] at h0
  simp only [List.getElem_cons_succ] at hw ⊢
  rw [firstN, if_pos h0]
  exact firstN_hit r k (by simpa using h) (fun j hj hjk => hn (j + 1) (by simpa using hj) (by omega)) hw
theorem firstN_none : ∀ (l : List Qn), (∀ j (hj : j < l.length), l[j].ans = 0) → firstN l = 0
 | [], _ => rfl
 | a :: r, h => by
  have h0 := h 0 (by simp)
  simp only [List.getElem_cons_zero] at h0
  rw [firstN, if_pos h0]
  exact firstN_none r fun j hj => h (j + 1) (by simpa using hj)
/-- The questions lie in a row, one is asked behind the other: P k stands behind k of them. -/
structure QRow (w : World) (bb : Nat) (l : List Qn) : Prop where
 c0 : ∀ i (h : i < l.length), w.cell? ⟨bb, i, none⟩ = some (.func (.func l[i].fn) #[] l[i].caps)
structure QAns (l : List Qn) (bb : Nat) (P Z : Nat → World → Prop) : Prop where
 eg : ∀ i (h : i < l.length) args W, (callFunc l[i].fn args).run Tryz.prog W = .ok (.enter l[i].fn args) W
 row : ∀ i W, P i W → QRow W bb l
 ans : ∀ i (h : i < l.length) W, P i W → Calls Tryz.prog l[i].fn l[i].caps W fun e W' => e = .returned (.int .i64 l[i].ans) ∧ (l[i].ans = 0 → P (i + 1) W') ∧ (l[i].ans ≠ 0 → Z i W')
theorem vfirst_ok (w : World) (bb n cap : Nat) (l : List Qn) (hn : n = l.length) (hlen : l.length ≤ 1000) (P Z : Nat → World → Prop) (ha : Hid (QAns l bb P Z)) (h0 : Hid (P 0 w)) :
  Calls Tryz.prog 89 #[.slice (some ⟨bb, 0, none⟩) n cap] w fun e w' => e = .returned (.int .i64 (firstN l)) ∧ (firstN l = 0 → P l.length w') ∧ (firstN l ≠ 0 → ∃ (k : Nat) (h : k < l.length), l[k].ans ≠ 0 ∧ (∀ j (hj : j < l.length), j < k → l[j].ans = 0) ∧ Z k w') := by
 subst hn
 go_enter Tryz.func89, Tryz.ntmps89
 go_wp2_with fail
 refine wp_scope_fwd 0 rfl ?_
 go_wp2_with (first | go_step3 | rw [fwd_goto] | rw [fwd_ret] | rw [Exit.noGoto_ret])
 go_loopw [7] (fun i wr => ∃ k : Nat, k ≤ l.length ∧ i = .int .i64 k ∧ (∀ j (hj : j < l.length), j < k → l[j].ans = 0) ∧ Hid (P k wr)) (fun i _ => l.length - (intOf i).toNat)
 case atStart => exact ⟨0, by omega, rfl, fun j _ hj => by omega, h0⟩
 case round =>
  obtain ⟨k, hk, rfl, hn, hb⟩ := hrel
  have HN := Lib.hid hn
  clear hn h0
  by_cases hlt : k < l.length
  ·have q0 := (ha.out.row k wr hb.out).c0 k hlt
   have i0 : (0 : Int) ≤ k := by omega
   have i1 : (k : Int) < l.length := by omega
   have hcall := Lib.hid (ha.out.ans k hlt wr hb.out)
   have heg := ha.out.eg k hlt
   obtain ⟨v, hv⟩ : ∃ v, l[k].ans = v := ⟨_, rfl⟩
   have HV := Lib.hid hv
   rw [hv] at hcall
   clear hv
   go_wp2_with fail
   refine (hcall.out).mono ?_; rintro e w1 ⟨rfl, h1, h2⟩
   have H1 := Lib.hid h1
   have H2 := Lib.hid h2
   clear h1 h2
   by_cases hp : v = 0
   ·subst hp
    go_wp2_with fail
    go_roundw
    case rel => exact ⟨k + 1, by omega, by go_num, fun j hj hjk => by rcases Nat.lt_or_ge j k with h | h; exact HN.out j hj h; (have : j = k := by omega); subst this; exact HV.out, Lib.hid (H1.out trivial)⟩
    case measure => simp [intOf]; omega
   ·have hres := Lib.hid ((firstN_hit l k hlt (fun j hj hjk => HN.out j hj hjk) (by rw [HV.out]; exact hp)).trans HV.out)
    have HP := Lib.hid hp
    go_wp2_with fail
    go_wp2_with (first | go_step3 | rw [fwd_goto] | rw [fwd_ret] | rw [Exit.noGoto_ret])
    go_ret
    exact ⟨by rw [hres.out]; rfl, fun h => absurd (hres.out.symm.trans h) HP.out, fun _ => ⟨k, hlt, by rw [HV.out]; exact HP.out, fun j hj hjk => HN.out j hj hjk, H2.out HP.out⟩⟩
  ·obtain rfl : k = l.length := by omega
   have hres := Lib.hid (firstN_none l fun j hj => HN.out j hj hj)
   go_wp2_with fail
   rw [fwd_ret]
   go_ret
   exact ⟨by rw [hres.out]; rfl, fun _ => hb.out, fun h => absurd hres.out h⟩
theorem is1_ok {w : World} {p q f : Nat} {caps : Array Value} {e : Int} {b : Bool} {R : World → Prop} (h1 : w.cell? ⟨p, 0, none⟩ = some (.func (.func f) #[] caps)) (h2 : w.cell? ⟨q, 0, none⟩ = some (.int .i64 e)) (eg : ∀ args W, (callFunc f args).run Tryz.prog W = .ok (.enter f args) W)
  (hf : Calls Tryz.prog f caps w fun e w' => e = .returned (.bool b) ∧ Below w.heap.size w w') :
  Calls Tryz.prog 155 #[.pointer (some ⟨p, 0, none⟩), .pointer (some ⟨q, 0, none⟩)] w fun r w' => r = .returned (.int .i64 (if b = true then 0 else e)) ∧ Below w.heap.size w w' := by
 have hl := World.block_lt_of_cell? w _ h2
 go_enter Tryz.func155, Tryz.ntmps155
 go_wp2_with fail
 refine hf.mono ?_; rintro r w1 ⟨rfl, k1⟩
 have h3 : w1.cell? ⟨q, 0, none⟩ = some (.int .i64 e) := (k1.cell (p := ⟨q, 0, none⟩) hl).trans h2
 cases b
 ·go_wp2_with fail
  go_ret
  exact ⟨rfl, k1⟩
 ·go_wp2_with fail
  go_ret
  exact ⟨rfl, k1⟩
theorem is_ok2 (f : Nat) (caps : Array Value) (e : Int) (w : World) : Calls Tryz.prog 91 #[.func (.func f) #[] caps, .int .i64 e] w fun r w' => r = .returned (.func (.func 155) #[] #[.pointer (some ⟨w.heap.size, 0, none⟩), .pointer (some ⟨w.heap.size + 1, 0, none⟩)]) ∧
  Blk w' w.heap.size #[.func (.func f) #[] caps] 35 ∧ Blk w' (w.heap.size + 1) #[.int .i64 e] 25 ∧ Below w.heap.size w w' := by
 go_enter Tryz.func91, Tryz.ntmps91
 go_wp2_with fail
 go_ret
 exact ⟨rfl, (Blk.new w _ _).alloc _, Blk.newAt _ _ _ (by simp), ((Below.refl _ w).alloc (Nat.le_refl _) _).alloc (by simp) _⟩
end Go.Proofs.YtlpchcdalfkfcaaGreat


/-
 Package vmem: New, Reserve; the parts of a reach, one by one. Conditions: books in order; reaches within the addresses.
-/
namespace Go.Proofs.YtlpchcdalfkfcaaGreat
open Go.RowKit
attribute [local go_sem] Oper.semAt_some
set_option maxHeartbeats 2000000
set_option maxRecDepth 4000

theorem there_okV {w : World} {k : Mb} {s : Ms} (h : MemAt w k s) : Calls Tryz.prog 90 #[.pointer (some ⟨k.b, 0, none⟩)] w fun r w' =>
  r = .returned (.func (.func 155) #[] #[.pointer (some ⟨w.heap.size + 1, 0, none⟩), .pointer (some ⟨w.heap.size + 1 + 1, 0, none⟩)]) ∧
  (Blk w' w.heap.size #[.pointer (some ⟨k.b, 0, none⟩)] 38 ∧ Blk w' (w.heap.size + 1) #[.func (.func 154) #[] #[.pointer (some ⟨w.heap.size, 0, none⟩)]] 35 ∧ Blk w' (w.heap.size + 1 + 1) #[.int .i64 1] 25) ∧ Below w.heap.size w w' := by
 obtain ⟨w0, hw0⟩ : ∃ w0, w.alloc (.cells #[.pointer (some ⟨k.b, 0, none⟩)] 38) = w0 := ⟨_, rfl⟩
 have h0 : Blk w0 w.heap.size #[.pointer (some ⟨k.b, 0, none⟩)] 38 := by rw [← hw0]; exact Blk.new w _ _
 have k0 : Below w.heap.size w w0 := by rw [← hw0]; exact (Below.refl _ w).alloc (Nat.le_refl _) _
 have z0 : w0.heap.size = w.heap.size + 1 := by rw [← hw0]; simp
 go_enter Tryz.func90, Tryz.ntmps90
 go_wp2_with fail
 clear hw0
 refine (is_ok2 _ _ _ w0).mono ?_; rintro e w1 ⟨rfl, h1, h2, k1⟩
 go_wp2_with fail
 go_ret
 rw [z0] at h1 h2
 exact ⟨rfl, ⟨h0.below k1 h0.lt, h1, h2⟩, k0.trans (k1.mono (by omega))⟩
theorem there1_ok {w : World} {k : Mb} {s : Ms} (h : MemAt w k s) {p : Nat} (hp : w.cell? ⟨p, 0, none⟩ = some (.pointer (some ⟨k.b, 0, none⟩))) :
  Calls Tryz.prog 154 #[.pointer (some ⟨p, 0, none⟩)] w fun e w' => e = .returned (.bool true) ∧ Below w.heap.size w w' := by
 go_enter Tryz.func154, Tryz.ntmps154
 go_wp2_with fail
 refine (vnone_ok h).mono ?_; rintro e _ ⟨rfl, rfl⟩
 go_wp2_with fail
 go_ret
 exact ⟨rfl, Below.refl _ _⟩
theorem vNew_ok (many : Int) (h0 : 0 ≤ many) (h1 : many ≤ 16384) (w : World) :
  Calls Tryz.prog 37 #[.int .i64 many] w fun e w' => ∃ k : Mb, e = .returned (.tuple #[.pointer (some ⟨k.b, 0, none⟩), .int .i64 0]) ∧ MemAt w' k ⟨many, [], [], []⟩ ∧ (w.heap.size ≤ k.tm ∧ w.heap.size ≤ k.pf ∧ w.heap.size ≤ k.pr) ∧ w.heap.size ≤ k.b ∧ Below w.heap.size w w' := by
 go_enter Tryz.func37, Tryz.ntmps37
 go_wp2_with fail
 refine (New_calls many h0 h1 w).mono ?_; rintro e w1 ⟨b, bf, br, rfl, hp, l1, l2, l3, k1⟩
 have z1 := k1.size
 have f1 := hp.fr.lt
 have f2 := hp.re.lt
 go_wp2_with fail
 refine (New_callsP w1).mono ?_; rintro e w2 ⟨t, tm, rfl, ht, l4, l5, k2⟩
 have z2 := k2.size
 have hp2 := hp.step k2
 go_wp2_with fail
 go_ret2
 exact ⟨⟨w2.heap.size, t, tm, b, bf, br⟩, rfl, ⟨Blk.new _ _ _, ht.alloc _, hp2.alloc _, by dsimp only; omega, by dsimp only; omega⟩, ⟨by dsimp only; omega, l1, l2⟩, by dsimp only; omega, (k1.trans (k2.mono z1)).alloc (by omega) _⟩
theorem vReserve_ok {w : World} {k : Mb} {s : Ms} (h : MemAt w k s) (hs : Sound s.many s.F s.R) (who n : Int) :
  Calls Tryz.prog 38 #[.pointer (some ⟨k.b, 0, none⟩), .int .i64 who, .int .i64 n] w fun e w' => e = .returned (.int .i64 (resErr s.many s.F s.R who n)) ∧
   MemAt w' k { s with R := resAfter s.many s.F s.R who n } ∧ ChgM k w w' := by
 obtain ⟨c0, c1⟩ := h.cells
 go_enter Tryz.func38, Tryz.ntmps38
 go_wp2_with fail
 refine (vnone_ok h).mono ?_; rintro e _ ⟨rfl, rfl⟩
 go_wp2_with fail
 refine (Reserve_ok h.pl hs who n).mono ?_; rintro e w1 ⟨rfl, hp, hc⟩
 have hm := h.owners hp hc
 go_wp2_with fail
 go_ret
 exact ⟨rfl, hm, .of_pr hc⟩
/-! ### Parts -/
/-- The parts from one address to another: a page, a place in it, how many bytes. -/
def partsK : Nat → Int → Int → List (Int × Int × Int)
 | 0, _, _ => []
 | n + 1, f, u => if f < u then (f / 256, f % 256, min (u - f) (256 - f % 256)) :: partsK n (f + min (u - f) (256 - f % 256)) u else []
def partsL (at_ many : Int) : List (Int × Int × Int) := partsK many.toNat at_ (at_ + many)
theorem partsK_end {f u : Int} (h : u ≤ f) : ∀ n, partsK n f u = []
 | 0 => rfl
 | n + 1 => by rw [partsK, if_neg (by omega)]
theorem partsK_step {n : Nat} {f u : Int} (h : f < u) (hn : u - f ≤ n) : partsK n f u = (f / 256, f % 256, min (u - f) (256 - f % 256)) :: partsK (n - 1) (f + min (u - f) (256 - f % 256)) u := by
 obtain ⟨m, rfl⟩ : ∃ m, n = m + 1 := ⟨n - 1, by omega⟩
 rw [partsK, if_pos h]; rfl
def encPart (x : Int × Int × Int) : Value := .agg #[.int .i64 x.1, .int .i64 x.2.1, .int .i64 x.2.2]
theorem vparts_ok (at_ many : Int) (w : World) : Calls Tryz.prog 173 #[.int .u32 at_, .int .i64 many] w fun e w' => e = .returned (.func (.func 198) #[] #[.pointer (some ⟨w.heap.size, 0, none⟩), .pointer (some ⟨w.heap.size + 1, 0, none⟩)]) ∧
  Blk w' w.heap.size #[.int .u32 at_] 24 ∧ Blk w' (w.heap.size + 1) #[.int .i64 many] 3 ∧ w' = (w.alloc (.cells #[.int .u32 at_] 24)).alloc (.cells #[.int .i64 many] 3) := by
 go_enter Tryz.func173, Tryz.ntmps173
 go_wp2_with fail
 go_ret
 exact ⟨rfl, (Blk.new w _ _).alloc _, Blk.newAt _ _ _ (by simp), rfl⟩
structure PaS (pa pm : Nat) (at_ many : Int) (Y : World) : Prop where
 a : Y.cell? ⟨pa, 0, none⟩ = some (.int .u32 at_)
 m : Y.cell? ⟨pm, 0, none⟩ = some (.int .i64 many)
theorem parts_iter (pa pm : Nat) (at_ many : Int) (h0 : 0 ≤ at_) (h1 : at_ < 4294967296) (h2 : 0 ≤ many) (h3 : many ≤ 16777216) :
  IterK Tryz.prog 198 #[.pointer (some ⟨pa, 0, none⟩), .pointer (some ⟨pm, 0, none⟩)] (fun x : Int × Int × Int => #[encPart x]) (partsL at_ many) (PaS pa pm at_ many) := by
 intro l J Jx W hJ hJx hA hY hJ0
 obtain ⟨c0, c1⟩ := hA _ _ hJ0
 have hJd := hJ _ _ _ hJ0 (Keeps.refl _ W).drew
 have e1 : IntKind.i64.wrap at_ = at_ := IntWalk.i64_in _ (by omega)
 have e2 : IntKind.i64.wrap (at_ + many) = at_ + many := IntWalk.i64_in _ (by omega)
 obtain ⟨u, hu⟩ : ∃ u, at_ + many = u := ⟨_, rfl⟩
 have HU := Lib.hid hu
 have hL : partsL at_ many = partsK many.toNat at_ u := by unfold partsL; rw [hu]
 have hu0 : at_ ≤ u ∧ u ≤ 4311744512 := by omega
 rw [hL] at hY ⊢
 clear hL
 refine calls_in Tryz.func198 rfl ?_; simp only [Tryz.ntmps198, List.size_toArray, List.length_cons, List.length_nil, Nat.reduceAdd, Nat.reduceSub, Array.replicate_succ, Array.replicate_zero, List.push_toArray, List.append_toArray, List.nil_append, List.cons_append]
 gi_wp2_with fail
 refine wpIn_wide.2 ?_
 refine wp_onlyN ?_
 refine wp_region_held_drew (S := PaS pa pm at_ many) (by kernel_rfl) ⟨c0, c1⟩ (fun hHeld => ?_)
 change wpAnyH _ _ _ _ _ _ _ _ W.drew
 have hz : W.heap.size ≤ W.drew.heap.size := Nat.le_refl _
 generalize W.drew = Y at hJd hz hHeld ⊢
 refine wpAnyH_take (i := 0) (v := ?_) rfl (by kernel_rfl) (by kernel_rfl) (by kernel_rfl) (fun _ _ _ h => h) (Or.inl ⟨by rfl, ?_⟩) (by assumption) ?_
 rotate_left
 ·(intro Y hSw; (try dsimp only at hSw); obtain ⟨hS0, hS1⟩ := hSw; go_simp; try with_reducible rfl)
 try simp only [Act.put, pu1, pu2, pu3, pu4, pu5, pu6]
 refine wpAnyH_take (i := 1) (v := .int .i64 at_) rfl (by kernel_rfl) (by kernel_rfl) (by kernel_rfl) (fun _ _ _ h => h) (Or.inl ⟨by rfl, by intro Y hSw; go_simp⟩) (by assumption) ?_
 try simp only [Act.put, pu1, pu2, pu3, pu4, pu5, pu6]
 refine wpAnyH_take (i := 2) (v := ?_) rfl (by kernel_rfl) (by kernel_rfl) (by kernel_rfl) (fun _ _ _ h => h) (Or.inl ⟨by rfl, ?_⟩) (by assumption) ?_
 rotate_left
 ·(intro Y hSw; (try dsimp only at hSw); obtain ⟨hS0, hS1⟩ := hSw; go_simp; try with_reducible rfl)
 try simp only [Act.put, pu1, pu2, pu3, pu4, pu5, pu6]
 refine wpAnyH_take (i := 3) (v := .int .i64 at_) rfl (by kernel_rfl) (by kernel_rfl) (by kernel_rfl) (fun _ _ _ h => h) (Or.inl ⟨by rfl, by intro Y hSw; go_simp⟩) (by assumption) ?_
 try simp only [Act.put, pu1, pu2, pu3, pu4, pu5, pu6]
 refine wpAnyH_take (i := 4) (v := ?_) rfl (by kernel_rfl) (by kernel_rfl) (by kernel_rfl) (fun _ _ _ h => h) (Or.inl ⟨by rfl, ?_⟩) (by assumption) ?_
 rotate_left
 ·(intro Y hSw; (try dsimp only at hSw); obtain ⟨hS0, hS1⟩ := hSw; go_simp; try with_reducible rfl)
 try simp only [Act.put, pu1, pu2, pu3, pu4, pu5, pu6]
 refine wpAnyH_take (i := 5) (v := .int .i64 u) rfl (by kernel_rfl) (by kernel_rfl) (by kernel_rfl) (fun _ _ _ h => h) (Or.inl ⟨by rfl, by intro Y hSw; rw [hu] at e2; go_simp⟩) (by assumption) ?_
 try simp only [Act.put, pu1, pu2, pu3, pu4, pu5, pu6]
 refine wpAnyH_take (i := 6) (v := ?_) rfl (by kernel_rfl) (by kernel_rfl) (by kernel_rfl) (fun _ _ _ h => h) (Or.inl ⟨by rfl, ?_⟩) (by assumption) ?_
 rotate_left
 ·(intro Y hSw; (try dsimp only at hSw); obtain ⟨hS0, hS1⟩ := hSw; go_simp; try with_reducible rfl)
 try simp only [Act.put, pu1, pu2, pu3, pu4, pu5, pu6]
 refine wpAnyH_take (i := 7) (v := ?_) rfl (by kernel_rfl) (by kernel_rfl) (by kernel_rfl) (fun _ _ _ h => h) (Or.inl ⟨by rfl, ?_⟩) (by assumption) ?_
 rotate_left
 ·(intro Y hSw; (try dsimp only at hSw); obtain ⟨hS0, hS1⟩ := hSw; go_simp; try with_reducible rfl)
 try simp only [Act.put, pu1, pu2, pu3, pu4, pu5, pu6]
 refine wpAnyH_done (by kernel_rfl) ?_ _
 rw [onlyN_normal]
 clear hHeld hJ0 c0 c1 e1 e2 hu
 gi_wp2_with fail
 gi_loopw [4] (fun i wr => ∃ (f : Int) (pre : List (Int × Int × Int)) (n : Nat), i = .int .i64 f ∧ (at_ ≤ f ∧ f ≤ u ∧ u - f ≤ n) ∧ partsK many.toNat at_ u = pre ++ partsK n f u ∧ J pre wr ∧ W.heap.size ≤ wr.heap.size) (fun i _ => (u - intOf i).toNat)
 case atStart => exact ⟨at_, [], many.toNat, rfl, by have := HU.out; omega, rfl, hJd, hz⟩
 case round =>
  obtain ⟨f, pre, n, rfl, ⟨f0, f1, f2⟩, hsp, hJk, hsz⟩ := hrel
  by_cases hlt : f < u
  ·have hst := partsK_step hlt f2
   rw [hst] at hsp
   obtain ⟨m, hm⟩ : ∃ m, min (u - f) (256 - f % 256) = m := ⟨_, rfl⟩
   rw [hm] at hsp
   have hm1 : 1 ≤ m ∧ m ≤ 256 ∧ f + m ≤ u := by omega
   obtain ⟨fn, tmps, assign, body, hy, hR⟩ := hY _ _ _ _ hsp hJk hsz
   have q1 : f.tdiv 256 = f / 256 := Int.tdiv_eq_ediv_of_nonneg (by omega)
   have q2 : f.tmod 256 = f % 256 := Int.tmod_eq_emod_of_nonneg (by omega)
   have HSP := Lib.hid hsp
   have HM := Lib.hid hm
   change (Instr.yield l #[.agg #[.int .i64 (f / 256), .int .i64 (f % 256), .int .i64 m]]).run Tryz.prog wr = _ at hy
   clear hY hst hsp
   gi_wp2_with fail
   refine (hR _).mono ?_; rintro e W3 (⟨rfl, hJ3, hs3⟩ | ⟨rfl, hJx3, hs3⟩)
   ·gi_wp2_with fail
    go_roundw
    case rel => exact ⟨f + m, _, n - 1, rfl, by omega, by rw [HSP.out]; simp, hJ3, by omega⟩
    case measure => simp [intOf]; omega
   ·gi_wp2_with fail
    refine bodyPost_ret (results_none rfl _ _ _) rfl ?_
    exact ⟨⟨_, rfl⟩, .inr hJx3⟩
  ·obtain rfl : f = u := by omega
   rw [partsK_end (Int.le_refl _), List.append_nil] at hsp
   gi_wp2
   go_end0
   exact ⟨⟨_, rfl⟩, .inl hJk⟩
end Go.Proofs.YtlpchcdalfkfcaaGreat

