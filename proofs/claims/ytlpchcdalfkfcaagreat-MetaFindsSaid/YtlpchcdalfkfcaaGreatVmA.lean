/-
  Package vmem: what a memory is; questions, one by one; New, Reserve. Conditions: books in order.
-/
import Derived.Test.YtlpchcdalfkfcaaGreatFrX
import Derived.Test.YtlpchcdalfkfcaaGreatPgD
namespace Go.Proofs.YtlpchcdalfkfcaaGreat
open Go.RowKit
attribute [local go_sem] Oper.semAt_some
set_option maxHeartbeats 1000000
set_option maxRecDepth 4000

/-- Where a memory lies: its block; the table's, its map's; the pool's, its two maps'. -/
structure Mb where
  b : Nat
  t : Nat
  tm : Nat
  p : Nat
  pf : Nat
  pr : Nat
/-- What it has. -/
structure Ms where
  many : Int
  F : List Fr
  R : List (Int × Int)
  D : Tb
deriving DecidableEq
structure MemAt (W : World) (k : Mb) (s : Ms) : Prop where
  blk : Blk W k.b #[.pointer (some ⟨k.t, 0, none⟩), .pointer (some ⟨k.p, 0, none⟩)] 145
  tb : TblAt W k.t k.tm s.D
  pl : PoolAt W k.p k.pf k.pr s.many s.F s.R
  n1 : k.tm ≠ k.pf
  n2 : k.tm ≠ k.pr
/-- Of what was there, nothing turns but the memory's three maps. -/
structure ChgM (k : Mb) (W W' : World) : Prop where
  os : W'.os = W.os
  tape : W'.tape = W.tape
  output : W'.output = W.output
  size : W.heap.size ≤ W'.heap.size
  block : ∀ i, i < W.heap.size → i ≠ k.tm → i ≠ k.pf → i ≠ k.pr → W'.heap[i]? = W.heap[i]?
theorem ChgM.refl (k : Mb) (W : World) : ChgM k W W := ⟨rfl, rfl, rfl, Nat.le_refl _, fun _ _ _ _ _ => rfl⟩
theorem ChgM.of_below {k : Mb} {W W' : World} (h : Below W.heap.size W W') : ChgM k W W' := ⟨h.os, h.tape, h.output, h.size, fun i hi _ _ _ => h.block i hi⟩
theorem ChgM.of_tm {k : Mb} {W W' : World} (h : Chg k.tm W W') : ChgM k W W' := ⟨h.os, h.tape, h.output, h.size, fun i hi h1 _ _ => h.block i hi h1⟩
theorem ChgM.of_pf {k : Mb} {W W' : World} (h : Chg k.pf W W') : ChgM k W W' := ⟨h.os, h.tape, h.output, h.size, fun i hi _ h1 _ => h.block i hi h1⟩
theorem ChgM.of_pr {k : Mb} {W W' : World} (h : Chg k.pr W W') : ChgM k W W' := ⟨h.os, h.tape, h.output, h.size, fun i hi _ _ h1 => h.block i hi h1⟩
theorem ChgM.trans {k : Mb} {X Y Z : World} (h : ChgM k X Y) (j : ChgM k Y Z) : ChgM k X Z :=
  ⟨j.os.trans h.os, j.tape.trans h.tape, j.output.trans h.output, Nat.le_trans h.size j.size, fun i hi h1 h2 h3 => (j.block i (Nat.lt_of_lt_of_le hi h.size) h1 h2 h3).trans (h.block i hi h1 h2 h3)⟩
theorem ChgM.more {k : Mb} {W X Y : World} {n : Nat} (h : ChgM k W X) (j : Below n X Y) (hn : W.heap.size ≤ n) : ChgM k W Y :=
  ⟨j.os.trans h.os, j.tape.trans h.tape, j.output.trans h.output, Nat.le_trans h.size j.size, fun i hi h1 h2 h3 => (j.block i (by omega)).trans (h.block i hi h1 h2 h3)⟩
theorem ChgM.blk {k : Mb} {W W' : World} {c : Nat} {cs : Array Value} {t : TypeId} (h : ChgM k W W') (hb : Blk W c cs t) (h1 : c ≠ k.tm) (h2 : c ≠ k.pf) (h3 : c ≠ k.pr) : Blk W' c cs t := (h.block c hb.lt h1 h2 h3).trans hb
theorem ChgM.below {k : Mb} {W W' : World} {B : Nat} (h : ChgM k W W') (h1 : B ≤ k.tm) (h2 : B ≤ k.pf) (h3 : B ≤ k.pr) (hz : B ≤ W.heap.size) : Below B W W' := ⟨h.os, h.tape, h.output, h.size, fun i hi => h.block i (by omega) (by omega) (by omega) (by omega)⟩
section
variable {W W' : World} {k : Mb} {s : Ms}
theorem MemAt.step (h : MemAt W k s) (j : Below W.heap.size W W') : MemAt W' k s := ⟨h.blk.below j h.blk.lt, h.tb.step j, h.pl.step j, h.n1, h.n2⟩
theorem MemAt.alloc (h : MemAt W k s) (o : Obj) : MemAt (W.alloc o) k s := h.step ((Below.refl _ W).alloc (Nat.le_refl _) o)
theorem MemAt.cells (h : MemAt W k s) : W.cell? ⟨k.b, 0, none⟩ = some (.pointer (some ⟨k.t, 0, none⟩)) ∧ W.cell? ⟨k.b, 1, none⟩ = some (.pointer (some ⟨k.p, 0, none⟩)) := ⟨h.blk.cell 0 rfl, h.blk.cell 1 rfl⟩
theorem MemAt.lts (h : MemAt W k s) : k.tm < W.heap.size ∧ k.pf < W.heap.size ∧ k.pr < W.heap.size := ⟨h.tb.mp.lt, h.pl.fr.lt, h.pl.re.lt⟩
/-- A block of cells is none of the maps. -/
theorem MemAt.nes (h : MemAt W k s) {c : Nat} {cs : Array Value} {t : TypeId} (hb : Blk W c cs t) : c ≠ k.tm ∧ c ≠ k.pf ∧ c ≠ k.pr := by
  refine ⟨?_, ?_, ?_⟩
  · rintro rfl
    obtain ⟨l, _, es, cl, h1, _⟩ := h.tb.mp
    unfold Blk at hb
    rw [h1] at hb; cases hb
  · rintro rfl
    obtain ⟨es, cl, h1, _⟩ := h.pl.fr
    unfold Blk at hb
    rw [h1] at hb; cases hb
  · rintro rfl
    obtain ⟨es, cl, h1, _⟩ := h.pl.re
    unfold Blk at hb
    rw [h1] at hb; cases hb
theorem ChgM.cells (h : ChgM k W W') (hm : MemAt W k s) {c : Nat} {cs : Array Value} {t : TypeId} (hb : Blk W c cs t) : Blk W' c cs t := by
  obtain ⟨h1, h2, h3⟩ := hm.nes hb
  exact h.blk hb h1 h2 h3
theorem MemAt.table (h : MemAt W k s) {D : Tb} (ht : TblAt W' k.t k.tm D) (j : Chg k.tm W W') : MemAt W' k { s with D := D } := by
  obtain ⟨_, h2, h3⟩ := h.nes h.blk
  obtain ⟨q1, _, _⟩ := h.nes h.blk
  obtain ⟨p1, _, _⟩ := h.nes h.pl.blk
  exact ⟨j.blk h.blk q1, ht, ⟨j.blk h.pl.blk p1, j.map h.pl.fr (Ne.symm h.n1), j.map h.pl.re (Ne.symm h.n2), h.pl.ne⟩, h.n1, h.n2⟩
theorem MemAt.frames (h : MemAt W k s) {F : List Fr} (hp : PoolAt W' k.p k.pf k.pr s.many F s.R) (j : Chg k.pf W W') : MemAt W' k { s with F := F } := by
  obtain ⟨_, h2, _⟩ := h.nes h.blk
  obtain ⟨_, t2, _⟩ := h.nes h.tb.blk
  exact ⟨j.blk h.blk h2, h.tb.chg j t2 h.n1, hp, h.n1, h.n2⟩
theorem MemAt.owners (h : MemAt W k s) {R : List (Int × Int)} (hp : PoolAt W' k.p k.pf k.pr s.many s.F R) (j : Chg k.pr W W') : MemAt W' k { s with R := R } := by
  obtain ⟨_, _, h3⟩ := h.nes h.blk
  obtain ⟨_, _, t3⟩ := h.nes h.tb.blk
  exact ⟨j.blk h.blk h3, h.tb.chg j t3 h.n2, hp, h.n1, h.n2⟩
end
theorem vnone_ok {w : World} {k : Mb} {s : Ms} (h : MemAt w k s) : Calls Tryz.prog 80 #[.pointer (some ⟨k.b, 0, none⟩)] w fun e w' => e = .returned (.bool false) ∧ w = w' := by
  obtain ⟨c0, c1⟩ := h.cells
  go_enter Tryz.func80, Tryz.ntmps80
  go_wp2_with fail
  go_ret
  exact ⟨rfl, rfl⟩
/-! ### Questions -/
/-- A question: what is called, with what; its answer. -/
structure Qn where
  fn : Nat
  caps : Array Value
  ans : Int
def firstN : List Qn → Int
  | [] => 0
  | a :: r => if a.ans = 0 then firstN r else a.ans
theorem firstN_hit : ∀ (l : List Qn) (k : Nat) (h : k < l.length), (∀ j (hj : j < l.length), j < k → l[j].ans = 0) → l[k].ans ≠ 0 → firstN l = l[k].ans
  | a :: r, 0, _, _, hw => by simp only [List.getElem_cons_zero] at hw ⊢; rw [firstN, if_neg hw]
  | a :: r, k + 1, h, hn, hw => by
    have h0 := hn 0 (by simp) (by omega)
    simp only [List.getElem_cons_zero] at h0
    simp only [List.getElem_cons_succ] at hw ⊢
    rw [firstN, if_pos h0]
    exact firstN_hit r k (by simpa using h) (fun j hj hjk => hn (j + 1) (by simpa using hj) (by omega)) hw
theorem firstN_none : ∀ (l : List Qn), (∀ j (hj : j < l.length), l[j].ans = 0) → firstN l = 0
  | [], _ => rfl
  | a :: r, h => by
    have h0 := h 0 (by simp)
    simp only [List.getElem_cons_zero] at h0
    rw [firstN, if_pos h0]
    exact firstN_none r fun j hj => h (j + 1) (by simpa using hj)
/-- The questions lie in a row, one is asked behind the other: P k stands behind k of them. -/
structure QRow (w : World) (bb : Nat) (l : List Qn) : Prop where
  c0 : ∀ i (h : i < l.length), w.cell? ⟨bb, i, none⟩ = some (.func (.func l[i].fn) #[] l[i].caps)
structure QAns (l : List Qn) (bb : Nat) (P Z : Nat → World → Prop) : Prop where
  eg : ∀ i (h : i < l.length) args W, (callFunc l[i].fn args).run Tryz.prog W = .ok (.enter l[i].fn args) W
  row : ∀ i W, P i W → QRow W bb l
  ans : ∀ i (h : i < l.length) W, P i W → Calls Tryz.prog l[i].fn l[i].caps W fun e W' => e = .returned (.int .i64 l[i].ans) ∧ (l[i].ans = 0 → P (i + 1) W') ∧ (l[i].ans ≠ 0 → Z i W')
theorem vfirst_ok (w : World) (bb n cap : Nat) (l : List Qn) (hn : n = l.length) (hlen : l.length ≤ 1000) (P Z : Nat → World → Prop) (ha : Hid (QAns l bb P Z)) (h0 : Hid (P 0 w)) :
    Calls Tryz.prog 89 #[.slice (some ⟨bb, 0, none⟩) n cap] w fun e w' => e = .returned (.int .i64 (firstN l)) ∧ (firstN l = 0 → P l.length w') ∧ (firstN l ≠ 0 → ∃ (k : Nat) (h : k < l.length), l[k].ans ≠ 0 ∧ (∀ j (hj : j < l.length), j < k → l[j].ans = 0) ∧ Z k w') := by
  subst hn
  go_enter Tryz.func89, Tryz.ntmps89
  go_wp2_with fail
  refine wp_scope_fwd 0 rfl ?_
  go_wp2_with (first | go_step3 | rw [fwd_goto] | rw [fwd_ret] | rw [Exit.noGoto_ret])
  go_loopw [7] (fun i wr => ∃ k : Nat, k ≤ l.length ∧ i = .int .i64 k ∧ (∀ j (hj : j < l.length), j < k → l[j].ans = 0) ∧ Hid (P k wr)) (fun i _ => l.length - (intOf i).toNat)
  case atStart => exact ⟨0, by omega, rfl, fun j _ hj => by omega, h0⟩
  case round =>
    obtain ⟨k, hk, rfl, hn, hb⟩ := hrel
    have HN := Lib.hid hn
    clear hn h0
    by_cases hlt : k < l.length
    · have q0 := (ha.out.row k wr hb.out).c0 k hlt
      have i0 : (0 : Int) ≤ k := by omega
      have i1 : (k : Int) < l.length := by omega
      have hcall := Lib.hid (ha.out.ans k hlt wr hb.out)
      have heg := ha.out.eg k hlt
      obtain ⟨v, hv⟩ : ∃ v, l[k].ans = v := ⟨_, rfl⟩
      have HV := Lib.hid hv
      rw [hv] at hcall
      clear hv
      go_wp2_with fail
      refine (hcall.out).mono ?_; rintro e w1 ⟨rfl, h1, h2⟩
      have H1 := Lib.hid h1
      have H2 := Lib.hid h2
      clear h1 h2
      by_cases hp : v = 0
      · subst hp
        go_wp2_with fail
        go_roundw
        case rel => exact ⟨k + 1, by omega, by go_num, fun j hj hjk => by rcases Nat.lt_or_ge j k with h | h; exact HN.out j hj h; (have : j = k := by omega); subst this; exact HV.out, Lib.hid (H1.out trivial)⟩
        case measure => simp [intOf]; omega
      · have hres := Lib.hid ((firstN_hit l k hlt (fun j hj hjk => HN.out j hj hjk) (by rw [HV.out]; exact hp)).trans HV.out)
        have HP := Lib.hid hp
        go_wp2_with fail
        go_wp2_with (first | go_step3 | rw [fwd_goto] | rw [fwd_ret] | rw [Exit.noGoto_ret])
        go_ret
        exact ⟨by rw [hres.out]; rfl, fun h => absurd (hres.out.symm.trans h) HP.out, fun _ => ⟨k, hlt, by rw [HV.out]; exact HP.out, fun j hj hjk => HN.out j hj hjk, H2.out HP.out⟩⟩
    · obtain rfl : k = l.length := by omega
      have hres := Lib.hid (firstN_none l fun j hj => HN.out j hj hj)
      go_wp2_with fail
      rw [fwd_ret]
      go_ret
      exact ⟨by rw [hres.out]; rfl, fun _ => hb.out, fun h => absurd hres.out h⟩
theorem is1_ok {w : World} {p q f : Nat} {caps : Array Value} {e : Int} {b : Bool} {R : World → Prop} (h1 : w.cell? ⟨p, 0, none⟩ = some (.func (.func f) #[] caps)) (h2 : w.cell? ⟨q, 0, none⟩ = some (.int .i64 e)) (eg : ∀ args W, (callFunc f args).run Tryz.prog W = .ok (.enter f args) W)
    (hf : Calls Tryz.prog f caps w fun e w' => e = .returned (.bool b) ∧ Below w.heap.size w w') :
    Calls Tryz.prog 155 #[.pointer (some ⟨p, 0, none⟩), .pointer (some ⟨q, 0, none⟩)] w fun r w' => r = .returned (.int .i64 (if b = true then 0 else e)) ∧ Below w.heap.size w w' := by
  have hl := World.block_lt_of_cell? w _ h2
  go_enter Tryz.func155, Tryz.ntmps155
  go_wp2_with fail
  refine hf.mono ?_; rintro r w1 ⟨rfl, k1⟩
  have h3 : w1.cell? ⟨q, 0, none⟩ = some (.int .i64 e) := (k1.cell (p := ⟨q, 0, none⟩) hl).trans h2
  cases b
  · go_wp2_with fail
    go_ret
    exact ⟨rfl, k1⟩
  · go_wp2_with fail
    go_ret
    exact ⟨rfl, k1⟩
theorem is_ok2 (f : Nat) (caps : Array Value) (e : Int) (w : World) : Calls Tryz.prog 91 #[.func (.func f) #[] caps, .int .i64 e] w fun r w' => r = .returned (.func (.func 155) #[] #[.pointer (some ⟨w.heap.size, 0, none⟩), .pointer (some ⟨w.heap.size + 1, 0, none⟩)]) ∧
    Blk w' w.heap.size #[.func (.func f) #[] caps] 35 ∧ Blk w' (w.heap.size + 1) #[.int .i64 e] 25 ∧ Below w.heap.size w w' := by
  go_enter Tryz.func91, Tryz.ntmps91
  go_wp2_with fail
  go_ret
  exact ⟨rfl, (Blk.new w _ _).alloc _, Blk.newAt _ _ _ (by simp), ((Below.refl _ w).alloc (Nat.le_refl _) _).alloc (by simp) _⟩
end Go.Proofs.YtlpchcdalfkfcaaGreat
