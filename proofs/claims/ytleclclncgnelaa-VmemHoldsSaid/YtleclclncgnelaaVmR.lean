/-
  Package pinfoldlaw09: works; calls in memory; few. No condition.
-/
import Derived.Test.YtleclclncgnelaaVmQ
import Derived.Test.YtleclclncgnelaaFrame
import Derived.Test.YtleclclncgnelaaBFrN
import Derived.Deep.Slices
import Derived.Lib.SlBytesConst
namespace Go.Proofs.Ytleclclncgnelaa
open Go.ChangeShapes Go.WideShapes Go.ChangeAt Go.RowKit
attribute [local go_sem] Oper.semAt_some
set_option maxHeartbeats 4000000
set_option maxRecDepth 4000

/-- A memory that was made behind w0. -/
structure LivM (w0 W : World) (k : Mb) (s : Ms) : Prop where
  m : MemAt W k s
  gd : MGd s
  bel : Below w0.heap.size w0 W
  lo : w0.heap.size ≤ k.tm ∧ w0.heap.size ≤ k.pf ∧ w0.heap.size ≤ k.pr
section
variable {w0 W W' : World} {k : Mb} {s s' : Ms}
theorem LivM.step (h : LivM w0 W k s) (j : Below W.heap.size W W') : LivM w0 W' k s := ⟨h.m.step j, h.gd, h.bel.trans (j.mono h.bel.size), h.lo⟩
theorem LivM.chg (h : LivM w0 W k s) (hm : MemAt W' k s') (hg : MGd s') (j : ChgM k W W') : LivM w0 W' k s' := ⟨hm, hg, h.bel.trans (j.below h.lo.1 h.lo.2.1 h.lo.2.2 h.bel.size), h.lo⟩
theorem LivM.reserve (h : LivM w0 W k s) (who n : Int) : Calls Try.prog 8 #[.pointer (some ⟨k.b, 0, none⟩), .int .i64 who, .int .i64 n] W fun e W' => e = .returned (.int .i64 (resErr s.many s.F s.R who n)) ∧
    LivM w0 W' k { s with R := resAfter s.many s.F s.R who n } ∧ ChgM k W W' := by
  refine (vReserve_ok h.m h.gd.g.snd who n).mono ?_
  rintro e W' ⟨rfl, hm, hc⟩
  exact ⟨rfl, h.chg hm (h.gd.res who n) hc, hc⟩
theorem LivM.map (h : LivM w0 W k s) (n owner payer may : Int) : Calls Try.prog 9 #[.pointer (some ⟨k.b, 0, none⟩), .int .i64 n, .int .i64 owner, .int .i64 payer, .int .i64 may] W fun e W' => e = .returned (.int .i64 (vmpE s n owner payer may)) ∧
    LivM w0 W' k (vmpF s n owner payer may) ∧ ChgM k W W' := by
  refine (vMap_ok h.m h.gd.g (by have := h.gd.len; omega) h.gd.gd.srt n owner payer may).mono ?_
  rintro e W' ⟨rfl, hm, hc⟩
  exact ⟨rfl, h.chg hm (h.gd.map n owner payer may).1 hc, hc⟩
theorem LivM.unmap (h : LivM w0 W k s) (n : Int) : Calls Try.prog 10 #[.pointer (some ⟨k.b, 0, none⟩), .int .i64 n] W fun e W' => e = .returned (.int .i64 (vumE s n)) ∧ LivM w0 W' k (vumF s n) ∧ ChgM k W W' := by
  refine (vUnmap_ok h.m h.gd.g h.gd.gd.srt n).mono ?_
  rintro e W' ⟨rfl, hm, hc⟩
  exact ⟨rfl, h.chg hm (h.gd.unm n).1 hc, hc⟩
theorem LivM.store (h : LivM w0 W k s) (owner at_ : Int) (h0 : 0 ≤ at_) (h1 : at_ < 4294967296) {v : Value} (bs : List Int) {B : Nat} (hB : B ≤ W.heap.size) (hv : RowAt B W v bs.length (intVals .u8 bs)) :
    Calls Try.prog 11 #[.pointer (some ⟨k.b, 0, none⟩), .int .i64 owner, .int .u32 at_, v] W fun e W' => e = .returned (.int .i64 (rchE s.D (max owner (-1)) at_ bs.length 2)) ∧ LivM w0 W' k (wrS s (max owner (-1)) at_ bs) ∧ ChgM k W W' := by
  refine (Store_ok h.m h.gd.g owner at_ h0 h1 bs hB hv).mono ?_
  rintro e W' ⟨rfl, hm, hc⟩
  exact ⟨rfl, h.chg hm (h.gd.wr _ at_ bs h0).1 hc, hc⟩
theorem LivM.load (h : LivM w0 W k s) (owner at_ many : Int) (h0 : 0 ≤ at_) (h1 : at_ < 4294967296) (hm : many ≤ 1000000 ∨ 16777216 < many) :
    Calls Try.prog 12 #[.pointer (some ⟨k.b, 0, none⟩), .int .i64 owner, .int .u32 at_, .int .i64 many] W fun e W' => ∃ v, e = .returned (.tuple #[v, .int .i64 (rchE s.D (max owner (-1)) at_ many 1)]) ∧
      W'.ownsRow W.heap.size 5 1 v (rdA s (max owner (-1)) at_ many).length (intVals .u8 (rdA s (max owner (-1)) at_ many)) ∧ Below W.heap.size W W' := Load_ok h.m h.gd.g.snd.b256 owner at_ many h0 h1 hm
end
theorem num_callsV (n : Int) (w : World) : Calls Try.prog 7 #[.int .i64 n] w fun e w' => e = .returned (.int .i64 n) ∧ w = w' := by
  go_enter Try.func7, Try.ntmps7
  go_wp2
  go_ret
  exact ⟨rfl, rfl⟩
def D1 : Tb := [(3, ⟨1, 2, 0⟩)]
def F1 : List Fr := [(0, 1, zeros256)]
def F2 : List Fr := [(0, 1, putL zeros256 0 [97, 98])]
def m0 : Ms := ⟨4, [], [], []⟩
def m1 : Ms := ⟨4, [], [(1, 2)], []⟩
def m2 : Ms := ⟨4, F1, [(1, 2)], D1⟩
def m3 : Ms := ⟨4, F2, [(1, 2)], D1⟩
theorem mm1 : ({ m0 with R := resAfter m0.many m0.F m0.R 1 2 } : Ms) = m1 := by decide +kernel
theorem mm2 : vmpF m1 3 1 1 2 = m2 := by decide +kernel
theorem mm3 : wrS m2 (max 1 (-1)) 768 [97, 98] = m3 := by decide +kernel
theorem mm4 : wrS m3 (max 1 (-1)) 1023 [120, 121] = m3 := by decide +kernel
/-- A row of a constant string. -/
theorem row_marked (w : World) (cs : Array Value) (t : TypeId) (m : Nat × Nat) (n B : Nat) (hB : w.heap.size < B) : RowAt B (w.alloc (.cells cs t m)) (.slice (some ⟨w.heap.size, 0, none⟩) n n) n cs.toList :=
  ⟨_, n, rfl, ⟨Nat.le_refl _, fun h => by cases h⟩, .inr ⟨w.heap.size, 0, rfl, hB, fun i hi => by
    have h1 : (w.alloc (.cells cs t m)).heap[w.heap.size]? = some (.cells cs t m) := by
      show (w.heap.push (.cells cs t m))[w.heap.size]? = _
      simp
    rw [Nat.zero_add]
    unfold World.cell?
    dsimp only
    rw [h1]
    simp⟩⟩
theorem owns_chgM {W W' : World} {k : Mb} {s : Ms} {base : Nat} {e : TypeId} {size : Nat} {v : Value} {n : Nat} {xs : List Value} (ho : W.ownsRow base e size v n xs) (hm : MemAt W k s) (h : ChgM k W W') : W'.ownsRow base e size v n xs := by
  refine ⟨ho.1, ?_⟩
  rcases ho.2 with hn | ⟨g, cap, cur, rfl, hg1, hg, rest⟩
  · exact .inl hn
  · refine .inr ⟨g, cap, cur, rfl, hg1, ?_, rest⟩
    exact h.cells hm hg
set_option maxHeartbeats 16000000 in
theorem works_okV (w : World) : Calls Try.prog 5 #[] w fun e w' => e = .returned (.bool true) ∧ Below w.heap.size w w' := by
  have kc := fun (w : World) (C : Array Value) (n c : Nat) => Lib.run_convert_bytes_const (P := Try.prog) w 35 5 C n c Try.underlying35 Try.underlying5
  go_enter Try.func5, Try.ntmps5
  go_wp2_with fail
  refine (vNew_ok 4 (by decide) (by decide) w).mono ?_; rintro e W ⟨k, rfl, hm, hlo, _, hb⟩
  have L : LivM w W k m0 := ⟨hm, MGd.new 4 (by decide) (by decide), hb, hlo⟩
  clear hm hlo hb
  go_wp2_with fail
  refine (L.reserve 1 2).mono ?_; clear L; (try clear W); rintro e W ⟨rfl, L, _⟩
  rw [mm1] at L
  rw [show resErr m0.many m0.F m0.R 1 2 = 0 by decide +kernel]
  go_wp2_with fail
  refine (L.map 3 1 1 2).mono ?_; clear L; (try clear W); rintro e W ⟨rfl, L, _⟩
  rw [mm2] at L
  rw [show vmpE m1 3 1 1 2 = 0 by decide +kernel]
  go_wp2_with fail
  replace L := L.step ((Below.refl _ W).alloc (Nat.le_refl _) (.cells #[.int .u8 97, .int .u8 98] 5 (2, 3)))
  refine (L.store 1 768 (by decide) (by decide) [97, 98] (Nat.le_refl _) (row_marked W #[.int .u8 97, .int .u8 98] 5 (2, 3) 2 _ (by simp))).mono ?_; clear L; (try clear W); rintro e W ⟨rfl, L, _⟩
  rw [mm3] at L
  rw [show rchE m2.D (max 1 (-1)) 768 (([97, 98] : List Int).length) 2 = 0 by decide +kernel]
  go_wp2_with fail
  refine (L.load 1 769 2 (by decide) (by decide) (.inl (by decide))).mono ?_; rintro e W1 ⟨v1, rfl, o1, b1⟩
  replace L := L.step b1
  rw [show rchE m3.D (max 1 (-1)) 769 2 1 = 0 by decide +kernel]
  rw [show rdA m3 (max 1 (-1)) 769 2 = [98, 0] by decide +kernel] at o1
  replace o1 := owns_weaken o1 (Nat.zero_le _)
  clear b1; (try clear W)
  go_wp2_with fail
  refine (L.load 2 768 1 (by decide) (by decide) (.inl (by decide))).mono ?_; rintro e W ⟨v2, rfl, o2, b2⟩
  replace L := L.step b2
  replace o1 := owns_below o1 b2 (Nat.le_refl _)
  rw [show rchE m3.D (max 2 (-1)) 768 1 1 = 190 by decide +kernel]
  clear o2 b2; (try clear W1)
  go_wp2_with fail
  have kk := (Below.refl W.heap.size W).alloc (Nat.le_refl _) (.cells #[.int .u8 120, .int .u8 121] 5 (2, 3))
  replace L := L.step kk
  replace o1 := owns_below o1 kk (Nat.le_refl _)
  clear kk
  refine (L.store 1 1023 (by decide) (by decide) [120, 121] (Nat.le_refl _) (row_marked W #[.int .u8 120, .int .u8 121] 5 (2, 3) 2 _ (by simp))).mono ?_; rintro e W1 ⟨rfl, L1, hc1⟩
  replace o1 := owns_chgM o1 L.m hc1
  rw [mm4] at L1
  clear L hc1; (try clear W)
  have L := L1
  clear L1
  rw [show rchE m3.D (max 1 (-1)) 1023 (([120, 121] : List Int).length) 2 = 190 by decide +kernel]
  go_wp2_with fail
  refine (L.load 1 1023 1 (by decide) (by decide) (.inl (by decide))).mono ?_; rintro e W ⟨v3, rfl, o3, b3⟩
  replace L := L.step b3
  replace o1 := owns_below o1 b3 (Nat.le_refl _)
  rw [show rchE m3.D (max 1 (-1)) 1023 1 1 = 0 by decide +kernel]
  rw [show rdA m3 (max 1 (-1)) 1023 1 = [0] by decide +kernel] at o3
  replace o3 := owns_weaken o3 (Nat.zero_le _)
  clear b3; (try clear W1)
  go_wp2_with fail
  refine (Peek_ok L.m L.gd.g.snd.b256 768 2 (by decide) (by decide) (.inl (by decide))).mono ?_; rintro e W1 ⟨v4, rfl, o4, b4⟩
  replace L := L.step b4
  replace o1 := owns_below o1 b4 (Nat.le_refl _)
  replace o3 := owns_below o3 b4 (Nat.le_refl _)
  rw [show rchE m3.D (-2) 768 2 1 = 0 by decide +kernel]
  rw [show rdA m3 (-2) 768 2 = [97, 98] by decide +kernel] at o4
  replace o4 := owns_weaken o4 (Nat.zero_le _)
  clear b4; (try clear W)
  go_wp2_with fail
  refine (L.load 1 768 0 (by decide) (by decide) (.inl (by decide))).mono ?_; rintro e W ⟨v5, rfl, o5, b5⟩
  replace L := L.step b5
  replace o1 := owns_below o1 b5 (Nat.le_refl _)
  replace o3 := owns_below o3 b5 (Nat.le_refl _)
  replace o4 := owns_below o4 b5 (Nat.le_refl _)
  rw [show rchE m3.D (max 1 (-1)) 768 0 1 = 2 by decide +kernel]
  clear o5 b5; (try clear W1)
  go_wp2_with fail
  refine (L.load 1 16777215 2 (by decide) (by decide) (.inl (by decide))).mono ?_; rintro e W1 ⟨v6, rfl, o6, b6⟩
  replace L := L.step b6
  replace o1 := owns_below o1 b6 (Nat.le_refl _)
  replace o3 := owns_below o3 b6 (Nat.le_refl _)
  replace o4 := owns_below o4 b6 (Nat.le_refl _)
  rw [show rchE m3.D (max 1 (-1)) 16777215 2 1 = 4 by decide +kernel]
  clear o6 b6; (try clear W)
  have hv1 := run_convert_row (P := Try.prog) [98, 0] (RowAt.of_owns o1 (Nat.le_refl _)) Try.underlying35 Try.underlying5 Try.underlying9
  have hv3 := run_convert_row (P := Try.prog) [0] (RowAt.of_owns o3 (Nat.le_refl _)) Try.underlying35 Try.underlying5 Try.underlying9
  have hv4 := run_convert_row (P := Try.prog) [97, 98] (RowAt.of_owns o4 (Nat.le_refl _)) Try.underlying35 Try.underlying5 Try.underlying9
  rw [show strOfNums [98, 0] = ⟨#[98, 0]⟩ from rfl] at hv1
  rw [show strOfNums [0] = ⟨#[0]⟩ from rfl] at hv3
  rw [show strOfNums [97, 98] = ⟨#[97, 98]⟩ from rfl] at hv4
  have HB := Lib.hid L.bel
  clear L o1 o3 o4 kc
  iterate 11
    go_wp2_with fail
    refine (num_callsV _ _).mono ?_; rintro e W ⟨rfl, rfl⟩
  go_wp2_with fail
  go_ret
  exact ⟨rfl, HB.out⟩
end Go.Proofs.Ytleclclncgnelaa
