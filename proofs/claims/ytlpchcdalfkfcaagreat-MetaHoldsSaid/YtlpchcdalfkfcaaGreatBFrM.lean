/-
 Package frame: Read. Conditions: a pool whose books are in order.
-/
import Derived.Test.YtlpchcdalfkfcaaGreatBFrJ
import Derived.Laws.BytesArg
import Derived.Test.YtlpchcdalfkfcaaGreatBPgA
import Derived.Test.YtlpchcdalfkfcaaGreatBMeP
import Derived.Shelf.SlMaps.Clone
import Derived.Ground.SlmcProg
import Derived.Deep.AppendLies
namespace Go.Proofs.YtlpchcdalfkfcaaGreat
open Go.RowKit
attribute [local go_sem] Oper.semAt_some
set_option maxHeartbeats 4000000
set_option maxRecDepth 4000

theorem info8 : ElemInfo Tryz.prog 5 (.int .u8 0) 1 1 := elemInfo_of (by kernel_rfl) rfl (by decide)
theorem run_eql_slice_nil {P : Program} {t e : TypeId} (ht : P.underlying t = some (.slice e)) (a : Option Addr) (n c : Nat) (w : World) : (binOp .eql t (.slice a n c) (.slice none 0 0)).run P w = .ok (.bool a.isNone) w := by
 have h1 : ∀ d : Nat, (Op.equalIn (d + 1) t (.slice a n c) (.slice none 0 0)).run P w = .ok a.isNone w := fun d => by cases a <;> simp [Op.equalIn, run_underlying ht]
 simp only [binOp]
 simp [Op.equal, Op.maxDepth, h1 9999]
theorem clone_ok (v : Value) (l : List Int) (B : Nat) (w : World) (hB : B ≤ w.heap.size) (hl : l.length < 140737488355328) (hv : RowAt B w v l.length (intVals .u8 l)) :
  Calls Tryz.prog 182 #[v] w fun e w' => ∃ v', e = .returned v' ∧ w'.ownsRow w.heap.size 5 1 v' l.length (intVals .u8 l) ∧ Below w.heap.size w w' := by
 obtain ⟨ad, cap, rfl, hcap, hrow⟩ := id hv
 have HIL := Lib.hid (intVals_len .u8 l)
 cases ad with
 | none =>
  obtain ⟨e0, rfl⟩ := hcap.2 rfl
  obtain rfl : l = [] := List.eq_nil_of_length_eq_zero e0
  have he := run_eql_slice_nil (P := Tryz.prog) Tryz.underlying44 none 0 0 w
  go_enter Tryz.func182, Tryz.ntmps182
  go_wp2_with fail
  go_ret
  exact ⟨_, rfl, ⟨rfl, .inl ⟨rfl, rfl⟩⟩, Below.refl _ _⟩
 | some ad =>
  have he := run_eql_slice_nil (P := Tryz.prog) Tryz.underlying44 (some ad) l.length cap w
  go_enter Tryz.func182, Tryz.ntmps182
  go_wp2_with (at_builtin; refine wpList_append_row rfl _ _ 44 rfl w.heap.size Tryz.underlying44 info8 0 [] rfl ?c1 B l.length (intVals .u8 l) rfl ?c2 ?c3 ?c4 ?c5 ?c6 ?c7 ?_)
  case c1 => exact World.ownsRow_made w #[] 0 (Nat.le_refl _) (by decide) rfl
  case c2 => exact hv.below ((Below.refl _ w).alloc (Nat.le_refl _) _) hB
  case c3 => rw [HIL.out]; omega
  case c4 => exact intVals_one _ _
  case c5 => unfold maxLen; omega
  case c6 => omega
  case c7 => simp
  intro v1 w1 ho1 hg1
  have hb1 : Below w.heap.size w w1 := ((Below.refl _ w).alloc (Nat.le_refl _) _).grown hg1 (by simp) (fun k e => by cases e; exact Nat.le_refl _)
  clear hg1
  go_wp2_with fail
  go_ret
  exact ⟨_, rfl, by simpa using ho1, hb1⟩
theorem slice_lh (g : Nat) (at_ n : Int) (h0 : 0 ≤ at_) (h1 : 0 ≤ n) (h2 : n ≤ 256 - at_) (W : World) : ∃ ad : Addr, (at_ < 256 → ad = ⟨g, 1 + at_.toNat, none⟩) ∧
  (Instr.sliceAt 212 (.pointer (some ⟨g, 1, none⟩)) (some (.int .i64 at_)) (some (.int .i64 (at_ + n))) none).run Tryz.prog W = .ok (.slice (some ad) n.toNat (256 - at_.toNat)) W := by
 refine ⟨if 256 = at_.toNat then ⟨g, 1, none⟩ else (⟨g, 1, none⟩ : Addr).add at_.toNat, fun h => ?_, ?_⟩
 ·rw [if_neg (by omega)]
  unfold Addr.add
  split <;> simp_all
 ·have hal : Tryz.prog.arrayLen 212 = 256 := by kernel_rfl
  have hsz : (sizeOf (Tryz.prog.elem 212)).run Tryz.prog W = .ok 1 W := by kernel_rfl
  have := run_sliceAt_array_lh (P := Tryz.prog) W 212 ⟨g, 1, none⟩ (by kernel_rfl) .i64 .i64 at_ (at_ + n) h0 (by omega) (by rw [hal]; omega)
  rw [this, hal, hsz]
  simp [slicedAt]
  omega
def bytesF (F : List Fr) (fr : Int) : List Int := ((F.find? fun x => x.1 == fr).map (·.2.2)).getD zeros256
theorem look_bytes (F : List Fr) (fr : Int) : ∃ o, (getA (encF F) fr).getD (.agg (takenA 0 zeros256)) = .agg (takenA o (bytesF F fr)) := by
 unfold getA bytesF encF
 rw [List.find?_map]
 simp only [Function.comp_def]
 cases h : F.find? fun x => x.1 == fr with
 | none => exact ⟨0, rfl⟩
 | some q => exact ⟨q.2.1, rfl⟩
theorem bytesF_len {F : List Fr} (h256 : ∀ x ∈ F, x.2.2.length = 256) (fr : Int) : (bytesF F fr).length = 256 := by
 unfold bytesF
 cases h : F.find? fun x => x.1 == fr with
 | none => rfl
 | some q => exact h256 q (List.mem_of_find?_eq_some h)
def redErr (many : Int) (F : List Fr) (fr at_ n : Int) : Int := thrErr many F fr at_ n
def redL (many : Int) (F : List Fr) (fr at_ n : Int) : List Int := if redErr many F fr at_ n = 0 then ((bytesF F fr).drop at_.toNat).take n.toNat else []
theorem Read_ok {w : World} {b bf br : Nat} {many : Int} {F : List Fr} {R : List (Int × Int)} (hpo : PoolAt w b bf br many F R) (h256 : ∀ x ∈ F, x.2.2.length = 256) (fr at_ n : Int) :
  Calls Tryz.prog 129 #[.pointer (some ⟨b, 0, none⟩), .int .i64 fr, .int .i64 at_, .int .i64 n] w fun e w' => ∃ v, e = .returned (.tuple #[v, .int .i64 (redErr many F fr at_ n)]) ∧
   w'.ownsRow w.heap.size 5 1 v (redL many F fr at_ n).length (intVals .u8 (redL many F fr at_ n)) ∧ Below w.heap.size w w' := by
 obtain ⟨q, hq⟩ : ∃ q, redErr many F fr at_ n = q := ⟨_, rfl⟩
 have HQ := Lib.hid hq
 rw [hq]
 go_enter Tryz.func129, Tryz.ntmps129
 go_wp2_with fail
 refine (there_calls hpo h256 fr at_ n).mono ?_; rintro e w1 ⟨rfl, h1⟩
 rw [show thrErr many F fr at_ n = q from hq]
 clear hq
 have hP1 := hpo.step h1
 obtain ⟨c0, c1, c2⟩ := hP1.cells
 have hz1 := h1.size
 by_cases h9 : q = 0
 ·subst h9
  obtain ⟨o, hcs9⟩ := look_bytes F fr
  have h25 := bytesF_len h256 fr
  obtain ⟨bs, hbs⟩ : ∃ bs, bytesF F fr = bs := ⟨_, rfl⟩
  rw [hbs] at hcs9 h25
  have HL := Lib.hid (show redL many F fr at_ n = (bs.drop at_.toNat).take n.toNat by unfold redL; rw [if_pos HQ.out, hbs])
  clear hbs
  have hcz := takenA_size o bs h25
  have hlk := (hP1.fr.lookup (P := Tryz.prog) Tryz.underlying184 Tryz.underlying3 (zero_taken w1) fr).1
  rw [hcs9] at hlk
  have hfill : (storeCells ⟨w1.heap.size, 0, none⟩ (takenA o bs).toList).run Tryz.prog (w1.alloc (.cells Tryz.zeroCells214 214)) = .ok () (w1.alloc (.cells (takenA o bs) 214)) := fill_taken w1 o bs h25
  obtain ⟨z1, z2, z3, z4, z5, z6, z7⟩ := thr_zero HQ.out
  obtain ⟨ad, had, hsl⟩ := slice_lh w1.heap.size at_ n z3 z5 z6 (w1.alloc (.cells (takenA o bs) 214))
  have hsum : IntKind.i64.wrap (at_ + n) = at_ + n := IntWalk.i64_in _ (by omega)
  have k1 : Below w1.heap.size w1 (w1.alloc (.cells (takenA o bs) 214)) := (Below.refl _ w1).alloc (Nat.le_refl _) _
  have hBk := Blk.new w1 (takenA o bs) 214
  have hlen : ((bs.drop at_.toNat).take n.toNat).length = n.toNat := by simp; omega
  have hrow : RowAt (w1.heap.size + 1) (w1.alloc (.cells (takenA o bs) 214)) (.slice (some ad) n.toNat (256 - at_.toNat)) ((bs.drop at_.toNat).take n.toNat).length (intVals .u8 ((bs.drop at_.toNat).take n.toNat)) := by
   refine ⟨some ad, 256 - at_.toNat, by rw [hlen], ⟨by omega, fun h => by cases h⟩, ?_⟩
   by_cases hn : n = 0
   ·subst hn; left; simp [intVals]
   ·right
    refine ⟨w1.heap.size, 1 + at_.toNat, by rw [had (by omega)], by omega, fun i hi => ?_⟩
    have hi2 : i < n.toNat := by rw [intVals_len, hlen] at hi; exact hi
    rw [hBk.cell (1 + at_.toNat + i) (v := .int .u8 (bs.getD (at_.toNat + i) 0)) ?_]
    ·have hlt : at_.toNat + i < bs.length := by omega
     simp [intVals, List.getElem?_take, hi2, List.getElem?_drop, List.getElem?_eq_getElem hlt]
    ·have hlt : at_.toNat + i < bs.length := by omega
     unfold takenA
     rw [show 1 + at_.toNat + i = (at_.toNat + i) + 1 by omega]
     simp [intVals, List.getElem?_eq_getElem hlt]
  have HR := Lib.hid hrow
  clear hrow hBk had hlen
  go_wp2_with fail
  refine (clone_ok _ _ (w1.heap.size + 1) _ (by simp) (by simp; omega) HR.out).mono ?_; rintro e w2 ⟨v, rfl, ho, h2⟩
  go_wp2_with fail
  go_ret2
  refine ⟨v, rfl, ?_, h1.trans ((k1.trans (h2.mono (by simp))).mono hz1)⟩
  rw [HL.out]
  exact owns_weaken ho (by simp; omega)
 ·have HL := Lib.hid (show redL many F fr at_ n = [] by unfold redL; rw [HQ.out, if_neg h9])
  go_wp2_with fail
  go_ret2
  refine ⟨_, rfl, ?_, h1⟩
  rw [HL.out]
  exact ⟨rfl, .inl ⟨rfl, rfl⟩⟩
end Go.Proofs.YtlpchcdalfkfcaaGreat


/-
 Package pinfoldlaw07: num, works. No condition.
-/
namespace Go.Proofs.YtlpchcdalfkfcaaGreat
open Go.RowKit
attribute [local go_sem] Oper.semAt_some
set_option maxHeartbeats 4000000
set_option maxRecDepth 4000

/-- A pool that was made behind w0. -/
structure Live (w0 W : World) (b bf br : Nat) (many : Int) (F : List Fr) (R : List (Int × Int)) : Prop where
 pool : PoolAt W b bf br many F R
 bel : Below w0.heap.size w0 W
 lf : w0.heap.size ≤ bf
 lr : w0.heap.size ≤ br
section
variable {w0 W W' : World} {b bf br : Nat} {many : Int} {F F' : List Fr} {R R' : List (Int × Int)}
end
end Go.Proofs.YtlpchcdalfkfcaaGreat


/-
 Groundwork: an iterator that first makes memory of its own (how much is not told), and then gives just the list xs.
-/
namespace Go.Proofs.YtlpchcdalfkfcaaGreat
open Go.RowKit
variable {P : Program}

end Go.Proofs.YtlpchcdalfkfcaaGreat


/-
 Package frame: All. Conditions: a pool, its keys ints.
-/
namespace Go.Proofs
open Go.RowKit Go.Maps Go.Sort Go.Shelf
end Go.Proofs
namespace Go.Proofs.YtlpchcdalfkfcaaGreat
open Go.RowKit
attribute [local go_sem] Oper.semAt_some
set_option maxHeartbeats 4000000
set_option maxRecDepth 4000

def ownF (F : List Fr) (k : Int) : Int := ((F.find? fun x => x.1 == k).map (·.2.1)).getD 0
end Go.Proofs.YtlpchcdalfkfcaaGreat


/-
 Package pinfoldlaw07: all. Conditions: a pool, its keys ints; at least one is wanted.
-/
namespace Go.Proofs.YtlpchcdalfkfcaaGreat
open Go.RowKit
attribute [local go_sem] Oper.semAt_some
set_option maxHeartbeats 4000000
set_option maxRecDepth 4000

end Go.Proofs.YtlpchcdalfkfcaaGreat


/-
 Package frame: Reserved. Conditions: a pool whose books are in order.
-/
namespace Go.Proofs.YtlpchcdalfkfcaaGreat
open Go.RowKit
attribute [local go_sem] Oper.semAt_some
set_option maxHeartbeats 4000000
set_option maxRecDepth 4000

structure RsvS (b br : Nat) (who : Int) (R : List (Int × Int)) (Y : World) : Prop where
 c1 : Y.cell? ⟨b, 1, none⟩ = some (.map (some br))
 lk : (Instr.lookup 185 (.map (some br)) (.int .i64 who) false).run Tryz.prog Y = .ok (.int .i64 (resvI R who)) Y
theorem RsvS.of {w0 Y : World} {b bf br : Nat} {who many : Int} {F : List Fr} {R : List (Int × Int)} (hpo : PoolAt w0 b bf br many F R) (h : Below w0.heap.size w0 Y) : RsvS b br who R Y := by
 have hc := (hpo.step h).cells
 have hlk := ((hpo.step h).re.lookup (P := Tryz.prog) Tryz.underlying185 Tryz.underlying3 (zero_int Y) who).1
 rw [getA_encR] at hlk
 exact ⟨hc.2.1, hlk⟩
def rsvdI (R : List (Int × Int)) (who : Int) : Int := if who < 0 then 0 else resvI R who
def rsvdH (F : List Fr) (who : Int) : Int := if who < 0 then 0 else (hasF F who : Int)
theorem Reserved_ok {w : World} {b bf br : Nat} {many : Int} {F : List Fr} {R : List (Int × Int)} (hpo : PoolAt w b bf br many F R) (hs : Sound many F R) (who : Int) :
  Calls Tryz.prog 88 #[.pointer (some ⟨b, 0, none⟩), .int .i64 who] w fun e w' => e = .returned (.tuple #[.int .i64 (rsvdI R who), .int .i64 (rsvdH F who)]) ∧ Below w.heap.size w w' := by
 by_cases h0 : who < 0
 ·have e1 : rsvdI R who = 0 := if_pos h0
  have e2 : rsvdH F who = 0 := if_pos h0
  rw [e1, e2]
  clear e1 e2
  go_enter Tryz.func88, Tryz.ntmps88
  go_wp2_with fail
  refine (none_live hpo).mono ?_; rintro e w1 ⟨rfl, h1⟩
  go_wp2_with fail
  go_ret2
  exact ⟨rfl, h1⟩
 ·have e1 : rsvdI R who = resvI R who := if_neg h0
  have e2 : rsvdH F who = hasF F who := if_neg h0
  rw [e1, e2]
  clear e1 e2
  go_enter Tryz.func88, Tryz.ntmps88
  go_wp2_with fail
  refine (none_live hpo).mono ?_; rintro e w1 ⟨rfl, h1⟩
  have hp1 := hpo.step h1
  go_wp2_with fail
  have k0 := (Below.refl w1.heap.size w1).drew
  refine wp_region_held_drew (S := RsvS b br who R) (by kernel_rfl) (RsvS.of hp1 k0) (fun hHeld => ?_)
  refine wpAnyH_take (i := 0) (v := ?_) rfl (by kernel_rfl) (by kernel_rfl) (by kernel_rfl) (fun _ _ _ h => h) (Or.inl ⟨by rfl, ?_⟩) (by assumption) ?_
  rotate_left
  ·(intro Y hSw; (try dsimp only at hSw); obtain ⟨hS0, hS1⟩ := hSw; go_simp; try with_reducible rfl)
  try simp only [Act.put, pu1, pu2, pu3, pu4, pu5, pu6]
  refine wpAnyH_take (i := 1) (v := ?_) rfl (by kernel_rfl) (by kernel_rfl) (by kernel_rfl) (fun _ _ _ h => h) (Or.inl ⟨by rfl, ?_⟩) (by assumption) ?_
  rotate_left
  ·(intro Y hSw; (try dsimp only at hSw); obtain ⟨hS0, hS1⟩ := hSw; go_simp; try with_reducible rfl)
  try simp only [Act.put, pu1, pu2, pu3, pu4, pu5, pu6]
  refine wpAnyH_take (i := 2) (v := ?_) rfl (by kernel_rfl) (by kernel_rfl) (by kernel_rfl) (fun _ _ _ h => h) (Or.inl ⟨by rfl, ?_⟩) (by assumption) ?_
  rotate_left
  ·(intro Y hSw; (try dsimp only at hSw); obtain ⟨hS0, hS1⟩ := hSw; go_simp; try with_reducible rfl)
  try simp only [Act.put, pu1, pu2, pu3, pu4, pu5, pu6]
  refine wpAnyH_take (i := 3) (v := ?_) rfl (by kernel_rfl) (by kernel_rfl) (by kernel_rfl) (fun _ _ _ h => h) (Or.inl ⟨by rfl, ?_⟩) (by assumption) ?_
  rotate_left
  ·(intro Y hSw; (try dsimp only at hSw); obtain ⟨hS0, hS1⟩ := hSw; go_simp; try with_reducible rfl)
  try simp only [Act.put, pu1, pu2, pu3, pu4, pu5, pu6]
  refine wpAnyH_take (i := 4) (v := ?_) rfl (by kernel_rfl) (by kernel_rfl) (by kernel_rfl) (fun _ _ _ h => h) (Or.inl ⟨by rfl, ?_⟩) (by assumption) ?_
  rotate_left
  ·(intro Y hSw; (try dsimp only at hSw); obtain ⟨hS0, hS1⟩ := hSw; go_simp; try with_reducible rfl)
  try simp only [Act.put, pu1, pu2, pu3, pu4, pu5, pu6]
  refine wpAnyH_take (i := 5) (v := ?_) rfl (by kernel_rfl) (by kernel_rfl) (by kernel_rfl) (fun _ _ _ h => h) (Or.inl ⟨by rfl, ?_⟩) (by assumption) ?_
  rotate_left
  ·(intro Y hSw; (try dsimp only at hSw); obtain ⟨hS0, hS1⟩ := hSw; go_simp; try with_reducible rfl)
  try simp only [Act.put, pu1, pu2, pu3, pu4, pu5, pu6]
  refine wpAnyH_take (i := 6) (v := ?_) rfl (by kernel_rfl) (by kernel_rfl) (by kernel_rfl) (fun _ _ _ h => h) (Or.inl ⟨by rfl, ?_⟩) (by assumption) ?_
  rotate_left
  ·(intro Y hSw; (try dsimp only at hSw); obtain ⟨hS0, hS1⟩ := hSw; go_simp; try with_reducible rfl)
  try simp only [Act.put, pu1, pu2, pu3, pu4, pu5, pu6]
  refine wpAnyH_take (i := 7) (v := ?_) rfl (by kernel_rfl) (by kernel_rfl) (by kernel_rfl) (fun _ _ _ h => h) (Or.inl ⟨by rfl, ?_⟩) (by assumption) ?_
  rotate_left
  ·(intro Y hSw; (try dsimp only at hSw); obtain ⟨hS0, hS1⟩ := hSw; go_simp; try with_reducible rfl)
  try simp only [Act.put, pu1, pu2, pu3, pu4, pu5, pu6]
  refine wpAnyH_take (i := 8) (v := ?_) rfl (by kernel_rfl) (by kernel_rfl) (by kernel_rfl) (fun _ _ _ h => h) (Or.inl ⟨by rfl, ?_⟩) (by assumption) ?_
  rotate_left
  ·(intro Y hSw; (try dsimp only at hSw); obtain ⟨hS0, hS1⟩ := hSw; go_simp; try with_reducible rfl)
  try simp only [Act.put, pu1, pu2, pu3, pu4, pu5, pu6]
  refine wpAnyH_ready (rs := [9]) (by kernel_rfl) (by simp) ?_
  refine AllReadyH.cons rfl (fun K hK => ?_) AllReadyH.nil
  go_simp
  refine (has_calls (hp1.step k0) hs who).mono ?_; rintro e w2 ⟨rfl, h2⟩
  have k2 := k0.trans (h2.mono (Nat.le_refl _))
  go_wp2_with fail
  refine hK.out _ _ (RsvS.of hp1 k2) (fun hHeld => ?_)
  clear hK K
  try simp only [Act.put, pu1, pu2, pu3, pu4, pu5, pu6]
  refine wpAnyH_take (i := 10) (v := ?_) rfl (by kernel_rfl) (by kernel_rfl) (by kernel_rfl) (fun _ _ _ h => h) (Or.inl ⟨by rfl, ?_⟩) (by assumption) ?_
  rotate_left
  ·(intro Y hSw; (try dsimp only at hSw); obtain ⟨hS0, hS1⟩ := hSw; go_simp; try with_reducible rfl)
  try simp only [Act.put, pu1, pu2, pu3, pu4, pu5, pu6]
  refine wpAnyH_take (i := 11) (v := ?_) rfl (by kernel_rfl) (by kernel_rfl) (by kernel_rfl) (fun _ _ _ h => h) (Or.inl ⟨by rfl, ?_⟩) (by assumption) ?_
  rotate_left
  ·(intro Y hSw; (try dsimp only at hSw); obtain ⟨hS0, hS1⟩ := hSw; go_simp; try with_reducible rfl)
  try simp only [Act.put, pu1, pu2, pu3, pu4, pu5, pu6]
  refine wpAnyH_done (by kernel_rfl) ?_ _
  go_wp2_with fail
  go_ret2
  exact ⟨rfl, h1.trans (k2.mono h1.size)⟩
end Go.Proofs.YtlpchcdalfkfcaaGreat

