/-
  Package frame: what is wrong with a frame, and so many bytes of it. Conditions: a pool whose books are in order.
-/
import Derived.Test.YtlpchcdalfkfcaaGreatBFrI
import Derived.Laws.CopyOwn
namespace Go.Proofs.YtlpchcdalfkfcaaGreat
open Go.RowKit
attribute [local go_sem] Oper.semAt_some
set_option maxHeartbeats 4000000
set_option maxRecDepth 4000

def thrAsks (b pp pf pa pn : Nat) (many : Int) (F : List Fr) (fr at_ n : Int) : List Ask :=
  [⟨153, #[.pointer (some ⟨b, 0, none⟩)], #[], 1, false⟩, ⟨199, #[], #[.pointer (some ⟨pf, 0, none⟩), .pointer (some ⟨pp, 0, none⟩)], 4, offI many fr⟩,
   ⟨200, #[], #[.pointer (some ⟨pa, 0, none⟩), .pointer (some ⟨pn, 0, none⟩)], 4, badI at_ n⟩,
   ⟨201, #[], #[.pointer (some ⟨pp, 0, none⟩), .pointer (some ⟨pf, 0, none⟩)], 5, !inF F fr⟩]
def thrErr (many : Int) (F : List Fr) (fr at_ n : Int) : Int := if offI many fr = true then 4 else if badI at_ n = true then 4 else if inF F fr = true then 0 else 5
theorem thrErr_eq (b pp pf pa pn : Nat) (many : Int) (F : List Fr) (fr at_ n : Int) : firstErr (thrAsks b pp pf pa pn many F fr at_ n) = thrErr many F fr at_ n := by
  cases h : inF F fr <;> simp [firstErr, thrAsks, thrErr, h]
theorem thr_answers {w : World} {b bf br pp pf pa pn : Nat} {fr at_ n many : Int} {F : List Fr} {R : List (Int × Int)} (hpo : PoolAt w b bf br many F R) (h256 : ∀ x ∈ F, x.2.2.length = 256) (hp : w.cell? ⟨pp, 0, none⟩ = some (.pointer (some ⟨b, 0, none⟩)))
    (hf : w.cell? ⟨pf, 0, none⟩ = some (.int .i64 fr)) (ha : w.cell? ⟨pa, 0, none⟩ = some (.int .i64 at_)) (hn : w.cell? ⟨pn, 0, none⟩ = some (.int .i64 n)) : Answers w (thrAsks b pp pf pa pn many F fr at_ n) := by
  constructor
  · intro i h args W
    match i, h with
    | 0, _ => exact enters_of Tryz.func153 (by kernel_rfl) rfl args W
    | 1, _ => exact enters_of Tryz.func199 (by kernel_rfl) rfl args W
    | 2, _ => exact enters_of Tryz.func200 (by kernel_rfl) rfl args W
    | 3, _ => exact enters_of Tryz.func201 (by kernel_rfl) rfl args W
  · intro i h W k
    have tp := (k.cell (p := ⟨pp, 0, none⟩) (World.block_lt_of_cell? w _ hp)).trans hp
    have tf := (k.cell (p := ⟨pf, 0, none⟩) (World.block_lt_of_cell? w _ hf)).trans hf
    have ta := (k.cell (p := ⟨pa, 0, none⟩) (World.block_lt_of_cell? w _ ha)).trans ha
    have tn := (k.cell (p := ⟨pn, 0, none⟩) (World.block_lt_of_cell? w _ hn)).trans hn
    match i, h with
    | 0, _ => exact none_live (hpo.step k)
    | 1, _ => exact thr1_calls (hpo.step k) tf tp
    | 2, _ => exact thr2_calls ta tn
    | 3, _ => exact thr3_calls (hpo.step k) h256 tf tp
theorem there_calls {w : World} {b bf br : Nat} {many : Int} {F : List Fr} {R : List (Int × Int)} (hpo : PoolAt w b bf br many F R) (h256 : ∀ x ∈ F, x.2.2.length = 256) (fr at_ n : Int) :
    Calls Tryz.prog 174 #[.pointer (some ⟨b, 0, none⟩), .int .i64 fr, .int .i64 at_, .int .i64 n] w fun e w' => e = .returned (.int .i64 (thrErr many F fr at_ n)) ∧ Below w.heap.size w w' := by
  obtain ⟨w0, hw0⟩ : ∃ w0, (((w.alloc (.cells #[.pointer (some ⟨b, 0, none⟩)] 137)).alloc (.cells #[.int .i64 fr] 3)).alloc (.cells #[.int .i64 at_] 3)).alloc (.cells #[.int .i64 n] 3) = w0 := ⟨_, rfl⟩
  have hA : Blk w0 w.heap.size #[.pointer (some ⟨b, 0, none⟩)] 137 := by rw [← hw0]; exact (((Blk.new w _ _).alloc _).alloc _).alloc _
  have hB : Blk w0 (w.heap.size + 1) #[.int .i64 fr] 3 := by rw [← hw0]; exact ((Blk.newAt _ _ _ (by simp)).alloc _).alloc _
  have hC : Blk w0 (w.heap.size + 1 + 1) #[.int .i64 at_] 3 := by rw [← hw0]; exact (Blk.newAt _ _ _ (by simp)).alloc _
  have hD : Blk w0 (w.heap.size + 1 + 1 + 1) #[.int .i64 n] 3 := by rw [← hw0]; exact Blk.newAt _ _ _ (by simp)
  have h0 : PoolAt w0 b bf br many F R := by rw [← hw0]; exact (((hpo.alloc _).alloc _).alloc _).alloc _
  have hb0 : Below w.heap.size w w0 := by rw [← hw0]; exact ((((Below.refl _ w).alloc (Nat.le_refl _) _).alloc (by simp) _).alloc (by simp; omega) _).alloc (by simp; omega) _
  have a0 : w0.cell? ⟨w.heap.size, 0, none⟩ = some (.pointer (some ⟨b, 0, none⟩)) := hA.cell 0 rfl
  go_enter Tryz.func174, Tryz.ntmps174
  go_wp2_with fail
  clear hw0
  refine (is_calls _ _).mono ?_; rintro e w1 ⟨rfl, h1⟩
  go_wp2_with fail
  have k2 : Below w0.heap.size w0 (w1.alloc (.cells (askList (thrAsks b w.heap.size (w.heap.size + 1) (w.heap.size + 1 + 1) (w.heap.size + 1 + 1 + 1) many F fr at_ n)).toArray 196)) := (h1.mono (Nat.le_refl _)).alloc h1.size _
  have hrow : AskRow (w1.alloc (.cells (askList (thrAsks b w.heap.size (w.heap.size + 1) (w.heap.size + 1 + 1) (w.heap.size + 1 + 1 + 1) many F fr at_ n)).toArray 196)) w1.heap.size (thrAsks b w.heap.size (w.heap.size + 1) (w.heap.size + 1 + 1) (w.heap.size + 1 + 1 + 1) many F fr at_ n) := askRow_of (Blk.new w1 _ _)
  have hans := thr_answers (h0.step k2) h256 ((hA.below k2 hA.lt).cell 0 rfl) ((hB.below k2 hB.lt).cell 0 rfl) ((hC.below k2 hC.lt).cell 0 rfl) ((hD.below k2 hD.lt).cell 0 rfl)
  refine (asked_ok _ w1.heap.size 4 4 _ rfl (by simp [thrAsks]) (Lib.hid hrow) (Lib.hid hans)).mono ?_; rintro e w4 ⟨rfl, h4⟩
  rw [thrErr_eq]
  go_wp2_with fail
  go_ret
  exact ⟨rfl, hb0.trans ((k2.trans (h4.mono k2.size)).mono hb0.size)⟩
end Go.Proofs.YtlpchcdalfkfcaaGreat


/-
 Package frame: Give. Conditions: a pool whose books are in order.
-/
namespace Go.Proofs.YtlpchcdalfkfcaaGreat
open Go.RowKit
attribute [local go_sem] Oper.semAt_some
set_option maxHeartbeats 4000000
set_option maxRecDepth 4000

end Go.Proofs.YtlpchcdalfkfcaaGreat


/-
 Package frame: Write. Conditions: a pool whose books are in order; bytes that lie elsewhere.
-/
namespace Go.Proofs.YtlpchcdalfkfcaaGreat
open Go.RowKit
attribute [local go_sem] Oper.semAt_some
set_option maxHeartbeats 4000000
set_option maxRecDepth 4000

def putL (bs : List Int) (at_ : Nat) (xs : List Int) : List Int := bs.take at_ ++ (xs ++ bs.drop (at_ + xs.length))
def wrtErr (many : Int) (F : List Fr) (fr at_ : Int) (xs : List Int) : Int := thrErr many F fr at_ xs.length
def putF (F : List Fr) (fr at_ : Int) (xs : List Int) : List Fr := F.map fun x => if x.1 == fr then (x.1, x.2.1, putL x.2.2 at_.toNat xs) else x
def wrtAfter (many : Int) (F : List Fr) (fr at_ : Int) (xs : List Int) : List Fr := if wrtErr many F fr at_ xs = 0 then putF F fr at_ xs else F
/-- The builtin copy, as a fact for the walk: the row g gets cs from off on. -/
theorem run_copy_turn {P : Program} {w : World} {dT sT ty elem : TypeId} (hu : P.underlying dT = some (.slice elem)) (hsz : (P.info? elem).map (·.size) = some 1) {dp sp : Option Addr} {dLen dCap sLen sCap : Nat}
  {g off : Nat} {cur : List Value} {t : TypeId} (hg : Blk w g cur.toArray t) (cs : List Value) (hn : cs.length = Nat.min sLen dLen)
  (hpos : 0 < cs.length → dp = some ⟨g, off, none⟩ ∧ ∃ ad, sp = some ad ∧ ∀ j v, cs[j]? = some v → w.cell? (ad.add j) = some v)
  (hfit : off + cs.length ≤ cur.length) (h1 : ∀ v ∈ cs, v.oneCell' = true) :
  ∃ w', (Builtin.copy_ #[dT, sT] ty #[.slice dp dLen dCap, .slice sp sLen sCap]).run P w = .ok (goInt cs.length) w' ∧ Blk w' g (splice cur off cs).toArray t ∧ Turn g w w' := by
 by_cases h0 : cs.length = 0
 ·obtain rfl : cs = [] := List.eq_nil_of_length_eq_zero h0
  exact ⟨w, run_copy_none (P := P) w dT sT ty elem dp sp dLen dCap sLen sCap hu hsz (by simpa using hn.symm), by simpa [splice] using hg, ⟨rfl, rfl, rfl, rfl, fun _ _ => rfl⟩⟩
 ·obtain ⟨rfl, ad, rfl, hsrc⟩ := hpos (by omega)
  exact ⟨_, run_copy_row (P := P) w dT sT ty elem g off dLen dCap ad sLen sCap cur.toArray t cs hu hsz hg hn hsrc (by simpa using hfit) h1,
   show _ = _ by simpa [splice] using setRow_heap w g _ _ t _ hg, ⟨rfl, rfl, rfl, by simp [World.setRow], fun k hk => setRow_other w g k _ hk⟩⟩
theorem slice_l (g : Nat) (at_ : Int) (h0 : 0 ≤ at_) (h1 : at_ ≤ 256) (W : World) : ∃ ad : Addr, (at_ < 256 → ad = ⟨g, 1 + at_.toNat, none⟩) ∧
  (Instr.sliceAt 212 (.pointer (some ⟨g, 1, none⟩)) (some (.int .i64 at_)) none none).run Tryz.prog W = .ok (.slice (some ad) (256 - at_.toNat) (256 - at_.toNat)) W := by
 refine ⟨if 256 = at_.toNat then ⟨g, 1, none⟩ else (⟨g, 1, none⟩ : Addr).add at_.toNat, fun h => ?_, ?_⟩
 ·rw [if_neg (by omega)]
  unfold Addr.add
  split <;> simp_all
 ·have hal : Tryz.prog.arrayLen 212 = 256 := by kernel_rfl
  have hsz : (sizeOf (Tryz.prog.elem 212)).run Tryz.prog W = .ok 1 W := by kernel_rfl
  have := run_sliceAt_array_l (P := Tryz.prog) W 212 ⟨g, 1, none⟩ (by kernel_rfl) .i64 at_ h0 (by rw [hal]; omega)
  rw [this, hal, hsz]
  simp [slicedAt]
theorem thr_zero {many : Int} {F : List Fr} {fr at_ n : Int} (h : thrErr many F fr at_ n = 0) : 0 ≤ fr ∧ fr < many ∧ 0 ≤ at_ ∧ at_ ≤ 256 ∧ 0 ≤ n ∧ n ≤ 256 - at_ ∧ inF F fr = true := by
 unfold thrErr at h
 by_cases h1 : offI many fr = true
 ·simp [h1] at h
 ·by_cases h2 : badI at_ n = true
  ·simp [h1, h2] at h
  ·by_cases h3 : inF F fr = true
   ·simp only [offI, badI, decide_eq_true_eq, not_or, Int.not_lt, Int.not_le] at h1 h2
    refine ⟨?_, ?_, ?_, ?_, ?_, ?_, h3⟩ <;> omega
   ·simp [h1, h2, h3] at h
theorem splice_taken (o : Int) (bs xs : List Int) (at_ : Nat) (h : bs.length = 256) : (splice (takenA o bs).toList (1 + at_) (intVals .u8 xs)).toArray = takenA o (putL bs at_ xs) := by
 unfold splice takenA putL
 simp [intVals, Nat.add_comm 1 at_, List.take_succ_cons]
 rw [show at_ + 1 + xs.length = (at_ + xs.length) + 1 by omega, List.drop_succ_cons]
theorem putL_len (bs xs : List Int) (at_ : Nat) (h : bs.length = 256) (h1 : at_ + xs.length ≤ 256) : (putL bs at_ xs).length = 256 := by
 unfold putL
 simp
 omega
theorem takenA_inj {o o' : Int} {bs bs' : List Int} (h : takenA o bs = takenA o' bs') : o = o' ∧ bs = bs' := by
 have h' : Value.int .i64 o :: intVals .u8 bs = Value.int .i64 o' :: intVals .u8 bs' := by simpa [takenA] using congrArg Array.toList h
 simp only [List.cons.injEq, Value.int.injEq, true_and] at h'
 exact ⟨h'.1, (List.map_inj_right fun a b hab => by simpa using hab).1 h'.2⟩
theorem encF_keys (F : List Fr) : (encF F).map (·.1) = F.map (·.1) := by simp [encF, Function.comp_def]
theorem setA_putF {F : List Fr} {fr at_ o : Int} {xs bs : List Int} {z : Value} (hn : (F.map (·.1)).Nodup) (hin : inF F fr = true) (hcs : (getA (encF F) fr).getD z = .agg (takenA o bs)) :
  setA (encF F) fr (.agg (takenA o (putL bs at_.toNat xs))) = encF (putF F fr at_ xs) := by
 unfold setA
 rw [hasA_encF, hin, if_pos rfl]
 unfold encF putF
 rw [List.map_map, List.map_map]
 refine List.map_congr_left fun x hx => ?_
 show (if x.1 == fr then _ else _) = _
 by_cases e : x.1 = fr
 ·have e1 : (x.1 == fr) = true := by simpa using e
  simp only [e1, if_true, Function.comp_apply]
  have hf : (encF F).find? (fun p => p.1 == fr) = some (x.1, .agg (takenA x.2.1 x.2.2)) := by
   cases hq : (encF F).find? (fun p => p.1 == fr) with
   | none =>
    have := List.find?_eq_none.1 hq (x.1, .agg (takenA x.2.1 x.2.2)) (List.mem_map.2 ⟨x, hx, rfl⟩)
    simp [e] at this
   | some q =>
    have h1 := List.mem_of_find?_eq_some hq
    have h2 := List.find?_some hq
    obtain ⟨y, hy, rfl⟩ := List.mem_map.1 h1
    have : y = x := inj_of_nodup hn hy hx (by simpa [e] using h2)
    rw [this]
  unfold getA at hcs
  rw [hf] at hcs
  simp only [Option.map_some, Option.getD_some, Value.agg.injEq] at hcs
  obtain ⟨h1, h2⟩ := takenA_inj hcs
  rw [h1, h2, ← e]
 ·have e1 : (x.1 == fr) = false := by simpa using e
  simp [e]
/-- What stands in memory while the new bytes are laid. -/
structure WrtS (b bf g : Nat) (o : Int) (bs : List Int) (Y : World) : Prop where
 c0 : Y.cell? ⟨b, 0, none⟩ = some (.map (some bf))
 hg : Blk Y g (takenA o bs) 214
theorem Write_ok {w : World} {b bf br : Nat} {many : Int} {F : List Fr} {R : List (Int × Int)} (hpo : PoolAt w b bf br many F R) (h256 : ∀ x ∈ F, x.2.2.length = 256) (fr at_ : Int) {v : Value} {n : Nat} (xs : List Int) (hv : RowAt w.heap.size w v n (intVals .u8 xs)) (hn : n = xs.length) :
  Calls Tryz.prog 101 #[.pointer (some ⟨b, 0, none⟩), .int .i64 fr, .int .i64 at_, v] w fun e w' => e = .returned (.int .i64 (wrtErr many F fr at_ xs)) ∧ PoolAt w' b bf br many (wrtAfter many F fr at_ xs) R ∧ Chg bf w w' := by
 obtain ⟨q, hq⟩ : ∃ q, wrtErr many F fr at_ xs = q := ⟨_, rfl⟩
 have HQ := Lib.hid hq
 rw [hq]
 subst hn
 have HV := Lib.hid hv
 obtain ⟨sp, sCap, rfl, ⟨hcap, hnil⟩, hcs⟩ := hv
 go_enter Tryz.func101, Tryz.ntmps101
 go_wp2_with fail
 refine (there_calls hpo h256 fr at_ xs.length).mono ?_; rintro e w1 ⟨rfl, h1⟩
 rw [show thrErr many F fr at_ xs.length = q from hq]
 clear hq
 have hP1 := hpo.step h1
 obtain ⟨c0, c1, c2⟩ := hP1.cells
 by_cases h9 : q = 0
 ·subst h9
  obtain ⟨o, bs, hcs9, h25⟩ := look_taken F h256 fr
  have hcz := takenA_size o bs h25
  have hlk := (hP1.fr.lookup (P := Tryz.prog) Tryz.underlying184 Tryz.underlying3 (zero_taken w1) fr).1
  rw [hcs9] at hlk
  have hfill : (storeCells ⟨w1.heap.size, 0, none⟩ (takenA o bs).toList).run Tryz.prog (w1.alloc (.cells Tryz.zeroCells214 214)) = .ok () (w1.alloc (.cells (takenA o bs) 214)) := fill_taken w1 o bs h25
  obtain ⟨z1, z2, z3, z4, z5, z6, z7⟩ := thr_zero HQ.out
  obtain ⟨ad, had, hsl⟩ := slice_l w1.heap.size at_ z3 z4 (w1.alloc (.cells (takenA o bs) 214))
  have hbl : at_.toNat + xs.length ≤ 256 := by omega
  have hBk := Blk.new w1 (takenA o bs) 214
  have k1 : Below w1.heap.size w1 (w1.alloc (.cells (takenA o bs) 214)) := (Below.refl _ w1).alloc (Nat.le_refl _) _
  have hV1 := (HV.out.below h1 (Nat.le_refl _)).below k1 h1.size
  have hpos : 0 < (intVals .u8 xs).length → some ad = some ⟨w1.heap.size, 1 + at_.toNat, none⟩ ∧ ∃ a, sp = some a ∧ ∀ j v, (intVals .u8 xs)[j]? = some v → (w1.alloc (.cells (takenA o bs) 214)).cell? (a.add j) = some v := by
   intro hp
   have hl : 0 < xs.length := by simpa [intVals] using hp
   refine ⟨by rw [had (by omega)], ?_⟩
   obtain ⟨a, cap, e, _, hx⟩ := hV1
   simp only [Value.slice.injEq] at e
   obtain ⟨rfl, _⟩ := e
   rcases hx with hx | ⟨b9, off, rfl, hlt, hx⟩
   ·rw [hx] at hp; simp at hp
   ·refine ⟨_, rfl, fun j v hj => ?_⟩
    have hadd : (⟨b9, off, none⟩ : Addr).add j = ⟨b9, off + j, none⟩ := by unfold Addr.add; split <;> simp_all
    rw [hadd, hx j (List.getElem?_eq_some_iff.1 hj).1, hj]
  have hmin : (intVals .u8 xs).length = Nat.min xs.length (256 - at_.toNat) := by
   rw [show Nat.min xs.length (256 - at_.toNat) = xs.length from Nat.min_eq_left (by omega)]
   simp [intVals]
  have hfit : 1 + at_.toNat + (intVals .u8 xs).length ≤ (takenA o bs).toList.length := by
   have : (intVals .u8 xs).length = xs.length := by simp [intVals]
   have : (takenA o bs).toList.length = 257 := by simpa using hcz
   omega
  obtain ⟨w2, hcp, hX, hT2⟩ := run_copy_turn (P := Tryz.prog) (dT := 44) (sT := 44) (ty := 3) (dCap := 256 - at_.toNat) (sCap := sCap) Tryz.underlying44 (show (Tryz.prog.info? 5).map (·.size) = some 1 by kernel_rfl) (w := w1.alloc (.cells (takenA o bs) 214)) (cur := (takenA o bs).toList) hBk (intVals .u8 xs) hmin hpos hfit (intVals_one _ _)
  have hb2 : Below w1.heap.size w1 w2 := k1.trans (hT2.below (Nat.le_refl _))
  have hB2 : Blk w2 w1.heap.size (takenA o (putL bs at_.toNat xs)) 214 := by
   have := hX
   rw [splice_taken o bs xs at_.toNat h25] at this
   exact this
  have hpl := putL_len bs xs at_.toNat h25 hbl
  have hP2 := hP1.step hb2
  obtain ⟨wu, hrun, hMu, hTu⟩ := (show MapI w2.drew bf (encF F) from hP2.fr).store (P := Tryz.prog) Tryz.underlying184 Tryz.underlying3 fr (.agg (takenA o (putL bs at_.toNat xs)))
  have hsz2 := takenA_size o (putL bs at_.toNat xs) hpl
  have hbfl := hP1.fr.lt
  have hS2 : WrtS b bf w1.heap.size o (putL bs at_.toNat xs) w2.drew := ⟨hP2.cells.1, hB2⟩
  have hSu : WrtS b bf w1.heap.size o (putL bs at_.toNat xs) wu := ⟨cell_turn hTu hP2.cells.1 hpo.apart.1, Blk.turn (W := w2.drew) hB2 hTu (by omega)⟩
  clear hpos hmin hfit hV1 k1 hBk hX hT2
  go_wp2_with fail
  refine wp_region_held_drew (S := WrtS b bf w1.heap.size o (putL bs at_.toNat xs)) (by kernel_rfl) hS2 (fun hHeld => ?_)
  refine wpAnyH_take (i := 0) (v := ?_) rfl (by kernel_rfl) (by kernel_rfl) (by kernel_rfl) (fun _ _ _ h => h) (Or.inl ⟨by rfl, ?_⟩) (by assumption) ?_
  rotate_left
  ·(intro Y hSw; (try dsimp only at hSw); obtain ⟨hS0, hS1⟩ := hSw; go_simp; try with_reducible rfl)
  try simp only [Act.put, pu1, pu2, pu3, pu4, pu5, pu6]
  refine wpAnyH_take (i := 1) (v := ?_) rfl (by kernel_rfl) (by kernel_rfl) (by kernel_rfl) (fun _ _ _ h => h) (Or.inl ⟨by rfl, ?_⟩) (by assumption) ?_
  rotate_left
  ·(intro Y hSw; (try dsimp only at hSw); obtain ⟨hS0, hS1⟩ := hSw; go_simp; try with_reducible rfl)
  try simp only [Act.put, pu1, pu2, pu3, pu4, pu5, pu6]
  refine wpAnyH_take (i := 2) (v := ?_) rfl (by kernel_rfl) (by kernel_rfl) (by kernel_rfl) (fun _ _ _ h => h) (Or.inl ⟨by rfl, ?_⟩) (by assumption) ?_
  rotate_left
  ·(intro Y hSw; (try dsimp only at hSw); obtain ⟨hS0, hS1⟩ := hSw; go_simp; try with_reducible rfl)
  try simp only [Act.put, pu1, pu2, pu3, pu4, pu5, pu6]
  refine wpAnyH_take (i := 3) (v := ?_) rfl (by kernel_rfl) (by kernel_rfl) (by kernel_rfl) (fun _ _ _ h => h) (Or.inl ⟨by rfl, ?_⟩) (by assumption) ?_
  rotate_left
  ·(intro Y hSw; (try dsimp only at hSw); obtain ⟨hS0, hS1⟩ := hSw; go_simp; try with_reducible rfl)
  try simp only [Act.put, pu1, pu2, pu3, pu4, pu5, pu6]
  refine wpAnyH_take (i := 4) (v := ?_) rfl (by kernel_rfl) (by kernel_rfl) (by kernel_rfl) (fun _ _ _ h => h) (Or.inl ⟨by rfl, ?_⟩) (by assumption) ?_
  rotate_left
  ·(intro Y hSw; (try dsimp only at hSw); obtain ⟨hS0, hS1⟩ := hSw; go_simp; try with_reducible rfl)
  try simp only [Act.put, pu1, pu2, pu3, pu4, pu5, pu6]
  refine wpAnyH_take (i := 5) (v := ?_) rfl (by kernel_rfl) (by kernel_rfl) (by kernel_rfl) (fun _ _ _ h => h) (Or.inl ⟨by rfl, ?_⟩) (by assumption) ?_
  rotate_left
  ·(intro Y hSw; (try dsimp only at hSw); obtain ⟨hS0, hS1⟩ := hSw; go_simp; try with_reducible rfl)
  try simp only [Act.put, pu1, pu2, pu3, pu4, pu5, pu6]
  refine wpAnyH_ready (rs := [6]) (by kernel_rfl) (by simp) ?_
  refine AllReadyH.cons rfl (fun K hK => ?_) AllReadyH.nil
  refine wp_load_row 214 _ rfl w1.heap.size rfl 214 (takenA o (putL bs at_.toNat xs)) (0, 0) _ (show Blk w2.drew _ _ _ from hB2) Tryz.underlying214 rfl (by rw [hsz2]; kernel_rfl) ?_
  refine hK.out _ _ (hS2) (fun hHeld => ?_)
  clear hK K
  try simp only [Act.put, pu1, pu2, pu3, pu4, pu5, pu6]
  refine wpAnyH_ready (rs := [7]) (by kernel_rfl) (by simp) ?_
  refine AllReadyH.cons rfl (fun K hK => ?_) AllReadyH.nil
  go_simp
  refine hK.out _ _ (hSu) (fun hHeld => ?_)
  clear hK K
  try simp only [Act.put, pu1, pu2, pu3, pu4, pu5, pu6]
  refine wpAnyH_done (by kernel_rfl) ?_ _
  go_wp2_with fail
  go_ret
  rw [setA_putF (by rw [← encF_keys]; exact hP1.fr.nodup) z7 hcs9] at hMu
  have hPu : PoolAt wu b bf br many (putF F fr at_ xs) R := ⟨(hTu.block b hpo.apart.1).trans hP2.blk, hMu, (show MapI w2.drew br (encRF R) from hP2.re).turn hTu (Ne.symm hpo.ne), hpo.ne⟩
  exact ⟨rfl, by rw [show wrtAfter many F fr at_ xs = putF F fr at_ xs by unfold wrtAfter; rw [HQ.out, if_pos rfl]]; exact hPu, (Chg.of_below (h1.trans ((hb2.mono (Nat.le_refl _)).drew.mono h1.size))).trans (.of_turn hTu)⟩
 ·go_wp2_with fail
  go_ret
  exact ⟨rfl, by rw [show wrtAfter many F fr at_ xs = F by unfold wrtAfter; rw [HQ.out, if_neg h9]]; exact hP1, .of_below h1⟩
end Go.Proofs.YtlpchcdalfkfcaaGreat

