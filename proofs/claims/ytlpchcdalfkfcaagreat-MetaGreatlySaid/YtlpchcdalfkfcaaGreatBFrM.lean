/-
  Package frame: Read. Conditions: a pool whose books are in order.
-/
import Derived.Test.YtlpchcdalfkfcaaGreatBFrJ
import Derived.Laws.BytesArg
namespace Go.Proofs.YtlpchcdalfkfcaaGreat
open Go.RowKit
attribute [local go_sem] Oper.semAt_some
set_option maxHeartbeats 4000000
set_option maxRecDepth 4000

theorem info8 : ElemInfo Tryz.prog 5 (.int .u8 0) 1 1 := elemInfo_of (by kernel_rfl) rfl (by decide)
/-- string(b) of a slice that is read. -/
theorem run_convert_row {P : Program} {B : Nat} {w : World} {v : Value} (xs : List Int) (h : RowAt B w v xs.length (intVals .u8 xs)) {src e dst : TypeId} (hs : P.underlying src = some (.slice e)) (he : P.underlying e = some (.int .u8)) (hd : P.underlying dst = some .string) :
    (convert src dst v).run P w = .ok (.string (strOfNums xs)) w := by
  obtain ⟨a, cap, rfl, ⟨_, hn⟩, hc⟩ := h
  rcases hc with h0 | ⟨b, off, rfl, _, hc⟩
  · obtain rfl : xs = [] := by simpa [intVals] using h0
    cases a with
    | none => exact run_convert_bytes_nil w src e hs he _ _ dst hd
    | some a =>
      rw [run_convert_bytes_string w src dst e _ _ cap hs he hd]
      have := run_loadCells_list (P := P) (w := w) a [] (by intro j v hj; simp at hj)
      rw [run_bytesToString w a _ cap [] (by simpa using this)]
      rfl
  · refine run_convert_bytes_arg w src e hs he b off _ cap xs rfl (fun i hi => ?_) dst hd
    rw [hc i (by simpa [intVals] using hi), intVals_get _ _ _ hi]
    simp [List.getD, hi]
theorem run_eql_slice_nil {P : Program} {t e : TypeId} (ht : P.underlying t = some (.slice e)) (a : Option Addr) (n c : Nat) (w : World) : (binOp .eql t (.slice a n c) (.slice none 0 0)).run P w = .ok (.bool a.isNone) w := by
  have h1 : ∀ d : Nat, (Op.equalIn (d + 1) t (.slice a n c) (.slice none 0 0)).run P w = .ok a.isNone w := fun d => by cases a <;> simp [Op.equalIn, run_underlying ht]
  simp only [binOp]
  simp [Op.equal, Op.maxDepth, h1 9999]
theorem clone_ok (v : Value) (l : List Int) (B : Nat) (w : World) (hB : B ≤ w.heap.size) (hl : l.length < 140737488355328) (hv : RowAt B w v l.length (intVals .u8 l)) :
    Calls Tryz.prog 182 #[v] w fun e w' => ∃ v', e = .returned v' ∧ w'.ownsRow w.heap.size 5 1 v' l.length (intVals .u8 l) ∧ Below w.heap.size w w' := by
  obtain ⟨ad, cap, rfl, hcap, hrow⟩ := id hv
  have HIL := Lib.hid (intVals_len .u8 l)
  cases ad with
  | none =>
    obtain ⟨e0, rfl⟩ := hcap.2 rfl
    obtain rfl : l = [] := List.eq_nil_of_length_eq_zero e0
    have he := run_eql_slice_nil (P := Tryz.prog) Tryz.underlying44 none 0 0 w
    go_enter Tryz.func182, Tryz.ntmps182
    go_wp2_with fail
    go_ret
    exact ⟨_, rfl, ⟨rfl, .inl ⟨rfl, rfl⟩⟩, Below.refl _ _⟩
  | some ad =>
    have he := run_eql_slice_nil (P := Tryz.prog) Tryz.underlying44 (some ad) l.length cap w
    go_enter Tryz.func182, Tryz.ntmps182
    go_wp2_with (at_builtin; refine wpList_append_row rfl _ _ 44 rfl w.heap.size Tryz.underlying44 info8 0 [] rfl ?c1 B l.length (intVals .u8 l) rfl ?c2 ?c3 ?c4 ?c5 ?c6 ?c7 ?_)
    case c1 => exact World.ownsRow_made w #[] 0 (Nat.le_refl _) (by decide) rfl
    case c2 => exact hv.below ((Below.refl _ w).alloc (Nat.le_refl _) _) hB
    case c3 => rw [HIL.out]; omega
    case c4 => exact intVals_one _ _
    case c5 => unfold maxLen; omega
    case c6 => omega
    case c7 => simp
    intro v1 w1 ho1 hg1
    have hb1 : Below w.heap.size w w1 := ((Below.refl _ w).alloc (Nat.le_refl _) _).grown hg1 (by simp) (fun k e => by cases e; exact Nat.le_refl _)
    clear hg1
    go_wp2_with fail
    go_ret
    exact ⟨_, rfl, by simpa using ho1, hb1⟩
theorem slice_lh (g : Nat) (at_ n : Int) (h0 : 0 ≤ at_) (h1 : 0 ≤ n) (h2 : n ≤ 256 - at_) (W : World) : ∃ ad : Addr, (at_ < 256 → ad = ⟨g, 1 + at_.toNat, none⟩) ∧
    (Instr.sliceAt 212 (.pointer (some ⟨g, 1, none⟩)) (some (.int .i64 at_)) (some (.int .i64 (at_ + n))) none).run Tryz.prog W = .ok (.slice (some ad) n.toNat (256 - at_.toNat)) W := by
  refine ⟨if 256 = at_.toNat then ⟨g, 1, none⟩ else (⟨g, 1, none⟩ : Addr).add at_.toNat, fun h => ?_, ?_⟩
  · rw [if_neg (by omega)]
    unfold Addr.add
    split <;> simp_all
  · have hal : Tryz.prog.arrayLen 212 = 256 := by kernel_rfl
    have hsz : (sizeOf (Tryz.prog.elem 212)).run Tryz.prog W = .ok 1 W := by kernel_rfl
    have := run_sliceAt_array_lh (P := Tryz.prog) W 212 ⟨g, 1, none⟩ (by kernel_rfl) .i64 .i64 at_ (at_ + n) h0 (by omega) (by rw [hal]; omega)
    rw [this, hal, hsz]
    simp [slicedAt]
    omega
def bytesF (F : List Fr) (fr : Int) : List Int := ((F.find? fun x => x.1 == fr).map (·.2.2)).getD zeros256
theorem look_bytes (F : List Fr) (fr : Int) : ∃ o, (getA (encF F) fr).getD (.agg (takenA 0 zeros256)) = .agg (takenA o (bytesF F fr)) := by
  unfold getA bytesF encF
  rw [List.find?_map]
  simp only [Function.comp_def]
  cases h : F.find? fun x => x.1 == fr with
  | none => exact ⟨0, rfl⟩
  | some q => exact ⟨q.2.1, rfl⟩
theorem bytesF_len {F : List Fr} (h256 : ∀ x ∈ F, x.2.2.length = 256) (fr : Int) : (bytesF F fr).length = 256 := by
  unfold bytesF
  cases h : F.find? fun x => x.1 == fr with
  | none => rfl
  | some q => exact h256 q (List.mem_of_find?_eq_some h)
def redErr (many : Int) (F : List Fr) (fr at_ n : Int) : Int := thrErr many F fr at_ n
def redL (many : Int) (F : List Fr) (fr at_ n : Int) : List Int := if redErr many F fr at_ n = 0 then ((bytesF F fr).drop at_.toNat).take n.toNat else []
theorem Read_ok {w : World} {b bf br : Nat} {many : Int} {F : List Fr} {R : List (Int × Int)} (hpo : PoolAt w b bf br many F R) (h256 : ∀ x ∈ F, x.2.2.length = 256) (fr at_ n : Int) :
    Calls Tryz.prog 129 #[.pointer (some ⟨b, 0, none⟩), .int .i64 fr, .int .i64 at_, .int .i64 n] w fun e w' => ∃ v, e = .returned (.tuple #[v, .int .i64 (redErr many F fr at_ n)]) ∧
      w'.ownsRow w.heap.size 5 1 v (redL many F fr at_ n).length (intVals .u8 (redL many F fr at_ n)) ∧ Below w.heap.size w w' := by
  obtain ⟨q, hq⟩ : ∃ q, redErr many F fr at_ n = q := ⟨_, rfl⟩
  have HQ := Lib.hid hq
  rw [hq]
  go_enter Tryz.func129, Tryz.ntmps129
  go_wp2_with fail
  refine (there_calls hpo h256 fr at_ n).mono ?_; rintro e w1 ⟨rfl, h1⟩
  rw [show thrErr many F fr at_ n = q from hq]
  clear hq
  have hP1 := hpo.step h1
  obtain ⟨c0, c1, c2⟩ := hP1.cells
  have hz1 := h1.size
  by_cases h9 : q = 0
  · subst h9
    obtain ⟨o, hcs9⟩ := look_bytes F fr
    have h25 := bytesF_len h256 fr
    obtain ⟨bs, hbs⟩ : ∃ bs, bytesF F fr = bs := ⟨_, rfl⟩
    rw [hbs] at hcs9 h25
    have HL := Lib.hid (show redL many F fr at_ n = (bs.drop at_.toNat).take n.toNat by unfold redL; rw [if_pos HQ.out, hbs])
    clear hbs
    have hcz := takenA_size o bs h25
    have hlk := (hP1.fr.lookup (P := Tryz.prog) Tryz.underlying184 Tryz.underlying3 (zero_taken w1) fr).1
    rw [hcs9] at hlk
    have hfill : (storeCells ⟨w1.heap.size, 0, none⟩ (takenA o bs).toList).run Tryz.prog (w1.alloc (.cells Tryz.zeroCells214 214)) = .ok () (w1.alloc (.cells (takenA o bs) 214)) := fill_taken w1 o bs h25
    obtain ⟨z1, z2, z3, z4, z5, z6, z7⟩ := thr_zero HQ.out
    obtain ⟨ad, had, hsl⟩ := slice_lh w1.heap.size at_ n z3 z5 z6 (w1.alloc (.cells (takenA o bs) 214))
    have hsum : IntKind.i64.wrap (at_ + n) = at_ + n := IntWalk.i64_in _ (by omega)
    have k1 : Below w1.heap.size w1 (w1.alloc (.cells (takenA o bs) 214)) := (Below.refl _ w1).alloc (Nat.le_refl _) _
    have hBk := Blk.new w1 (takenA o bs) 214
    have hlen : ((bs.drop at_.toNat).take n.toNat).length = n.toNat := by simp; omega
    have hrow : RowAt (w1.heap.size + 1) (w1.alloc (.cells (takenA o bs) 214)) (.slice (some ad) n.toNat (256 - at_.toNat)) ((bs.drop at_.toNat).take n.toNat).length (intVals .u8 ((bs.drop at_.toNat).take n.toNat)) := by
      refine ⟨some ad, 256 - at_.toNat, by rw [hlen], ⟨by omega, fun h => by cases h⟩, ?_⟩
      by_cases hn : n = 0
      · subst hn; left; simp [intVals]
      · right
        refine ⟨w1.heap.size, 1 + at_.toNat, by rw [had (by omega)], by omega, fun i hi => ?_⟩
        have hi2 : i < n.toNat := by rw [intVals_len, hlen] at hi; exact hi
        rw [hBk.cell (1 + at_.toNat + i) (v := .int .u8 (bs.getD (at_.toNat + i) 0)) ?_]
        · have hlt : at_.toNat + i < bs.length := by omega
          simp [intVals, List.getElem?_take, hi2, List.getElem?_drop, List.getElem?_eq_getElem hlt]
        · have hlt : at_.toNat + i < bs.length := by omega
          unfold takenA
          rw [show 1 + at_.toNat + i = (at_.toNat + i) + 1 by omega]
          simp [intVals, List.getElem?_eq_getElem hlt]
    have HR := Lib.hid hrow
    clear hrow hBk had hlen
    go_wp2_with fail
    refine (clone_ok _ _ (w1.heap.size + 1) _ (by simp) (by simp; omega) HR.out).mono ?_; rintro e w2 ⟨v, rfl, ho, h2⟩
    go_wp2_with fail
    go_ret2
    refine ⟨v, rfl, ?_, h1.trans ((k1.trans (h2.mono (by simp))).mono hz1)⟩
    rw [HL.out]
    exact owns_weaken ho (by simp; omega)
  · have HL := Lib.hid (show redL many F fr at_ n = [] by unfold redL; rw [HQ.out, if_neg h9])
    go_wp2_with fail
    go_ret2
    refine ⟨_, rfl, ?_, h1⟩
    rw [HL.out]
    exact ⟨rfl, .inl ⟨rfl, rfl⟩⟩
end Go.Proofs.YtlpchcdalfkfcaaGreat

/-
  Package pinfoldlaw07: num, works. No condition.
-/
namespace Go.Proofs.YtlpchcdalfkfcaaGreat
open Go.RowKit
attribute [local go_sem] Oper.semAt_some
set_option maxHeartbeats 4000000
set_option maxRecDepth 4000

/-- A pool that was made behind w0. -/
structure Live (w0 W : World) (b bf br : Nat) (many : Int) (F : List Fr) (R : List (Int × Int)) : Prop where
  pool : PoolAt W b bf br many F R
  bel : Below w0.heap.size w0 W
  lf : w0.heap.size ≤ bf
  lr : w0.heap.size ≤ br
section
variable {w0 W W' : World} {b bf br : Nat} {many : Int} {F F' : List Fr} {R R' : List (Int × Int)}
theorem Live.step (h : Live w0 W b bf br many F R) (k : Below W.heap.size W W') : Live w0 W' b bf br many F R := ⟨h.pool.step k, h.bel.trans (k.mono h.bel.size), h.lf, h.lr⟩
theorem Live.frames (h : Live w0 W b bf br many F R) (hp : PoolAt W' b bf br many F' R) (k : Chg bf W W') : Live w0 W' b bf br many F' R := ⟨hp, h.bel.trans (k.below h.lf h.bel.size), h.lf, h.lr⟩
theorem Live.owners (h : Live w0 W b bf br many F R) (hp : PoolAt W' b bf br many F R') (k : Chg br W W') : Live w0 W' b bf br many F R' := ⟨hp, h.bel.trans (k.below h.lr h.bel.size), h.lf, h.lr⟩
theorem Live.reserve (h : Live w0 W b bf br many F R) (hs : Sound many F R) (who n er : Int) (R' : List (Int × Int)) (h1 : resErr many F R who n = er) (h2 : resAfter many F R who n = R') :
    Calls Tryz.prog 81 #[.pointer (some ⟨b, 0, none⟩), .int .i64 who, .int .i64 n] W fun e W' => e = .returned (.int .i64 er) ∧ Live w0 W' b bf br many F R' := by
  refine (Reserve_ok h.pool hs who n).mono ?_
  rintro e W' ⟨rfl, hp, hc⟩
  rw [h2] at hp
  exact ⟨by rw [h1], h.owners hp hc⟩
theorem Live.take (h : Live w0 W b bf br many F R) (hs : Sound many F R) (who at_ er : Int) (F' : List Fr) (hf : takErr F R who = 0 → ∃ k suf, freeI many F = k :: suf) (h0 : takAt many F R who = at_) (h1 : takErr F R who = er) (h2 : takAfter many F R who = F') :
    Calls Tryz.prog 97 #[.pointer (some ⟨b, 0, none⟩), .int .i64 who] W fun e W' => e = .returned (.tuple #[.int .i64 at_, .int .i64 er]) ∧ Live w0 W' b bf br many F' R := by
  refine (Take_ok h.pool hs who hf).mono ?_
  rintro e W' ⟨rfl, hp, hc⟩
  rw [h2] at hp
  exact ⟨by rw [h0, h1], h.frames hp hc⟩
theorem Live.write (h : Live w0 W b bf br many F R) (hs : Sound many F R) (fr at_ er : Int) (F' : List Fr) {v : Value} {n : Nat} (xs : List Int) (hv : RowAt W.heap.size W v n (intVals .u8 xs)) (hn : n = xs.length) (h1 : wrtErr many F fr at_ xs = er) (h2 : wrtAfter many F fr at_ xs = F') :
    Calls Tryz.prog 101 #[.pointer (some ⟨b, 0, none⟩), .int .i64 fr, .int .i64 at_, v] W fun e W' => e = .returned (.int .i64 er) ∧ Live w0 W' b bf br many F' R := by
  refine (Write_ok h.pool hs.b256 fr at_ xs hv hn).mono ?_
  rintro e W' ⟨rfl, hp, hc⟩
  rw [h2] at hp
  exact ⟨by rw [h1], h.frames hp hc⟩
end
abbrev fr0 : Fr := (0, 1, zeros256)
abbrev fr1 : Fr := (1, 1, zeros256)
abbrev fr9 : Fr := (0, 1, putL zeros256 255 [9])
theorem snd0 : Sound 3 [] [] := ⟨by decide, by decide, by decide +kernel, by decide +kernel, by decide +kernel, by decide⟩
theorem snd1 : Sound 3 [] [(1, 2)] := ⟨by decide, by decide, by decide +kernel, by decide +kernel, by decide +kernel, by decide⟩
theorem snd2 : Sound 3 [fr0] [(1, 2)] := ⟨by decide, by decide, by decide +kernel, by decide +kernel, by decide +kernel, by decide⟩
theorem snd3 : Sound 3 [fr0, fr1] [(1, 2)] := ⟨by decide, by decide, by decide +kernel, by decide +kernel, by decide +kernel, by decide⟩
theorem snd4 : Sound 3 [fr9, fr1] [(1, 2)] := ⟨by decide, by decide, by decide +kernel, by decide +kernel, by decide +kernel, by decide⟩
theorem snd5 : Sound 3 [fr1] [(1, 2)] := ⟨by decide, by decide, by decide +kernel, by decide +kernel, by decide +kernel, by decide⟩
theorem snd6 : Sound 3 [fr1, fr0] [(1, 2)] := ⟨by decide, by decide, by decide +kernel, by decide +kernel, by decide +kernel, by decide⟩
end Go.Proofs.YtlpchcdalfkfcaaGreat
