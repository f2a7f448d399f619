/-
 Package meta: getting a record that is refused. Conditions: a memory's books in order.
-/
import Derived.Test.YtlpchcdalfkfcaaGreatBMeX
import Derived.Test.YtlpchcdalfkfcaaGreatBMeE
import Derived.Test.YtlpchcdalfkfcaaGreatBFrB
import Derived.Deep.MidRow
import Derived.BigFrame
import Derived.Test.YtlpchcdalfkfcaaGreatBMeO
namespace Go.Proofs.YtlpchcdalfkfcaaGreat
open Go.RowKit Go.ChangeShapes
attribute [local go_sem] Oper.semAt_some
set_option maxHeartbeats 8000000
set_option maxRecDepth 8000

variable {w0 w : World} {k : Mb} {s : Ms}
def getAsks (pi pw : Nat) (t : Int) : List AskP :=
 [⟨85, #[], #[.pointer (some ⟨pi, 0, none⟩)], 1, false⟩, ⟨62, #[], #[.pointer (some ⟨pw, 0, none⟩)], 2, !inB 3 t⟩]
def gtE (s : Ms) (t : Int) (la : List AskP) : Int := if inB 3 t = false then 2 else if la.any (·.wrong) then firstErrP la else if opB s t = false then 5 else 0
theorem getE_eq (pi pw po : Nat) (s : Ms) (t : Int) (la : List AskP) : firstErrP (getAsks pi pw t ++ (la ++ opAsk po s t)) = gtE s t la := by
 rw [firstErrP_append, firstErrP_append]
 unfold gtE getAsks opAsk
 cases inB 3 t <;> cases opB s t <;> simp [firstErrP]
theorem getAsk_ans {Y : World} (h : LivM w0 Y k s) {pi pw : Nat} {t : Int} (hI : Blk Y pi #[.pointer (some ⟨k.b, 0, none⟩), .int .i64 t] 72) (hW : Blk Y pw #[.pointer (some ⟨k.b, 0, none⟩), .int .i64 t] 72) : AnswersP Y (getAsks pi pw t) := by
 constructor
 ·intro i hi args W
  match i, hi with
  | 0, _ => exact enters_of Tryz.func85 (by kernel_rfl) rfl args W
  | 1, _ => exact enters_of Tryz.func62 (by kernel_rfl) rfl args W
 ·intro i hi X _ kx
  match i, hi with
  | 0, _ => exact mis1_calls (h.step kx) (hI.below kx hI.lt)
  | 1, _ => exact mwho1_calls (hW.below kx hW.lt)
theorem ret_r2 {fn : Func} {R : Ending → World → Prop} {a : Act} {w : World} {p u : Tmp} (h : fn.results = #[.cell p 47, .tmp u]) (g : Nat) {cs : Array Value} {t : TypeId} (hp : a.tmps.getD p undef = .pointer (some ⟨g, 0, none⟩))
  (hB : Blk w g cs t) (hs : cs.size = 3) (hd : a.defers = []) (hR : R (.returned (.tuple #[.agg cs, a.tmps.getD u undef])) w) : bodyPost Tryz.prog fn R .ret a w := by
 refine bodyPost_ret (v := .tuple #[.agg cs, a.tmps.getD u undef]) ?_ hd hR
 have hp' : a.tmps[p]?.getD undef = .pointer (some ⟨g, 0, none⟩) := by simpa using hp
 have hl : (loadVar 47 ⟨g, 0, none⟩).run Tryz.prog w = .ok (.agg cs) w := run_loadVar_row w g t _ cs (0, 0) _ hB Tryz.underlying47 rfl (by rw [hs]; exact rec_info)
 simp [results, h, hp', asAddr, hl]
end Go.Proofs.YtlpchcdalfkfcaaGreat


/-
 Chapter 15, plain: pages mapped for nobody, one by one. No condition.
-/
namespace Go.Proofs.YtlpchcdalfkfcaaGreat
set_option maxHeartbeats 1000000
set_option maxRecDepth 4000

theorem left_eq {s : Ms} {p : Int} (h : badOwner p = false) : leftI s p = resvI s.R p - hasF s.F p := by
 unfold badOwner at h
 have := of_decide_eq_false h
 unfold leftI rsvdI rsvdH
 rw [if_neg (by omega), if_neg (by omega)]
theorem vmp_ok {s : Ms} (h : MGd s) {n p : Int} (hp : badOwner p = false) (hl : 1 ≤ leftI s p) (hn : 0 ≤ n ∧ n < 65536) (hf : hasR s.D n = false) {o m : Int} (ho : -1 ≤ o ∧ o ≤ 63) (hm : 0 ≤ m ∧ m ≤ 2) :
  vmpE s n o p m = 0 ∧ (vmpF s n o p m).many = s.many ∧ (vmpF s n o p m).R = s.R ∧ (∀ q, (hasF (vmpF s n o p m).F q : Int) = hasF s.F q + (if p = q then 1 else 0)) := by
 rw [left_eq hp] at hl
 have h3 : takErr s.F s.R p = 0 := by
  unfold takErr
  rw [if_neg (by rw [hp]; decide), if_neg (by omega)]
 obtain ⟨f1, f2, f3⟩ := h.free_frm h3
 have h16 : frmR s.D 16384 = false := by
  unfold frmR
  rw [List.any_eq_false]
  intro x hx e
  have e' : x.2.f = 16384 := by simpa using e
  have h4 := inF_bd h.g (h.tk x hx)
  have h5 := h.g.snd.m1
  omega
 have hE : ∀ fr, frmR s.D fr = false → 0 ≤ fr → mapE s.D n ⟨o, m, fr⟩ = 0 := fun fr hfr h0 => by
  unfold mapE
  dsimp only
  rw [if_neg (by unfold badM; simp; omega), if_neg (by unfold badO; simp; omega), if_neg (by unfold badP; simp; omega), if_neg (by rw [hf]; decide), if_neg (by rw [hfr]; decide)]
 have h2 := hE 16384 h16 (by decide)
 have hfm : frmR s.D (takAt s.many s.F s.R p) = false := by
  unfold frmR
  rw [List.any_eq_false]
  intro x hx e
  have e' : x.2.f = takAt s.many s.F s.R p := by simpa using e
  have := h.tk x hx
  rw [e', f1] at this
  cases this
 have eB : ¬ badOwner p = true := by rw [hp]; decide
 unfold vmpE vmpF
 simp only [if_neg eB, if_pos h2, if_pos h3]
 refine ⟨hE _ hfm f2, trivial, trivial, fun q => ?_⟩
 rw [f3, hasF_append]
 push_cast
 split <;> simp
/-- So many pages from b on are mapped for somebody by p. -/
def mapsJ (s : Ms) (b o p m : Int) : Nat → Ms
 | 0 => s
 | j + 1 => vmpF (mapsJ s b o p m j) (b + j) o p m
structure OpSp (s s' : Ms) (b o m : Int) (j : Nat) : Prop where
 gd : MGd s'
 many : s'.many = s.many
 R : s'.R = s.R
 has : ∀ q, hasR s'.D q = (decide (b ≤ q ∧ q < b + j) || hasR s.D q)
 own : ∀ q, b ≤ q → q < b + j → (getE s'.D q).o = o ∧ (getE s'.D q).m = m
 get : ∀ q, ¬ (b ≤ q ∧ q < b + j) → getE s'.D q = getE s.D q
 zero : ∀ a, b ≤ a / 256 → a / 256 < b + j → byF s'.D s'.F a = 0
 same : ∀ a, hasR s.D (a / 256) = true → byF s'.D s'.F a = byF s.D s.F a
theorem maps_ok {s : Ms} (h : MGd s) {b o p m : Int} (n : Nat) (hp : badOwner p = false) (hl : n ≤ leftI s p) (hb : 0 ≤ b ∧ b + n ≤ 65536) (hf : ∀ i : Nat, i < n → hasR s.D (b + i) = false) (ho : -1 ≤ o ∧ o ≤ 63) (hm : 0 ≤ m ∧ m ≤ 2) :
  ∀ j, j ≤ n → OpSp s (mapsJ s b o p m j) b o m j ∧ (∀ q, leftI (mapsJ s b o p m j) q = leftI s q - (if p = q then j else 0)) ∧ ∀ i, i < j → vmpE (mapsJ s b o p m i) (b + i) o p m = 0 := by
 intro j
 induction j with
 | zero =>
  intro _
  exact ⟨⟨h, rfl, rfl, fun q => by rw [decide_eq_false (by omega)]; rfl, fun q h1 h2 => by omega, fun q _ => rfl, fun a h1 h2 => by omega, fun a _ => rfl⟩, fun q => by split <;> simp [mapsJ], fun i hi => by omega⟩
 | succ j ih =>
  intro hj
  obtain ⟨sp, hleft, hpre⟩ := ih (by omega)
  have hlj := hleft p
  rw [if_pos rfl] at hlj
  have hfj : hasR (mapsJ s b o p m j).D (b + j) = false := by rw [sp.has, decide_eq_false (by omega), hf j (by omega)]; rfl
  obtain ⟨e0, e1, e2, e3⟩ := vmp_ok sp.gd hp (by omega) (n := b + j) ⟨by omega, by omega⟩ hfj ho hm
  obtain ⟨g', _, q2⟩ := sp.gd.map (b + j) o p m
  have ms := q2 e0
  have hs : mapsJ s b o p m (j + 1) = vmpF (mapsJ s b o p m j) (b + j) o p m := rfl
  refine ⟨⟨?_, ?_, ?_, ?_, ?_, ?_, ?_, ?_⟩, ?_, ?_⟩
  ·rw [hs]; exact g'
  ·rw [hs, e1, sp.many]
  ·rw [hs, e2, sp.R]
  ·intro q
   rw [hs, ms.has, sp.has, ← Bool.or_assoc]
   congr 1
   by_cases e : b + j = q
   ·rw [decide_eq_true (show b ≤ q ∧ q < b + ((j + 1 : Nat) : Int) by omega)]; simp [e]
   ·rw [show ((b + (j : Int) : Int) == q) = false by simpa using e, Bool.false_or]
    congr 1
    rw [eq_iff_iff]
    omega
  ·intro q h1 h2
   rw [hs]
   by_cases e : q = b + j
   ·subst e; exact ms.own
   ·rw [ms.get q e]; exact sp.own q h1 (by omega)
  ·intro q h1
   rw [hs, ms.get q (by omega)]
   exact sp.get q (by omega)
  ·intro a h1 h2
   rw [hs]
   by_cases e : a / 256 = b + j
   ·exact ms.zero a e
   ·rw [ms.same a (by rw [sp.has, decide_eq_true (by omega)]; rfl)]
    exact sp.zero a h1 (by omega)
  ·intro a h1
   rw [hs, ms.same a (by rw [sp.has, h1, Bool.or_true]), sp.same a h1]
  ·intro q
   have h1 := hleft q
   have h2 := e3 q
   have h4 : leftI (mapsJ s b o p m (j + 1)) q = leftI (mapsJ s b o p m j) q - (if p = q then 1 else 0) := by
    rw [hs]
    unfold leftI rsvdI rsvdH
    rw [e2]
    by_cases hq : q < 0
    ·have : ¬ p = q := by unfold badOwner at hp; have := of_decide_eq_false hp; omega
     rw [if_pos hq, if_pos hq, if_pos hq, if_neg this]; rfl
    ·rw [if_neg hq, if_neg hq, if_neg hq]; omega
   rw [h4, h1]
   split <;> omega
  ·intro i hi
   by_cases e : i = j
   ·subst e; exact e0
   ·exact hpre i (by omega)
end Go.Proofs.YtlpchcdalfkfcaaGreat


/-
 Groundwork: values of many cells, loaded and stored whole, wherever in a block they lie. No condition.
-/
namespace Go.Proofs.YtlpchcdalfkfcaaGreat
open Go.RowKit
set_option maxHeartbeats 400000
variable {P : Program}

/-- A type of n cells, a row or a struct. -/
def RowTy (P : Program) (t : TypeId) (n : Nat) : Prop := ∃ d, P.underlying t = some d ∧ d.isRow = true ∧ (P.info? t).map (·.size) = some n
theorem rowTy_of {t : TypeId} {n : Nat} {d : TypeDesc} (h1 : P.underlying t = some d) (h2 : d.isRow = true) (h3 : (P.info? t).map (·.size) = some n) : RowTy P t n := ⟨d, h1, h2, h3⟩
theorem Blk.rng {W : World} {b : Nat} {cs : Array Value} {t : TypeId} (h : Blk W b cs t) (o : Nat) (vs : List Value) (hv : ∀ j, j < vs.length → cs[o + j]? = vs[j]?) : W.rangeAt b o vs := fun j v hj => by
 have h1 := hv j (List.getElem?_eq_some_iff.1 hj).1
 exact h.cell _ (h1.trans hj)
theorem Blk.rng0 {W : World} {b : Nat} {cs : Array Value} {t : TypeId} (h : Blk W b cs t) : W.rangeAt b 0 cs.toList := h.rng 0 _ fun j hj => by simp
theorem Blk.there {W : World} {b : Nat} {cs : Array Value} {t : TypeId} (h : Blk W b cs t) (o n : Nat) (hn : o + n ≤ cs.size) : W.there b o n := fun j hj => by
 have : o + j < cs.size := by omega
 refine ⟨?_, h.frozen _⟩
 rw [h.cell (o + j) (Array.getElem?_eq_getElem this)]
 rfl
/-- Cells laid over a block's. -/
def spl (cs : Array Value) : Nat → List Value → Array Value
 | _, [] => cs
 | o, v :: vs => spl (cs.setIfInBounds o v) (o + 1) vs
theorem Blk.setCells {W : World} {b : Nat} {cs : Array Value} {t : TypeId} (h : Blk W b cs t) (vs : List Value) (o : Nat) : Blk (W.setCells b o vs) b (spl cs o vs) t := by
 induction vs generalizing W cs o with
 | nil => exact h
 | cons v vs ih => exact ih (h.set o v) (o + 1)
theorem Blk.setCellsO {W : World} {b g : Nat} {cs : Array Value} {t : TypeId} (h : Blk W b cs t) (vs : List Value) (o : Nat) (hne : b ≠ g) : Blk (W.setCells g o vs) b cs t := by
 induction vs generalizing W o with
 | nil => exact h
 | cons v vs ih => exact ih (h.setOther ⟨g, o, none⟩ v hne) (o + 1)
theorem bel_setCells {B g : Nat} {w W : World} (h : Below B w W) (hg : B ≤ g) (vs : List Value) (o : Nat) : Below B w (W.setCells g o vs) := by
 induction vs generalizing W o with
 | nil => exact h
 | cons v vs ih => exact ih (h.setCell (p := ⟨g, o, none⟩) hg v) (o + 1)
theorem splL (cs : List Value) (vs : List Value) (o : Nat) (h : o + vs.length ≤ cs.length) : spl cs.toArray o vs = (cs.take o ++ vs ++ cs.drop (o + vs.length)).toArray := by
 induction vs generalizing cs o with
 | nil => simp [spl]
 | cons v vs ih =>
  have hl : o + 1 + vs.length ≤ (cs.set o v).length := by rw [List.length_set]; simp at h; omega
  have ho : o < cs.length := by simp at h; omega
  rw [spl, List.setIfInBounds_toArray, ih _ _ hl]
  congr 1
  rw [List.take_succ_eq_append_getElem (by rw [List.length_set]; exact ho), List.getElem_set_self, List.take_set_of_le (Nat.le_refl _), List.drop_set_of_lt (by omega)]
  simp [Nat.add_assoc, Nat.add_comm 1]
theorem spl_all {cs vs : Array Value} (h : vs.size = cs.size) : spl cs 0 vs.toList = vs := by
 have := splL cs.toList vs.toList 0 (by simp [h])
 simp only [Array.toArray_toList, List.take_zero, List.nil_append, Nat.zero_add] at this
 rw [this, List.drop_eq_nil_of_le (by simp [h])]
 simp
theorem Blk.whole {W : World} {b : Nat} {cs : Array Value} {t : TypeId} (h : Blk W b cs t) (vs : Array Value) (hs : vs.size = cs.size) : Blk (W.setCells b 0 vs.toList) b vs t := by
 have := h.setCells vs.toList 0
 rwa [spl_all hs] at this
/-! ### Operations -/
theorem wp_loadM {o : Oper} {a : Act} {w : World} {K : Act → World → Prop} {Q : Exit → Act → World → Prop} {t : TypeId} {n : Nat} (ht : RowTy P t n) (x : Operand) (ho : o.op = .load t x)
  (g off : Nat) (hx : a.eval x = .pointer (some ⟨g, off, none⟩)) (cs : List Value) (hB : w.rangeAt g off cs) (hs : cs.length = n)
  (h : K (a.put o.dst (.agg cs.toArray)) w) : o.wp P a w K Q := by
 obtain ⟨d, h1, h2, h3⟩ := ht
 exact wp_load_mid t x ho g off hx cs d hB h1 h2 (by rw [hs]; exact h3) h
theorem wp_loadB {o : Oper} {a : Act} {w : World} {K : Act → World → Prop} {Q : Exit → Act → World → Prop} {t : TypeId} {n : Nat} (ht : RowTy P t n) (x : Operand) (ho : o.op = .load t x)
  (g : Nat) (hx : a.eval x = .pointer (some ⟨g, 0, none⟩)) {cs : Array Value} {t' : TypeId} (hB : Blk w g cs t') (hs : cs.size = n)
  (h : K (a.put o.dst (.agg cs)) w) : o.wp P a w K Q := wp_loadM ht x ho g 0 hx cs.toList hB.rng0 (by simpa using hs) (by simpa using h)
theorem wpList_loadB {ops : Array Oper} {rest : List Oper} {o : Oper} {a : Act} {w : World} {Q : Exit → Act → World → Prop} {t : TypeId} {n : Nat} (ht : RowTy P t n) (hgd : o.guard = none) (x : Operand) (ho : o.op = .load t x)
  (g : Nat) (hx : a.eval x = .pointer (some ⟨g, 0, none⟩)) {cs : Array Value} {t' : TypeId} (hB : Blk w g cs t') (hs : cs.size = n)
  (h : wpList P ops Q rest (a.put o.dst (.agg cs)) w) : wpList P ops Q (o :: rest) a w :=
 wpList_plain hgd fun _ hK => wp_loadB ht x ho g hx hB hs (hK _ _ h)
theorem wp_storeM {o : Oper} {a : Act} {w : World} {K : Act → World → Prop} {Q : Exit → Act → World → Prop} {t : TypeId} {n : Nat} (ht : RowTy P t n) (x y : Operand) (ho : o.op = .store t x y)
  (g off : Nat) (cs : Array Value) (hx : a.eval x = .pointer (some ⟨g, off, none⟩)) (hy : a.eval y = .agg cs) (hB : w.there g off n) (hs : cs.size = n) (h1 : cs.all (·.oneCell') = true)
  (h : K (a.put o.dst undef) (w.setCells g off cs.toList)) : o.wp P a w K Q := by
 obtain ⟨d, _, _, h3⟩ := ht
 subst hs
 exact wp_store_mid t x y ho g off cs hx hy hB h3 h1 h
theorem wpList_storeM {ops : Array Oper} {rest : List Oper} {o : Oper} {a : Act} {w : World} {Q : Exit → Act → World → Prop} {t : TypeId} {n : Nat} (ht : RowTy P t n) (hgd : o.guard = none) (x y : Operand) (ho : o.op = .store t x y)
  (g off : Nat) (cs : Array Value) (hx : a.eval x = .pointer (some ⟨g, off, none⟩)) (hy : a.eval y = .agg cs) (hB : w.there g off n) (hs : cs.size = n) (h1 : cs.all (·.oneCell') = true)
  (h : wpList P ops Q rest (a.put o.dst undef) (w.setCells g off cs.toList)) : wpList P ops Q (o :: rest) a w :=
 wpList_plain hgd fun _ hK => wp_storeM ht x y ho g off cs hx hy hB hs h1 (hK _ _ h)
theorem wpList_storeB {ops : Array Oper} {rest : List Oper} {o : Oper} {a : Act} {w : World} {Q : Exit → Act → World → Prop} {t : TypeId} {n : Nat} (ht : RowTy P t n) (hgd : o.guard = none) (x y : Operand) (ho : o.op = .store t x y)
  (g : Nat) (cs : Array Value) (hx : a.eval x = .pointer (some ⟨g, 0, none⟩)) (hy : a.eval y = .agg cs) {old : Array Value} {t' : TypeId} (hB : Blk w g old t') (hold : old.size = n) (hs : cs.size = n) (h1 : cs.all (·.oneCell') = true)
  (h : wpList P ops Q rest (a.put o.dst undef) (w.setCells g 0 cs.toList)) : wpList P ops Q (o :: rest) a w :=
 wpList_storeM ht hgd x y ho g 0 cs hx hy (hB.there 0 n (by omega)) hs h1 h
/-- A result that lies in a block. -/
theorem run_loadVarB {w : World} {g : Nat} {cs : Array Value} {t t' : TypeId} {n : Nat} (ht : RowTy P t n) (hB : Blk w g cs t') (hs : cs.size = n) : (loadVar t ⟨g, 0, none⟩).run P w = .ok (.agg cs) w := by
 obtain ⟨d, h1, h2, h3⟩ := ht
 have := run_loadVar_mid (P := P) w g 0 t cs.toList d hB.rng0 h1 h2 (by simpa [hs] using h3)
 simpa using this
end Go.Proofs.YtlpchcdalfkfcaaGreat


/-
 Package meta: a book's pages; whether one of them is mapped. Conditions: a memory's books in order.
-/
namespace Go.Proofs.YtlpchcdalfkfcaaGreat
open Go.RowKit Go.ChangeShapes
attribute [local go_sem] Oper.semAt_some
set_option maxHeartbeats 8000000
set_option maxRecDepth 8000

def pgL (t : Int) (j : Nat) : List Int := (List.range 48).map fun i => if i < j then bkO t + i else 0
def pgA (t : Int) (j : Nat) : Array Value := (intVals .i64 (pgL t j)).toArray
theorem pgL_len (t : Int) (j : Nat) : (pgL t j).length = 48 := by simp [pgL]
theorem pgA_size (t : Int) (j : Nat) : (pgA t j).size = 48 := by simp [pgA, intVals, pgL_len]
theorem pgL_get (t : Int) (j i : Nat) (h : i < 48) : (pgL t j)[i]? = some (if i < j then bkO t + i else 0) := by simp [pgL, h]
theorem pgA_get (t : Int) (j i : Nat) (h : i < 48) : (pgA t j)[i]? = some (.int .i64 (if i < j then bkO t + i else 0)) := by
 unfold pgA intVals
 rw [List.getElem?_toArray, List.getElem?_map, pgL_get t j i h]
 rfl
theorem pgA_set (t : Int) (j : Nat) (h : j < 48) : (pgA t j).setIfInBounds j (.int .i64 (bkO t + j)) = pgA t (j + 1) := by
 refine Array.ext_getElem? fun i => ?_
 rw [Array.getElem?_setIfInBounds]
 by_cases hi : i < 48
 ·rw [pgA_get t _ i hi, pgA_get t _ i hi, pgA_size]
  by_cases e : j = i
  ·subst e; rw [if_pos rfl, if_pos h, if_pos (by omega)]
  ·rw [if_neg e]
   by_cases e2 : i < j
   ·rw [if_pos e2, if_pos (by omega)]
   ·rw [if_neg e2, if_neg (by omega)]
 ·rw [if_neg (by omega), Array.getElem?_eq_none (by rw [pgA_size]; omega), Array.getElem?_eq_none (by rw [pgA_size]; omega)]
theorem pgA_zero (t : Int) : pgA t 0 = (List.replicate 48 (.int .i64 0)).toArray := by
 refine Array.ext_getElem? fun i => ?_
 by_cases hi : i < 48
 ·rw [pgA_get t _ i hi, if_neg (by omega), List.getElem?_toArray, List.getElem?_replicate, if_pos hi]
 ·rw [Array.getElem?_eq_none (by rw [pgA_size]; omega), Array.getElem?_eq_none (by simp; omega)]
theorem pgA_one (t : Int) (j : Nat) : (pgA t j).all (·.oneCell') = true := by
 unfold pgA
 rw [List.all_toArray, List.all_eq_true]
 exact intVals_one .i64 _
theorem wpList_storeBH {P : Program} {ops : Array Oper} {rest : List Oper} {o : Oper} {a : Act} {w : World} {Q : Exit → Act → World → Prop} {t : TypeId} {n : Nat} (ht : RowTy P t n) (hgd : o.guard = none) (x y : Operand) (ho : o.op = .store t x y)
  (g : Nat) (cs : Array Value) (hx : a.eval x = .pointer (some ⟨g, 0, none⟩)) (hy : a.eval y = .agg cs) {old : Array Value} {t' : TypeId} (hB : Blk w g old t') (hold : old.size = n) (hs : cs.size = n) (h1 : cs.all (·.oneCell') = true)
  (h : ∀ w', Hid (w.setCells g 0 cs.toList = w') → wpList P ops Q rest (a.put o.dst undef) w') : wpList P ops Q (o :: rest) a w := wpList_storeB ht hgd x y ho g cs hx hy hB hold hs h1 (h _ (Lib.hid rfl))
theorem ty48 : RowTy Tryz.prog 91 48 := rowTy_of Tryz.underlying91 rfl (by kernel_rfl)
theorem run_ix48 (t : Int) (j : Nat) (h : j < 48) (W : World) : (Instr.index 91 (.agg (pgA t 48)) (.int .i64 j)).run Tryz.prog W = .ok (.int .i64 (bkO t + j)) W := by
 have h1 : (pgA t 48)[j]? = some (.int .i64 (bkO t + j)) := by rw [pgA_get t 48 j h, if_pos h]
 have hsz : (sizeOf 3).run Tryz.prog W = .ok 1 W := by kernel_rfl
 have hn : (0 : Int) ≤ j ∧ (j : Int) < 48 := by omega
 have hu := Tryz.underlying91
 simp [Instr.index, run_underlying hu, asIntOf, hn, part, hsz, h1, go_sem]
 intro h2
 omega
theorem bkO_bd (t : Int) : 0 ≤ bkO t ∧ bkO t ≤ 193 := by
 unfold bkO slotI
 split
 ·next h => have := of_decide_eq_true h; omega
 ·omega
theorem mpages_calls (m : Value) (t : Int) (w : World) : Calls Tryz.prog 40 #[.agg #[m, .int .i64 t]] w fun e w' => e = .returned (.agg (pgA t 48)) ∧ Below w.heap.size w w' := by
 obtain ⟨b0, b1⟩ := bkO_bd t
 obtain ⟨W0, hW0⟩ : ∃ W0, (w.alloc (.cells #[m, .int .i64 t] 72)).alloc (.cells #[.int .i64 0, .int .i64 0, .int .i64 0, .int .i64 0, .int .i64 0, .int .i64 0, .int .i64 0, .int .i64 0, .int .i64 0, .int .i64 0, .int .i64 0, .int .i64 0, .int .i64 0, .int .i64 0, .int .i64 0, .int .i64 0, .int .i64 0, .int .i64 0, .int .i64 0, .int .i64 0, .int .i64 0, .int .i64 0, .int .i64 0, .int .i64 0, .int .i64 0, .int .i64 0, .int .i64 0, .int .i64 0, .int .i64 0, .int .i64 0, .int .i64 0, .int .i64 0, .int .i64 0, .int .i64 0, .int .i64 0, .int .i64 0, .int .i64 0, .int .i64 0, .int .i64 0, .int .i64 0, .int .i64 0, .int .i64 0, .int .i64 0, .int .i64 0, .int .i64 0, .int .i64 0, .int .i64 0, .int .i64 0] 91) = W0 := ⟨_, rfl⟩
 have hlit : (#[.int .i64 0, .int .i64 0, .int .i64 0, .int .i64 0, .int .i64 0, .int .i64 0, .int .i64 0, .int .i64 0, .int .i64 0, .int .i64 0, .int .i64 0, .int .i64 0, .int .i64 0, .int .i64 0, .int .i64 0, .int .i64 0, .int .i64 0, .int .i64 0, .int .i64 0, .int .i64 0, .int .i64 0, .int .i64 0, .int .i64 0, .int .i64 0, .int .i64 0, .int .i64 0, .int .i64 0, .int .i64 0, .int .i64 0, .int .i64 0, .int .i64 0, .int .i64 0, .int .i64 0, .int .i64 0, .int .i64 0, .int .i64 0, .int .i64 0, .int .i64 0, .int .i64 0, .int .i64 0, .int .i64 0, .int .i64 0, .int .i64 0, .int .i64 0, .int .i64 0, .int .i64 0, .int .i64 0, .int .i64 0] : Array Value) = pgA t 0 := by rw [pgA_zero]; rfl
 have hX : Blk W0 w.heap.size #[m, .int .i64 t] 72 := by rw [← hW0]; exact (Blk.new w _ _).alloc _
 have hA : Blk W0 (w.heap.size + 1) (pgA t 0) 91 := by rw [← hW0, ← hlit]; exact Blk.newAt _ _ _ (by simp)
 have k0 : Below w.heap.size w W0 := by rw [← hW0]; exact ((Below.refl _ w).alloc (Nat.le_refl _) _).alloc (by simp) _
 clear hlit
 go_enter Tryz.func40, Tryz.ntmps40
 go_wp2_with fail
 clear hW0
 obtain ⟨g, hg⟩ : ∃ g, w.heap.size + 1 = g := ⟨_, rfl⟩
 rw [hg] at hA ⊢
 have hne : w.heap.size < g := by omega
 clear hg
 obtain ⟨b, hb⟩ : ∃ b, w.heap.size = b := ⟨_, rfl⟩
 rw [hb] at hX hne
 try simp only [hb]
 go_loopw [4] (fun i wr => ∃ j : Nat, j ≤ 48 ∧ i = .int .i64 j ∧ Blk wr b #[m, .int .i64 t] 72 ∧ Blk wr g (pgA t j) 91 ∧ Below w.heap.size w wr) (fun i _ => 48 - (intOf i).toNat)
 case atStart => exact ⟨0, by omega, rfl, hX, hA, k0⟩
 case round =>
  obtain ⟨j, hj, rfl, hX, hA, kr⟩ := hrel
  clear k0
  have d0 := hX.cell 0 (v := m) rfl
  have d1 := hX.cell 1 (v := .int .i64 t) rfl
  by_cases hlt : j < 48
  ·have i0 : (0 : Int) ≤ j := by omega
   have i1 : (j : Int) < 48 := by omega
   go_wp2_with fail
   refine (mbase_calls m t _).mono ?_; rintro e w1 ⟨rfl, k1⟩
   have hX1 := hX.below k1 hX.lt
   have hA1 := hA.below k1 hA.lt
   replace k1 := kr.trans (k1.mono kr.size)
   clear d0 d1 hX hA kr
   have q0 := hA1.cell j (pgA_get t j j hlt)
   have f0 := hA1.frozen j
   have hA2 := hA1.set j (.int .i64 (bkO t + j))
   rw [pgA_set t j hlt] at hA2
   have hX2 := hX1.setOther ⟨g, j, none⟩ (.int .i64 (bkO t + j)) (by simp; omega)
   have k2 := k1.setCell (p := ⟨g, j, none⟩) (by simp; omega) (.int .i64 (bkO t + j))
   have zg := hA1.lt
   clear hX1 hA1 k1
   go_wp2_with fail
   exact ⟨⟨j + 1, by omega, by go_num, hX2, hA2, k2⟩, by simp [intOf]; omega⟩
  ·obtain rfl : j = 48 := by omega
   have zg := hA.lt
   clear d0 d1
   go_wp2_with (first | refine wpList_loadB ty48 (by rfl) _ (by rfl) g (by rfl) hA (pgA_size t 48) ?_ | refine wpList_storeB ty48 (by rfl) _ _ (by rfl) g (pgA t 48) (by rfl) (by rfl) hA (pgA_size t 48) (pgA_size t 48) (pgA_one t 48) ?_)
   have hW := hA.whole (pgA t 48) rfl
   refine bodyPost_ret (v := .agg (pgA t 48)) ?_ rfl ⟨rfl, bel_setCells kr (by omega) _ _⟩
   simp [results, Tryz.results40, asAddr, Act.put, run_loadVarB ty48 hW (pgA_size t 48)]
end Go.Proofs.YtlpchcdalfkfcaaGreat

