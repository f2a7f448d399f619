/-
  Equality of rows of 64 ints, of frames that are somebody's, of the document's frames. Conditions: their lengths.
-/
import Derived.Test.YtfmkjckckekliaaFrDu
namespace Go.Proofs.Ytfmkjckckekliaa
open Go.RowKit
attribute [local go_sem] Oper.semAt_some
set_option maxHeartbeats 1000000
set_option maxRecDepth 8000

theorem part_one {t : TypeId} {d : TypeDesc} (hu : Try.prog.underlying t = some d) (hd : d.isRow = false) {W : World} {xs : Array Value} {o : Nat} {v : Value} (h : xs[o]? = some v) : (part t xs o).run Try.prog W = .ok v W := by
  have h1 : (isAgg t).run Try.prog W = .ok false W := by
    unfold isAgg
    rw [Sem.run_bind, run_underlying hu W]
    cases d <;> simp_all
  simp [part, h1, h]
theorem part_rowF {t : TypeId} {n : Nat} {i : TypeInfo} {d : TypeDesc} (hu : Try.prog.underlying t = some d) (hd : d.isRow = true) (hi : Try.prog.info? t = some i) (hs : i.size = n) {W : World} {xs ys : Array Value} {o : Nat} (h : xs.extract o (o + n) = ys) : (part t xs o).run Try.prog W = .ok (.agg ys) W := by
  have h1 : (isAgg t).run Try.prog W = .ok true W := by
    unfold isAgg
    rw [Sem.run_bind, run_underlying hu W]
    cases d <;> simp_all
  have h2 : (sizeOf t).run Try.prog W = .ok n W := by simp [sizeOf, typeInfo, hi, hs]
  simp [part, h1, h2, h]
/-- A row's elements of one cell compared, one by one. -/
theorem eq_items1 {t : TypeId} {d : Nat} {enc : Int → Value} (hp : ∀ (W : World) (xs : Array Value) (o : Nat) (x : Int), xs[o]? = some (enc x) → (part t xs o).run Try.prog W = .ok (enc x) W)
    (he : ∀ x y W, (Op.equalIn d t (enc x) (enc y)).run Try.prog W = .ok (decide (x = y)) W) {f g : Nat → Int} {xs ys : Array Value} (W : World) (is : List Nat) (hx : ∀ i ∈ is, xs[i * 1]? = some (enc (f i))) (hy : ∀ i ∈ is, ys[i * 1]? = some (enc (g i))) :
    (Op.eqItems d t 1 xs ys is).run Try.prog W = .ok (is.all fun i => decide (f i = g i)) W := by
  induction is with
  | nil => rfl
  | cons i is ih =>
    have h1 := ih (fun j hj => hx j (List.mem_cons_of_mem _ hj)) (fun j hj => hy j (List.mem_cons_of_mem _ hj))
    simp only [Op.eqItems, Sem.run_bind, hp W _ _ _ (hx i List.mem_cons_self), hp W _ _ _ (hy i List.mem_cons_self), Result.andThen_ok, he]
    by_cases e : f i = g i
    · rw [decide_eq_true e]
      simp only [Bool.not_true, Bool.false_eq_true, if_false]
      rw [h1, List.all_cons, decide_eq_true e, Bool.true_and]
    · rw [decide_eq_false e]
      simp only [Bool.not_false, if_true]
      rw [List.all_cons, decide_eq_false e, Bool.false_and]; rfl
theorem all_get {n : Nat} {L M : List Int} (hL : L.length = n) (hM : M.length = n) : ((List.range n).all fun i : Nat => decide (L.getD i 0 = M.getD i 0)) = decide (L = M) := by
  rw [Bool.eq_iff_iff, List.all_eq_true, decide_eq_true_iff]
  constructor
  · intro h
    refine List.ext_getElem (by omega) fun i h1 h2 => ?_
    have := h i (List.mem_range.2 (by omega))
    rw [decide_eq_true_iff, List.getD_eq_getElem?_getD, List.getElem?_eq_getElem h1, List.getD_eq_getElem?_getD, List.getElem?_eq_getElem h2] at this
    exact this
  · rintro rfl i _
    simp
theorem vals_get (k : IntKind) (L : List Int) (i : Nat) (h : i < L.length) : ((intVals k L).toArray)[i * 1]? = some (.int k (L.getD i 0)) := by
  rw [Nat.mul_one, List.getElem?_toArray, List.getD_eq_getElem?_getD, List.getElem?_eq_getElem h]
  unfold intVals
  rw [List.getElem?_map, List.getElem?_eq_getElem h]
  rfl
theorem eq_int {t : TypeId} {k : IntKind} (ht : Try.prog.underlying t = some (.int k)) (x y : Int) (d : Nat) (W : World) : (Op.equalIn (d + 1) t (.int k x) (.int k y)).run Try.prog W = .ok (decide (x = y)) W := by
  by_cases e : x = y
  · subst e; simp [Op.equalIn, run_underlying ht]
  · simp [Op.equalIn, run_underlying ht, e]
theorem eq_arr {t te : TypeId} {k : IntKind} {n : Nat} (ht : Try.prog.underlying t = some (.array n te)) (he : Try.prog.underlying te = some (.int k)) (hc : Try.prog.cellsOf te = 1) {V U : List Int} (hV : V.length = n) (hU : U.length = n) (d : Nat) (W : World) :
    (Op.equalIn (d + 1 + 1) t (.agg (intVals k V).toArray) (.agg (intVals k U).toArray)).run Try.prog W = .ok (decide (V = U)) W := by
  obtain ⟨i, hi⟩ := info_of_underlying he
  rw [run_equalIn_array (w := W) (d + 1) _ _ ht hi, hc, eq_items1 (enc := fun x : Int => .int k x) (fun W xs o x h => part_one he rfl h) (fun x y W => eq_int he x y d W) (f := fun i : Nat => V.getD i 0) (g := fun i : Nat => U.getD i 0) W _ (fun i h => vals_get _ _ _ (by rw [hV]; simpa using h)) (fun i h => vals_get _ _ _ (by rw [hU]; simpa using h)), all_get hV hU]
theorem eq_64 {V U : List Int} (hV : V.length = 64) (hU : U.length = 64) (W : World) : (Op.equalIn 10000 52 (.agg (intVals .i64 V).toArray) (.agg (intVals .i64 U).toArray)).run Try.prog W = .ok (decide (V = U)) W :=
  eq_arr Try.underlying52 Try.underlying3 (by kernel_rfl) hV hU 9998 W
theorem eq_256 {V U : List Int} (hV : V.length = 256) (hU : U.length = 256) (W : World) : (Op.equalIn 9999 87 (.agg (intVals .u8 V).toArray) (.agg (intVals .u8 U).toArray)).run Try.prog W = .ok (decide (V = U)) W :=
  eq_arr Try.underlying87 Try.underlying5 (by kernel_rfl) hV hU 9997 W
theorem taken_cut (o : Int) {bs : List Int} (h : bs.length = 256) : (takenA o bs).extract 1 (1 + 256) = (intVals .u8 bs).toArray := by
  apply Array.ext'
  simp [takenA, List.extract]
  exact List.take_of_length_le (by rw [intVals_len, h]; exact Nat.le_refl _)
theorem eq_taken (o p : Int) {bs cs : List Int} (h : bs.length = 256) (k : cs.length = 256) (W : World) : (Op.equalIn 10000 89 (.agg (takenA o bs)) (.agg (takenA p cs))).run Try.prog W = .ok (decide (o = p) && decide (bs = cs)) W := by
  obtain ⟨j, hj⟩ := info_of_underlying Try.underlying87
  have hsz2 : (Try.prog.info? 87).map (·.size) = some 256 := by kernel_rfl
  have hs2 : j.size = 256 := by rw [hj] at hsz2; simpa using hsz2
  have p1 : (part 3 (takenA o bs) 0).run Try.prog W = .ok (.int .i64 o) W := part_one Try.underlying3 rfl rfl
  have p2 : (part 3 (takenA p cs) 0).run Try.prog W = .ok (.int .i64 p) W := part_one Try.underlying3 rfl rfl
  have p3 := part_rowF (W := W) Try.underlying87 rfl hj hs2 (taken_cut o h)
  have p4 := part_rowF (W := W) Try.underlying87 rfl hj hs2 (taken_cut p k)
  have e1 : (Op.equalIn 9999 3 (.int .i64 o) (.int .i64 p)).run Try.prog W = .ok (decide (o = p)) W := eq_int Try.underlying3 o p 9998 W
  have e2 := eq_256 h k W
  have hfs : ∃ f1 f2 : Field, (Try.prog.fieldsOf 89).toList = [f1, f2] ∧ f1.name ≠ "_" ∧ f2.name ≠ "_" ∧ f1.type = 3 ∧ f2.type = 87 ∧ f1.offset = 0 ∧ f2.offset = 1 := ⟨_, _, rfl, by decide, by decide, rfl, rfl, rfl, rfl⟩
  obtain ⟨f1, f2, hf, n1, n2, t1, t2, o1, o2⟩ := hfs
  rw [run_equalIn_struct W 9999 89 _ _ Try.underlying89 (by kernel_rfl), hf]
  generalize takenA o bs = X at p1 p3 ⊢
  generalize takenA p cs = Y at p2 p4 ⊢
  generalize (intVals .u8 bs).toArray = X2 at p3 e2 ⊢
  generalize (intVals .u8 cs).toArray = Y2 at p4 e2 ⊢
  generalize decide (o = p) = r at e1 ⊢
  generalize decide (bs = cs) = q at e2 ⊢
  generalize hd9 : (9999 : Nat) = d9 at e1 e2 ⊢
  clear hd9
  simp only [Op.eqFields, Sem.run_bind, Sem.run_ite, n1, n2, ne_eq, not_false_eq_true, if_true, t1, t2, o1, o2, p1, p2, Result.andThen_ok, e1]
  cases r with
  | true =>
    try simp only [Bool.not_true, Bool.false_eq_true, if_false, Sem.run_bind]
    rw [p3, Result.andThen_ok]
    try simp only [Sem.run_bind]
    rw [p4, Result.andThen_ok]
    try simp only [Sem.run_bind]
    rw [e2]
    try simp only [Result.andThen_ok]
    cases q <;> rfl
  | false => rfl
end Go.Proofs.Ytfmkjckckekliaa
