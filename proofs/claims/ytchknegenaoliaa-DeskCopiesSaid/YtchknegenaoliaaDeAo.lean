/-
  Package pinfoldlaw21: two of the document's desks compared. No condition.
-/
import Derived.Test.YtchknegenaoliaaDeAn
namespace Go.Proofs.Ytchknegenaoliaa
open Go.RowKit
attribute [local go_sem] Oper.semAt_some
set_option maxHeartbeats 2000000
set_option maxRecDepth 8000

theorem eq_rten (x y : Ten) (d : Nat) (hd : d = 9998) (W : World) : (Op.equalIn d 48 (.agg #[.int .i64 x.g, .bool x.t, .int .i64 x.q, .int .i64 x.f]) (.agg #[.int .i64 y.g, .bool y.t, .int .i64 y.q, .int .i64 y.f])).run Try.prog W = .ok (decide (x = y)) W := by
  subst hd
  obtain ⟨xg, xt, xq, xf⟩ := x
  obtain ⟨yg, yt, yq, yf⟩ := y
  dsimp only
  by_cases e0 : xg = yg
  · subst e0
    by_cases e1 : xt = yt
    · subst e1
      by_cases e2 : xq = yq
      · subst e2
        by_cases e3 : xf = yf
        · subst e3
          rw [decide_eq_true rfl]
          go_simp
        · rw [decide_eq_false (fun e => e3 (congrArg Ten.f e))]
          go_simp
      · rw [decide_eq_false (fun e => e2 (congrArg Ten.q e))]
        go_simp
    · rw [decide_eq_false (fun e => e1 (congrArg Ten.t e))]
      go_simp
  · rw [decide_eq_false (fun e => e0 (congrArg Ten.g e))]
    go_simp
theorem eq_hnd (x y : Hnd) (d : Nat) (hd : d = 9998) (W : World) : (Op.equalIn d 28 (.agg #[.int .i64 x.s, .int .i64 x.g]) (.agg #[.int .i64 y.s, .int .i64 y.g])).run Try.prog W = .ok (decide (x = y)) W := by
  subst hd
  obtain ⟨xs, xg⟩ := x
  obtain ⟨ys, yg⟩ := y
  dsimp only
  by_cases e0 : xs = ys
  · subst e0
    by_cases e1 : xg = yg
    · subst e1
      rw [decide_eq_true rfl]
      go_simp
    · rw [decide_eq_false (fun e => e1 (congrArg Hnd.g e))]
      go_simp
  · rw [decide_eq_false (fun e => e0 (congrArg Hnd.s e))]
    go_simp
theorem part_row {t : TypeId} {n : Nat} {i : TypeInfo} {d : TypeDesc} (hu : Try.prog.underlying t = some d) (hd : d.isRow = true) (hi : Try.prog.info? t = some i) (hs : i.size = n) {W : World} {xs ys : Array Value} {o : Nat} (h : xs.extract o (o + n) = ys) : (part t xs o).run Try.prog W = .ok (.agg ys) W := by
  have h1 : (isAgg t).run Try.prog W = .ok true W := by
    unfold isAgg
    rw [Sem.run_bind, run_underlying hu W]
    cases d <;> simp_all
  have h2 : (sizeOf t).run Try.prog W = .ok n W := by simp [sizeOf, typeInfo, hi, hs]
  simp [part, h1, h2, h]
/-- A row's elements compared, one by one. -/
theorem eq_itemsN {α : Type} [DecidableEq α] {t : TypeId} {n : Nat} {enc : α → Array Value} {d : Nat} (hp : ∀ (W : World) (xs : Array Value) (o : Nat) (x : α), xs.extract o (o + n) = enc x → (part t xs o).run Try.prog W = .ok (.agg (enc x)) W)
    (he : ∀ x y W, (Op.equalIn d t (.agg (enc x)) (.agg (enc y))).run Try.prog W = .ok (decide (x = y)) W) {f g : Nat → α} {xs ys : Array Value} (W : World) (is : List Nat) (hx : ∀ i ∈ is, xs.extract (i * n) (i * n + n) = enc (f i)) (hy : ∀ i ∈ is, ys.extract (i * n) (i * n + n) = enc (g i)) :
    (Op.eqItems d t n xs ys is).run Try.prog W = .ok (is.all fun i => decide (f i = g i)) W := by
  induction is with
  | nil => rfl
  | cons i is ih =>
    have h1 := ih (fun j hj => hx j (List.mem_cons_of_mem _ hj)) (fun j hj => hy j (List.mem_cons_of_mem _ hj))
    simp only [Op.eqItems, Sem.run_bind, hp W _ _ _ (hx i List.mem_cons_self), hp W _ _ _ (hy i List.mem_cons_self), Result.andThen_ok, he]
    by_cases e : f i = g i
    · rw [decide_eq_true e]
      simp only [Bool.not_true, Bool.false_eq_true, if_false]
      rw [h1, List.all_cons, decide_eq_true e, Bool.true_and]
    · rw [decide_eq_false e]
      simp only [Bool.not_false, if_true]
      rw [List.all_cons, decide_eq_false e, Bool.false_and]; rfl
theorem hnds_all {H K : List Hnd} (hH : H.length = 4) (hK : K.length = 4) : ((List.range 4).all fun i : Nat => decide (hndD H i = hndD K i)) = decide (H = K) := by
  rw [Bool.eq_iff_iff, List.all_eq_true, decide_eq_true_iff]
  constructor
  · intro h
    refine hnds_ext hH hK fun j hj => ?_
    obtain ⟨k, rfl⟩ : ∃ k : Nat, j = k := ⟨j.toNat, by omega⟩
    simpa using h k (by simp; omega)
  · rintro rfl i _
    simp
theorem hnds_extract {H : List Hnd} (hH : H.length = 4) : ∀ i ∈ List.range 4, ((hndsV H).toArray).extract (i * 2) (i * 2 + 2) = #[.int .i64 (hndD H i).s, .int .i64 (hndD H i).g] := by
  obtain ⟨a, b, c, d, rfl⟩ := fourH hH
  intro i hi
  have : i < 4 := by simpa using hi
  match i, this with
  | 0, _ => apply Array.ext' <;> simp [hndsV, hndV, hndD, List.extract]
  | 1, _ => apply Array.ext' <;> simp [hndsV, hndV, hndD, List.extract]
  | 2, _ => apply Array.ext' <;> simp [hndsV, hndV, hndD, List.extract]
  | 3, _ => apply Array.ext' <;> simp [hndsV, hndV, hndD, List.extract]
theorem eq_rP {P Q : List Ten} (hP : P.length = 4) (hQ : Q.length = 4) (W : World) : (Op.equalIn 9999 49 (.agg (tensV P).toArray) (.agg (tensV Q).toArray)).run Try.prog W = .ok (decide (P = Q)) W := by
  obtain ⟨i, hi⟩ := info_of_underlying Try.underlying48
  have hc : Try.prog.cellsOf 48 = 4 := by kernel_rfl
  have hsz : (Try.prog.info? 48).map (·.size) = some 4 := by kernel_rfl
  have hs : i.size = 4 := by rw [hi] at hsz; simpa using hsz
  have hx := tens_extract hP []
  have hy := tens_extract hQ []
  rw [List.append_nil] at hx hy
  rw [run_equalIn_array (w := W) 9998 _ _ Try.underlying49 hi, hc, eq_itemsN (enc := fun x : Ten => #[.int .i64 x.g, .bool x.t, .int .i64 x.q, .int .i64 x.f]) (fun W xs o x h => part_row Try.underlying48 rfl hi hs h) (fun x y W => eq_rten x y _ rfl W) (f := fun i : Nat => tenD P i) (g := fun i : Nat => tenD Q i) W _ hx hy, tens_ext hP hQ]
theorem eq_rT {H K : List Hnd} (hH : H.length = 4) (hK : K.length = 4) (W : World) : (Op.equalIn 9999 50 (.agg (hndsV H).toArray) (.agg (hndsV K).toArray)).run Try.prog W = .ok (decide (H = K)) W := by
  obtain ⟨i, hi⟩ := info_of_underlying Try.underlying28
  have hc : Try.prog.cellsOf 28 = 2 := by kernel_rfl
  have hsz : (Try.prog.info? 28).map (·.size) = some 2 := by kernel_rfl
  have hs : i.size = 2 := by rw [hi] at hsz; simpa using hsz
  rw [run_equalIn_array (w := W) 9998 _ _ Try.underlying50 hi, hc, eq_itemsN (enc := fun x : Hnd => #[.int .i64 x.s, .int .i64 x.g]) (fun W xs o x h => part_row Try.underlying28 rfl hi hs h) (fun x y W => eq_hnd x y _ rfl W) (f := fun i : Nat => hndD H i) (g := fun i : Nat => hndD K i) W _ (hnds_extract hH) (hnds_extract hK), hnds_all hH hK]
theorem ref_cut {P : List Ten} {H : List Hnd} (h : RefL P H) : (refV P H).extract 0 (0 + 16) = (tensV P).toArray ∧ (refV P H).extract 16 (16 + 8) = (hndsV H).toArray := by
  obtain ⟨a, b, c, d, rfl⟩ := four h.p
  obtain ⟨e, f, g, i, rfl⟩ := fourH h.h
  constructor <;> apply Array.ext' <;> simp [refV, tensV, tenV, hndsV, hndV, List.extract]
theorem eq_ref {P Q : List Ten} {H K : List Hnd} (h : RefL P H) (k : RefL Q K) (W : World) : (Op.equalIn 10000 52 (.agg (refV P H)) (.agg (refV Q K))).run Try.prog W = .ok (decide (P = Q) && decide (H = K)) W := by
  obtain ⟨i, hi⟩ := info_of_underlying Try.underlying49
  obtain ⟨j, hj⟩ := info_of_underlying Try.underlying50
  have hsz : (Try.prog.info? 49).map (·.size) = some 16 := by kernel_rfl
  have hsz2 : (Try.prog.info? 50).map (·.size) = some 8 := by kernel_rfl
  have hs : i.size = 16 := by rw [hi] at hsz; simpa using hsz
  have hs2 : j.size = 8 := by rw [hj] at hsz2; simpa using hsz2
  have p1 := part_row (W := W) Try.underlying49 rfl hi hs (ref_cut h).1
  have p2 := part_row (W := W) Try.underlying49 rfl hi hs (ref_cut k).1
  have p3 := part_row (W := W) Try.underlying50 rfl hj hs2 (ref_cut h).2
  have p4 := part_row (W := W) Try.underlying50 rfl hj hs2 (ref_cut k).2
  have e1 := eq_rP h.p k.p W
  have e2 := eq_rT h.h k.h W
  have hfs : ∃ f1 f2 : Field, (Try.prog.fieldsOf 52).toList = [f1, f2] ∧ f1.name ≠ "_" ∧ f2.name ≠ "_" ∧ f1.type = 49 ∧ f2.type = 50 ∧ f1.offset = 0 ∧ f2.offset = 16 := ⟨_, _, rfl, by decide, by decide, rfl, rfl, rfl, rfl⟩
  obtain ⟨f1, f2, hf, n1, n2, t1, t2, o1, o2⟩ := hfs
  rw [run_equalIn_struct W 9999 52 _ _ Try.underlying52 (by kernel_rfl), hf]
  simp only [Op.eqFields, Sem.run_bind, Sem.run_ite, n1, n2, ne_eq, not_false_eq_true, if_true, t1, t2, o1, o2, p1, p2, Result.andThen_ok, e1]
  by_cases e : P = Q
  · rw [decide_eq_true e]
    simp only [Bool.not_true, Bool.false_eq_true, if_false, Sem.run_bind, p3, p4, Result.andThen_ok, e2]
    by_cases e9 : H = K
    · rw [decide_eq_true e9]; simp
    · rw [decide_eq_false e9]; simp
  · rw [decide_eq_false e]
    simp
end Go.Proofs.Ytchknegenaoliaa
