/-
  Package pinfoldlaw07: the document's pool of a pool, in plain Lean. No condition.
-/
import Derived.Test.YtlpchcdalfkfcaaGreatBFrame
namespace Go.Proofs.YtlpchcdalfkfcaaGreat
open Go.RowKit
set_option maxHeartbeats 400000
set_option maxRecDepth 4000

/-- A frame of the document: its owner (-1: none), its bytes. -/
abbrev Df := Int × List Int
def dAt (F : List Fr) (i : Int) : Df := if inF F i = true then (ownF F i, bytesF F i) else (-1, [])
def docL (n : Nat) (F : List Fr) : List Df := (List.range n).map fun (i : Nat) => dAt F i
def docR (R : List (Int × Int)) : List Int := (List.range 64).map fun (k : Nat) => resvI R k
theorem docL_len (n : Nat) (F : List Fr) : (docL n F).length = n := by simp [docL]
theorem docR_len (R : List (Int × Int)) : (docR R).length = 64 := by simp [docR]
theorem docL_get (n : Nat) (F : List Fr) (i : Nat) (h : i < (docL n F).length) : (docL n F)[i] = dAt F i := by simp [docL]
theorem docR_get (R : List (Int × Int)) (i : Nat) (h : i < (docR R).length) : (docR R)[i] = resvI R i := by simp [docR]
theorem inF_cons (x : Fr) (F : List Fr) (k : Int) : inF (x :: F) k = (x.1 == k || inF F k) := rfl
theorem ownF_cons (x : Fr) (F : List Fr) (k : Int) : ownF (x :: F) k = if x.1 == k then x.2.1 else ownF F k := by
  unfold ownF
  rw [List.find?_cons]
  cases h : x.1 == k <;> simp
theorem bytesF_cons (x : Fr) (F : List Fr) (k : Int) : bytesF (x :: F) k = if x.1 == k then x.2.2 else bytesF F k := by
  unfold bytesF
  rw [List.find?_cons]
  cases h : x.1 == k <;> simp
theorem dAt_cons (x : Fr) (F : List Fr) (k : Int) : dAt (x :: F) k = if k = x.1 then x.2 else dAt F k := by
  unfold dAt
  rw [inF_cons, ownF_cons, bytesF_cons]
  by_cases h : k = x.1
  · subst h; simp
  · have : (x.1 == k) = false := by simp; omega
    simp [this, h]
theorem dAt_append (F : List Fr) (x : Fr) (k : Int) (h : inF F x.1 = false) : dAt (F ++ [x]) k = if k = x.1 then x.2 else dAt F k := by
  induction F with
  | nil => exact dAt_cons x [] k
  | cons y r ih =>
    rw [inF_cons, Bool.or_eq_false_iff] at h
    rw [List.cons_append, dAt_cons, dAt_cons, ih h.2]
    have hy : ¬ x.1 = y.1 := fun e => by rw [e] at h; simp at h
    by_cases h1 : k = y.1
    · rw [if_pos h1, if_pos h1, if_neg (by rw [h1]; exact fun e => hy e.symm)]
    · rw [if_neg h1, if_neg h1]
theorem dAt_del (F : List Fr) (fr k : Int) : dAt (delF F fr) k = if k = fr then (-1, []) else dAt F k := by
  induction F with
  | nil =>
    have : dAt [] k = (-1, []) := rfl
    show dAt [] k = _
    rw [this]; simp
  | cons y r ih =>
    unfold delF at ih ⊢
    rw [List.filter_cons, dAt_cons]
    cases h : y.1 == fr
    · rw [if_pos (by rfl), dAt_cons, ih]
      have h' : ¬ y.1 = fr := by simpa using h
      by_cases h1 : k = fr
      · rw [if_pos h1, if_pos h1, if_neg (by omega)]
      · rw [if_neg h1, if_neg h1]
    · rw [if_neg (by simp), ih]
      have h' : y.1 = fr := by simpa using h
      by_cases h1 : k = fr
      · rw [if_pos h1, if_pos h1]
      · rw [if_neg h1, if_neg h1, if_neg (by omega)]
theorem dAt_put (F : List Fr) (fr at_ : Int) (xs : List Int) (k : Int) (h : inF F fr = true) : dAt (putF F fr at_ xs) k = if k = fr then ((dAt F fr).1, putL (dAt F fr).2 at_.toNat xs) else dAt F k := by
  induction F with
  | nil => cases h
  | cons y r ih =>
    unfold putF at ih ⊢
    rw [List.map_cons]
    by_cases hy : y.1 = fr
    · rw [if_pos (by simpa using hy), dAt_cons, dAt_cons, dAt_cons, if_pos hy.symm]
      dsimp only
      by_cases h1 : k = fr
      · rw [if_pos (by omega), if_pos h1]
      · rw [if_neg (by omega), if_neg h1, if_neg (by omega)]
        cases hr : inF r fr
        · have : (r.map fun x => if x.1 == fr then (x.1, x.2.1, putL x.2.2 at_.toNat xs) else x) = r := by
            refine (List.map_congr_left fun x hx => ?_).trans (List.map_id r)
            rw [if_neg]; rfl
            intro e
            have : inF r fr = true := List.any_eq_true.2 ⟨x, hx, e⟩
            rw [hr] at this; cases this
          rw [this]
        · rw [ih hr, if_neg h1]
    · have hr : inF r fr = true := by rw [inF_cons] at h; simpa [hy] using h
      rw [if_neg (by simpa using hy), dAt_cons, dAt_cons y r fr, dAt_cons, if_neg (fun e : fr = y.1 => hy e.symm), ih hr]
      by_cases h1 : k = fr
      · rw [if_pos h1, if_neg (by omega), if_pos h1]
      · rw [if_neg h1, if_neg h1]
/-- A list that is another one but for one place. -/
theorem docL_set {n : Nat} {F G : List Fr} {k : Int} {x : Df} (h0 : 0 ≤ k) (h : ∀ i, dAt G i = if i = k then x else dAt F i) : docL n G = (docL n F).set k.toNat x := by
  refine List.ext_getElem (by simp [docL_len]) fun i h1 h2 => ?_
  rw [List.getElem_set, docL_get, h]
  by_cases e : (i : Int) = k
  · rw [if_pos e, if_pos (by omega)]
  · rw [if_neg e, if_neg (by omega), docL_get]
theorem docR_set {R S : List (Int × Int)} {k x : Int} (h0 : 0 ≤ k) (h : ∀ i, resvI S i = if i = k then x else resvI R i) : docR S = (docR R).set k.toNat x := by
  refine List.ext_getElem (by simp [docR_len]) fun i h1 h2 => ?_
  rw [List.getElem_set, docR_get, h]
  by_cases e : (i : Int) = k
  · rw [if_pos e, if_pos (by omega)]
  · rw [if_neg e, if_neg (by omega), docR_get]
theorem sum_set : ∀ (l : List Int) (i : Nat) (h : i < l.length) (a : Int), (l.set i a).sum = l.sum - l[i] + a
  | x :: l, 0, _, a => by simp; omega
  | x :: l, i + 1, h, a => by
    have := sum_set l i (by simpa using h) a
    simp only [List.set_cons_succ, List.sum_cons, List.getElem_cons_succ, this]
    omega
/-! ### What the document tells of it -/
def takD (L : List Df) (o : Int) : Nat := L.countP fun x => x.1 == o
def roomD (L : List Df) (V : List Int) : Int := L.length - V.sum
theorem takD_hasF {n : Nat} : ∀ (F : List Fr), (F.map (·.1)).Nodup → (∀ x ∈ F, 0 ≤ x.1 ∧ x.1 < n) → ∀ o, 0 ≤ o → takD (docL n F) o = hasF F o
  | [], _, _, o, ho => by
    have : hasF [] o = 0 := rfl
    rw [this]
    unfold takD
    rw [List.countP_eq_zero]
    intro x hx
    obtain ⟨i, _, rfl⟩ := List.mem_map.1 hx
    show ¬ (((-1 : Int) == o) = true)
    simp; omega
  | x :: F, hn, hb, o, ho => by
    rw [List.map_cons, List.nodup_cons] at hn
    have ih := takD_hasF (n := n) F hn.2 (fun y hy => hb y (List.mem_cons_of_mem _ hy)) o ho
    obtain ⟨h0, h1⟩ := hb x List.mem_cons_self
    have hlt : x.1.toNat < (docL n F).length := by rw [docL_len]; omega
    have hno : inF F x.1 = false := by
      unfold inF
      rw [List.any_eq_false]
      intro y hy e
      exact hn.1 (List.mem_map.2 ⟨y, hy, by simpa using e⟩)
    have hold : (docL n F)[x.1.toNat] = (-1, []) := by
      rw [docL_get, show ((x.1.toNat : Nat) : Int) = x.1 by omega]
      unfold dAt
      rw [hno]; rfl
    have hs : docL n (x :: F) = (docL n F).set x.1.toNat x.2 := docL_set h0 fun i => dAt_cons x F i
    unfold takD at ih ⊢
    rw [hs, List.countP_set hlt, hold, ih, hasF_cons, if_neg (show ¬ (((-1 : Int) == o) = true) by simp; omega)]
    simp only [beq_iff_eq, Nat.sub_zero]
    omega
theorem resvI_cons (x : Int × Int) (R : List (Int × Int)) (k : Int) : resvI (x :: R) k = if k = x.1 then x.2 else resvI R k := by
  unfold resvI
  rw [List.find?_cons]
  by_cases h : k = x.1
  · subst h; simp
  · have : (x.1 == k) = false := by simp; omega
    simp [this, h]
theorem docR_sum : ∀ (R : List (Int × Int)), (R.map (·.1)).Nodup → (∀ x ∈ R, 0 ≤ x.1 ∧ x.1 < 64) → (docR R).sum = sumR R
  | [], _, _ => by decide
  | x :: R, hn, hb => by
    rw [List.map_cons, List.nodup_cons] at hn
    have ih := docR_sum R hn.2 (fun y hy => hb y (List.mem_cons_of_mem _ hy))
    obtain ⟨h0, h1⟩ := hb x List.mem_cons_self
    have hlt : x.1.toNat < (docR R).length := by rw [docR_len]; omega
    have hold : (docR R)[x.1.toNat] = 0 := by
      rw [docR_get, show ((x.1.toNat : Nat) : Int) = x.1 by omega]
      by_cases h : resvI R x.1 = 0
      · exact h
      · obtain ⟨p, hp, e, _⟩ := resvI_mem h
        exact absurd (List.mem_map.2 ⟨p, hp, e⟩) hn.1
    have hs : docR (x :: R) = (docR R).set x.1.toNat x.2 := docR_set h0 fun i => resvI_cons x R i
    rw [hs, sum_set _ _ hlt, hold, ih]
    simp [sumR]; omega
/-- The least frame that is nobody's. -/
def freeD (L : List Df) : Nat := L.findIdx fun x => decide (x.1 < 0)
theorem Good.own {many : Int} {F : List Fr} {R : List (Int × Int)} (g : Good many F R) {k : Int} (h : inF F k = true) : 0 ≤ ownF F k ∧ ownF F k < 64 := by
  unfold ownF
  obtain ⟨y, hy, e⟩ := List.any_eq_true.1 h
  cases hq : F.find? fun x => x.1 == k with
  | none => exact absurd e (List.find?_eq_none.1 hq y hy)
  | some z =>
    have hz := List.mem_of_find?_eq_some hq
    have h1 := g.le z.2.1
    have h2 := hasF_pos hz
    obtain ⟨p, hp, e1, _⟩ := resvI_mem (R := R) (who := z.2.1) (by omega)
    have := g.rin p hp
    rw [e1] at this
    exact this
theorem Good.dAt_neg {many : Int} {F : List Fr} {R : List (Int × Int)} (g : Good many F R) (k : Int) : (dAt F k).1 < 0 ↔ inF F k = false := by
  unfold dAt
  cases h : inF F k
  · rw [if_neg (by decide)]; decide
  · rw [if_pos rfl]
    have := g.own h
    dsimp only
    constructor
    · intro h; omega
    · intro h; cases h
theorem freeD_head {many : Int} {F : List Fr} {R : List (Int × Int)} (g : Good many F R) {k : Int} {suf : List Int} (h : freeI many F = k :: suf) : k = freeD (docL many.toNat F) ∧ freeD (docL many.toNat F) < many.toNat := by
  obtain ⟨h0, h1, h2⟩ := free_mem (many := many) (F := F) (k := k) (by rw [h]; exact List.mem_cons_self)
  have hlt : freeD (docL many.toNat F) < (docL many.toNat F).length := by
    refine List.findIdx_lt_length_of_exists ⟨(docL many.toNat F)[k.toNat]'(by rw [docL_len]; omega), List.getElem_mem _, ?_⟩
    rw [docL_get, decide_eq_true_iff, g.dAt_neg]
    rw [show ((k.toNat : Nat) : Int) = k by omega]; exact h2
  have hc := (List.findIdx_eq hlt).1 rfl
  obtain ⟨c, hcc⟩ : ∃ c, freeD (docL many.toNat F) = c := ⟨_, rfl⟩
  have hcf : List.findIdx (fun x : Df => decide (x.1 < 0)) (docL many.toNat F) = c := hcc
  rw [docL_len] at hlt
  have e1 : inF F (c : Int) = false := by
    have := hc.1
    simp only [docL_get, decide_eq_true_iff] at this
    rw [g.dAt_neg] at this
    rw [← hcc]; exact this
  have e2 : freeK F c = [] := by
    unfold freeK
    rw [List.filter_eq_nil_iff]
    intro x hx
    obtain ⟨j, hj, rfl⟩ := List.mem_map.1 hx
    rw [List.mem_range] at hj
    have := hc.2 j (by show j < freeD (docL many.toNat F); rw [hcc]; exact hj)
    simp only [docL_get, decide_eq_false_iff_not] at this
    rw [g.dAt_neg] at this
    simpa using this
  obtain ⟨suf', hsf⟩ := free_split many F c (by rw [hcc] at hlt; omega) e1
  rw [h, e2] at hsf
  simp only [List.nil_append, List.cons.injEq] at hsf
  rw [hcc] at hlt ⊢
  exact ⟨hsf.1, hlt⟩
/-! ### The calls -/
def rsvE (L : List Df) (V : List Int) (o n : Int) : Int := if badOwner o = true then 2 else if n < 0 then 2 else if n < takD L o then 172 else if roomD L V + V.getD o.toNat 0 < n then 170 else 0
def rsvV (L : List Df) (V : List Int) (o n : Int) : List Int := if rsvE L V o n = 0 then V.set o.toNat n else V
def tkE (L : List Df) (V : List Int) (o : Int) : Int := if badOwner o = true then 2 else if V.getD o.toNat 0 ≤ takD L o then 171 else if freeD L < L.length then 0 else 171
def tkI (L : List Df) (V : List Int) (o : Int) : Int := if tkE L V o = 0 then freeD L else 0
def tkL (L : List Df) (V : List Int) (o : Int) : List Df := if tkE L V o = 0 then L.set (freeD L) (o, zeros256) else L
def gvE (L : List Df) (fr : Int) : Int := if fr < 0 ∨ L.length ≤ fr then 4 else if (L.getD fr.toNat (0, [])).1 < 0 then 5 else 0
def gvL (L : List Df) (fr : Int) : List Df := if gvE L fr = 0 then L.set fr.toNat (-1, []) else L
def asE (L : List Df) (fr at_ n : Int) : Int := if (fr < 0 ∨ L.length ≤ fr) ∨ at_ < 0 ∨ 256 < at_ ∨ n < 0 ∨ 256 - at_ < n then 4 else if (L.getD fr.toNat (0, [])).1 < 0 then 5 else 0
def rdL (L : List Df) (fr at_ n : Int) : List Int := if asE L fr at_ n = 0 then ((L.getD fr.toNat (0, [])).2.drop at_.toNat).take n.toNat else []
def wrL (L : List Df) (fr at_ : Int) (xs : List Int) : List Df := if asE L fr at_ xs.length = 0 then L.set fr.toNat ((L.getD fr.toNat (0, [])).1, putL (L.getD fr.toNat (0, [])).2 at_.toNat xs) else L
section
variable {many : Int} {F : List Fr} {R : List (Int × Int)}
theorem docR_at (R : List (Int × Int)) {o : Int} (h0 : 0 ≤ o) (h1 : o < 64) : (docR R).getD o.toNat 0 = resvI R o := by
  have hlt : o.toNat < (docR R).length := by rw [docR_len]; omega
  rw [List.getD_eq_getElem?_getD, List.getElem?_eq_getElem hlt, Option.getD_some, docR_get, show ((o.toNat : Nat) : Int) = o by omega]
theorem docL_at {n : Nat} (F : List Fr) {o : Int} (h0 : 0 ≤ o) (h1 : o < n) : (docL n F).getD o.toNat (0, []) = dAt F o := by
  have hlt : o.toNat < (docL n F).length := by rw [docL_len]; omega
  rw [List.getD_eq_getElem?_getD, List.getElem?_eq_getElem hlt, Option.getD_some, docL_get, show ((o.toNat : Nat) : Int) = o by omega]
theorem ownerOk {o : Int} : ¬ badOwner o = true ↔ 0 ≤ o ∧ o < 64 := by
  unfold badOwner
  rw [decide_eq_true_iff]; omega
theorem Good.tak (g : Good many F R) {o : Int} (ho : 0 ≤ o) : takD (docL many.toNat F) o = hasF F o :=
  takD_hasF F g.nd (fun x hx => by have := g.inb x hx; omega) o ho
theorem Good.room (g : Good many F R) : roomD (docL many.toNat F) (docR R) = many - sumR R := by
  have := g.snd.m0
  unfold roomD
  rw [docL_len, docR_sum R g.rk g.rin]; omega
theorem Good.resE (g : Good many F R) (o n : Int) : rsvE (docL many.toNat F) (docR R) o n = resErr many F R o n := by
  unfold rsvE resErr
  by_cases h : badOwner o = true
  · rw [if_pos h, if_pos h]
  · have ho := ownerOk.1 h
    rw [if_neg h, if_neg h, g.tak ho.1, g.room, docR_at R ho.1 ho.2]
theorem Good.resV (g : Good many F R) (o n : Int) : rsvV (docL many.toNat F) (docR R) o n = docR (resAfter many F R o n) := by
  unfold rsvV resAfter
  rw [g.resE]
  by_cases h : resErr many F R o n = 0
  · rw [if_pos h, if_pos h]
    obtain ⟨⟨h0, h1⟩, h2, _⟩ := resErr_zero h
    refine (docR_set h0 fun i => ?_).symm
    unfold resNew
    by_cases hn : n = 0
    · rw [if_pos hn, resvI_del, resvI_set]
      by_cases e : i = o
      · rw [if_pos e, if_pos e, hn]
      · rw [if_neg e, if_neg e]
        try rw [if_neg e]
    · rw [if_neg hn, resvI_set]
  · rw [if_neg h, if_neg h]
theorem Good.tkE_eq (g : Good many F R) (o : Int) : tkE (docL many.toNat F) (docR R) o = takErr F R o := by
  unfold tkE takErr
  by_cases h : badOwner o = true
  · rw [if_pos h, if_pos h]
  · have ho := ownerOk.1 h
    rw [if_neg h, if_neg h, g.tak ho.1, docR_at R ho.1 ho.2]
    by_cases h1 : resvI R o ≤ hasF F o
    · rw [if_pos h1, if_pos h1]
    · rw [if_neg h1, if_neg h1, if_pos]
      obtain ⟨k, suf, hk⟩ := g.free o (by unfold takErr; rw [if_neg h, if_neg h1])
      rw [docL_len]
      exact (freeD_head g hk).2
theorem Good.tkI_eq (g : Good many F R) (o : Int) : tkI (docL many.toNat F) (docR R) o = takAt many F R o := by
  unfold tkI takAt
  rw [g.tkE_eq]
  by_cases h : takErr F R o = 0
  · rw [if_pos h, if_pos h]
    obtain ⟨k, suf, hk⟩ := g.free o h
    rw [hk]
    exact (freeD_head g hk).1.symm
  · rw [if_neg h, if_neg h]
theorem Good.tkL_eq (g : Good many F R) (o : Int) : tkL (docL many.toNat F) (docR R) o = docL many.toNat (takAfter many F R o) := by
  unfold tkL takAfter
  rw [g.tkE_eq]
  by_cases h : takErr F R o = 0
  · rw [if_pos h, if_pos h]
    obtain ⟨k, suf, hk⟩ := g.free o h
    have hm := free_mem (many := many) (F := F) (k := k) (by rw [hk]; exact List.mem_cons_self)
    have he := (freeD_head g hk).1
    rw [hk]
    show _ = docL many.toNat (F ++ [(k, o, zeros256)])
    rw [docL_set hm.1 fun i => dAt_append F (k, o, zeros256) i hm.2.2]
    congr 1
    omega
  · rw [if_neg h, if_neg h]
theorem asE_eq (g : Good many F R) (fr at_ n : Int) : asE (docL many.toNat F) fr at_ n = thrErr many F fr at_ n := by
  have hm := g.snd.m0
  unfold asE thrErr offI badI
  rw [docL_len]
  by_cases h : fr < 0 ∨ many ≤ fr
  · rw [if_pos (.inl (by omega)), if_pos (by simpa using h)]
  · rw [if_neg (show ¬ (decide (fr < 0 ∨ many ≤ fr)) = true by simpa using h)]
    by_cases h2 : at_ < 0 ∨ 256 < at_ ∨ n < 0 ∨ 256 - at_ < n
    · rw [if_pos (.inr h2), if_pos (by simpa using h2)]
    · rw [if_neg (show ¬ (decide (at_ < 0 ∨ 256 < at_ ∨ n < 0 ∨ 256 - at_ < n)) = true by simpa using h2), if_neg (by intro h3; rcases h3 with h3 | h3; omega; exact h2 h3), docL_at F (by omega) (by omega)]
      cases hi : inF F fr
      · rw [if_pos ((g.dAt_neg fr).2 hi), if_neg (by decide)]
      · rw [if_neg (fun h9 => by rw [(g.dAt_neg fr).1 h9] at hi; cases hi), if_pos rfl]
theorem gvE_as (L : List Df) (fr : Int) : gvE L fr = asE L fr 0 0 := by
  unfold gvE asE
  by_cases h : fr < 0 ∨ (L.length : Int) ≤ fr
  · rw [if_pos h, if_pos (.inl h)]
  · rw [if_neg h, if_neg (show ¬ ((fr < 0 ∨ (L.length : Int) ≤ fr) ∨ (0 : Int) < 0 ∨ (256 : Int) < 0 ∨ (0 : Int) < 0 ∨ (256 : Int) - 0 < 0) by omega)]
theorem Good.gvE_eq (g : Good many F R) (fr : Int) : gvE (docL many.toNat F) fr = givErr many F fr := by rw [gvE_as, asE_eq g]; rfl
theorem Good.gvL_eq (g : Good many F R) (fr : Int) : gvL (docL many.toNat F) fr = docL many.toNat (givAfter many F fr) := by
  unfold gvL givAfter
  rw [g.gvE_eq]
  by_cases h : givErr many F fr = 0
  · rw [if_pos h, if_pos h]
    obtain ⟨h0, _⟩ := thr_zero h
    exact (docL_set h0 fun i => dAt_del F fr i).symm
  · rw [if_neg h, if_neg h]
theorem Good.rdL_eq (g : Good many F R) (fr at_ n : Int) : rdL (docL many.toNat F) fr at_ n = redL many F fr at_ n := by
  unfold rdL redL redErr
  rw [asE_eq g]
  by_cases h : thrErr many F fr at_ n = 0
  · rw [if_pos h, if_pos h]
    obtain ⟨h0, h1, _, _, _, _, hi⟩ := thr_zero h
    rw [docL_at F h0 (by omega)]
    unfold dAt
    rw [if_pos hi]
  · rw [if_neg h, if_neg h]
theorem Good.wrL_eq (g : Good many F R) (fr at_ : Int) (xs : List Int) : wrL (docL many.toNat F) fr at_ xs = docL many.toNat (wrtAfter many F fr at_ xs) := by
  unfold wrL wrtAfter wrtErr
  rw [asE_eq g]
  by_cases h : thrErr many F fr at_ xs.length = 0
  · rw [if_pos h, if_pos h]
    obtain ⟨h0, h1, _, _, _, _, hi⟩ := thr_zero h
    rw [docL_at F h0 (by omega)]
    exact (docL_set h0 fun i => dAt_put F fr at_ xs i hi).symm
  · rw [if_neg h, if_neg h]
end
/-! ### What calls keep besides -/
/-- Reservations are above 0. -/
def PosR (R : List (Int × Int)) : Prop := ∀ x ∈ R, 0 < x.2
theorem PosR.res {R : List (Int × Int)} (h : PosR R) (many : Int) (F : List Fr) (who n : Int) : PosR (resAfter many F R who n) := by
  unfold resAfter
  split
  · rename_i he
    obtain ⟨_, h0, _⟩ := resErr_zero he
    unfold resNew
    intro x hx
    by_cases hn : n = 0
    · rw [if_pos hn] at hx
      unfold delRF at hx
      obtain ⟨h1, h2⟩ := List.mem_filter.1 hx
      rcases mem_setR h1 with h3 | rfl
      · exact h x h3
      · simp at h2
    · rw [if_neg hn] at hx
      rcases mem_setR hx with h3 | rfl
      · exact h x h3
      · dsimp only; omega
  · exact h
/-- Bytes are bytes, reservations are above 0. -/
def Inv (F : List Fr) (R : List (Int × Int)) : Prop := (∀ x ∈ F, ∀ y ∈ x.2.2, 0 ≤ y ∧ y < 256) ∧ PosR R
theorem Inv.new : Inv [] [] := ⟨fun _ h => (by cases h), fun _ h => (by cases h)⟩
theorem Inv.res {F : List Fr} {R : List (Int × Int)} (h : Inv F R) (many : Int) (who n : Int) : Inv F (resAfter many F R who n) := ⟨h.1, h.2.res many F who n⟩
theorem Inv.take {F : List Fr} {R : List (Int × Int)} (h : Inv F R) (many : Int) (who : Int) : Inv (takAfter many F R who) R := by
  refine ⟨?_, h.2⟩
  unfold takAfter
  split
  · intro x hx y hy
    rcases List.mem_append.1 hx with hx | hx
    · exact h.1 x hx y hy
    · obtain rfl : x = _ := List.mem_singleton.1 hx
      obtain rfl : y = 0 := (List.mem_replicate.1 hy).2
      omega
  · exact h.1
theorem Inv.give {F : List Fr} {R : List (Int × Int)} (h : Inv F R) (many : Int) (fr : Int) : Inv (givAfter many F fr) R := by
  refine ⟨?_, h.2⟩
  unfold givAfter
  split
  · intro x hx y hy
    exact h.1 x (List.mem_filter.1 hx).1 y hy
  · exact h.1
theorem Inv.write {F : List Fr} {R : List (Int × Int)} (h : Inv F R) (many : Int) (fr at_ : Int) {xs : List Int} (hx : ∀ y ∈ xs, 0 ≤ y ∧ y < 256) : Inv (wrtAfter many F fr at_ xs) R := by
  refine ⟨?_, h.2⟩
  unfold wrtAfter
  split
  · intro z hz y hy
    obtain ⟨x, hx1, rfl⟩ := List.mem_map.1 hz
    by_cases e : (x.1 == fr) = true
    · rw [if_pos e] at hy
      dsimp only at hy
      unfold putL at hy
      rcases List.mem_append.1 hy with hy | hy
      · exact h.1 x hx1 y (List.mem_of_mem_take hy)
      · rcases List.mem_append.1 hy with hy | hy
        · exact hx y hy
        · exact h.1 x hx1 y (List.mem_of_mem_drop hy)
    · rw [if_neg e] at hy
      exact h.1 x hx1 y hy
  · exact h.1
end Go.Proofs.YtlpchcdalfkfcaaGreat
