/-
  Chapter 9, plain: what a memory's books say, byte by byte. No condition.
-/
import Derived.Test.YtlpchcdalfkfcaaGreatBVmJ
import Derived.Test.YtlpchcdalfkfcaaGreatBVmH
namespace Go.Proofs.YtlpchcdalfkfcaaGreat
open Go.RowKit
set_option maxHeartbeats 1000000
set_option maxRecDepth 4000

/-- No two pages have one frame. -/
def FIv (D : Tb) : Prop := ∀ x ∈ D, ∀ y ∈ D, x.2.f = y.2.f → x.1 = y.1
structure MGd (s : Ms) : Prop where
  g : Good s.many s.F s.R
  gd : GoodP s.D
  fi : FIv s.D
  tk : ∀ x ∈ s.D, inF s.F x.2.f = true
theorem MGd.new (many : Int) (h0 : 0 ≤ many) (h1 : many ≤ 16384) : MGd ⟨many, [], [], []⟩ := ⟨good_new many h0 h1, GoodP.nil, fun _ h => (by cases h), fun _ h => (by cases h)⟩
theorem srt_len : ∀ {D : Tb} (a b : Int), SrtR D → (∀ x ∈ D, a ≤ x.1 ∧ x.1 < b) → (D.length : Int) ≤ max 0 (b - a)
  | [], a, b, _, _ => by simp; omega
  | x :: D, a, b, hs, hb => by
    have h1 := List.pairwise_cons.1 hs
    have hx := hb x List.mem_cons_self
    have ih := srt_len (x.1 + 1) b h1.2 (fun y hy => ⟨by have := h1.1 y hy; omega, (hb y (List.mem_cons_of_mem _ hy)).2⟩)
    rw [List.length_cons]
    omega
theorem MGd.len {s : Ms} (h : MGd s) : s.D.length ≤ 65536 := by
  have := srt_len 0 65536 h.gd.srt h.gd.pg
  omega
theorem MGd.ent {s : Ms} (h : MGd s) {p : Int} (hp : hasR s.D p = true) : (p, getE s.D p) ∈ s.D := getE_mem h.gd.srt hp
theorem MGd.frm {s : Ms} (h : MGd s) {p : Int} (hp : hasR s.D p = true) : inF s.F (getE s.D p).f = true := h.tk _ (h.ent hp)
theorem MGd.inj {s : Ms} (h : MGd s) {p q : Int} (hp : hasR s.D p = true) (hq : hasR s.D q = true) (e : (getE s.D p).f = (getE s.D q).f) : p = q := h.fi _ (h.ent hp) _ (h.ent hq) e
theorem inF_of_mem {F : List Fr} {x : Fr} (h : x ∈ F) : inF F x.1 = true := List.any_eq_true.2 ⟨x, h, by simp⟩
theorem inF_bd {many : Int} {F : List Fr} {R : List (Int × Int)} (g : Good many F R) {k : Int} (h : inF F k = true) : 0 ≤ k ∧ k < many := by
  obtain ⟨x, hx, e⟩ := List.any_eq_true.1 h
  have := g.inb x hx
  have e' : x.1 = k := by simpa using e
  omega
/-- A byte. -/
def byF (D : Tb) (F : List Fr) (a : Int) : Int := (dAt F (getE D (a / 256)).f).2.getD (a % 256).toNat 0
theorem dAt_bytes256 {many : Int} {F : List Fr} {R : List (Int × Int)} (g : Good many F R) {k : Int} (h : inF F k = true) : (dAt F k).2.length = 256 := by
  unfold dAt
  rw [if_pos h]
  exact bytesF_len g.snd.b256 k
theorem dAt_own {F G : List Fr} (h : ∀ k, (dAt F k).1 = (dAt G k).1) (hF : ∀ x ∈ F, 0 ≤ x.2.1) (hG : ∀ x ∈ G, 0 ≤ x.2.1) (k : Int) : inF F k = inF G k := by
  have own : ∀ (L : List Fr), (∀ x ∈ L, 0 ≤ x.2.1) → inF L k = true → 0 ≤ (dAt L k).1 := fun L hL hk => by
    unfold dAt
    rw [if_pos hk]
    unfold ownF
    cases hf : L.find? fun x => x.1 == k with
    | none => simp
    | some x => exact hL x (List.mem_of_find?_eq_some hf)
  have no : ∀ (L : List Fr), inF L k = false → (dAt L k).1 = -1 := fun L hk => by unfold dAt; rw [hk]; rfl
  have := h k
  cases h1 : inF F k <;> cases h2 : inF G k
  · rfl
  · have a := no F h1; have b := own G hG h2; omega
  · have a := no G h2; have b := own F hF h1; omega
  · rfl
theorem putL_get (bs xs : List Int) (n j : Nat) (h1 : n + xs.length ≤ bs.length) : (putL bs n xs).getD j 0 = if n ≤ j ∧ j < n + xs.length then xs.getD (j - n) 0 else bs.getD j 0 := by
  unfold putL
  simp only [List.getD_eq_getElem?_getD]
  have hn : (bs.take n).length = n := by rw [List.length_take]; omega
  by_cases h : j < n
  · rw [List.getElem?_append_left (by omega), if_neg (by omega), List.getElem?_take_of_lt h]
  · rw [List.getElem?_append_right (by omega), hn]
    by_cases h2 : j < n + xs.length
    · rw [List.getElem?_append_left (by omega), if_pos ⟨by omega, h2⟩]
    · rw [List.getElem?_append_right (by omega), if_neg (by omega), List.getElem?_drop]
      congr 2
      omega
theorem thr_ok {many : Int} {F : List Fr} {R : List (Int × Int)} (g : Good many F R) {fr at_ n : Int} (h : inF F fr = true) (h0 : 0 ≤ at_) (h1 : 0 ≤ n) (h2 : at_ + n ≤ 256) : thrErr many F fr at_ n = 0 := by
  have hb := inF_bd g h
  have e1 : offI many fr = false := by unfold offI; simp; omega
  have e2 : badI at_ n = false := by unfold badI; simp; omega
  unfold thrErr
  rw [e1, if_neg (by decide), e2, if_neg (by decide), if_pos h]
/-- One part written. -/
theorem wrt_one {many : Int} {F : List Fr} {R : List (Int × Int)} (g : Good many F R) {fr at_ : Int} {xs : List Int} (h : inF F fr = true) (h0 : 0 ≤ at_) (h2 : at_ + xs.length ≤ 256) (k : Int) :
    dAt (wrtAfter many F fr at_ xs) k = if k = fr then ((dAt F fr).1, putL (dAt F fr).2 at_.toNat xs) else dAt F k := by
  unfold wrtAfter
  rw [if_pos (show wrtErr many F fr at_ xs = 0 from thr_ok g h h0 (by omega) h2)]
  exact dAt_put F fr at_ xs k h
theorem Good.own0 {many : Int} {F : List Fr} {R : List (Int × Int)} (g : Good many F R) : ∀ x ∈ F, 0 ≤ x.2.1 := fun x hx => by
  have h1 := hasF_pos hx
  have h2 := g.le x.2.1
  obtain ⟨p, hp, e, _⟩ := resvI_mem (R := R) (who := x.2.1) (by omega)
  have := g.rin p hp
  omega
theorem wrP_at {many : Int} {R : List (Int × Int)} {D : Tb} (hs : SrtR D) (fi : FIv D) (u : Int) : ∀ (n : Nat) (f : Int) (F : List Fr) (bs : List Int), Good many F R → (∀ x ∈ D, inF F x.2.f = true) → 0 ≤ f → u - f ≤ n → (bs.length : Int) = u - f → (∀ x ∈ partsK n f u, hasR D x.1 = true) →
    (∀ k, (dAt (wrP many D (partsK n f u) F bs) k).1 = (dAt F k).1) ∧ ∀ a, hasR D (a / 256) = true → byF D (wrP many D (partsK n f u) F bs) a = if f ≤ a ∧ a < u then bs.getD (a - f).toNat 0 else byF D F a
  | 0, f, F, bs, g, tk, h0, h1, hb, hp => ⟨fun k => rfl, fun a ha => by rw [if_neg (by omega)]; rfl⟩
  | n + 1, f, F, bs, g, tk, h0, h1, hb, hp => by
    rw [partsK] at hp ⊢
    by_cases hlt : f < u
    · rw [if_pos hlt] at hp ⊢
      obtain ⟨m, hm⟩ : ∃ m, min (u - f) (256 - f % 256) = m := ⟨_, rfl⟩
      rw [hm] at hp ⊢
      have hx : hasR D (f / 256) = true := hp _ List.mem_cons_self
      rw [wrP]
      dsimp only
      obtain ⟨fr, hfr⟩ : ∃ fr, (getE D (f / 256)).f = fr := ⟨_, rfl⟩
      rw [hfr]
      have hin : inF F fr = true := by rw [← hfr]; exact tk _ (getE_mem hs hx)
      have hmt : (bs.take m.toNat).length = m.toNat := by rw [List.length_take]; omega
      have h1' := wrt_one (xs := bs.take m.toNat) g hin (show 0 ≤ f % 256 by omega) (by rw [hmt]; omega)
      have g1 := g.write fr (f % 256) (bs.take m.toNat)
      obtain ⟨F1, hF1⟩ : ∃ F1, wrtAfter many F fr (f % 256) (bs.take m.toNat) = F1 := ⟨_, rfl⟩
      rw [hF1] at h1' g1 ⊢
      have hown : ∀ k, (dAt F1 k).1 = (dAt F k).1 := fun k => by
        rw [h1' k]
        by_cases e : k = fr
        · rw [if_pos e, e]
        · rw [if_neg e]
      have tk1 : ∀ x ∈ D, inF F1 x.2.f = true := fun x hx => by rw [dAt_own hown g1.own0 g.own0]; exact tk x hx
      obtain ⟨q1, q2⟩ := wrP_at hs fi u n (f + m) F1 (bs.drop m.toNat) g1 tk1 (by omega) (by omega) (by rw [List.length_drop]; omega) (fun x hx => hp x (List.mem_cons_of_mem _ hx))
      refine ⟨fun k => (q1 k).trans (hown k), fun a ha => ?_⟩
      rw [q2 a ha]
      by_cases c1 : f + m ≤ a ∧ a < u
      · rw [if_pos c1, if_pos ⟨by omega, c1.2⟩]
        simp only [List.getD_eq_getElem?_getD, List.getElem?_drop]
        congr 2
        omega
      · rw [if_neg c1]
        unfold byF
        rw [h1' (getE D (a / 256)).f]
        have hl := dAt_bytes256 g hin
        by_cases e : (getE D (a / 256)).f = fr
        · have ep : a / 256 = f / 256 := fi _ (getE_mem hs ha) _ (getE_mem hs hx) (by rw [e, hfr])
          rw [if_pos e, putL_get _ _ _ _ (by rw [hmt, hl]; omega), hmt, e]
          by_cases c2 : f ≤ a ∧ a < f + m
          · rw [if_pos ⟨by omega, by omega⟩, if_pos ⟨c2.1, by omega⟩]
            simp only [List.getD_eq_getElem?_getD]
            rw [List.getElem?_take_of_lt (by omega)]
            congr 2
            omega
          · rw [if_neg (by omega), if_neg (by omega)]
        · rw [if_neg e, if_neg]
          intro c2
          have : a / 256 = f / 256 := by omega
          rw [this] at e
          exact e hfr
    · rw [if_neg hlt] at hp ⊢
      exact ⟨fun k => rfl, fun a ha => by rw [if_neg (by omega)]; rfl⟩
theorem parts_all (P : Int → Bool) (u : Int) : ∀ (n : Nat) (f : Int), 0 ≤ f → u - f ≤ n → (((partsK n f u).all fun x => P x.1) = true ↔ ∀ a, f ≤ a → a < u → P (a / 256) = true)
  | 0, f, h0, h1 => ⟨fun _ a h2 h3 => by omega, fun _ => rfl⟩
  | n + 1, f, h0, h1 => by
    rw [partsK]
    by_cases hlt : f < u
    · rw [if_pos hlt, List.all_cons, Bool.and_eq_true, parts_all P u n _ (by omega) (by omega)]
      dsimp only
      constructor
      · rintro ⟨q1, q2⟩ a h2 h3
        by_cases c : a < f + min (u - f) (256 - f % 256)
        · rw [show a / 256 = f / 256 by omega]; exact q1
        · exact q2 a (by omega) h3
      · intro q
        exact ⟨q f (Int.le_refl _) hlt, fun a h2 h3 => q a (by omega) h3⟩
    · rw [if_neg hlt]
      exact ⟨fun _ a h2 h3 => by omega, fun _ => rfl⟩
/-- What a reach reads. -/
theorem rdP_at {s : Ms} (h : MGd s) (u : Int) : ∀ (n : Nat) (f : Int), 0 ≤ f → u - f ≤ n → (∀ x ∈ partsK n f u, hasR s.D x.1 = true) → rdP s (partsK n f u) = (List.range (u - f).toNat).map fun (i : Nat) => byF s.D s.F (f + i)
  | 0, f, h0, h1, _ => by
    rw [show (u - f).toNat = 0 by omega]
    rfl
  | n + 1, f, h0, h1, hp => by
    rw [partsK] at hp ⊢
    by_cases hlt : f < u
    · rw [if_pos hlt] at hp ⊢
      obtain ⟨m, hm⟩ : ∃ m, min (u - f) (256 - f % 256) = m := ⟨_, rfl⟩
      rw [hm] at hp ⊢
      have hx : hasR s.D (f / 256) = true := hp _ List.mem_cons_self
      have ih := rdP_at h u n (f + m) (by omega) (by omega) (fun x hx => hp x (List.mem_cons_of_mem _ hx))
      have e : rdP s ((f / 256, f % 256, m) :: partsK n (f + m) u) = rdB s (f / 256, f % 256, m) ++ rdP s (partsK n (f + m) u) := rfl
      rw [e, ih]
      have hin := h.frm hx
      have hl := dAt_bytes256 h.g hin
      have eb : rdB s (f / 256, f % 256, m) = (((dAt s.F (getE s.D (f / 256)).f).2.drop (f % 256).toNat).take m.toNat) := by
        unfold rdB redL
        dsimp only
        rw [if_pos (show redErr s.many s.F (getE s.D (f / 256)).f (f % 256) m = 0 from thr_ok h.g hin (by omega) (by omega) (by omega))]
        unfold dAt
        rw [if_pos hin]
      rw [eb]
      have ek : (u - f).toNat = m.toNat + (u - (f + m)).toNat := by omega
      rw [ek, List.range_add, List.map_append, List.map_map]
      congr 1
      · refine List.ext_getElem (by simp; omega) fun i h1 h2 => ?_
        simp only [List.getElem_take, List.getElem_drop, List.getElem_map, List.getElem_range]
        have hi : i < m.toNat := by simp at h2; omega
        unfold byF
        rw [show (f + (i : Int)) / 256 = f / 256 by omega]
        rw [List.getD_eq_getElem?_getD, show ((f + (i : Int)) % 256).toNat = (f % 256).toNat + i by omega, List.getElem?_eq_getElem (by omega)]
        rfl
      · refine List.map_congr_left fun i _ => ?_
        simp only [Function.comp_apply]
        congr 1
        omega
    · rw [if_neg hlt, show (u - f).toNat = 0 by omega]
      rfl
end Go.Proofs.YtlpchcdalfkfcaaGreat

/-
  Chapter 9, plain: what each call makes of a memory's books. No condition.
-/
namespace Go.Proofs.YtlpchcdalfkfcaaGreat
open Go.RowKit
set_option maxHeartbeats 1000000
set_option maxRecDepth 4000

theorem getE_of {D : Tb} (h : SrtR D) {p : Int} {x : Ent} (hx : (p, x) ∈ D) : getE D p = x := by
  unfold getE
  rw [getR_some h.nodup hx]
  rfl
theorem getE_no {D : Tb} {p : Int} (h : hasR D p = false) : getE D p = ⟨0, 0, 0⟩ := by unfold getE; rw [getR_none h]; rfl
theorem has_of {D : Tb} {p : Int} {x : Ent} (hx : (p, x) ∈ D) : hasR D p = true := hasR_mem.2 (List.mem_map.2 ⟨_, hx, rfl⟩)
theorem getE_ins {D : Tb} (h : SrtR D) {n : Int} {x : Ent} (hn : hasR D n = false) (p : Int) : getE (insR n x D) p = if p = n then x else getE D p := by
  by_cases e : p = n
  · subst e
    rw [if_pos rfl, getE_of (h.ins hn) (insR_mem.2 (.inl rfl))]
  · rw [if_neg e]
    cases hp : hasR D p
    · rw [getE_no hp, getE_no (by rw [hasR_ins, hp]; simp; exact fun h => e h.symm)]
    · rw [getE_of (h.ins hn) (insR_mem.2 (.inr (getE_mem h hp)))]
theorem getE_del {D : Tb} (h : SrtR D) (n p : Int) (e : p ≠ n) : getE (delR D n) p = getE D p := by
  cases hp : hasR D p
  · rw [getE_no hp, getE_no (by rw [hasR_del, hp]; simp)]
  · rw [getE_of (h.del n) (delR_mem.2 ⟨getE_mem h hp, e⟩)]
section
variable {s : Ms}
theorem MGd.res (h : MGd s) (who n : Int) : MGd { s with R := resAfter s.many s.F s.R who n } := ⟨h.g.reserve who n, h.gd, h.fi, h.tk⟩
theorem MGd.free_frm (h : MGd s) {who : Int} (h0 : takErr s.F s.R who = 0) : inF s.F (takAt s.many s.F s.R who) = false ∧ 0 ≤ takAt s.many s.F s.R who ∧ takAfter s.many s.F s.R who = s.F ++ [(takAt s.many s.F s.R who, who, zeros256)] := by
  obtain ⟨k, suf, hk⟩ := h.g.free who h0
  have hm := free_mem (many := s.many) (F := s.F) (k := k) (by rw [hk]; exact List.mem_cons_self)
  have e : takAt s.many s.F s.R who = k := by unfold takAt; rw [if_pos h0, hk]; rfl
  rw [e]
  refine ⟨hm.2.2, hm.1, ?_⟩
  unfold takAfter
  rw [if_pos h0, hk]
  rfl
/-- Mapped, or not. -/
structure MapSp (s s' : Ms) (n o m : Int) : Prop where
  no : hasR s.D n = false
  pg : 0 ≤ n ∧ n < 65536
  en : (-1 ≤ o ∧ o ≤ 63) ∧ 0 ≤ m ∧ m ≤ 2
  has : ∀ p, hasR s'.D p = (n == p || hasR s.D p)
  get : ∀ p, p ≠ n → getE s'.D p = getE s.D p
  own : (getE s'.D n).o = o ∧ (getE s'.D n).m = m
  zero : ∀ a, a / 256 = n → byF s'.D s'.F a = 0
  same : ∀ a, hasR s.D (a / 256) = true → byF s'.D s'.F a = byF s.D s.F a
theorem MGd.map (h : MGd s) (n o p m : Int) : MGd (vmpF s n o p m) ∧ (vmpE s n o p m ≠ 0 → vmpF s n o p m = s) ∧ (vmpE s n o p m = 0 → MapSp s (vmpF s n o p m) n o m) := by
  unfold vmpE vmpF
  by_cases h1 : badOwner p = true
  · rw [if_pos h1, if_pos h1]; exact ⟨h, fun _ => rfl, fun h => by cases h⟩
  rw [if_neg h1, if_neg h1]
  by_cases h2 : mapE s.D n ⟨o, m, 16384⟩ = 0
  · rw [if_pos h2, if_pos h2]
    by_cases h3 : takErr s.F s.R p = 0
    · rw [if_pos h3, if_pos h3]
      obtain ⟨f1, f2, f3⟩ := h.free_frm h3
      obtain ⟨fr, hfr⟩ : ∃ fr, takAt s.many s.F s.R p = fr := ⟨_, rfl⟩
      rw [hfr] at f1 f2 f3 ⊢
      obtain ⟨a1, a2, a3, a4, _⟩ := mapE_ok h2
      dsimp only at a1 a2
      have hfm : frmR s.D fr = false := by
        unfold frmR
        rw [List.any_eq_false]
        intro x hx e
        have e' : x.2.f = fr := by simpa using e
        have := h.tk x hx
        rw [e', f1] at this
        cases this
      have hm0 : mapE s.D n ⟨o, m, fr⟩ = 0 := by
        unfold mapE
        dsimp only
        rw [if_neg (by unfold badM; simp; omega), if_neg (by unfold badO; simp; omega), if_neg (by unfold badP; simp; omega), if_neg (by rw [a4]; decide), if_neg (by rw [hfm]; decide)]
      have hd : mapD s.D n ⟨o, m, fr⟩ = insR n ⟨o, m, fr⟩ s.D := by unfold mapD; rw [if_pos hm0]
      have gd' := h.gd.map n ⟨o, m, fr⟩
      have g' := h.g.take p
      rw [hd] at gd'
      rw [f3] at g'
      rw [hm0, hd, f3]
      have hat : ∀ k, dAt (s.F ++ [(fr, p, zeros256)]) k = if k = fr then (p, zeros256) else dAt s.F k := fun k => dAt_append s.F (fr, p, zeros256) k f1
      refine ⟨⟨g', gd', ?_, ?_⟩, fun h => absurd rfl h, fun _ => ⟨a4, a3, ⟨by omega, by omega⟩, fun q => by rw [hasR_ins], fun q hq => by rw [getE_ins h.gd.srt a4, if_neg hq], by dsimp only; rw [getE_ins h.gd.srt a4, if_pos rfl]; exact ⟨rfl, rfl⟩, ?_, ?_⟩⟩
      · intro x hx y hy e
        rcases insR_mem.1 hx with rfl | hx
        · rcases insR_mem.1 hy with rfl | hy
          · rfl
          · have := h.tk y hy
            rw [← e] at this
            dsimp only at this
            rw [f1] at this; cases this
        · rcases insR_mem.1 hy with rfl | hy
          · have := h.tk x hx
            rw [e] at this
            dsimp only at this
            rw [f1] at this; cases this
          · exact h.fi x hx y hy e
      · intro x hx
        dsimp only
        unfold inF
        rw [List.any_append, Bool.or_eq_true]
        rcases insR_mem.1 hx with rfl | hx
        · right; simp
        · left; exact h.tk x hx
      · intro a ha
        unfold byF
        dsimp only
        rw [ha, getE_ins h.gd.srt a4, if_pos rfl, hat, if_pos rfl]
        dsimp only
        unfold zeros256
        rw [List.getD_eq_getElem?_getD, List.getElem?_replicate]
        split <;> rfl
      · intro a ha
        unfold byF
        dsimp only
        have hne : a / 256 ≠ n := fun e => by rw [e, a4] at ha; cases ha
        have hfn : (getE s.D (a / 256)).f ≠ fr := fun e => by have := h.frm ha; rw [e, f1] at this; cases this
        rw [getE_ins h.gd.srt a4, if_neg hne, hat, if_neg hfn]
    · rw [if_neg h3, if_neg h3]; exact ⟨h, fun _ => rfl, fun e => absurd e h3⟩
  · rw [if_neg h2, if_neg h2]; exact ⟨h, fun _ => rfl, fun e => absurd e h2⟩
structure UnmSp (s s' : Ms) (n : Int) : Prop where
  yes : hasR s.D n = true
  has : ∀ p, hasR s'.D p = (!(n == p) && hasR s.D p)
  get : ∀ p, p ≠ n → getE s'.D p = getE s.D p
  same : ∀ a, a / 256 ≠ n → hasR s.D (a / 256) = true → byF s'.D s'.F a = byF s.D s.F a
theorem MGd.unm (h : MGd s) (n : Int) : MGd (vumF s n) ∧ (vumE s n ≠ 0 → vumF s n = s) ∧ (vumE s n = 0 → UnmSp s (vumF s n) n) := by
  unfold vumE vumF
  by_cases h1 : unmE s.D n = 0
  · rw [if_pos h1, if_pos h1]
    obtain ⟨a1, a2⟩ := unmE_ok h1
    have ex : unmX s.D n = getE s.D n := by unfold unmX; rw [if_pos h1]
    have hin := h.frm a2
    rw [ex]
    obtain ⟨fr, hfr⟩ : ∃ fr, (getE s.D n).f = fr := ⟨_, rfl⟩
    rw [hfr] at hin ⊢
    have hg0 : givErr s.many s.F fr = 0 := thr_ok h.g hin (Int.le_refl _) (Int.le_refl _) (by decide)
    have hd : unmD s.D n = delR s.D n := by unfold unmD; rw [if_pos h1]
    have gd' := h.gd.unm n
    have g' := h.g.give fr
    have ef : givAfter s.many s.F fr = delF s.F fr := by unfold givAfter; rw [if_pos hg0]
    rw [hd] at gd'
    rw [ef] at g'
    rw [hg0, hd, ef]
    have hother : ∀ x ∈ delR s.D n, x.2.f ≠ fr := fun x hx e => by
      obtain ⟨hx1, hx2⟩ := delR_mem.1 hx
      exact hx2 (h.fi x hx1 _ (h.ent a2) (by rw [e, hfr]))
    refine ⟨⟨g', gd', ?_, ?_⟩, fun h => absurd rfl h, fun _ => ⟨a2, fun q => by rw [hasR_del], fun q hq => getE_del h.gd.srt n q hq, ?_⟩⟩
    · intro x hx y hy e
      exact h.fi x (delR_mem.1 hx).1 y (delR_mem.1 hy).1 e
    · intro x hx
      have h9 := h.tk x (delR_mem.1 hx).1
      have hne := hother x hx
      unfold inF at h9 ⊢
      obtain ⟨y, hy, e⟩ := List.any_eq_true.1 h9
      have e' : y.1 = x.2.f := by simpa using e
      exact List.any_eq_true.2 ⟨y, List.mem_filter.2 ⟨hy, by simp; rw [e']; exact hne⟩, e⟩
    · intro a hne ha
      unfold byF
      dsimp only
      rw [getE_del h.gd.srt n _ hne, dAt_del, if_neg]
      intro e
      exact hne (h.inj ha a2 (by rw [e, hfr]))
  · rw [if_neg h1, if_neg h1]; exact ⟨h, fun _ => rfl, fun e => absurd e h1⟩
theorem rchE_zero {D : Tb} {o at_ many may : Int} (h0 : 0 ≤ at_) : rchE D o at_ many may = 0 ↔ (1 ≤ many ∧ many ≤ 16777216) ∧ badWho o = false ∧ at_ ≤ 16777216 - many ∧ ∀ a, at_ ≤ a → a < at_ + many → rchB D o may (a / 256) = true := by
  unfold rchE
  by_cases h1 : badMany many = true
  · rw [if_pos h1]
    unfold badMany at h1
    simp at h1
    constructor
    · intro h; cases h
    · rintro ⟨h2, _⟩; omega
  · have h1' : 1 ≤ many ∧ many ≤ 16777216 := by unfold badMany at h1; simp at h1; omega
    rw [if_neg h1]
    cases h2 : badWho o
    · rw [if_neg (by decide)]
      by_cases h3 : 16777216 - many < at_
      · rw [if_pos h3]
        constructor
        · intro h; cases h
        · rintro ⟨_, _, h4, _⟩; omega
      · rw [if_neg h3]
        have hp := parts_all (fun p => rchB D o may p) (at_ + many) many.toNat at_ h0 (by omega)
        change ((partsL at_ many).all fun x => rchB D o may x.1) = true ↔ _ at hp
        by_cases h4 : ((partsL at_ many).all fun x => rchB D o may x.1) = true
        · rw [if_pos h4]; exact ⟨fun _ => ⟨h1', rfl, by omega, hp.1 h4⟩, fun _ => rfl⟩
        · rw [if_neg h4]; exact ⟨fun h => (by cases h), fun h => absurd (hp.2 h.2.2.2) h4⟩
    · rw [if_pos rfl]
      constructor
      · intro h; cases h
      · rintro ⟨_, h, _⟩; cases h
theorem rchB_has {D : Tb} {o may n : Int} (h : rchB D o may n = true) : hasR D n = true := by
  unfold rchB at h
  rw [Bool.and_eq_true] at h
  exact h.1
theorem reach_parts {D : Tb} {o at_ many may : Int} (h0 : 0 ≤ at_) (h : rchE D o at_ many may = 0) : ∀ x ∈ partsK many.toNat at_ (at_ + many), hasR D x.1 = true := by
  obtain ⟨h1, _, _, h4⟩ := (rchE_zero h0).1 h
  have := (parts_all (fun p => hasR D p) (at_ + many) many.toNat at_ h0 (by omega)).2 fun a h2 h3 => rchB_has (h4 a h2 h3)
  exact List.all_eq_true.1 this
structure WrtSp (s s' : Ms) (at_ : Int) (bs : List Int) : Prop where
  d : s'.D = s.D ∧ s'.R = s.R ∧ s'.many = s.many
  own : ∀ k, (dAt s'.F k).1 = (dAt s.F k).1
  at_ : ∀ a, hasR s.D (a / 256) = true → byF s'.D s'.F a = if at_ ≤ a ∧ a < at_ + bs.length then bs.getD (a - at_).toNat 0 else byF s.D s.F a
theorem MGd.wr (h : MGd s) (o at_ : Int) (bs : List Int) (h0 : 0 ≤ at_) : MGd (wrS s o at_ bs) ∧ (rchE s.D o at_ bs.length 2 ≠ 0 → wrS s o at_ bs = s) ∧ (rchE s.D o at_ bs.length 2 = 0 → WrtSp s (wrS s o at_ bs) at_ bs) := by
  unfold wrS
  by_cases h1 : rchE s.D o at_ bs.length 2 = 0
  · rw [if_pos h1]
    have hp := reach_parts h0 h1
    obtain ⟨q1, q2⟩ := wrP_at h.gd.srt h.fi (at_ + bs.length) (bs.length : Int).toNat at_ s.F bs h.g h.tk h0 (by omega) (by omega) hp
    have g' := Good.wrP (R := s.R) s.D (partsL at_ bs.length) bs h.g
    refine ⟨⟨g', h.gd, h.fi, fun x hx => ?_⟩, fun e => absurd h1 e, fun _ => ⟨⟨rfl, rfl, rfl⟩, q1, q2⟩⟩
    have e := dAt_own q1 g'.own0 h.g.own0 x.2.f
    exact e.trans (h.tk x hx)
  · rw [if_neg h1]; exact ⟨h, fun _ => rfl, fun e => absurd e h1⟩
/-- What is read. -/
theorem MGd.rd (h : MGd s) (o at_ many : Int) (h0 : 0 ≤ at_) : rdA s o at_ many = if rchE s.D o at_ many 1 = 0 then (List.range many.toNat).map fun (i : Nat) => byF s.D s.F (at_ + i) else [] := by
  unfold rdA
  by_cases h1 : rchE s.D o at_ many 1 = 0
  · rw [if_pos h1, if_pos h1]
    have := rdP_at h (at_ + many) many.toNat at_ h0 (by omega) (reach_parts h0 h1)
    rw [show at_ + many - at_ = many by omega] at this
    exact this
  · rw [if_neg h1, if_neg h1]
end
end Go.Proofs.YtlpchcdalfkfcaaGreat
