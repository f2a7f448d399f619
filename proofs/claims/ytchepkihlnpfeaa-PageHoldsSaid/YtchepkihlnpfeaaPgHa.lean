/-
  Package pinfoldlaw08: what PageHolds says of tables, in plain terms. No condition.
-/
import Derived.Test.YtchepkihlnpfeaaPgZ
namespace Go.Proofs.Ytchepkihlnpfeaa
open Go.RowKit
set_option maxHeartbeats 400000
set_option maxRecDepth 8000

/-- No two pages have one frame. -/
def FI (D : Tb) : Prop := ∀ x ∈ D, ∀ y ∈ D, x.2.f = y.2.f → x.1 = y.1
theorem frmR_no {D : Tb} {f : Int} (h : frmR D f = false) : ∀ y ∈ D, y.2.f ≠ f := by
  unfold frmR at h
  rw [List.any_eq_false] at h
  intro y hy e
  exact h y hy (by simpa using e)
theorem FI.nil : FI [] := fun x hx => absurd hx (by simp)
theorem FI.map {D : Tb} (h : FI D) (p : Int) (x : Ent) : FI (mapD D p x) := by
  unfold mapD
  split
  · rename_i he
    have hno := frmR_no (mapE_ok he).2.2.2.2
    intro y hy z hz e
    rcases insR_mem.1 hy with rfl | hy
    · rcases insR_mem.1 hz with rfl | hz
      · rfl
      · exact absurd e.symm (hno z hz)
    · rcases insR_mem.1 hz with rfl | hz
      · exact absurd e (hno y hy)
      · exact h y hy z hz e
  · exact h
theorem FI.unm {D : Tb} (h : FI D) (p : Int) : FI (unmD D p) := by
  unfold unmD
  split
  · intro y hy z hz e
    exact h y (delR_mem.1 hy).1 z (delR_mem.1 hz).1 e
  · exact h
theorem FI.pro {D : Tb} (h : FI D) (hs : SrtR D) (p m : Int) : FI (proD D p m) := by
  unfold proD
  split
  · rename_i he
    have hm := getE_mem hs (proE_ok he).2.2
    intro y hy z hz e
    rcases chgR_mem hy with ⟨rfl, _⟩ | hy
    · rcases chgR_mem hz with ⟨rfl, _⟩ | hz
      · rfl
      · exact h (p, getE D p) hm z hz e
    · rcases chgR_mem hz with ⟨rfl, _⟩ | hz
      · exact h y hy (p, getE D p) hm e
      · exact h y hy z hz e
  · exact h
def holdD (D : Tb) (x : ActV) : Tb := if x.f0 = 1 then unmD D x.f1 else if x.f0 = 2 then proD D x.f1 x.f4 else mapD D x.f1 ⟨x.f3, x.f4, x.f5⟩
theorem holdD_len (D : Tb) (x : ActV) : (holdD D x).length ≤ D.length + 1 := by
  unfold holdD
  split
  · have := unmD_len D x.f1; omega
  · split
    · have := proD_len D x.f1 x.f4; omega
    · exact mapD_len _ _ _
theorem Good.hold {D : Tb} (h : Good D) (x : ActV) : Good (holdD D x) := by
  unfold holdD
  split
  · exact h.unm _
  · split
    · exact h.pro _ _
    · exact h.map _ _
theorem FI.hold {D : Tb} (h : FI D) (hs : SrtR D) (x : ActV) : FI (holdD D x) := by
  unfold holdD
  split
  · exact h.unm _
  · split
    · exact h.pro hs _ _
    · exact h.map _ _
/-! ### Mapped, unmapped -/
theorem map_unm {D : Tb} (h : Good D) {p : Int} {x : Ent} (he : mapE D p x = 0) : unmX (mapD D p x) p = x ∧ unmE (mapD D p x) p = 0 ∧ unmD (mapD D p x) p = D := by
  obtain ⟨_, _, hp, hn, _⟩ := mapE_ok he
  have h1 : mapD D p x = insR p x D := by unfold mapD; rw [if_pos he]
  rw [h1]
  have h2 : unmE (insR p x D) p = 0 := by
    unfold unmE
    rw [if_neg (by unfold badP; simp; omega), if_neg (by rw [hasR_ins]; simp)]
  refine ⟨?_, h2, ?_⟩
  · unfold unmX
    rw [if_pos h2]
    unfold getE
    rw [getR_ins hn h.srt]; rfl
  · unfold unmD
    rw [if_pos h2]
    exact delR_ins hn
theorem map_no {D : Tb} {p : Int} {x : Ent} (he : mapE D p x ≠ 0) : mapD D p x = D := by unfold mapD; rw [if_neg he]
/-! ### The frames, owner by owner -/
def belR (D : Tb) (o : Int) : Tb := D.filter fun x => decide (x.2.o < o)
structure FrI (F : List (Int × Int)) (Q : Tb) : Prop where
  has : ∀ k, hasR F k = true ↔ ∃ y ∈ Q, y.2.f = k
  len : F.length = Q.length
theorem FrI.nil : FrI [] [] := ⟨fun k => by simp [hasR], rfl⟩
theorem FrI.put {F : List (Int × Int)} {Q : Tb} (h : FrI F Q) {x : Int × Ent} (hn : hasR F x.2.f = false) : FrI (putR F x.2.f 1) (Q ++ [x]) := by
  have e : putR F x.2.f 1 = insR x.2.f 1 F := by unfold putR; rw [if_neg (by rw [hn]; decide)]
  rw [e]
  refine ⟨fun k => ?_, by rw [insR_len, h.len]; simp⟩
  rw [hasR_ins, Bool.or_eq_true, h.has k]
  constructor
  · rintro (hk | ⟨y, hy, hf⟩)
    · exact ⟨x, by simp, by simpa using hk⟩
    · exact ⟨y, by simp [hy], hf⟩
  · rintro ⟨y, hy, hf⟩
    rcases List.mem_append.1 hy with hy | hy
    · exact .inr ⟨y, hy, hf⟩
    · simp at hy; subst hy; exact .inl (by simpa using hf)
theorem FrI.new {F : List (Int × Int)} {D : Tb} (hD : FI D) (hs : SrtR D) {o : Int} {i : Nat} (hi : i < (ofR D o).length) (h : FrI F (belR D o ++ (ofR D o).take i)) : hasR F (ofR D o)[i].2.f = false := by
  cases e : hasR F (ofR D o)[i].2.f with
  | false => rfl
  | true =>
    exfalso
    obtain ⟨y, hy, hf⟩ := (h.has _).1 e
    have hxm : (ofR D o)[i] ∈ ofR D o := List.getElem_mem hi
    have hx := List.mem_filter.1 hxm
    have hxo : (ofR D o)[i].2.o = o := by simpa using hx.2
    rcases List.mem_append.1 hy with hy | hy
    · have hy2 := List.mem_filter.1 hy
      have hk := hD y hy2.1 _ hx.1 hf
      have := inj_of_nodup hs.nodup hy2.1 hx.1 hk
      subst this
      have := of_decide_eq_true hy2.2
      omega
    · have hsr : SrtR (ofR D o) := List.Pairwise.sublist List.filter_sublist hs
      obtain ⟨j, hj, rfl⟩ := List.getElem_of_mem hy
      have hji : j < i := by rw [List.length_take] at hj; omega
      rw [List.getElem_take] at hf
      have hk := hD _ (List.mem_filter.1 (List.getElem_mem (show j < (ofR D o).length by omega))).1 _ hx.1 hf
      have hp := List.pairwise_iff_getElem.1 hsr j i (by omega) hi hji
      omega
theorem FrI.perm {F : List (Int × Int)} {Q R : Tb} (h : FrI F Q) (hm : ∀ y, y ∈ Q ↔ y ∈ R) (hl : Q.length = R.length) : FrI F R :=
  ⟨fun k => by rw [h.has k]; exact ⟨fun ⟨y, hy, e⟩ => ⟨y, (hm y).1 hy, e⟩, fun ⟨y, hy, e⟩ => ⟨y, (hm y).2 hy, e⟩⟩, h.len.trans hl⟩
theorem FrI.next {F : List (Int × Int)} {D : Tb} {o : Int} (h : FrI F (belR D o ++ ofR D o)) : FrI F (belR D (o + 1)) := by
  refine h.perm (fun y => ?_) ?_
  · unfold belR ofR
    rw [List.mem_append, List.mem_filter, List.mem_filter, List.mem_filter]
    simp only [decide_eq_true_eq, beq_iff_eq]
    constructor
    · rintro (⟨h1, h2⟩ | ⟨h1, h2⟩)
      · exact ⟨h1, by omega⟩
      · exact ⟨h1, by omega⟩
    · rintro ⟨h1, h2⟩
      by_cases h3 : y.2.o = o
      · exact .inr ⟨h1, h3⟩
      · exact .inl ⟨h1, by omega⟩
  · rw [List.length_append]
    exact (belO_step D o).symm
theorem belR_lo {D : Tb} (hg : Good D) : belR D (-1) = [] := by
  unfold belR
  rw [List.filter_eq_nil_iff]
  intro x hx
  have := hg.en x hx
  simp; omega
theorem belR_hi {D : Tb} (hg : Good D) : belR D 64 = D := by
  unfold belR
  rw [List.filter_eq_self]
  intro x hx
  have := hg.en x hx
  simp; omega
/-! ### The least free run -/
theorem runN_hi (many : Int) : ∀ (l : List Int) (a : Int), 1 ≤ many → runN many a l ≤ a + many * l.length
  | [], a, _ => by simp [runN]
  | n :: r, a, h1 => by
    rw [runN]
    have hl : many * ((n :: r).length : Int) = many * (r.length : Int) + many := by
      rw [List.length_cons]; push_cast; rw [Int.mul_add, Int.mul_one]
    rw [hl]
    split
    · have := runN_hi many r (n + 1) h1; omega
    · have := runN_hi many r a h1; omega
theorem next_in {D : Tb} (hl : D.length ≤ 41) {f many : Int} (h0 : 0 ≤ f) (h1 : f ≤ 300) (h2 : 1 ≤ many) (h3 : many ≤ 100) :
    nextI D f many = runN many f (D.map (·.1)) ∧ f ≤ nextI D f many ∧ nextI D f many ≤ 65536 - many := by
  have hh := runN_hi many (D.map (·.1)) f h2
  have hge := runN_ge many (D.map (·.1)) f
  rw [List.length_map] at hh
  have hmul : many * (D.length : Int) ≤ 100 * 41 := Int.mul_le_mul h3 (by omega) (by omega) (by omega)
  have e : nextI D f many = runN many f (D.map (·.1)) := by
    unfold nextI
    rw [show max 0 f = f by omega, if_neg (by omega), if_neg (by omega)]
  exact ⟨e, by rw [e]; exact hge, by rw [e]; omega⟩
theorem free_at {D : Tb} (hs : SrtR D) (hl : D.length ≤ 41) {f many at_ : Int} (h0 : 0 ≤ f) (h1 : f ≤ 300) (h2 : 1 ≤ many) (h3 : many ≤ 100) (ha : f ≤ at_) (hb : at_ ≤ nextI D f many) :
    freE at_ many = 0 ∧ frB D at_ many = decide (at_ = nextI D f many) := by
  obtain ⟨e, hge, hle⟩ := next_in hl h0 h1 h2 h3
  have he : freE at_ many = 0 := by
    unfold freE
    rw [if_neg (by omega), if_neg (by unfold badP; simp; omega), if_neg (by omega)]
  refine ⟨he, ?_⟩
  unfold frB
  rw [if_pos he]
  by_cases hx : at_ = nextI D f many
  · rw [decide_eq_true hx, freeB_iff, hx, e]
    exact runN_free hs.keys
  · rw [decide_eq_false hx]
    rw [e] at hb hx
    obtain ⟨n, hn, h4, h5⟩ := runN_least h2 ha (show at_ < runN many f (D.map (·.1)) by omega)
    cases hf : freeB D at_ many with
    | false => rfl
    | true =>
      exfalso
      have := (freeB_iff D at_ many).1 hf n hn
      omega
end Go.Proofs.Ytchepkihlnpfeaa
