/-
  Two pools say the same just if the document's do, in plain Lean. Conditions: books in order, reservations above 0.
-/
import Derived.Test.YtfmkjckckekliaaFrDw
namespace Go.Proofs.Ytfmkjckckekliaa
open Go.RowKit
set_option maxHeartbeats 400000
set_option maxRecDepth 4000

def keysN (n : Nat) (p : Int → Bool) : List Int := ((List.range n).map fun (i : Nat) => (i : Int)).filter p
theorem keysN_nodup (n : Nat) (p : Int → Bool) : (keysN n p).Nodup := by
  unfold keysN List.Nodup
  refine List.Pairwise.filter _ ?_
  rw [List.pairwise_map]
  exact List.pairwise_lt_range.imp fun h => by omega
theorem keysN_mem {n : Nat} {p : Int → Bool} {k : Int} : k ∈ keysN n p ↔ (0 ≤ k ∧ k < n) ∧ p k = true := by
  unfold keysN
  rw [List.mem_filter, List.mem_map]
  constructor
  · rintro ⟨⟨i, hi, rfl⟩, h⟩
    rw [List.mem_range] at hi
    exact ⟨⟨by omega, by omega⟩, h⟩
  · rintro ⟨⟨h0, h1⟩, h⟩
    exact ⟨⟨k.toNat, List.mem_range.2 (by omega), by omega⟩, h⟩
theorem keysN_len {α : Type} {n : Nat} {L : List (Int × α)} (hn : (L.map (·.1)).Nodup) (hb : ∀ x ∈ L, 0 ≤ x.1 ∧ x.1 < n) : (keysN n fun k => L.any fun x => x.1 == k).length = L.length := by
  have hp : (keysN n fun k => L.any fun x => x.1 == k).Perm (L.map (·.1)) := by
    refine (List.perm_ext_iff_of_nodup (keysN_nodup _ _) hn).2 fun k => ?_
    rw [keysN_mem, List.any_eq_true, List.mem_map]
    constructor
    · rintro ⟨_, x, hx, e⟩
      exact ⟨x, hx, by simpa using e⟩
    · rintro ⟨x, hx, rfl⟩
      exact ⟨hb x hx, x, hx, by simp⟩
  rw [hp.length_eq, List.length_map]
theorem keysN_sub {n : Nat} {p q : Int → Bool} (h : ∀ k : Int, 0 ≤ k → k < n → p k = true → q k = true) (hl : (keysN n p).length = (keysN n q).length) : ∀ k : Int, 0 ≤ k → k < n → p k = q k := by
  have hs : (keysN n p).Sublist (keysN n q) := by
    have e : keysN n p = (keysN n q).filter p := by
      unfold keysN
      rw [List.filter_filter]
      refine List.filter_congr fun k hk => ?_
      obtain ⟨i, hi, rfl⟩ := List.mem_map.1 hk
      rw [List.mem_range] at hi
      cases hp : p i
      · rfl
      · rw [h i (by omega) (by omega) hp]; rfl
    rw [e]
    exact List.filter_sublist
  have he := hs.eq_of_length hl
  intro k h0 h1
  rw [Bool.eq_iff_iff]
  constructor
  · exact h k h0 h1
  · intro hq
    have : k ∈ keysN n q := keysN_mem.2 ⟨⟨h0, h1⟩, hq⟩
    rw [← he] at this
    exact (keysN_mem.1 this).2
theorem samF_doc {many : Int} {F G : List Fr} {R S : List (Int × Int)} (g : Good many F R) (k : Good many G S) : samF F G ↔ docL many.toNat F = docL many.toNat G := by
  have hm := g.snd.m0
  have lF : (keysN many.toNat fun k => inF F k).length = F.length := keysN_len g.nd fun x hx => by have := g.inb x hx; omega
  have lG : (keysN many.toNat fun k => inF G k).length = G.length := keysN_len k.nd fun x hx => by have := k.inb x hx; omega
  constructor
  · rintro ⟨hl, h⟩
    have hin : ∀ i : Int, 0 ≤ i → i < many.toNat → inF F i = inF G i := by
      refine keysN_sub (fun i _ _ hi => ?_) (by exact lF.trans (hl.trans lG.symm))
      obtain ⟨x, hx, e⟩ := List.any_eq_true.1 hi
      have e' : x.1 = i := by simpa using e
      rw [← e']; exact (h x hx).1
    refine List.ext_getElem (by rw [docL_len, docL_len]) fun i h1 h2 => ?_
    rw [docL_get, docL_get]
    rw [docL_len] at h1
    unfold dAt
    rw [← hin i (by omega) (by omega)]
    cases hi : inF F i
    · rfl
    · obtain ⟨x, hx, e⟩ := List.any_eq_true.1 hi
      have e' : x.1 = (i : Int) := by simpa using e
      have h3 := mem_atW g.nd hx
      obtain ⟨_, h4, h5⟩ := h x hx
      rw [e'] at h3 h4 h5
      rw [if_pos rfl, if_pos rfl, h3.1, h3.2, h4, h5]
  · intro he
    have hd : ∀ i : Int, 0 ≤ i → i < many.toNat → dAt F i = dAt G i := by
      intro i h0 h1
      have hl : i.toNat < (docL many.toNat F).length := by rw [docL_len]; omega
      have hl2 : i.toNat < (docL many.toNat G).length := by rw [docL_len]; omega
      have := List.getElem_of_eq he hl
      rw [docL_get, docL_get, show ((i.toNat : Nat) : Int) = i by omega] at this
      exact this
    have hin : ∀ i : Int, 0 ≤ i → i < many.toNat → inF F i = inF G i := by
      intro i h0 h1
      have h2 := g.dAt_neg i
      have h3 := k.dAt_neg i
      rw [hd i h0 h1] at h2
      cases hF : inF F i <;> cases hG : inF G i
      · rfl
      · have := h2.2 hF; rw [h3] at this; rw [hG] at this; cases this
      · have := h3.2 hG; rw [h2] at this; rw [hF] at this; cases this
      · rfl
    refine ⟨?_, fun x hx => ?_⟩
    · rw [← lF, ← lG]
      congr 1
      unfold keysN
      refine List.filter_congr fun j hj => ?_
      obtain ⟨i, hi, rfl⟩ := List.mem_map.1 hj
      rw [List.mem_range] at hi
      exact hin i (by omega) (by omega)
    · have hb := g.inb x hx
      have h1 : inF F x.1 = true := List.any_eq_true.2 ⟨x, hx, by simp⟩
      have h2 := hin x.1 hb.1 (by omega)
      rw [h1] at h2
      have h3 := hd x.1 hb.1 (by omega)
      have h4 := mem_atW g.nd hx
      unfold dAt at h3
      rw [h1, ← h2, if_pos rfl, if_pos rfl, Prod.mk.injEq, h4.1, h4.2] at h3
      exact ⟨h2.symm, h3.1.symm, h3.2.symm⟩
/-! ### Reservations -/
def inR (R : List (Int × Int)) (k : Int) : Bool := R.any fun x => x.1 == k
def samR (R S : List (Int × Int)) : Prop := R.length = S.length ∧ ∀ x ∈ R, inR S x.1 = true ∧ resvI S x.1 = x.2
theorem PosR.in {R : List (Int × Int)} (h : PosR R) (hn : (R.map (·.1)).Nodup) (k : Int) : inR R k = true ↔ resvI R k ≠ 0 := by
  constructor
  · intro hi
    obtain ⟨x, hx, e⟩ := List.any_eq_true.1 hi
    have e' : x.1 = k := by simpa using e
    have := resvI_of hn hx
    rw [e'] at this
    have := h x hx
    omega
  · intro hne
    obtain ⟨p, hp, e, _⟩ := resvI_mem hne
    exact List.any_eq_true.2 ⟨p, hp, by simpa using e⟩
theorem samR_doc {many : Int} {F G : List Fr} {R S : List (Int × Int)} (g : Good many F R) (k : Good many G S) (hR : PosR R) (hS : PosR S) : samR R S ↔ docR R = docR S := by
  have lR : (keysN 64 fun k => inR R k).length = R.length := keysN_len g.rk fun x hx => by have := g.rin x hx; omega
  have lS : (keysN 64 fun k => inR S k).length = S.length := keysN_len k.rk fun x hx => by have := k.rin x hx; omega
  constructor
  · rintro ⟨hl, h⟩
    have hin : ∀ i : Int, 0 ≤ i → i < (64 : Nat) → inR R i = inR S i := by
      refine keysN_sub (fun i _ _ hi => ?_) (by exact lR.trans (hl.trans lS.symm))
      obtain ⟨x, hx, e⟩ := List.any_eq_true.1 hi
      have e' : x.1 = i := by simpa using e
      rw [← e']; exact (h x hx).1
    refine List.ext_getElem (by rw [docR_len, docR_len]) fun i h1 h2 => ?_
    rw [docR_get, docR_get]
    rw [docR_len] at h1
    have h3 := hin i (by omega) (by omega)
    by_cases hi : inR R i = true
    · obtain ⟨x, hx, e⟩ := List.any_eq_true.1 hi
      have e' : x.1 = (i : Int) := by simpa using e
      have h4 := resvI_of g.rk hx
      have h5 := (h x hx).2
      rw [e'] at h4 h5
      rw [h4, h5]
    · have h6 : ¬ inR S i = true := by rw [← h3]; exact hi
      rw [hR.in g.rk] at hi
      rw [hS.in k.rk] at h6
      omega
  · intro he
    have hd : ∀ i : Int, 0 ≤ i → i < 64 → resvI R i = resvI S i := by
      intro i h0 h1
      have hl : i.toNat < (docR R).length := by rw [docR_len]; omega
      have := List.getElem_of_eq he hl
      rw [docR_get, docR_get, show ((i.toNat : Nat) : Int) = i by omega] at this
      exact this
    have hin : ∀ i : Int, 0 ≤ i → i < 64 → inR R i = inR S i := by
      intro i h0 h1
      rw [Bool.eq_iff_iff, hR.in g.rk, hS.in k.rk, hd i h0 h1]
    refine ⟨?_, fun x hx => ?_⟩
    · rw [← lR, ← lS]
      congr 1
      unfold keysN
      refine List.filter_congr fun j hj => ?_
      obtain ⟨i, hi, rfl⟩ := List.mem_map.1 hj
      rw [List.mem_range] at hi
      exact hin i (by omega) (by omega)
    · have hb := g.rin x hx
      have h1 : inR R x.1 = true := List.any_eq_true.2 ⟨x, hx, by simp⟩
      rw [← hin x.1 hb.1 hb.2, ← hd x.1 hb.1 hb.2]
      exact ⟨h1, resvI_of g.rk hx⟩
end Go.Proofs.Ytfmkjckckekliaa
