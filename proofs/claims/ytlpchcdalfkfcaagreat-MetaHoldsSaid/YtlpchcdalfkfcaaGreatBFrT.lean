/-
 Package frame: the books stay in order (plain Lean). No condition.
-/
import Derived.Test.YtlpchcdalfkfcaaGreatBFrM
import Derived.Test.YtlpchcdalfkfcaaGreatBFrame
import Derived.Deep.Slices
import Derived.Test.YtlpchcdalfkfcaaGreatBFrB
namespace Go.Proofs.YtlpchcdalfkfcaaGreat
open Go.RowKit
set_option maxHeartbeats 1000000
set_option maxRecDepth 4000

/-- A pool's books are in order, and nobody has more than is reserved. -/
structure Good (many : Int) (F : List Fr) (R : List (Int × Int)) : Prop where
 snd : Sound many F R
 nd : (F.map (·.1)).Nodup
 inb : ∀ x ∈ F, 0 ≤ x.1 ∧ x.1 < many
 rk : (R.map (·.1)).Nodup
 rin : ∀ x ∈ R, 0 ≤ x.1 ∧ x.1 < 64
 le : ∀ who, (hasF F who : Int) ≤ resvI R who
theorem good_new (many : Int) (h0 : 0 ≤ many) (h1 : many ≤ 16384) : Good many [] [] :=
 ⟨⟨h0, h1, by simp, by simp, by simp, by simpa using h0⟩, by simp, by simp, by simp, by simp, fun who => by simp [hasF, resvI]⟩
theorem hasF_cons (x : Fr) (F : List Fr) (who : Int) : hasF (x :: F) who = (if x.2.1 = who then 1 else 0) + hasF F who := by
 unfold hasF
 by_cases e : x.2.1 = who
 ·simp [e]; omega
 ·have : (x.2.1 == who) = false := by simpa using e
  simp [e]
theorem hasF_filter_le (F : List Fr) (p : Fr → Bool) (who : Int) : hasF (F.filter p) who ≤ hasF F who := by
 induction F with
 | nil => simp
 | cons x r ih =>
  rw [List.filter_cons, hasF_cons]
  split
  ·rw [hasF_cons]; omega
  ·omega
theorem len_split (F : List Fr) (k : Int) : F.length = hasF F k + (F.filter fun x => !(x.2.1 == k)).length := by
 induction F with
 | nil => simp [hasF]
 | cons x r ih =>
  rw [hasF_cons, List.filter_cons]
  by_cases e : x.2.1 = k
  ·simp [e]; omega
  ·have : (!(x.2.1 == k)) = true := by simpa using e
   rw [if_pos this, if_neg e]
   simp; omega
theorem len_le_sum : ∀ (R : List (Int × Int)) (F : List Fr), (∀ x ∈ F, ∃ p ∈ R, p.1 = x.2.1) → (∀ p ∈ R, (hasF F p.1 : Int) ≤ p.2) → (F.length : Int) ≤ sumR R
 | [], F, hc, _ => by
  cases F with
  | nil => simp [sumR]
  | cons x r => obtain ⟨p, hp, _⟩ := hc x List.mem_cons_self; cases hp
 | q :: R, F, hc, hl => by
  have ih := len_le_sum R (F.filter fun x => !(x.2.1 == q.1)) (fun x hx => by
   obtain ⟨hx1, hx2⟩ := List.mem_filter.1 hx
   obtain ⟨p, hp, hpe⟩ := hc x hx1
   rcases List.mem_cons.1 hp with rfl | hp
   ·rw [hpe] at hx2; simp at hx2
   ·exact ⟨p, hp, hpe⟩) (fun p hp => by
   have h1 := hasF_filter_le F (fun x => !(x.2.1 == q.1)) p.1
   have h2 := hl p (List.mem_cons_of_mem _ hp)
   omega)
  have h1 := len_split F q.1
  have h2 := hl q List.mem_cons_self
  have h3 : sumR (q :: R) = q.2 + sumR R := by simp [sumR]
  omega
theorem resvI_mem {R : List (Int × Int)} {who : Int} (h : resvI R who ≠ 0) : ∃ p ∈ R, p.1 = who ∧ p.2 = resvI R who := by
 unfold resvI at h ⊢
 cases hq : R.find? fun p => p.1 == who with
 | none => rw [hq] at h; exact absurd rfl h
 | some p => exact ⟨p, List.mem_of_find?_eq_some hq, by simpa using List.find?_some hq, rfl⟩
theorem resvI_of {R : List (Int × Int)} (hn : (R.map (·.1)).Nodup) {p : Int × Int} (hp : p ∈ R) : resvI R p.1 = p.2 := by
 unfold resvI
 cases hq : R.find? fun x => x.1 == p.1 with
 | none => have := List.find?_eq_none.1 hq p hp; simp at this
 | some y =>
  have h1 := List.mem_of_find?_eq_some hq
  have h2 : y.1 = p.1 := by simpa using List.find?_some hq
  rw [inj_of_nodup hn h1 hp h2]; rfl
theorem hasF_pos {F : List Fr} {x : Fr} (hx : x ∈ F) : 0 < hasF F x.2.1 := by
 unfold hasF
 exact List.length_pos_of_mem (List.mem_filter.2 ⟨hx, by simp⟩)
theorem hasF_append (F : List Fr) (x : Fr) (who : Int) : hasF (F ++ [x]) who = hasF F who + (if x.2.1 = who then 1 else 0) := by
 unfold hasF
 by_cases e : x.2.1 = who
 ·simp [e]
 ·have : (x.2.1 == who) = false := by simpa using e
  simp [e]
/-- Whoever has some left: there are fewer than many. -/
theorem Good.some_left {many : Int} {F : List Fr} {R : List (Int × Int)} (g : Good many F R) {who : Int} (h : (hasF F who : Int) < resvI R who) : (F.length : Int) < many := by
 obtain ⟨p0, hp0, e0, v0⟩ := resvI_mem (R := R) (who := who) (by omega)
 have := len_le_sum R (F ++ [(0, who, [])]) (fun x hx => by
  rcases List.mem_append.1 hx with hx | hx
  ·have h1 := hasF_pos hx
   have h2 := g.le x.2.1
   obtain ⟨p, hp, e, _⟩ := resvI_mem (R := R) (who := x.2.1) (by omega)
   exact ⟨p, hp, e⟩
  ·obtain rfl := List.mem_singleton.1 hx
   exact ⟨p0, hp0, e0⟩) (fun p hp => by
  rw [hasF_append, ← resvI_of g.rk hp]
  have h1 := g.le p.1
  by_cases e : who = p.1
  ·subst e; simp; omega
  ·simp [e]; omega)
 have hs : sumR R ≤ many := g.snd.rs
 simp at this
 omega
theorem cover_len : ∀ (n : Nat) (F : List Fr), (∀ k : Nat, k < n → inF F k = true) → n ≤ F.length
 | 0, _, _ => Nat.zero_le _
 | n + 1, F, h => by
  have hn := h n (by omega)
  obtain ⟨x, hx, e⟩ := List.any_eq_true.1 hn
  have ih := cover_len n (F.filter fun y => !(y.1 == (n : Int))) fun k hk => by
   obtain ⟨y, hy, e2⟩ := List.any_eq_true.1 (h k (by omega))
   refine List.any_eq_true.2 ⟨y, List.mem_filter.2 ⟨hy, ?_⟩, e2⟩
   simp only [beq_iff_eq] at e2
   rw [e2]
   simp; omega
  have hlt : (F.filter fun y => !(y.1 == (n : Int))).length < F.length := by
   rw [← List.countP_eq_length_filter]
   refine Nat.lt_of_le_of_ne List.countP_le_length fun e9 => ?_
   have := List.countP_eq_length.1 e9 x hx
   rw [e] at this
   simp at this
  omega
theorem free_some {many : Int} {F : List Fr} (h0 : 0 ≤ many) (h : (F.length : Int) < many) : ∃ k suf, freeI many F = k :: suf := by
 cases hf : freeI many F with
 | cons k suf => exact ⟨k, suf, rfl⟩
 | nil =>
  exfalso
  have := cover_len many.toNat F fun k hk => by
   cases hi : inF F k with
   | true => rfl
   | false =>
    have : (k : Int) ∈ freeI many F := by
     unfold freeI freeK
     exact List.mem_filter.2 ⟨List.mem_map.2 ⟨k, List.mem_range.2 hk, rfl⟩, by simp [hi]⟩
    rw [hf] at this; cases this
  omega
theorem free_mem {many : Int} {F : List Fr} {k : Int} (h : k ∈ freeI many F) : 0 ≤ k ∧ k < many ∧ inF F k = false := by
 unfold freeI freeK at h
 obtain ⟨h1, h2⟩ := List.mem_filter.1 h
 obtain ⟨n, hn, rfl⟩ := List.mem_map.1 h1
 have := List.mem_range.1 hn
 exact ⟨by omega, by omega, by simpa using h2⟩
theorem takErr_zero {F : List Fr} {R : List (Int × Int)} {who : Int} (h : takErr F R who = 0) : badOwner who = false ∧ (hasF F who : Int) < resvI R who := by
 unfold takErr at h
 by_cases h1 : badOwner who = true
 ·simp [h1] at h
 ·by_cases h2 : resvI R who ≤ hasF F who
  ·simp [h1, h2] at h
  ·exact ⟨by simpa using h1, by omega⟩
theorem Good.free {many : Int} {F : List Fr} {R : List (Int × Int)} (g : Good many F R) (who : Int) (h : takErr F R who = 0) : ∃ k suf, freeI many F = k :: suf :=
 free_some g.snd.m0 (g.some_left (takErr_zero h).2)
theorem Good.take {many : Int} {F : List Fr} {R : List (Int × Int)} (g : Good many F R) (who : Int) : Good many (takAfter many F R who) R := by
 unfold takAfter
 by_cases h : takErr F R who = 0
 ·rw [if_pos h]
  obtain ⟨k, suf, hk⟩ := g.free who h
  have hm := free_mem (many := many) (F := F) (k := k) (by rw [hk]; exact List.mem_cons_self)
  rw [hk]
  show Good many (F ++ [(k, who, zeros256)]) R
  have hl := g.some_left (takErr_zero h).2
  have hm1 := g.snd.m1
  refine ⟨⟨g.snd.m0, g.snd.m1, ?_, by simp; omega, g.snd.r0, g.snd.rs⟩, ?_, ?_, g.rk, g.rin, ?_⟩
  ·intro x hx
   rcases List.mem_append.1 hx with hx | hx
   ·exact g.snd.b256 x hx
   ·obtain rfl := List.mem_singleton.1 hx; exact List.length_replicate
  ·rw [List.map_append, List.nodup_append]
   refine ⟨g.nd, by simp, ?_⟩
   intro a ha b hb
   have e8 : b = k := List.mem_singleton.1 hb
   intro e9
   obtain ⟨x, hx, e⟩ := List.mem_map.1 ha
   have : inF F k = true := List.any_eq_true.2 ⟨x, hx, by simp [e, e9, e8]⟩
   rw [hm.2.2] at this; cases this
  ·intro x hx
   rcases List.mem_append.1 hx with hx | hx
   ·exact g.inb x hx
   ·obtain rfl := List.mem_singleton.1 hx; exact ⟨hm.1, hm.2.1⟩
  ·intro w
   rw [hasF_append]
   have h1 := g.le w
   have h2 := (takErr_zero h).2
   by_cases e : who = w
   ·subst e; simp; omega
   ·simp [e]; omega
 ·rw [if_neg h]; exact g
theorem Good.write {many : Int} {F : List Fr} {R : List (Int × Int)} (g : Good many F R) (fr at_ : Int) (xs : List Int) : Good many (wrtAfter many F fr at_ xs) R := by
 unfold wrtAfter
 by_cases h : wrtErr many F fr at_ xs = 0
 ·rw [if_pos h]
  obtain ⟨z1, z2, z3, z4, z5, z6, z7⟩ := thr_zero h
  have key : ∀ x : Fr, (if x.1 == fr then (x.1, x.2.1, putL x.2.2 at_.toNat xs) else x).1 = x.1 ∧ (if x.1 == fr then (x.1, x.2.1, putL x.2.2 at_.toNat xs) else x).2.1 = x.2.1 := fun x => by split <;> simp
  have hk : (putF F fr at_ xs).map (·.1) = F.map (·.1) := by
   unfold putF; rw [List.map_map]; exact List.map_congr_left fun x _ => (key x).1
  have hh : ∀ who, hasF (putF F fr at_ xs) who = hasF F who := fun who => by
   unfold hasF putF
   rw [List.filter_map, List.length_map]
   congr 1
   exact List.filter_congr fun x _ => by simp only [Function.comp_apply]; rw [(key x).2]
  refine ⟨⟨g.snd.m0, g.snd.m1, ?_, by simpa [putF] using g.snd.fl, g.snd.r0, g.snd.rs⟩, by rw [hk]; exact g.nd, ?_, g.rk, g.rin, fun who => by rw [hh]; exact g.le who⟩
  ·intro x hx
   obtain ⟨y, hy, rfl⟩ := List.mem_map.1 hx
   have := g.snd.b256 y hy
   split
   ·exact putL_len _ _ _ this (by omega)
   ·exact this
  ·intro x hx
   obtain ⟨y, hy, rfl⟩ := List.mem_map.1 hx
   rw [(key y).1]
   exact g.inb y hy
 ·rw [if_neg h]; exact g
theorem find_map_set (R : List (Int × Int)) (who n k : Int) : (R.map fun p => if p.1 == who then (who, n) else p).find? (fun p => p.1 == k) = (R.find? fun p => p.1 == k).map fun p => if p.1 == who then (who, n) else p := by
 induction R with
 | nil => rfl
 | cons x r ih =>
  rw [List.map_cons, List.find?_cons, List.find?_cons]
  have hk : (if x.1 == who then (who, n) else x).1 = x.1 := by
   by_cases e : x.1 = who
   ·simp [e]
   ·simp [e]
  rw [hk]
  cases hb : x.1 == k
  ·exact ih
  ·rfl
theorem resvI_set (R : List (Int × Int)) (who n k : Int) : resvI (setR R who n) k = if k = who then n else resvI R k := by
 unfold setR
 by_cases ha : R.any (fun p => p.1 == who) = true
 ·rw [if_pos ha]
  unfold resvI
  rw [find_map_set]
  cases hf : R.find? fun p => p.1 == k with
  | none =>
   have : k ≠ who := fun e => by
    subst e
    obtain ⟨x, hx, e2⟩ := List.any_eq_true.1 ha
    exact absurd e2 (List.find?_eq_none.1 hf x hx)
   simp [this]
  | some p =>
   have hp : p.1 = k := by simpa using List.find?_some hf
   by_cases e : k = who
   ·subst e; simp [hp]
   ·have : p.1 ≠ who := by rw [hp]; exact e
    simp [this, e]
 ·rw [if_neg ha]
  unfold resvI
  rw [List.find?_append]
  by_cases e : k = who
  ·subst e
   have : R.find? (fun p => p.1 == k) = none := List.find?_eq_none.2 fun x hx e2 => ha (List.any_eq_true.2 ⟨x, hx, e2⟩)
   simp [this]
  ·have : ¬ who = k := fun h => e h.symm
   cases R.find? fun p => p.1 == k <;> simp [e, this]
theorem find_del (R : List (Int × Int)) (who k : Int) : (delRF R who).find? (fun p => p.1 == k) = if k = who then none else R.find? fun p => p.1 == k := by
 by_cases e : k = who
 ·rw [if_pos e]
  refine List.find?_eq_none.2 fun x hx e2 => ?_
  have h1 := (List.mem_filter.1 hx).2
  have h2 : x.1 = k := by simpa using e2
  rw [h2, e] at h1
  simp at h1
 ·rw [if_neg e]
  unfold delRF
  induction R with
  | nil => rfl
  | cons x r ih =>
   rw [List.filter_cons, List.find?_cons]
   by_cases h : x.1 = k
   ·have h1 : (!(x.1 == who)) = true := by rw [h]; simpa using e
    rw [if_pos h1, List.find?_cons]
    simp [h]
   ·have h1 : (x.1 == k) = false := by simpa using h
    rw [h1]
    split
    ·rw [List.find?_cons, h1]; exact ih
    ·exact ih
theorem resvI_del (R : List (Int × Int)) (who k : Int) : resvI (delRF R who) k = if k = who then 0 else resvI R k := by
 unfold resvI
 rw [find_del]
 split <;> rfl
theorem keys_set (R : List (Int × Int)) (who n : Int) : (setR R who n).map (·.1) = if R.any (fun p => p.1 == who) = true then R.map (·.1) else R.map (·.1) ++ [who] := by
 unfold setR
 split
 ·rw [List.map_map]
  refine List.map_congr_left fun x _ => ?_
  simp only [Function.comp_apply]
  split
  ·rename_i h; exact (by simpa using h : x.1 = who).symm
  ·rfl
 ·simp
theorem sumR_set : ∀ (R : List (Int × Int)) (who n : Int), (R.map (·.1)).Nodup → sumR (setR R who n) = sumR R - resvI R who + n := by
 intro R who n hn
 by_cases ha : R.any (fun p => p.1 == who) = true
 ·unfold setR
  rw [if_pos ha]
  induction R with
  | nil => simp at ha
  | cons x r ih =>
   rw [List.map_cons]
   obtain ⟨h1, h2⟩ := List.nodup_cons.1 (show (x.1 :: r.map (·.1)).Nodup from hn)
   by_cases e : x.1 = who
   ·have hr : (r.map fun p => if p.1 == who then (who, n) else p) = r := by
     conv => rhs; rw [← List.map_id r]
     refine List.map_congr_left fun y hy => ?_
     have : y.1 ≠ who := fun e2 => h1 (List.mem_map.2 ⟨y, hy, by rw [e2, e]⟩)
     simp [this]
    rw [hr]
    have hv : resvI (x :: r) who = x.2 := by simp [resvI, e]
    rw [hv]
    simp [sumR, e]; omega
   ·have hb : (x.1 == who) = false := by simpa using e
    have ha' : r.any (fun p => p.1 == who) = true := by simpa [e] using ha
    have hv : resvI (x :: r) who = resvI r who := by simp [resvI, e]
    have := ih h2 ha'
    rw [hv]
    have hc : ∀ (y : Int × Int) (l : List (Int × Int)), sumR (y :: l) = y.2 + sumR l := fun y l => by simp [sumR]
    rw [hc, hc, hb, this]
    simp; omega
 ·have hz : resvI R who = 0 := by
   unfold resvI
   rw [show R.find? (fun p => p.1 == who) = none from List.find?_eq_none.2 fun x hx e2 => ha (List.any_eq_true.2 ⟨x, hx, e2⟩)]
   rfl
  unfold setR
  rw [if_neg ha, hz]
  simp [sumR]
theorem sumR_del (R : List (Int × Int)) (who : Int) (hn : (R.map (·.1)).Nodup) : sumR (delRF R who) = sumR R - resvI R who := by
 by_cases ha : R.any (fun p => p.1 == who) = true
 ·obtain ⟨x, hx, e⟩ := List.any_eq_true.1 ha
  have e' : x.1 = who := by simpa using e
  have h1 := (sum_del R x hn hx).1
  have h2 := resvI_of hn hx
  rw [e'] at h1 h2
  unfold delRF
  omega
 ·have hz : resvI R who = 0 := by
   unfold resvI
   rw [show R.find? (fun p => p.1 == who) = none from List.find?_eq_none.2 fun x hx e2 => ha (List.any_eq_true.2 ⟨x, hx, e2⟩)]
   rfl
  have : delRF R who = R := List.filter_eq_self.2 fun x hx => by
   have : ¬ (x.1 == who) = true := fun e2 => ha (List.any_eq_true.2 ⟨x, hx, e2⟩)
   simpa using this
  rw [this, hz]; omega
theorem setR_keys {R : List (Int × Int)} {who n : Int} (hn : (R.map (·.1)).Nodup) : ((setR R who n).map (·.1)).Nodup := by
 rw [keys_set]
 split
 ·exact hn
 ·rename_i ha
  rw [List.nodup_append]
  refine ⟨hn, by simp, fun a h b hb => ?_⟩
  have e8 : b = who := List.mem_singleton.1 hb
  intro e9
  obtain ⟨x, hx, e⟩ := List.mem_map.1 h
  exact ha (List.any_eq_true.2 ⟨x, hx, by simp [e, e9, e8]⟩)
theorem mem_setR {R : List (Int × Int)} {who n : Int} {x : Int × Int} (hx : x ∈ setR R who n) : x ∈ R ∨ x = (who, n) := by
 unfold setR at hx
 split at hx
 ·obtain ⟨y, hy, rfl⟩ := List.mem_map.1 hx
  split
  ·exact .inr rfl
  ·exact .inl hy
 ·rcases List.mem_append.1 hx with h | h
  ·exact .inl h
  ·exact .inr (List.mem_singleton.1 h)
theorem resErr_zero {many : Int} {F : List Fr} {R : List (Int × Int)} {who n : Int} (h : resErr many F R who n = 0) : (0 ≤ who ∧ who < 64) ∧ 0 ≤ n ∧ (hasF F who : Int) ≤ n ∧ n ≤ many - sumR R + resvI R who := by
 unfold resErr badOwner at h
 by_cases h1 : who < 0 ∨ 64 ≤ who
 ·simp [h1] at h
 ·by_cases h2 : n < 0
  ·simp [h1, h2] at h
  ·by_cases h3 : n < hasF F who
   ·simp [h1, h2, h3] at h
   ·by_cases h4 : many - sumR R + resvI R who < n
    ·simp [h1, h2, h3, h4] at h
    ·omega
theorem Good.reserve {many : Int} {F : List Fr} {R : List (Int × Int)} (g : Good many F R) (who n : Int) : Good many F (resAfter many F R who n) := by
 unfold resAfter
 by_cases h : resErr many F R who n = 0
 ·rw [if_pos h]
  obtain ⟨z1, z2, z3, z4⟩ := resErr_zero h
  have hset : Good many F (setR R who n) := by
   have hs := g.snd.rs
   have hss := sumR_set R who n g.rk
   refine ⟨⟨g.snd.m0, g.snd.m1, g.snd.b256, g.snd.fl, fun x hx => ?_, ?_⟩, g.nd, g.inb, setR_keys g.rk, fun x hx => ?_, fun k => ?_⟩
   ·rcases mem_setR hx with h | rfl
    ·exact g.snd.r0 x h
    ·exact z2
   ·show sumR (setR R who n) ≤ many
    omega
   ·rcases mem_setR hx with h | rfl
    ·exact g.rin x h
    ·exact z1
   ·rw [resvI_set]
    by_cases e : k = who
    ·subst e; rw [if_pos rfl]; exact z3
    ·rw [if_neg e]; exact g.le k
  unfold resNew
  by_cases hn : n = 0
  ·rw [if_pos hn]
   subst hn
   have hsum := sumR_del (setR R who 0) who hset.rk
   have hv := resvI_set R who 0 who
   rw [if_pos rfl] at hv
   have hs := hset.snd.rs
   refine ⟨⟨g.snd.m0, g.snd.m1, g.snd.b256, g.snd.fl, fun x hx => hset.snd.r0 x (List.mem_filter.1 hx).1, ?_⟩, g.nd, g.inb, List.Nodup.sublist (List.filter_sublist.map _) hset.rk, fun x hx => hset.rin x (List.mem_filter.1 hx).1, fun k => ?_⟩
   ·show sumR (delRF (setR R who 0) who) ≤ many
    have : sumR (setR R who 0) ≤ many := hs
    omega
   ·rw [resvI_del]
    have := hset.le k
    by_cases e : k = who
    ·subst e; rw [if_pos rfl, ← hv]; exact this
    ·rw [if_neg e]; exact this
  ·rw [if_neg hn]; exact hset
 ·rw [if_neg h]; exact g
end Go.Proofs.YtlpchcdalfkfcaaGreat


/-
 Package pinfoldlaw07: calls in memory; few. No condition.
-/
namespace Go.Proofs.YtlpchcdalfkfcaaGreat
open Go.ChangeShapes Go.WideShapes Go.ChangeAt Go.RowKit
attribute [local go_sem] Oper.semAt_some
set_option maxHeartbeats 4000000
set_option maxRecDepth 4000

/-- A call, as it lies in memory. -/
structure ActV where
 what : Int
 who : Int
 n : Int
 at_ : Int
 v : Value
 bs : List Int
structure ActAt (B : Nat) (W : World) (b off : Nat) (a : ActV) : Prop where
 c0 : W.cell? ⟨b, off, none⟩ = some (.int .i64 a.what)
 c1 : W.cell? ⟨b, off + 1, none⟩ = some (.int .i64 a.who)
 c2 : W.cell? ⟨b, off + 2, none⟩ = some (.int .i64 a.n)
 c3 : W.cell? ⟨b, off + 3, none⟩ = some (.int .i64 a.at_)
 c4 : W.cell? ⟨b, off + 4, none⟩ = some a.v
 row : RowAt B W a.v a.bs.length (intVals .u8 a.bs)
 lt : b < B
 bw : ∀ y ∈ a.bs, 0 ≤ y ∧ y < 256
end Go.Proofs.YtlpchcdalfkfcaaGreat


/-
 Package pinfoldlaw07: FrameHolds' pool and map, call by call. Conditions: a pool whose books are in order.
-/
namespace Go.Proofs.YtlpchcdalfkfcaaGreat
open Go.RowKit
attribute [local go_sem] Oper.semAt_some
set_option maxHeartbeats 4000000
set_option maxRecDepth 4000

/-- Whose the frames are, as the statement notes it. -/
def encO (F : List Fr) : List (Int × Value) := F.map fun x => (x.1, .int .i64 x.2.1)
/-- What stands while the new frame is looked at. -/
structure NewS (cv : Value) (S : ByteArray) (Y : World) : Prop where
 cv : (convert 44 9 cv).run Tryz.prog Y = .ok (.string S) Y
/-- How things stand between two calls. -/
structure Stands (w W : World) (b bf br bw : Nat) (F : List Fr) (R : List (Int × Int)) : Prop where
 live : Live w W b bf br 10 F R
 good : Good 10 F R
 map : MapI W bw (encO F)
 lw : w.heap.size ≤ bw
 n0 : bw ≠ b
 n1 : bw ≠ bf
 n2 : bw ≠ br
end Go.Proofs.YtlpchcdalfkfcaaGreat


/-
 Package pinfoldlaw07: the document's pool of a pool, in plain Lean. No condition.
-/
namespace Go.Proofs.YtlpchcdalfkfcaaGreat
open Go.RowKit
set_option maxHeartbeats 400000
set_option maxRecDepth 4000

/-- A frame of the document: its owner (-1: none), its bytes. -/
abbrev Df := Int × List Int
def dAt (F : List Fr) (i : Int) : Df := if inF F i = true then (ownF F i, bytesF F i) else (-1, [])
theorem inF_cons (x : Fr) (F : List Fr) (k : Int) : inF (x :: F) k = (x.1 == k || inF F k) := rfl
theorem ownF_cons (x : Fr) (F : List Fr) (k : Int) : ownF (x :: F) k = if x.1 == k then x.2.1 else ownF F k := by
 unfold ownF
 rw [List.find?_cons]
 cases h : x.1 == k <;> simp
theorem bytesF_cons (x : Fr) (F : List Fr) (k : Int) : bytesF (x :: F) k = if x.1 == k then x.2.2 else bytesF F k := by
 unfold bytesF
 rw [List.find?_cons]
 cases h : x.1 == k <;> simp
theorem dAt_cons (x : Fr) (F : List Fr) (k : Int) : dAt (x :: F) k = if k = x.1 then x.2 else dAt F k := by
 unfold dAt
 rw [inF_cons, ownF_cons, bytesF_cons]
 by_cases h : k = x.1
 ·subst h; simp
 ·have : (x.1 == k) = false := by simp; omega
  simp [this, h]
theorem dAt_append (F : List Fr) (x : Fr) (k : Int) (h : inF F x.1 = false) : dAt (F ++ [x]) k = if k = x.1 then x.2 else dAt F k := by
 induction F with
 | nil => exact dAt_cons x [] k
 | cons y r ih =>
  rw [inF_cons, Bool.or_eq_false_iff] at h
  rw [List.cons_append, dAt_cons, dAt_cons, ih h.2]
  have hy : ¬ x.1 = y.1 := fun e => by rw [e] at h; simp at h
  by_cases h1 : k = y.1
  ·rw [if_pos h1, if_pos h1, if_neg (by rw [h1]; exact fun e => hy e.symm)]
  ·rw [if_neg h1, if_neg h1]
theorem dAt_put (F : List Fr) (fr at_ : Int) (xs : List Int) (k : Int) (h : inF F fr = true) : dAt (putF F fr at_ xs) k = if k = fr then ((dAt F fr).1, putL (dAt F fr).2 at_.toNat xs) else dAt F k := by
 induction F with
 | nil => cases h
 | cons y r ih =>
  unfold putF at ih ⊢
  rw [List.map_cons]
  by_cases hy : y.1 = fr
  ·rw [if_pos (by simpa using hy), dAt_cons, dAt_cons, dAt_cons, if_pos hy.symm]
   dsimp only
   by_cases h1 : k = fr
   ·rw [if_pos (by omega), if_pos h1]
   ·rw [if_neg (by omega), if_neg h1, if_neg (by omega)]
    cases hr : inF r fr
    ·have : (r.map fun x => if x.1 == fr then (x.1, x.2.1, putL x.2.2 at_.toNat xs) else x) = r := by
      refine (List.map_congr_left fun x hx => ?_).trans (List.map_id r)
      rw [if_neg]; rfl
      intro e
      have : inF r fr = true := List.any_eq_true.2 ⟨x, hx, e⟩
      rw [hr] at this; cases this
     rw [this]
    ·rw [ih hr, if_neg h1]
  ·have hr : inF r fr = true := by rw [inF_cons] at h; simpa [hy] using h
   rw [if_neg (by simpa using hy), dAt_cons, dAt_cons y r fr, dAt_cons, if_neg (fun e : fr = y.1 => hy e.symm), ih hr]
   by_cases h1 : k = fr
   ·rw [if_pos h1, if_neg (by omega), if_pos h1]
   ·rw [if_neg h1, if_neg h1]
/-! ### What the document tells of it -/
theorem Good.own {many : Int} {F : List Fr} {R : List (Int × Int)} (g : Good many F R) {k : Int} (h : inF F k = true) : 0 ≤ ownF F k ∧ ownF F k < 64 := by
 unfold ownF
 obtain ⟨y, hy, e⟩ := List.any_eq_true.1 h
 cases hq : F.find? fun x => x.1 == k with
 | none => exact absurd e (List.find?_eq_none.1 hq y hy)
 | some z =>
  have hz := List.mem_of_find?_eq_some hq
  have h1 := g.le z.2.1
  have h2 := hasF_pos hz
  obtain ⟨p, hp, e1, _⟩ := resvI_mem (R := R) (who := z.2.1) (by omega)
  have := g.rin p hp
  rw [e1] at this
  exact this
/-! ### The calls -/
section
variable {many : Int} {F : List Fr} {R : List (Int × Int)}
end
/-! ### What calls keep besides -/
end Go.Proofs.YtlpchcdalfkfcaaGreat


/-
 Rows with keys, rising: what is looked up, put, changed, taken out; the same of a list that is a turned one of them. No condition.
-/
namespace Go.Proofs.YtlpchcdalfkfcaaGreat
open Go.RowKit
section
variable {ρ : Type}
def SrtR (D : List (Int × ρ)) : Prop := D.Pairwise fun x y => x.1 < y.1
def getR (D : List (Int × ρ)) (k : Int) : Option ρ := (D.find? fun p => p.1 == k).map (·.2)
def hasR (D : List (Int × ρ)) (k : Int) : Bool := D.any fun p => p.1 == k
def insR (k : Int) (v : ρ) : List (Int × ρ) → List (Int × ρ)
 | [] => [(k, v)]
 | x :: r => if k < x.1 then (k, v) :: x :: r else x :: insR k v r
def chgR (D : List (Int × ρ)) (k : Int) (v : ρ) : List (Int × ρ) := D.map fun p => if p.1 == k then (k, v) else p
def putR (D : List (Int × ρ)) (k : Int) (v : ρ) : List (Int × ρ) := if hasR D k = true then chgR D k v else insR k v D
def delR (D : List (Int × ρ)) (k : Int) : List (Int × ρ) := D.filter fun p => !(p.1 == k)
def encR (enc : ρ → Value) (D : List (Int × ρ)) : List (Int × Value) := D.map fun x => (x.1, enc x.2)
theorem SrtR.nodup {D : List (Int × ρ)} (h : SrtR D) : (D.map (·.1)).Nodup := List.pairwise_map.2 (h.imp fun h e => by omega)
theorem SrtR.nil : SrtR ([] : List (Int × ρ)) := List.Pairwise.nil
theorem hasR_mem {D : List (Int × ρ)} {k : Int} : hasR D k = true ↔ k ∈ D.map (·.1) := by
 unfold hasR
 rw [List.any_eq_true, List.mem_map]
 exact ⟨fun ⟨x, hx, h⟩ => ⟨x, hx, by simpa using h⟩, fun ⟨x, hx, h⟩ => ⟨x, hx, by simpa using h⟩⟩
theorem hasR_no {D : List (Int × ρ)} {k : Int} : hasR D k = false ↔ ∀ p ∈ D, p.1 ≠ k := by
 rw [Bool.eq_false_iff, Ne, hasR_mem, List.mem_map]
 exact ⟨fun h p hp e => h ⟨p, hp, e⟩, fun h ⟨p, hp, e⟩ => h p hp e⟩
theorem getR_none {D : List (Int × ρ)} {k : Int} (h : hasR D k = false) : getR D k = none := by
 unfold getR
 rw [List.find?_eq_none.2 fun p hp => by simpa using hasR_no.1 h p hp]
 rfl
theorem getR_some {D : List (Int × ρ)} (hn : (D.map (·.1)).Nodup) {p : Int × ρ} (hp : p ∈ D) : getR D p.1 = some p.2 := by
 unfold getR
 induction D with
 | nil => simp at hp
 | cons q D ih =>
  simp only [List.map_cons, List.nodup_cons] at hn
  rw [List.find?_cons]
  rcases List.mem_cons.1 hp with rfl | hp'
  ·simp
  ·have : q.1 ≠ p.1 := fun e => hn.1 (by rw [e]; exact List.mem_map_of_mem hp')
   rw [show (q.1 == p.1) = false by simpa using this]
   exact ih hn.2 hp'
theorem getR_has {D : List (Int × ρ)} (hn : (D.map (·.1)).Nodup) {k : Int} (h : hasR D k = true) : ∃ v, (k, v) ∈ D ∧ getR D k = some v := by
 obtain ⟨p, hp, rfl⟩ := List.mem_map.1 (hasR_mem.1 h)
 exact ⟨p.2, hp, getR_some hn hp⟩
theorem insR_perm (k : Int) (v : ρ) : ∀ D : List (Int × ρ), (insR k v D).Perm ((k, v) :: D)
 | [] => List.Perm.refl _
 | x :: r => by
  rw [insR]
  split
  ·exact List.Perm.refl _
  ·exact (List.Perm.cons x (insR_perm k v r)).trans (List.Perm.swap _ _ _)
theorem insR_mem {k : Int} {v : ρ} {D : List (Int × ρ)} {p : Int × ρ} : p ∈ insR k v D ↔ p = (k, v) ∨ p ∈ D := by rw [(insR_perm k v D).mem_iff, List.mem_cons]
theorem SrtR.ins {D : List (Int × ρ)} (h : SrtR D) {k : Int} {v : ρ} (hk : hasR D k = false) : SrtR (insR k v D) := by
 induction D with
 | nil => exact List.pairwise_singleton _ _
 | cons x r ih =>
  have hx := List.pairwise_cons.1 h
  have hne := hasR_no.1 hk
  rw [insR]
  split
  ·rename_i hlt
   refine List.pairwise_cons.2 ⟨fun y hy => ?_, h⟩
   rcases List.mem_cons.1 hy with rfl | hy
   ·exact hlt
   ·exact Int.lt_trans hlt (hx.1 y hy)
  ·rename_i hlt
   refine List.pairwise_cons.2 ⟨fun y hy => ?_, ih hx.2 (hasR_no.2 fun p hp => hne p (List.mem_cons_of_mem _ hp))⟩
   rcases insR_mem.1 hy with rfl | hy
   ·have := hne x List.mem_cons_self
    show x.1 < k
    omega
   ·exact hx.1 y hy
theorem delR_mem {D : List (Int × ρ)} {k : Int} {p : Int × ρ} : p ∈ delR D k ↔ p ∈ D ∧ p.1 ≠ k := by unfold delR; rw [List.mem_filter]; simp
theorem delR_no {D : List (Int × ρ)} {k : Int} (h : hasR D k = false) : delR D k = D := List.filter_eq_self.2 fun p hp => by simpa using hasR_no.1 h p hp
theorem delR_ins {D : List (Int × ρ)} {k : Int} {v : ρ} (h : hasR D k = false) : delR (insR k v D) k = D := by
 induction D with
 | nil => simp [insR, delR]
 | cons x r ih =>
  have hne := hasR_no.1 h
  have hr := ih (hasR_no.2 fun p hp => hne p (List.mem_cons_of_mem _ hp))
  have hx : (!(x.1 == k)) = true := by simpa using hne x List.mem_cons_self
  rw [insR]
  split
  ·rw [delR, List.filter_cons, if_neg (by simp)]
   exact delR_no h
  ·unfold delR at hr ⊢
   rw [List.filter_cons, if_pos hx, hr]
theorem hasR_ins (D : List (Int × ρ)) (k : Int) (v : ρ) (j : Int) : hasR (insR k v D) j = (k == j || hasR D j) := by
 unfold hasR
 rw [Bool.eq_iff_iff, (insR_perm k v D).any_eq]
 simp
theorem delR_lt {D : List (Int × ρ)} {k : Int} (h : hasR D k = true) : (delR D k).length < D.length := by
 obtain ⟨p, hp, e⟩ := List.mem_map.1 (hasR_mem.1 h)
 have h1 := List.length_filter_lt_length_iff_exists (p := fun p : Int × ρ => !(p.1 == k)) (l := D)
 exact h1.2 ⟨p, hp, by simp [e]⟩
/-! ### A turned list -/
variable {enc : ρ → Value}
theorem encR_keys (D : List (Int × ρ)) : (encR enc D).map (·.1) = D.map (·.1) := by simp [encR, Function.comp_def]
theorem encR_len (D : List (Int × ρ)) : (encR enc D).length = D.length := by simp [encR]
theorem hasA_perm {l : List (Int × Value)} {D : List (Int × ρ)} (h : l.Perm (encR enc D)) (k : Int) : hasA l k = hasR D k := by
 unfold hasA hasR
 rw [h.any_eq]
 simp [encR, Function.comp_def]
theorem getA_perm {l : List (Int × Value)} {D : List (Int × ρ)} (h : l.Perm (encR enc D)) (hn : (D.map (·.1)).Nodup) (k : Int) : getA l k = (getR D k).map enc := by
 have hnl : (l.map (·.1)).Nodup := (h.map _).nodup_iff.2 (by rw [encR_keys]; exact hn)
 cases hh : hasR D k with
 | false =>
  have h1 : hasA l k = false := by rw [hasA_perm h, hh]
  rw [getR_none hh]
  exact getR_none (ρ := Value) h1
 | true =>
  obtain ⟨v, hv, hg⟩ := getR_has hn hh
  rw [hg]
  have hm : (k, enc v) ∈ l := h.mem_iff.2 (List.mem_map_of_mem hv)
  exact getR_some (ρ := Value) hnl hm
theorem setA_perm {l : List (Int × Value)} {D : List (Int × ρ)} (h : l.Perm (encR enc D)) (k : Int) (v : ρ) : (setA l k (enc v)).Perm (encR enc (putR D k v)) := by
 unfold setA putR
 rw [hasA_perm h]
 split
 ·refine (h.map _).trans (List.Perm.of_eq ?_)
  unfold encR chgR
  rw [List.map_map, List.map_map]
  refine List.map_congr_left fun x _ => ?_
  by_cases e : x.1 = k <;> simp [e]
 ·refine (h.append_right _).trans (List.perm_append_comm.trans ?_)
  exact ((insR_perm k v D).map fun x => (x.1, enc x.2)).symm
theorem delA_perm {l : List (Int × Value)} {D : List (Int × ρ)} (h : l.Perm (encR enc D)) (k : Int) : (delA l k).Perm (encR enc (delR D k)) := by
 refine (h.filter _).trans (List.Perm.of_eq ?_)
 unfold encR delR
 rw [List.filter_map]
 rfl
theorem keys_perm {l : List (Int × Value)} {D : List (Int × ρ)} (h : l.Perm (encR enc D)) : (l.map (·.1)).Perm (D.map (·.1)) := by
 have := h.map (fun x : Int × Value => x.1)
 rwa [encR_keys] at this
end
end Go.Proofs.YtlpchcdalfkfcaaGreat

