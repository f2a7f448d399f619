/-
  Rows with keys, rising: what is looked up, put, changed, taken out; the same of a list that is a turned one of them. No condition.
-/
import Derived.Test.YtlpchcdalfkfcaaGreatBChgs
namespace Go.Proofs.YtlpchcdalfkfcaaGreat
open Go.RowKit
section
variable {ρ : Type}
def SrtR (D : List (Int × ρ)) : Prop := D.Pairwise fun x y => x.1 < y.1
def getR (D : List (Int × ρ)) (k : Int) : Option ρ := (D.find? fun p => p.1 == k).map (·.2)
def hasR (D : List (Int × ρ)) (k : Int) : Bool := D.any fun p => p.1 == k
def insR (k : Int) (v : ρ) : List (Int × ρ) → List (Int × ρ)
  | [] => [(k, v)]
  | x :: r => if k < x.1 then (k, v) :: x :: r else x :: insR k v r
def chgR (D : List (Int × ρ)) (k : Int) (v : ρ) : List (Int × ρ) := D.map fun p => if p.1 == k then (k, v) else p
def putR (D : List (Int × ρ)) (k : Int) (v : ρ) : List (Int × ρ) := if hasR D k = true then chgR D k v else insR k v D
def delR (D : List (Int × ρ)) (k : Int) : List (Int × ρ) := D.filter fun p => !(p.1 == k)
def encR (enc : ρ → Value) (D : List (Int × ρ)) : List (Int × Value) := D.map fun x => (x.1, enc x.2)
theorem SrtR.nodup {D : List (Int × ρ)} (h : SrtR D) : (D.map (·.1)).Nodup := List.pairwise_map.2 (h.imp fun h e => by omega)
theorem SrtR.nil : SrtR ([] : List (Int × ρ)) := List.Pairwise.nil
theorem hasR_mem {D : List (Int × ρ)} {k : Int} : hasR D k = true ↔ k ∈ D.map (·.1) := by
  unfold hasR
  rw [List.any_eq_true, List.mem_map]
  exact ⟨fun ⟨x, hx, h⟩ => ⟨x, hx, by simpa using h⟩, fun ⟨x, hx, h⟩ => ⟨x, hx, by simpa using h⟩⟩
theorem hasR_no {D : List (Int × ρ)} {k : Int} : hasR D k = false ↔ ∀ p ∈ D, p.1 ≠ k := by
  rw [Bool.eq_false_iff, Ne, hasR_mem, List.mem_map]
  exact ⟨fun h p hp e => h ⟨p, hp, e⟩, fun h ⟨p, hp, e⟩ => h p hp e⟩
theorem getR_none {D : List (Int × ρ)} {k : Int} (h : hasR D k = false) : getR D k = none := by
  unfold getR
  rw [List.find?_eq_none.2 fun p hp => by simpa using hasR_no.1 h p hp]
  rfl
theorem getR_some {D : List (Int × ρ)} (hn : (D.map (·.1)).Nodup) {p : Int × ρ} (hp : p ∈ D) : getR D p.1 = some p.2 := by
  unfold getR
  induction D with
  | nil => simp at hp
  | cons q D ih =>
    simp only [List.map_cons, List.nodup_cons] at hn
    rw [List.find?_cons]
    rcases List.mem_cons.1 hp with rfl | hp'
    · simp
    · have : q.1 ≠ p.1 := fun e => hn.1 (by rw [e]; exact List.mem_map_of_mem hp')
      rw [show (q.1 == p.1) = false by simpa using this]
      exact ih hn.2 hp'
theorem getR_has {D : List (Int × ρ)} (hn : (D.map (·.1)).Nodup) {k : Int} (h : hasR D k = true) : ∃ v, (k, v) ∈ D ∧ getR D k = some v := by
  obtain ⟨p, hp, rfl⟩ := List.mem_map.1 (hasR_mem.1 h)
  exact ⟨p.2, hp, getR_some hn hp⟩
theorem insR_perm (k : Int) (v : ρ) : ∀ D : List (Int × ρ), (insR k v D).Perm ((k, v) :: D)
  | [] => List.Perm.refl _
  | x :: r => by
    rw [insR]
    split
    · exact List.Perm.refl _
    · exact (List.Perm.cons x (insR_perm k v r)).trans (List.Perm.swap _ _ _)
theorem insR_mem {k : Int} {v : ρ} {D : List (Int × ρ)} {p : Int × ρ} : p ∈ insR k v D ↔ p = (k, v) ∨ p ∈ D := by rw [(insR_perm k v D).mem_iff, List.mem_cons]
theorem SrtR.ins {D : List (Int × ρ)} (h : SrtR D) {k : Int} {v : ρ} (hk : hasR D k = false) : SrtR (insR k v D) := by
  induction D with
  | nil => exact List.pairwise_singleton _ _
  | cons x r ih =>
    have hx := List.pairwise_cons.1 h
    have hne := hasR_no.1 hk
    rw [insR]
    split
    · rename_i hlt
      refine List.pairwise_cons.2 ⟨fun y hy => ?_, h⟩
      rcases List.mem_cons.1 hy with rfl | hy
      · exact hlt
      · exact Int.lt_trans hlt (hx.1 y hy)
    · rename_i hlt
      refine List.pairwise_cons.2 ⟨fun y hy => ?_, ih hx.2 (hasR_no.2 fun p hp => hne p (List.mem_cons_of_mem _ hp))⟩
      rcases insR_mem.1 hy with rfl | hy
      · have := hne x List.mem_cons_self
        show x.1 < k
        omega
      · exact hx.1 y hy
theorem chgR_keys (D : List (Int × ρ)) (k : Int) (v : ρ) : (chgR D k v).map (·.1) = D.map (·.1) := by
  unfold chgR
  rw [List.map_map]
  refine List.map_congr_left fun x _ => ?_
  by_cases e : x.1 = k <;> simp [e]
theorem srt_keys {ρ' : Type} {D : List (Int × ρ)} {E : List (Int × ρ')} (h : SrtR D) (hk : E.map (·.1) = D.map (·.1)) : SrtR E := by
  have h1 : (D.map (·.1)).Pairwise (· < ·) := List.pairwise_map.2 h
  rw [← hk] at h1
  exact List.pairwise_map.1 h1
theorem SrtR.chg {D : List (Int × ρ)} (h : SrtR D) (k : Int) (v : ρ) : SrtR (chgR D k v) := srt_keys h (chgR_keys D k v)
theorem SrtR.put {D : List (Int × ρ)} (h : SrtR D) (k : Int) (v : ρ) : SrtR (putR D k v) := by
  unfold putR
  split
  · exact h.chg k v
  · rename_i hk; exact h.ins (by simpa using hk)
theorem SrtR.del {D : List (Int × ρ)} (h : SrtR D) (k : Int) : SrtR (delR D k) := List.Pairwise.sublist List.filter_sublist h
theorem delR_mem {D : List (Int × ρ)} {k : Int} {p : Int × ρ} : p ∈ delR D k ↔ p ∈ D ∧ p.1 ≠ k := by unfold delR; rw [List.mem_filter]; simp
theorem delR_no {D : List (Int × ρ)} {k : Int} (h : hasR D k = false) : delR D k = D := List.filter_eq_self.2 fun p hp => by simpa using hasR_no.1 h p hp
theorem delR_has (D : List (Int × ρ)) (k : Int) : hasR (delR D k) k = false := hasR_no.2 fun _ hp => (delR_mem.1 hp).2
theorem delR_ins {D : List (Int × ρ)} {k : Int} {v : ρ} (h : hasR D k = false) : delR (insR k v D) k = D := by
  induction D with
  | nil => simp [insR, delR]
  | cons x r ih =>
    have hne := hasR_no.1 h
    have hr := ih (hasR_no.2 fun p hp => hne p (List.mem_cons_of_mem _ hp))
    have hx : (!(x.1 == k)) = true := by simpa using hne x List.mem_cons_self
    rw [insR]
    split
    · rw [delR, List.filter_cons, if_neg (by simp)]
      exact delR_no h
    · unfold delR at hr ⊢
      rw [List.filter_cons, if_pos hx, hr]
theorem getR_ins {D : List (Int × ρ)} {k : Int} {v : ρ} (h : hasR D k = false) (hs : SrtR D) : getR (insR k v D) k = some v :=
  getR_some (hs.ins h).nodup (p := (k, v)) (insR_mem.2 (.inl rfl))
theorem hasR_ins (D : List (Int × ρ)) (k : Int) (v : ρ) (j : Int) : hasR (insR k v D) j = (k == j || hasR D j) := by
  unfold hasR
  rw [Bool.eq_iff_iff, (insR_perm k v D).any_eq]
  simp
theorem hasR_chg (D : List (Int × ρ)) (k : Int) (v : ρ) (j : Int) : hasR (chgR D k v) j = hasR D j := by
  rw [Bool.eq_iff_iff, hasR_mem, hasR_mem, chgR_keys]
theorem hasR_del (D : List (Int × ρ)) (k j : Int) : hasR (delR D k) j = (!(k == j) && hasR D j) := by
  rw [Bool.eq_iff_iff, hasR_mem, Bool.and_eq_true, hasR_mem]
  simp only [List.mem_map, delR_mem]
  constructor
  · rintro ⟨p, ⟨hp, hne⟩, rfl⟩
    exact ⟨by simpa using fun e => hne e.symm, p, hp, rfl⟩
  · rintro ⟨hne, p, hp, rfl⟩
    exact ⟨p, ⟨hp, fun e => by simp [e] at hne⟩, rfl⟩
theorem insR_len (k : Int) (v : ρ) (D : List (Int × ρ)) : (insR k v D).length = D.length + 1 := by rw [(insR_perm k v D).length_eq]; rfl
theorem chgR_len (D : List (Int × ρ)) (k : Int) (v : ρ) : (chgR D k v).length = D.length := by simp [chgR]
theorem delR_len (D : List (Int × ρ)) (k : Int) : (delR D k).length ≤ D.length := List.length_filter_le _ _
theorem delR_lt {D : List (Int × ρ)} {k : Int} (h : hasR D k = true) : (delR D k).length < D.length := by
  obtain ⟨p, hp, e⟩ := List.mem_map.1 (hasR_mem.1 h)
  have h1 := List.length_filter_lt_length_iff_exists (p := fun p : Int × ρ => !(p.1 == k)) (l := D)
  exact h1.2 ⟨p, hp, by simp [e]⟩
/-- Where a key is. -/
theorem at_of_has {D : List (Int × ρ)} {k : Int} (h : hasR D k = true) : ∃ i, ∃ hi : i < D.length, D[i].1 = k ∧ ∀ j (hj : j < D.length), j < i → D[j].1 ≠ k := by
  induction D with
  | nil => simp [hasR] at h
  | cons x r ih =>
    by_cases e : x.1 = k
    · exact ⟨0, by simp, e, fun j hj h0 => by omega⟩
    · have hr : hasR r k = true := by
        unfold hasR at h ⊢
        rw [List.any_cons] at h
        simpa [e] using h
      obtain ⟨i, hi, h1, h2⟩ := ih hr
      refine ⟨i + 1, by simp; omega, by simpa using h1, fun j hj hlt => ?_⟩
      cases j with
      | zero => simpa using e
      | succ j => simpa using h2 j (by simpa using hj) (by omega)
theorem delR_at {D : List (Int × ρ)} (hn : (D.map (·.1)).Nodup) {i : Nat} (hi : i < D.length) : delR D D[i].1 = D.take i ++ D.drop (i + 1) := by
  induction D generalizing i with
  | nil => simp at hi
  | cons x r ih =>
    simp only [List.map_cons, List.nodup_cons] at hn
    cases i with
    | zero =>
      simp only [List.getElem_cons_zero, List.take_zero, List.nil_append, List.drop_succ_cons, List.drop_zero]
      unfold delR
      rw [List.filter_cons, if_neg (by simp)]
      exact List.filter_eq_self.2 fun p hp => by
        have : p.1 ≠ x.1 := fun e => hn.1 (by rw [← e]; exact List.mem_map_of_mem hp)
        simpa using this
    | succ i =>
      have hi' : i < r.length := by simpa using hi
      simp only [List.getElem_cons_succ, List.take_succ_cons, List.drop_succ_cons, List.cons_append]
      rw [← ih hn.2 hi']
      unfold delR
      have : x.1 ≠ r[i].1 := fun e => hn.1 (by rw [e]; exact List.mem_map_of_mem (List.getElem_mem hi'))
      rw [List.filter_cons, if_pos (by simpa using this)]
theorem chgR_at {D : List (Int × ρ)} (hn : (D.map (·.1)).Nodup) {i : Nat} (hi : i < D.length) (v : ρ) : chgR D D[i].1 v = D.set i (D[i].1, v) := by
  induction D generalizing i with
  | nil => simp at hi
  | cons x r ih =>
    simp only [List.map_cons, List.nodup_cons] at hn
    cases i with
    | zero =>
      simp only [List.getElem_cons_zero, List.set_cons_zero]
      unfold chgR
      rw [List.map_cons, if_pos (by simp)]
      congr 1
      refine (List.map_congr_left fun p hp => ?_).trans (List.map_id _)
      have : p.1 ≠ x.1 := fun e => hn.1 (by rw [← e]; exact List.mem_map_of_mem hp)
      rw [if_neg (by simpa using this)]; rfl
    | succ i =>
      have hi' : i < r.length := by simpa using hi
      simp only [List.getElem_cons_succ, List.set_cons_succ]
      rw [← ih hn.2 hi']
      unfold chgR
      have : x.1 ≠ r[i].1 := fun e => hn.1 (by rw [e]; exact List.mem_map_of_mem (List.getElem_mem hi'))
      rw [List.map_cons, if_neg (by simpa using this)]
/-- A row put in, prefix by prefix. -/
def anyGt (k : Int) (D : List (Int × ρ)) : Bool := D.any fun p => decide (k < p.1)
def preR (k : Int) (v : ρ) (D : List (Int × ρ)) : List (Int × ρ) := if anyGt k D = true then insR k v D else D
theorem insR_none {k : Int} {v : ρ} : ∀ {D : List (Int × ρ)}, anyGt k D = false → insR k v D = D ++ [(k, v)]
  | [], _ => rfl
  | x :: r, h => by
    unfold anyGt at h
    rw [List.any_cons, Bool.or_eq_false_iff] at h
    rw [insR, if_neg (by simpa using h.1), insR_none (D := r) h.2]
    rfl
theorem insR_snoc {k : Int} {v : ρ} (x : Int × ρ) : ∀ {D : List (Int × ρ)}, anyGt k D = true → insR k v (D ++ [x]) = insR k v D ++ [x]
  | [], h => by simp [anyGt] at h
  | y :: r, h => by
    rw [List.cons_append, insR, insR]
    split
    · rfl
    · rename_i hlt
      unfold anyGt at h
      rw [List.any_cons, Bool.or_eq_true] at h
      rcases h with h | h
      · exact absurd (by simpa using h) hlt
      · rw [insR_snoc x (D := r) h]; rfl
theorem anyGt_snoc (k : Int) (D : List (Int × ρ)) (x : Int × ρ) : anyGt k (D ++ [x]) = (anyGt k D || decide (k < x.1)) := by simp [anyGt]
theorem preR_snoc (k : Int) (v : ρ) (D : List (Int × ρ)) (x : Int × ρ) : preR k v (D ++ [x]) = (if anyGt k D = false ∧ k < x.1 then preR k v D ++ [(k, v)] else preR k v D) ++ [x] := by
  unfold preR
  rw [anyGt_snoc]
  cases h : anyGt k D with
  | true => simp [insR_snoc x h]
  | false =>
    by_cases hx : k < x.1
    · simp only [hx, decide_true, Bool.or_true, if_true, true_and, Bool.false_eq_true, if_false]
      have : insR k v (D ++ [x]) = D ++ (k, v) :: [x] := by
        induction D with
        | nil => simp [insR, hx]
        | cons y r ih =>
          unfold anyGt at h
          rw [List.any_cons, Bool.or_eq_false_iff] at h
          rw [List.cons_append, insR, if_neg (by simpa using h.1), ih h.2]
          rfl
      rw [this]; simp
    · simp [hx]
theorem preR_all (k : Int) (v : ρ) (D : List (Int × ρ)) : (if anyGt k D = true then preR k v D else preR k v D ++ [(k, v)]) = insR k v D := by
  unfold preR
  cases h : anyGt k D with
  | true => simp
  | false => simp [insR_none h]
/-! ### A turned list -/
variable {enc : ρ → Value}
theorem encR_keys (D : List (Int × ρ)) : (encR enc D).map (·.1) = D.map (·.1) := by simp [encR, Function.comp_def]
theorem encR_len (D : List (Int × ρ)) : (encR enc D).length = D.length := by simp [encR]
theorem hasA_perm {l : List (Int × Value)} {D : List (Int × ρ)} (h : l.Perm (encR enc D)) (k : Int) : hasA l k = hasR D k := by
  unfold hasA hasR
  rw [h.any_eq]
  simp [encR, Function.comp_def]
theorem getA_perm {l : List (Int × Value)} {D : List (Int × ρ)} (h : l.Perm (encR enc D)) (hn : (D.map (·.1)).Nodup) (k : Int) : getA l k = (getR D k).map enc := by
  have hnl : (l.map (·.1)).Nodup := (h.map _).nodup_iff.2 (by rw [encR_keys]; exact hn)
  cases hh : hasR D k with
  | false =>
    have h1 : hasA l k = false := by rw [hasA_perm h, hh]
    rw [getR_none hh]
    exact getR_none (ρ := Value) h1
  | true =>
    obtain ⟨v, hv, hg⟩ := getR_has hn hh
    rw [hg]
    have hm : (k, enc v) ∈ l := h.mem_iff.2 (List.mem_map_of_mem hv)
    exact getR_some (ρ := Value) hnl hm
theorem setA_perm {l : List (Int × Value)} {D : List (Int × ρ)} (h : l.Perm (encR enc D)) (k : Int) (v : ρ) : (setA l k (enc v)).Perm (encR enc (putR D k v)) := by
  unfold setA putR
  rw [hasA_perm h]
  split
  · refine (h.map _).trans (List.Perm.of_eq ?_)
    unfold encR chgR
    rw [List.map_map, List.map_map]
    refine List.map_congr_left fun x _ => ?_
    by_cases e : x.1 = k <;> simp [e]
  · refine (h.append_right _).trans (List.perm_append_comm.trans ?_)
    exact ((insR_perm k v D).map fun x => (x.1, enc x.2)).symm
theorem delA_perm {l : List (Int × Value)} {D : List (Int × ρ)} (h : l.Perm (encR enc D)) (k : Int) : (delA l k).Perm (encR enc (delR D k)) := by
  refine (h.filter _).trans (List.Perm.of_eq ?_)
  unfold encR delR
  rw [List.filter_map]
  rfl
theorem keys_perm {l : List (Int × Value)} {D : List (Int × ρ)} (h : l.Perm (encR enc D)) : (l.map (·.1)).Perm (D.map (·.1)) := by
  have := h.map (fun x : Int × Value => x.1)
  rwa [encR_keys] at this
end
end Go.Proofs.YtlpchcdalfkfcaaGreat
