/-
  Package desk: which handles were told, which are gone; threads counted. No condition.
-/
import Derived.Test.YtchknegenaoliaaDeAn
import Derived.Test.YtchknegenaoliaaMapsH
namespace Go.Proofs.Ytchknegenaoliaa
open Go.RowKit
set_option maxHeartbeats 400000
set_option maxRecDepth 4000

def wasT (P : List Ten) (h : Hnd) : Bool := decide ((0 ≤ h.s ∧ h.s < 4) ∧ 1 ≤ h.g ∧ h.g ≤ (tenD P h.s).g)
def toldF (P : List Ten) (h : Hnd) : Int := if wasT P h = true then 1 else 0
def goneF (P : List Ten) (h : Hnd) : Int := if wasT P h = true ∧ chkE P h ≠ 0 then 1 else 0
def wfH (h : Hnd) : Prop := (Lit.int .i64 h.s).wf = true ∧ (Lit.int .i64 h.g).wf = true
theorem wasT_iff {P : List Ten} {h : Hnd} : wasT P h = true ↔ (0 ≤ h.s ∧ h.s < 4) ∧ 1 ≤ h.g ∧ h.g ≤ (tenD P h.s).g := by unfold wasT; exact decide_eq_true_iff
theorem Good.was {n : Int} {P : List Ten} {T : Thr} (hg : Good n P T) {h : Hnd} (h0 : chkE P h = 0) : wasT P h = true := by
  obtain ⟨h1, h2, h3⟩ := chkE_ok.1 h0
  have := (hg.gen _ (tenD_mem hg.len h1)).2.2 h2
  rw [wasT_iff]
  exact ⟨h1, by omega, by omega⟩
theorem Good.told {n : Int} {P : List Ten} {T : Thr} (hg : Good n P T) {h : Hnd} (h0 : chkE P h = 0) : toldF P h = 1 ∧ goneF P h = 0 := by
  unfold toldF goneF
  rw [if_pos (hg.was h0), if_neg (fun e => e.2 h0)]
  exact ⟨rfl, rfl⟩
theorem Good.asks {n : Int} {P : List Ten} {T : Thr} (hg : Good n P T) (h : Hnd) : (decide (chkE P h = 0)) = (decide (toldF P h > 0) && decide (goneF P h = 0)) := by
  by_cases h0 : chkE P h = 0
  · obtain ⟨h1, h2⟩ := hg.told h0
    rw [h1, h2, decide_eq_true h0]; rfl
  · rw [decide_eq_false h0]
    unfold toldF goneF
    by_cases hw : wasT P h = true
    · rw [if_pos hw, if_pos ⟨hw, h0⟩]; rfl
    · rw [if_neg hw]; rfl
theorem told_new (P : List Ten) (h : Hnd) : toldF P0 h = 0 ∧ goneF P0 h = 0 := by
  have hw : ¬ wasT P0 h = true := by
    rw [wasT_iff]
    rintro ⟨h1, h2, h3⟩
    have : (tenD P0 h.s).g = 0 := by
      unfold tenD P0
      rw [List.getD_eq_getElem?_getD]
      have hk : h.s.toNat < 4 := by omega
      match h.s.toNat, hk with
      | 0, _ => rfl
      | 1, _ => rfl
      | 2, _ => rfl
      | 3, _ => rfl
    omega
  unfold toldF goneF
  rw [if_neg hw, if_neg (fun e => hw e.1)]
  exact ⟨rfl, rfl⟩
theorem hnd_ne {a b : Hnd} (h : a ≠ b) : a.s ≠ b.s ∨ a.g ≠ b.g := by
  by_cases e : a.s = b.s
  · right
    intro e2
    apply h
    cases a; cases b
    dsimp only at e e2
    rw [e, e2]
  · exact .inl e
/-- A tenant made: its handle was never told; then it is. -/
theorem cre_told {n : Int} {P : List Ten} {T : Thr} (hg : Good n P T) {s q f : Int} (he : creE P s q f = 0) :
    toldF P (creH P s q f) = 0 ∧ goneF P (creH P s q f) = 0 ∧ toldF (creP P s q f) (creH P s q f) = 1 ∧ (∀ j, j ≠ creH P s q f → toldF (creP P s q f) j = toldF P j) ∧ (∀ j, goneF (creP P s q f) j = goneF P j) ∧ wfH (creH P s q f) ∨ n > 1000000 := by
  by_cases hn : n > 1000000
  · exact .inr hn
  left
  obtain ⟨hs, _, _, ht⟩ := creE_ok he
  have hgen := hg.gen _ (tenD_mem hg.len hs)
  have hH : creH P s q f = ⟨s, (tenD P s).g + 1⟩ := by unfold creH; rw [if_pos he]
  have hP : creP P s q f = P.set s.toNat ⟨(tenD P s).g + 1, true, q, f⟩ := by unfold creP; rw [if_pos he]
  rw [hH, hP]
  have hw0 : ¬ wasT P ⟨s, (tenD P s).g + 1⟩ = true := by rw [wasT_iff]; dsimp only; omega
  have hst : ∀ r, 0 ≤ r ∧ r < 4 → tenD (P.set s.toNat ⟨(tenD P s).g + 1, true, q, f⟩) r = if s = r then ⟨(tenD P s).g + 1, true, q, f⟩ else tenD P r := fun r hr => tenD_set hg.len hs _ hr
  have hw1 : wasT (P.set s.toNat ⟨(tenD P s).g + 1, true, q, f⟩) ⟨s, (tenD P s).g + 1⟩ = true := by
    rw [wasT_iff]; dsimp only; rw [hst s hs, if_pos rfl]; dsimp only; omega
  have hwj : ∀ j : Hnd, j ≠ ⟨s, (tenD P s).g + 1⟩ → wasT (P.set s.toNat ⟨(tenD P s).g + 1, true, q, f⟩) j = wasT P j := by
    intro j hj
    rw [Bool.eq_iff_iff, wasT_iff, wasT_iff]
    constructor
    · rintro ⟨h1, h2, h3⟩
      rw [hst _ h1] at h3
      refine ⟨h1, h2, ?_⟩
      by_cases e : s = j.s
      · rw [if_pos e] at h3
        dsimp only at h3
        rcases hnd_ne hj with h9 | h9
        · exact absurd e.symm h9
        · dsimp only at h9; rw [← e]; omega
      · rwa [if_neg e] at h3
    · rintro ⟨h1, h2, h3⟩
      refine ⟨h1, h2, ?_⟩
      rw [hst _ h1]
      by_cases e : s = j.s
      · rw [if_pos e]; dsimp only; rw [← e] at h3; omega
      · rwa [if_neg e]
  refine ⟨?_, ?_, ?_, ?_, ?_, wf_i64 (by dsimp only; omega) (by dsimp only; omega), wf_i64 (by dsimp only; omega) (by dsimp only; omega)⟩
  · unfold toldF; rw [if_neg hw0]
  · unfold goneF; rw [if_neg (fun e => hw0 e.1)]
  · unfold toldF; rw [if_pos hw1]
  · intro j hj
    unfold toldF
    rw [hwj j hj]
  · intro j
    unfold goneF
    by_cases hj : j = ⟨s, (tenD P s).g + 1⟩
    · subst hj
      have hc0 : chkE (P.set s.toNat ⟨(tenD P s).g + 1, true, q, f⟩) ⟨s, (tenD P s).g + 1⟩ = 0 := by
        rw [chkE_ok]
        dsimp only
        rw [hst s hs, if_pos rfl]
        exact ⟨hs, rfl, rfl⟩
      rw [if_neg (fun e => e.2 hc0), if_neg (fun e => hw0 e.1)]
    · rw [hwj j hj]
      by_cases hw : wasT P j = true
      · obtain ⟨h1, h2, h3⟩ := wasT_iff.1 hw
        have hc : (chkE (P.set s.toNat ⟨(tenD P s).g + 1, true, q, f⟩) j = 0) ↔ chkE P j = 0 := by
          rw [chkE_ok, chkE_ok, hst _ h1]
          by_cases e : s = j.s
          · rw [if_pos e]
            dsimp only
            constructor
            · rintro ⟨_, _, h9⟩
              exfalso
              rw [← e] at h3
              omega
            · rintro ⟨_, h9, _⟩
              rw [← e, ht] at h9; cases h9
          · rw [if_neg e]
        by_cases h9 : chkE P j = 0
        · rw [if_neg (fun e => e.2 (hc.2 h9)), if_neg (fun e => e.2 h9)]
        · rw [if_pos ⟨hw, fun e => h9 (hc.1 e)⟩, if_pos ⟨hw, h9⟩]
      · rw [if_neg (fun e => hw e.1), if_neg (fun e => hw e.1)]
/-- A tenant let go: it was told, and was not gone; then it is. -/
theorem des_told {n : Int} {P : List Ten} {T : Thr} (hg : Good n P T) {h : Hnd} (he : chkE P h = 0) :
    goneF (desP P h) h = 1 ∧ (∀ j, j ≠ h → goneF (desP P h) j = goneF P j) ∧ (∀ j, toldF (desP P h) j = toldF P j) := by
  obtain ⟨hs, ht, hgn⟩ := chkE_ok.1 he
  have hP : desP P h = P.set h.s.toNat ⟨h.g, false, 0, 0⟩ := by unfold desP; rw [if_pos he]
  rw [hP]
  have hst : ∀ r, 0 ≤ r ∧ r < 4 → tenD (P.set h.s.toNat ⟨h.g, false, 0, 0⟩) r = if h.s = r then ⟨h.g, false, 0, 0⟩ else tenD P r := fun r hr => tenD_set hg.len hs _ hr
  have hwj : ∀ j : Hnd, wasT (P.set h.s.toNat ⟨h.g, false, 0, 0⟩) j = wasT P j := by
    intro j
    rw [Bool.eq_iff_iff, wasT_iff, wasT_iff]
    constructor
    · rintro ⟨h1, h2, h3⟩
      rw [hst _ h1] at h3
      refine ⟨h1, h2, ?_⟩
      by_cases e : h.s = j.s
      · rw [if_pos e] at h3; dsimp only at h3; rw [← e, hgn]; exact h3
      · rwa [if_neg e] at h3
    · rintro ⟨h1, h2, h3⟩
      refine ⟨h1, h2, ?_⟩
      rw [hst _ h1]
      by_cases e : h.s = j.s
      · rw [if_pos e]; dsimp only; rw [← e, hgn] at h3; exact h3
      · rwa [if_neg e]
  have hch : ¬ chkE (P.set h.s.toNat ⟨h.g, false, 0, 0⟩) h = 0 := by
    rw [chkE_ok, hst _ hs, if_pos rfl]
    rintro ⟨_, h9, _⟩
    cases h9
  refine ⟨?_, fun j hj => ?_, fun j => ?_⟩
  · unfold goneF
    rw [hwj, if_pos ⟨hg.was he, hch⟩]
  · unfold goneF
    rw [hwj]
    by_cases hw : wasT P j = true
    · obtain ⟨h1, h2, h3⟩ := wasT_iff.1 hw
      have hc : (chkE (P.set h.s.toNat ⟨h.g, false, 0, 0⟩) j = 0) ↔ chkE P j = 0 := by
        rw [chkE_ok, chkE_ok, hst _ h1]
        by_cases e : h.s = j.s
        · rw [if_pos e]
          dsimp only
          constructor
          · rintro ⟨_, h9, _⟩; cases h9
          · rintro ⟨_, _, h9⟩
            exfalso
            rcases hnd_ne hj with h8 | h8
            · exact h8 e.symm
            · rw [← e, hgn] at h9; exact h8 h9.symm
        · rw [if_neg e]
      by_cases h9 : chkE P j = 0
      · rw [if_neg (fun e => e.2 (hc.2 h9)), if_neg (fun e => e.2 h9)]
      · rw [if_pos ⟨hw, fun e => h9 (hc.1 e)⟩, if_pos ⟨hw, h9⟩]
    · rw [if_neg (fun e => hw e.1), if_neg (fun e => hw e.1)]
  · unfold toldF
    rw [hwj]
/-! ### Threads, counted -/
theorem tenTo_in (P : List Ten) : ∀ (k : Nat) (h : Hnd), h ∈ tenTo P k ↔ 0 ≤ h.s ∧ h.s < k ∧ (tenD P h.s).t = true ∧ (tenD P h.s).g = h.g
  | 0, h => by
    rw [tenTo]
    constructor
    · intro h9; cases h9
    · intro h9; omega
  | k + 1, h => by
    have ih := tenTo_in P k h
    rw [tenTo]
    split
    · rename_i ht
      rw [List.mem_append, ih, List.mem_singleton]
      constructor
      · rintro (h1 | rfl)
        · exact ⟨h1.1, by omega, h1.2.2⟩
        · exact ⟨by dsimp only; omega, by dsimp only; omega, ht, rfl⟩
      · intro h1
        by_cases e : h.s = k
        · right
          obtain ⟨s, g⟩ := h
          dsimp only at e h1
          subst e
          rw [← h1.2.2.2]
        · exact .inl ⟨h1.1, by omega, h1.2.2⟩
    · rename_i ht
      rw [ih]
      constructor
      · intro h1; exact ⟨h1.1, by omega, h1.2.2⟩
      · intro h1
        refine ⟨h1.1, ?_, h1.2.2⟩
        by_cases e : h.s = k
        · rw [e] at h1; exact absurd h1.2.2.1 ht
        · omega
theorem tenL_in (P : List Ten) (h : Hnd) : h ∈ tenL P ↔ chkE P h = 0 := by
  unfold tenL
  rw [tenTo_in, chkE_ok]
  constructor
  · rintro ⟨h1, h2, h3⟩; exact ⟨⟨h1, by omega⟩, h3⟩
  · rintro ⟨⟨h1, h2⟩, h3⟩; exact ⟨h1, by omega, h3⟩
theorem tenTo_nd (P : List Ten) : ∀ k, (tenTo P k).Nodup
  | 0 => List.nodup_nil
  | k + 1 => by
    rw [tenTo]
    split
    · rw [List.nodup_append]
      refine ⟨tenTo_nd P k, by simp, fun x hx y hy e => ?_⟩
      rw [List.mem_singleton.1 hy] at e
      subst e
      have := ((tenTo_in P k _).1 hx).2.1
      dsimp only at this
      omega
    · exact tenTo_nd P k
def sumT (T : Thr) (L : List Hnd) : Nat := (L.map fun h => (ofH T h).length).sum
theorem sumT_nil (L : List Hnd) : sumT [] L = 0 := by
  unfold sumT
  induction L with
  | nil => rfl
  | cons h L ih => rw [List.map_cons, List.sum_cons, ih]; rfl
theorem sumT_no (x : Int × Hnd) (T : Thr) : ∀ L : List Hnd, x.2 ∉ L → sumT (x :: T) L = sumT T L
  | [], _ => rfl
  | h :: L, hx => by
    have h1 := sumT_no x T L fun e => hx (List.mem_cons_of_mem _ e)
    unfold sumT at h1 ⊢
    rw [List.map_cons, List.sum_cons, List.map_cons, List.sum_cons, h1]
    congr 1
    unfold ofH
    rw [List.filter_cons, if_neg (by simpa using fun e => hx (by rw [e]; exact List.mem_cons_self))]
theorem sumT_yes (x : Int × Hnd) (T : Thr) : ∀ L : List Hnd, L.Nodup → x.2 ∈ L → sumT (x :: T) L = sumT T L + 1
  | [], _, hx => absurd hx (by simp)
  | h :: L, hn, hx => by
    have h1 := List.nodup_cons.1 hn
    by_cases e : x.2 = h
    · have h2 := sumT_no x T L (by rw [e]; exact h1.1)
      unfold sumT at h2 ⊢
      rw [List.map_cons, List.sum_cons, List.map_cons, List.sum_cons, h2]
      have : (ofH (x :: T) h).length = (ofH T h).length + 1 := by
        unfold ofH
        rw [List.filter_cons, if_pos (by simpa using e)]; rfl
      omega
    · have hx' : x.2 ∈ L := by
        rcases List.mem_cons.1 hx with h9 | h9
        · exact absurd h9 e
        · exact h9
      have h2 := sumT_yes x T L h1.2 hx'
      unfold sumT at h2 ⊢
      rw [List.map_cons, List.sum_cons, List.map_cons, List.sum_cons, h2]
      have : (ofH (x :: T) h).length = (ofH T h).length := by
        unfold ofH
        rw [List.filter_cons, if_neg (by simpa using e)]
      omega
theorem sumT_all {P : List Ten} : ∀ T : Thr, (∀ x ∈ T, chkE P x.2 = 0) → sumT T (tenL P) = T.length
  | [], _ => sumT_nil _
  | x :: T, h => by
    rw [sumT_yes x T (tenL P) (tenTo_nd P 4) ((tenL_in P _).2 (h x List.mem_cons_self)), sumT_all T fun y hy => h y (List.mem_cons_of_mem _ hy)]; rfl
theorem sumT_snoc (T : Thr) (L : List Hnd) (h : Hnd) : sumT T (L ++ [h]) = sumT T L + (ofH T h).length := by unfold sumT; simp
/-- How many threads below t are bound. -/
def cntT (T : Thr) (t : Int) : Nat := (T.filter fun x => decide (x.1 < t)).length
theorem cntT_le (T : Thr) (t : Int) : cntT T t ≤ T.length := List.length_filter_le _ _
theorem cntT_step {T : Thr} (hs : SrtR T) (t : Int) : cntT T (t + 1) = cntT T t + (if hasR T t = true then 1 else 0) := by
  unfold cntT
  induction T with
  | nil => rfl
  | cons x T ih =>
    have h1 := List.pairwise_cons.1 hs
    have ih' := ih h1.2
    rw [List.filter_cons, List.filter_cons]
    have hh : hasR (x :: T) t = (x.1 == t || hasR T t) := rfl
    rw [hh]
    by_cases e1 : x.1 < t
    · rw [if_pos (by simpa using (by omega : x.1 < t + 1)), if_pos (by simpa using e1)]
      rw [show (x.1 == t) = false by simpa using (by omega : x.1 ≠ t), Bool.false_or]
      simp only [List.length_cons]
      omega
    · by_cases e2 : x.1 = t
      · rw [if_pos (by simpa using (by omega : x.1 < t + 1)), if_neg (by simpa using e1)]
        rw [show (x.1 == t) = true by simpa using e2, Bool.true_or, if_pos rfl]
        have hno : hasR T t = false := hasR_no.2 fun p hp e => by have := h1.1 p hp; omega
        rw [hno] at ih'
        simp only [List.length_cons]
        simp at ih' ⊢
        omega
      · rw [if_neg (by simpa using (by omega : ¬ x.1 < t + 1)), if_neg (by simpa using e1)]
        rw [show (x.1 == t) = false by simpa using e2, Bool.false_or]
        exact ih'
theorem cntT_0 {T : Thr} (hk : ∀ x ∈ T, 0 ≤ x.1 ∧ x.1 ≤ 3) : cntT T 0 = 0 := by
  unfold cntT
  rw [List.filter_eq_nil_iff.2 fun x hx => by have := hk x hx; simpa using (by omega : 0 ≤ x.1)]; rfl
theorem cntT_4 {T : Thr} (hk : ∀ x ∈ T, 0 ≤ x.1 ∧ x.1 ≤ 3) : cntT T 4 = T.length := by
  unfold cntT
  rw [List.filter_eq_self.2 fun x hx => by have := hk x hx; simpa using (by omega : x.1 < 4)]
end Go.Proofs.Ytchknegenaoliaa
