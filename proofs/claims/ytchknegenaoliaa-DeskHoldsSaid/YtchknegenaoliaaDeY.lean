/-
  Package desk and its document, in plain terms: the threads as four handles. Conditions: what stands at a desk.
-/
import Derived.Test.YtchknegenaoliaaDeX
namespace Go.Proofs.Ytchknegenaoliaa
open Go.RowKit
set_option maxHeartbeats 400000
set_option maxRecDepth 4000

def hsT (T : Thr) : List Hnd := [getH T 0, getH T 1, getH T 2, getH T 3]
theorem hsT_get (T : Thr) {t : Int} (h : 0 ≤ t ∧ t < 4) : hndD (hsT T) t = getH T t := by
  obtain ⟨k, rfl⟩ : ∃ k : Nat, t = k := ⟨t.toNat, by omega⟩
  have hk : k < 4 := by omega
  match k, hk with
  | 0, _ => rfl
  | 1, _ => rfl
  | 2, _ => rfl
  | 3, _ => rfl
theorem hsT_L {P : List Ten} (h : P.length = 4) (T : Thr) : RefL P (hsT T) := ⟨h, rfl⟩
theorem getH_of {T : Thr} (hs : SrtR T) {j : Int} {v : Hnd} (h : (j, v) ∈ T) : getH T j = v := by
  unfold getH
  rw [getR_some hs.nodup h]; rfl
theorem getH_no {T : Thr} {j : Int} (h : hasR T j = false) : getH T j = ⟨0, 0⟩ := by unfold getH; rw [getR_none h]; rfl
theorem put_mem {T : Thr} (t : Int) (h : Hnd) (j : Int) (v : Hnd) : (j, v) ∈ putR T t h ↔ (j = t ∧ v = h) ∨ (j ≠ t ∧ (j, v) ∈ T) := by
  unfold putR
  split
  · rename_i hh
    unfold chgR
    rw [List.mem_map]
    constructor
    · rintro ⟨x, hx, e⟩
      by_cases e9 : x.1 = t
      · rw [if_pos (by simpa using e9)] at e
        cases e
        exact .inl ⟨rfl, rfl⟩
      · rw [if_neg (by simpa using e9)] at e
        subst e
        exact .inr ⟨e9, hx⟩
    · rintro (⟨rfl, rfl⟩ | ⟨h1, h2⟩)
      · obtain ⟨x, hx, e⟩ := List.mem_map.1 (hasR_mem.1 hh)
        exact ⟨x, hx, by rw [if_pos (by simpa using e)]⟩
      · exact ⟨_, h2, by rw [if_neg (by simpa using h1)]⟩
  · rename_i hh
    have hn := hasR_no.1 (by simpa using hh : hasR T t = false)
    rw [insR_mem]
    constructor
    · rintro (e | h1)
      · cases e; exact .inl ⟨rfl, rfl⟩
      · exact .inr ⟨hn _ h1, h1⟩
    · rintro (⟨rfl, rfl⟩ | ⟨_, h1⟩)
      · exact .inl rfl
      · exact .inr h1
theorem has_of_mem {T : Thr} {j : Int} {v : Hnd} (h : (j, v) ∈ T) : hasR T j = true := hasR_mem.2 (List.mem_map_of_mem (f := (·.1)) h)
theorem getH_put {T : Thr} (hs : SrtR T) (t : Int) (h : Hnd) (j : Int) : getH (putR T t h) j = if t = j then h else getH T j := by
  by_cases e : t = j
  · subst e
    rw [if_pos rfl]
    exact getH_of (hs.put t h) ((put_mem t h t h).2 (.inl ⟨rfl, rfl⟩))
  · rw [if_neg e]
    cases hh : hasR T j with
    | true =>
      obtain ⟨v, hv, hg⟩ := getR_has hs.nodup hh
      rw [getH_of (hs.put t h) ((put_mem t h j v).2 (.inr ⟨fun e9 => e e9.symm, hv⟩)), getH_of hs hv]
    | false =>
      rw [getH_no hh, getH_no]
      rw [Bool.eq_false_iff]
      intro h9
      obtain ⟨v, hv, _⟩ := getR_has (hs.put t h).nodup h9
      rcases (put_mem t h j v).1 hv with ⟨e9, _⟩ | ⟨_, h1⟩
      · exact e e9.symm
      · rw [has_of_mem h1] at hh; cases hh
theorem getH_filter {T : Thr} (hs : SrtR T) (p : Int × Hnd → Bool) (j : Int) : getH (T.filter p) j = if hasR T j = true ∧ p (j, getH T j) = true then getH T j else ⟨0, 0⟩ := by
  have hs' : SrtR (T.filter p) := List.Pairwise.sublist List.filter_sublist hs
  cases hh : hasR T j with
  | true =>
    obtain ⟨v, hv, _⟩ := getR_has hs.nodup hh
    rw [getH_of hs hv]
    by_cases hp : p (j, v) = true
    · rw [if_pos ⟨rfl, hp⟩]
      exact getH_of hs' (List.mem_filter.2 ⟨hv, hp⟩)
    · rw [if_neg (fun e => hp e.2)]
      refine getH_no ?_
      rw [Bool.eq_false_iff]
      intro h9
      obtain ⟨u, hu, _⟩ := getR_has hs'.nodup h9
      obtain ⟨h1, h2⟩ := List.mem_filter.1 hu
      have e1 := getH_of hs h1
      rw [getH_of hs hv] at e1
      subst e1
      exact hp h2
  | false =>
    rw [if_neg (by simp)]
    refine getH_no ?_
    rw [Bool.eq_false_iff]
    intro h9
    obtain ⟨u, hu, _⟩ := getR_has hs'.nodup h9
    rw [has_of_mem (List.mem_filter.1 hu).1] at hh
    cases hh
theorem getH_del {T : Thr} (hs : SrtR T) (t j : Int) : getH (delR T t) j = if t = j then ⟨0, 0⟩ else getH T j := by
  unfold delR
  rw [getH_filter hs]
  by_cases e : t = j
  · subst e; rw [if_pos rfl, if_neg (by simp)]
  · rw [if_neg e]
    cases hh : hasR T j with
    | true => rw [if_pos ⟨rfl, by simpa using fun e9 => e e9.symm⟩]
    | false => rw [if_neg (by simp), getH_no hh]
theorem getH_not {T : Thr} (hs : SrtR T) (h : Hnd) (j : Int) : getH (notH T h) j = if getH T j = h then ⟨0, 0⟩ else getH T j := by
  unfold notH
  rw [getH_filter hs]
  by_cases e : getH T j = h
  · rw [if_pos e, if_neg (by simp [e])]
  · rw [if_neg e]
    cases hh : hasR T j with
    | true => rw [if_pos ⟨rfl, by simpa using e⟩]
    | false => rw [if_neg (by simp), getH_no hh]
theorem set_hs (T U : Thr) {t : Int} (ht : 0 ≤ t ∧ t < 4) (h : Hnd) (he : ∀ j, getH U j = if t = j then h else getH T j) : (hsT T).set t.toNat h = hsT U := by
  unfold hsT
  rw [he 0, he 1, he 2, he 3]
  obtain ⟨k, rfl⟩ : ∃ k : Nat, t = k := ⟨t.toNat, by omega⟩
  have hk : k < 4 := by omega
  match k, hk with
  | 0, _ => rfl
  | 1, _ => rfl
  | 2, _ => rfl
  | 3, _ => rfl
theorem bin_hs {P : List Ten} {T : Thr} (hs : SrtR T) (t : Int) (h : Hnd) : rBinT P (hsT T) t h = hsT (binT P T t h) ∧ rBinH P (hsT T) t h = binH P T t h := by
  unfold rBinT binT rBinH binH
  by_cases e : binE P t h = 0
  · have ht : 0 ≤ t ∧ t < 4 := by
      unfold binE at e
      split at e
      · cases e
      · rename_i h1
        have := badN_no.1 (by simpa using h1 : badN t 3 = false)
        omega
    rw [if_pos e, if_pos e, if_pos e, if_pos e]
    exact ⟨set_hs T _ ht h fun j => getH_put hs t h j, hsT_get T ht⟩
  · rw [if_neg e, if_neg e, if_neg e, if_neg e]
    exact ⟨rfl, rfl⟩
theorem unb_hs {T : Thr} (hs : SrtR T) {t : Int} (ht : 0 ≤ t ∧ t < 4) : (hsT T).set t.toNat ⟨0, 0⟩ = hsT (delR T t) := set_hs T _ ht _ fun j => getH_del hs t j
theorem unb_in {T : Thr} {t : Int} (ht : inS t = true) : unbT T t = delR T t ∧ unbH T t = getH T t ∧ unbE t = 0 := by
  have h1 : unbE t = 0 := by unfold unbE; rw [badN_inS, ht]; rfl
  unfold unbT unbH
  rw [if_pos h1, if_pos h1]
  exact ⟨rfl, rfl, h1⟩
theorem unb_out {T : Thr} {t : Int} (ht : inS t = false) : unbT T t = T ∧ unbH T t = ⟨0, 0⟩ ∧ unbE t = 2 := by
  have h1 : unbE t = 2 := by unfold unbE; rw [badN_inS, ht]; rfl
  unfold unbT unbH
  rw [h1]
  exact ⟨rfl, rfl, rfl⟩
/-! ### Threads -/
theorem rising_eq : ∀ {a b : List Int}, a.Pairwise (· < ·) → b.Pairwise (· < ·) → (∀ x, x ∈ a ↔ x ∈ b) → a = b
  | [], [], _, _, _ => rfl
  | [], y :: b, _, _, h => absurd ((h y).2 List.mem_cons_self) (by simp)
  | x :: a, [], _, _, h => absurd ((h x).1 List.mem_cons_self) (by simp)
  | x :: a, y :: b, ha, hb, h => by
    have h1 := List.pairwise_cons.1 ha
    have h2 := List.pairwise_cons.1 hb
    have e : x = y := by
      rcases List.mem_cons.1 ((h x).1 List.mem_cons_self) with e | hx
      · exact e
      · rcases List.mem_cons.1 ((h y).2 List.mem_cons_self) with e | hy
        · exact e.symm
        · have := h1.1 y hy; have := h2.1 x hx; omega
    subst e
    rw [rising_eq h1.2 h2.2 fun z => ?_]
    constructor
    · intro hz
      rcases List.mem_cons.1 ((h z).1 (List.mem_cons_of_mem _ hz)) with rfl | hz'
      · have := h1.1 z hz; omega
      · exact hz'
    · intro hz
      rcases List.mem_cons.1 ((h z).2 (List.mem_cons_of_mem _ hz)) with rfl | hz'
      · have := h2.1 z hz; omega
      · exact hz'
theorem rThrTo_in (H : List Hnd) (h : Hnd) : ∀ (n : Nat) (x : Int), x ∈ rThrTo H h n ↔ 0 ≤ x ∧ x < n ∧ hndD H x = h
  | 0, x => by
    rw [rThrTo]
    constructor
    · intro h9; cases h9
    · intro h9; omega
  | n + 1, x => by
    rw [rThrTo]
    have ih := rThrTo_in H h n x
    split
    · rename_i e
      rw [List.mem_append, ih, List.mem_singleton]
      constructor
      · rintro (h1 | rfl)
        · exact ⟨h1.1, by omega, h1.2.2⟩
        · exact ⟨by omega, by omega, e⟩
      · intro h1
        by_cases e9 : x = n
        · exact .inr e9
        · exact .inl ⟨h1.1, by omega, h1.2.2⟩
    · rename_i e
      rw [ih]
      constructor
      · intro h1; exact ⟨h1.1, by omega, h1.2.2⟩
      · intro h1
        refine ⟨h1.1, ?_, h1.2.2⟩
        by_cases e9 : x = n
        · subst e9; exact absurd h1.2.2 e
        · omega
theorem rThrTo_up (H : List Hnd) (h : Hnd) : ∀ n, (rThrTo H h n).Pairwise (· < ·)
  | 0 => List.Pairwise.nil
  | n + 1 => by
    rw [rThrTo]
    split
    · refine List.pairwise_append.2 ⟨rThrTo_up H h n, List.pairwise_singleton _ _, fun x hx y hy => ?_⟩
      rw [List.mem_singleton.1 hy]
      exact (rThrTo_mem H h n x hx).2
    · exact rThrTo_up H h n
theorem Good.nz {n : Int} {P : List Ten} {T : Thr} (hg : Good n P T) {h : Hnd} (h0 : chkE P h = 0) : h ≠ ⟨0, 0⟩ := by
  rintro rfl
  obtain ⟨h1, h2, h3⟩ := chkE_ok.1 h0
  have := (hg.gen _ (tenD_mem hg.len h1)).2.2 h2
  rw [h3] at this
  exact absurd this (by decide)
theorem Good.has {n : Int} {P : List Ten} {T : Thr} (hg : Good n P T) (j : Int) : hasR T j = decide (getH T j ≠ ⟨0, 0⟩) := by
  cases hh : hasR T j with
  | true =>
    obtain ⟨v, hv, _⟩ := getR_has hg.srt.nodup hh
    rw [getH_of hg.srt hv]
    exact (decide_eq_true (hg.nz (hg.bnd _ hv))).symm
  | false => rw [getH_no hh]; rfl
theorem thr_eq {n : Int} {P : List Ten} {T : Thr} (hg : Good n P T) (h : Hnd) : rThr P (hsT T) h = (thO P T h).map (·.1) := by
  unfold rThr thO
  by_cases e : chkE P h = 0
  · rw [if_pos e, if_pos e]
    refine rising_eq (rThrTo_up _ _ _) (List.pairwise_map.2 (List.Pairwise.sublist List.filter_sublist hg.srt)) fun x => ?_
    rw [rThrTo_in, List.mem_map]
    constructor
    · rintro ⟨h1, h2, h3⟩
      rw [hsT_get T ⟨h1, by omega⟩] at h3
      have hh : hasR T x = true := by rw [hg.has, h3]; exact decide_eq_true (hg.nz e)
      obtain ⟨v, hv, _⟩ := getR_has hg.srt.nodup hh
      rw [getH_of hg.srt hv] at h3
      subst h3
      exact ⟨(x, v), List.mem_filter.2 ⟨hv, by simp⟩, rfl⟩
    · rintro ⟨⟨y, v⟩, hy, rfl⟩
      obtain ⟨h1, h2⟩ := List.mem_filter.1 hy
      have hk := hg.key _ h1
      dsimp only at hk h2 ⊢
      refine ⟨hk.1, by omega, ?_⟩
      rw [hsT_get T ⟨hk.1, by omega⟩, getH_of hg.srt h1]
      simpa using h2
  · rw [if_neg e, if_neg e]; rfl
theorem clr_get (H : List Hnd) (hH : H.length = 4) : ∀ (l : List Int) (H : List Hnd), H.length = 4 → (∀ x ∈ l, 0 ≤ x ∧ x < 4) → ∀ (j : Int), 0 ≤ j ∧ j < 4 → hndD (clrL H l) j = if j ∈ l then ⟨0, 0⟩ else hndD H j
  | [], H, _, _, j, _ => by rw [if_neg (by simp)]; rfl
  | t :: l, H, hl, hm, j, hj => by
    have ht := hm t List.mem_cons_self
    have h1 := clr_get H hl l (H.set t.toNat ⟨0, 0⟩) (by rw [List.length_set]; exact hl) (fun x hx => hm x (List.mem_cons_of_mem _ hx)) j hj
    have h2 : clrL H (t :: l) = clrL (H.set t.toNat ⟨0, 0⟩) l := rfl
    rw [h2, h1]
    by_cases e : j ∈ l
    · rw [if_pos e, if_pos (List.mem_cons_of_mem _ e)]
    · rw [if_neg e]
      unfold hndD
      rw [List.getD_eq_getElem?_getD, List.getElem?_set]
      by_cases e2 : t = j
      · subst e2
        rw [if_pos rfl, if_pos (by omega), if_pos List.mem_cons_self]; rfl
      · rw [if_neg (by omega), if_neg (fun h => by rcases List.mem_cons.1 h with h | h; exact e2 h.symm; exact e h), List.getD_eq_getElem?_getD]
theorem hnds_ext {H K : List Hnd} (hH : H.length = 4) (hK : K.length = 4) (h : ∀ j : Int, 0 ≤ j ∧ j < 4 → hndD H j = hndD K j) : H = K := by
  refine List.ext_getElem (hH.trans hK.symm) fun i h1 h2 => ?_
  have := h i (by omega)
  unfold hndD at this
  rw [Int.toNat_natCast, List.getD_eq_getElem?_getD, List.getD_eq_getElem?_getD, List.getElem?_eq_getElem h1, List.getElem?_eq_getElem h2] at this
  exact this
theorem des_hs {n : Int} {P : List Ten} {T : Thr} (hg : Good n P T) (h : Hnd) : rDesT P (hsT T) h = hsT (desT P T h) := by
  unfold rDesT desT
  by_cases e : chkE P h = 0
  · rw [if_pos e, if_pos e]
    have hr : rThr P (hsT T) h = rThrTo (hsT T) h 4 := by unfold rThr; rw [if_pos e]
    refine hnds_ext (by rw [clrL_len]; rfl) rfl fun j hj => ?_
    rw [clr_get (hsT T) rfl _ (hsT T) rfl (by rw [hr]; exact rThrTo_mem _ _ 4) j hj, hsT_get _ hj, hsT_get _ hj, getH_not hg.srt, hr]
    by_cases e2 : getH T j = h
    · rw [if_pos e2, if_pos ((rThrTo_in _ _ 4 j).2 ⟨hj.1, hj.2, by rw [hsT_get _ hj]; exact e2⟩)]
    · rw [if_neg e2, if_neg (fun h9 => e2 (by have := ((rThrTo_in _ _ 4 j).1 h9).2.2; rwa [hsT_get _ hj] at this))]
  · rw [if_neg e, if_neg e]
theorem thr_ext {n m : Int} {P Q : List Ten} {T U : Thr} (hg : Good n P T) (hk : Good m Q U) (h : hsT T = hsT U) : T = U := by
  have hj : ∀ j : Int, 0 ≤ j ∧ j < 4 → getH T j = getH U j := fun j hj => by rw [← hsT_get T hj, ← hsT_get U hj, h]
  have hsub : ∀ {n m : Int} {P Q : List Ten} {T U : Thr}, Good n P T → Good m Q U → (∀ j : Int, 0 ≤ j ∧ j < 4 → getH T j = getH U j) → ∀ x ∈ T, x ∈ U := by
    intro n m P Q T U hg hk hj x hx
    have hkx := hg.key x hx
    have h1 : getH T x.1 = x.2 := getH_of hg.srt (by exact hx)
    have h2 := hj x.1 ⟨hkx.1, by omega⟩
    have h3 : hasR U x.1 = true := by rw [hk.has, ← h2, h1]; exact decide_eq_true (hg.nz (hg.bnd x hx))
    have h4 := getH_mem hk.srt h3
    rw [← h2, h1] at h4
    exact h4
  have a1 := srt_sub hg.srt hk.srt (hsub hg hk hj)
  have a2 := srt_sub hk.srt hg.srt (hsub hk hg fun j h9 => (hj j h9).symm)
  exact a1.eq_of_length (Nat.le_antisymm a1.length_le a2.length_le)
end Go.Proofs.Ytchknegenaoliaa
