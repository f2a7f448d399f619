/-
  Package desk in plain terms: tenants at four places, threads bound to handles. No condition.
-/
import Derived.Test.YtchknegenaoliaaMapP
namespace Go.Proofs.Ytchknegenaoliaa
open Go.RowKit
set_option maxHeartbeats 400000
set_option maxRecDepth 8000

/-- One at a place. -/
structure Ten where
  g : Int
  t : Bool
  q : Int
  f : Int
deriving DecidableEq, BEq
structure Hnd where
  s : Int
  g : Int
deriving DecidableEq
def encH (h : Hnd) : Value := .agg #[.int .i64 h.s, .int .i64 h.g]
abbrev Thr := List (Int × Hnd)
def inS (s : Int) : Bool := decide (0 ≤ s ∧ s < 4)
def badN (n most : Int) : Bool := decide (n < 0 ∨ most < n)
def tenD (P : List Ten) (s : Int) : Ten := P.getD s.toNat ⟨0, false, 0, 0⟩
def chkE (P : List Ten) (h : Hnd) : Int := if inS h.s = false then 2 else if ((tenD P h.s).t = true ∧ (tenD P h.s).g = h.g) then 0 else 311
def creE (P : List Ten) (s q f : Int) : Int := if inS s = false then 2 else if badN q 1073741824 = true then 2 else if badN f 16384 = true then 2 else if (tenD P s).t = true then 310 else 0
def creP (P : List Ten) (s q f : Int) : List Ten := if creE P s q f = 0 then P.set s.toNat ⟨(tenD P s).g + 1, true, q, f⟩ else P
def creH (P : List Ten) (s q f : Int) : Hnd := if creE P s q f = 0 then ⟨s, (tenD P s).g + 1⟩ else ⟨0, 0⟩
def desP (P : List Ten) (h : Hnd) : List Ten := if chkE P h = 0 then P.set h.s.toNat ⟨h.g, false, 0, 0⟩ else P
def ofH (T : Thr) (h : Hnd) : Thr := T.filter fun x => decide (x.2 = h)
def notH (T : Thr) (h : Hnd) : Thr := T.filter fun x => !decide (x.2 = h)
def desT (P : List Ten) (T : Thr) (h : Hnd) : Thr := if chkE P h = 0 then notH T h else T
def thrL (P : List Ten) (T : Thr) (h : Hnd) : List Int := if chkE P h = 0 then (ofH T h).map (·.1) else []
def binE (P : List Ten) (t : Int) (h : Hnd) : Int := if badN t 3 = true then 2 else chkE P h
def getH (T : Thr) (t : Int) : Hnd := (getR T t).getD ⟨0, 0⟩
def binT (P : List Ten) (T : Thr) (t : Int) (h : Hnd) : Thr := if binE P t h = 0 then putR T t h else T
def binH (P : List Ten) (T : Thr) (t : Int) (h : Hnd) : Hnd := if binE P t h = 0 then getH T t else ⟨0, 0⟩
def unbE (t : Int) : Int := if badN t 3 = true then 2 else 0
def unbT (T : Thr) (t : Int) : Thr := if unbE t = 0 then delR T t else T
def unbH (T : Thr) (t : Int) : Hnd := if unbE t = 0 then getH T t else ⟨0, 0⟩
/-- What stands at a desk; no generation is above n. -/
structure Good (n : Int) (P : List Ten) (T : Thr) : Prop where
  len : P.length = 4
  gen : ∀ x ∈ P, 0 ≤ x.g ∧ x.g ≤ n ∧ (x.t = true → 1 ≤ x.g)
  srt : SrtR T
  key : ∀ x ∈ T, 0 ≤ x.1 ∧ x.1 ≤ 3
  bnd : ∀ x ∈ T, chkE P x.2 = 0
def zT : Ten := ⟨0, false, 0, 0⟩
theorem inS_iff {s : Int} : inS s = true ↔ 0 ≤ s ∧ s < 4 := by unfold inS; exact decide_eq_true_iff
theorem badN_no {n m : Int} : badN n m = false ↔ 0 ≤ n ∧ n ≤ m := by unfold badN; rw [decide_eq_false_iff_not]; omega
theorem chkE_ok {P : List Ten} {h : Hnd} : chkE P h = 0 ↔ (0 ≤ h.s ∧ h.s < 4) ∧ (tenD P h.s).t = true ∧ (tenD P h.s).g = h.g := by
  unfold chkE
  cases e : inS h.s with
  | false =>
    rw [if_pos rfl]
    have : ¬(0 ≤ h.s ∧ h.s < 4) := of_decide_eq_false e
    constructor
    · intro h9; omega
    · intro h9; exact absurd h9.1 this
  | true =>
    rw [if_neg (by decide)]
    have := inS_iff.1 e
    split
    · rename_i hc; exact ⟨fun _ => ⟨this, hc⟩, fun _ => rfl⟩
    · rename_i hc; exact ⟨fun h9 => by omega, fun h9 => absurd h9.2 hc⟩
theorem Good.new : Good 0 [zT, zT, zT, zT] [] := by
  refine ⟨rfl, fun x hx => ?_, SrtR.nil, fun x hx => absurd hx (by simp), fun x hx => absurd hx (by simp)⟩
  have : x = zT := by simpa using hx
  subst this
  exact ⟨by decide, by decide, by intro h; cases h⟩
theorem Good.up {n m : Int} {P : List Ten} {T : Thr} (h : Good n P T) (hm : n ≤ m) : Good m P T :=
  ⟨h.len, fun x hx => ⟨(h.gen x hx).1, by have := (h.gen x hx).2.1; omega, (h.gen x hx).2.2⟩, h.srt, h.key, h.bnd⟩
theorem tenD_mem {P : List Ten} (hl : P.length = 4) {s : Int} (h : 0 ≤ s ∧ s < 4) : tenD P s ∈ P := by
  unfold tenD
  rw [List.getD_eq_getElem?_getD, List.getElem?_eq_getElem (by omega)]
  exact List.getElem_mem _
theorem tenD_set {P : List Ten} (hl : P.length = 4) {s : Int} (h : 0 ≤ s ∧ s < 4) (x : Ten) {r : Int} (hr : 0 ≤ r ∧ r < 4) : tenD (P.set s.toNat x) r = if s = r then x else tenD P r := by
  unfold tenD
  rw [List.getD_eq_getElem?_getD, List.getD_eq_getElem?_getD, List.getElem?_set]
  by_cases e : s = r
  · subst e; rw [if_pos rfl, if_pos (by omega), if_pos rfl]; rfl
  · rw [if_neg (by omega), if_neg e]
theorem creE_ok {P : List Ten} {s q f : Int} (h : creE P s q f = 0) : (0 ≤ s ∧ s < 4) ∧ (0 ≤ q ∧ q ≤ 1073741824) ∧ (0 ≤ f ∧ f ≤ 16384) ∧ (tenD P s).t = false := by
  unfold creE at h
  split at h
  · omega
  rename_i h1
  split at h
  · omega
  rename_i h2
  split at h
  · omega
  rename_i h3
  split at h
  · omega
  rename_i h4
  exact ⟨inS_iff.1 (by simpa using h1), badN_no.1 (by simpa using h2), badN_no.1 (by simpa using h3), by simpa using h4⟩
theorem Good.cre {n : Int} {P : List Ten} {T : Thr} (h : Good n P T) (s q f : Int) : Good (n + 1) (creP P s q f) T := by
  unfold creP
  split
  · rename_i he
    obtain ⟨hs, _, _, ht⟩ := creE_ok he
    have hm := h.gen _ (tenD_mem h.len hs)
    refine ⟨by rw [List.length_set]; exact h.len, fun x hx => ?_, h.srt, h.key, fun x hx => ?_⟩
    · rcases List.mem_or_eq_of_mem_set hx with hx | rfl
      · have := h.gen x hx; exact ⟨this.1, by omega, this.2.2⟩
      · exact ⟨by dsimp only; omega, by dsimp only; omega, fun _ => by dsimp only; omega⟩
    · obtain ⟨h1, h2, h3⟩ := chkE_ok.1 (h.bnd x hx)
      rw [chkE_ok, tenD_set h.len hs _ h1]
      by_cases e : s = x.2.s
      · rw [← e, ht] at h2; cases h2
      · rw [if_neg e]; exact ⟨h1, h2, h3⟩
  · exact h.up (by omega)
theorem Good.des {n : Int} {P : List Ten} {T : Thr} (h : Good n P T) (d : Hnd) : Good n (desP P d) (desT P T d) := by
  unfold desP desT
  split
  · rename_i he
    obtain ⟨hs, ht, hg⟩ := chkE_ok.1 he
    have hm := h.gen _ (tenD_mem h.len hs)
    refine ⟨by rw [List.length_set]; exact h.len, fun x hx => ?_, List.Pairwise.sublist List.filter_sublist h.srt, fun x hx => h.key x (List.mem_filter.1 hx).1, fun x hx => ?_⟩
    · rcases List.mem_or_eq_of_mem_set hx with hx | rfl
      · exact h.gen x hx
      · exact ⟨by dsimp only; omega, by dsimp only; omega, fun h9 => by cases h9⟩
    · obtain ⟨hx1, hx2⟩ := List.mem_filter.1 hx
      obtain ⟨h1, h2, h3⟩ := chkE_ok.1 (h.bnd x hx1)
      rw [chkE_ok, tenD_set h.len hs _ h1]
      by_cases e : d.s = x.2.s
      · exfalso
        have : x.2 = d := by
          obtain ⟨xk, xs, xg⟩ := x
          obtain ⟨ds, dg⟩ := d
          dsimp only at *
          subst e
          rw [← h3, ← hg]
        simp [this] at hx2
      · rw [if_neg e]; exact ⟨h1, h2, h3⟩
  · exact h
theorem Good.bin {n : Int} {P : List Ten} {T : Thr} (h : Good n P T) (t : Int) (d : Hnd) : Good n P (binT P T t d) := by
  unfold binT
  split
  · rename_i he
    unfold binE at he
    split at he
    · omega
    rename_i h1
    have hb := badN_no.1 (by simpa using h1 : badN t 3 = false)
    have hmem : ∀ x ∈ putR T t d, x = (t, d) ∨ x ∈ T := by
      intro x hx
      unfold putR at hx
      split at hx
      · unfold chgR at hx
        obtain ⟨y, hy, rfl⟩ := List.mem_map.1 hx
        split
        · exact .inl rfl
        · exact .inr hy
      · exact insR_mem.1 hx
    refine ⟨h.len, h.gen, h.srt.put t d, fun x hx => ?_, fun x hx => ?_⟩
    · rcases hmem x hx with rfl | hx
      · exact hb
      · exact h.key x hx
    · rcases hmem x hx with rfl | hx
      · exact he
      · exact h.bnd x hx
  · exact h
theorem Good.unb {n : Int} {P : List Ten} {T : Thr} (h : Good n P T) (t : Int) : Good n P (unbT T t) := by
  unfold unbT
  split
  · exact ⟨h.len, h.gen, h.srt.del t, fun x hx => h.key x (delR_mem.1 hx).1, fun x hx => h.bnd x (delR_mem.1 hx).1⟩
  · exact h
end Go.Proofs.Ytchknegenaoliaa
