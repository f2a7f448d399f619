/-
  slices.DeleteFunc of one's own ints, by the closure of Drop. Conditions: fewer than a million.
-/
import Derived.Test.YtkilmppmghkigaaCaK
import Derived.Lib.SliceRun
namespace Go.Proofs.Ytkilmppmghkigaa
open Go.RowKit
attribute [local go_sem] Oper.semAt_some
set_option maxHeartbeats 4000000
set_option maxRecDepth 4000

theorem drop1_calls (n x : Int) (p : Nat) (w : World) (hp : w.cell? ⟨p, 0, none⟩ = some (.int .i64 x)) : Calls Try.prog 35 #[.int .i64 n, .pointer (some ⟨p, 0, none⟩)] w fun e w' => e = .returned (.bool (n == x)) ∧ w = w' := by
  go_enter Try.func35, Try.ntmps35
  go_wp2_with fail
  go_ret
  exact ⟨rfl, rfl⟩
def FirstAt (l : List Int) (x : Int) (i : Int) : Prop := (i = -1 ∧ x ∉ l) ∨ ∃ k : Nat, i = k ∧ ∃ h : k < l.length, l[k] = x ∧ ∀ j (hj : j < k), l[j] ≠ x
theorem idxf_ok (v : Value) (l : List Int) (x : Int) (p B : Nat) (w : World) (hl : l.length < 1000000) (hv : RowAt B w v l.length (intVals .i64 l)) (hp : w.cell? ⟨p, 0, none⟩ = some (.int .i64 x)) :
    Calls Try.prog 54 #[v, .func (.func 35) #[] #[.pointer (some ⟨p, 0, none⟩)]] w fun e w' => ∃ i : Int, e = .returned (.int .i64 i) ∧ FirstAt l x i ∧ w = w' := by
  have eD : ∀ args W, (callFunc 35 args).run Try.prog W = .ok (.enter 35 args) W := enters_of Try.func35 (by kernel_rfl) rfl
  have HV := Lib.hid hv
  obtain ⟨ad, cap, rfl, _, _⟩ := hv
  go_enter Try.func54, Try.ntmps54
  go_wp2_with fail
  go_loopw [8] (fun i wr => ∃ k : Nat, k ≤ l.length ∧ i = .int .i64 k ∧ (∀ j (hj : j < l.length), j < k → l[j] ≠ x) ∧ w = wr) (fun i _ => l.length - (intOf i).toNat)
  case atStart => exact ⟨0, by omega, rfl, fun j _ hj => by omega, rfl⟩
  case round =>
    obtain ⟨k, hk, rfl, hn, rfl⟩ := hrel
    have HN := Lib.hid hn
    clear hn
    by_cases hlt : k < l.length
    · obtain ⟨b, off, rfl, _, hc⟩ := HV.out.geti k hlt
      have i0 : (0 : Int) ≤ k := by omega
      have i1 : (k : Int) < l.length := by omega
      by_cases he : l[k] = x
      · have hb : (l[k] == x) = true := by simpa using he
        have hcall := drop1_calls l[k] x p w hp
        rw [hb] at hcall
        have HC := Lib.hid hcall
        have HE := Lib.hid he
        clear he hb hcall
        go_wp2_with fail
        refine (HC.out).mono ?_; rintro e _ ⟨rfl, rfl⟩
        go_wp2_with fail
        go_ret
        exact ⟨k, rfl, .inr ⟨k, rfl, hlt, HE.out, fun j hj => HN.out j (by omega) hj⟩, rfl⟩
      · have hb : (l[k] == x) = false := by simpa using he
        have hcall := drop1_calls l[k] x p w hp
        rw [hb] at hcall
        have HC := Lib.hid hcall
        have HE := Lib.hid he
        clear he hb hcall
        go_wp2_with fail
        refine (HC.out).mono ?_; rintro e _ ⟨rfl, rfl⟩
        go_wp2_with fail
        refine ⟨⟨k + 1, by omega, by go_num, fun j hj hjk => ?_, trivial⟩, by simp [intOf]; omega⟩
        by_cases e : j = k
        · subst e; exact HE.out
        · exact HN.out j hj (by omega)
    · obtain rfl : k = l.length := by omega
      go_wp2_with fail
      go_ret
      refine ⟨-1, rfl, .inl ⟨rfl, fun h => ?_⟩, rfl⟩
      obtain ⟨j, hj, e⟩ := List.getElem_of_mem h
      exact absurd e (HN.out j hj hj)
/-- What is kept of the first j. -/
def keptI (l : List Int) (x : Int) (j : Nat) : List Int := (l.take j).filter fun y => decide (y ≠ x)
theorem keptI_succ (l : List Int) (x : Int) (j : Nat) (h : j < l.length) : keptI l x (j + 1) = if l[j] = x then keptI l x j else keptI l x j ++ [l[j]] := by
  unfold keptI
  rw [List.take_succ_eq_append_getElem h, List.filter_append]
  by_cases e : l[j] = x
  · simp [e]
  · simp [e]
theorem keptI_le (l : List Int) (x : Int) (j : Nat) : (keptI l x j).length ≤ j := Nat.le_trans (List.length_filter_le _ _) (List.length_take_le _ _)
theorem keptI_all (l : List Int) (x : Int) : keptI l x l.length = l.filter fun y => decide (y ≠ x) := by unfold keptI; rw [List.take_length]
theorem keptI_first {l : List Int} {x : Int} : ∀ (k : Nat), k ≤ l.length → (∀ j (hj : j < l.length), j < k → l[j] ≠ x) → keptI l x k = l.take k
  | 0, _, _ => by simp [keptI]
  | k + 1, hk, h => by
    rw [keptI_succ _ _ _ (by omega), if_neg (h k (by omega) (by omega)), keptI_first k (by omega) fun j hj hjk => h j hj (by omega), List.take_succ_eq_append_getElem (by omega)]
/-- The row while it is being written. -/
structure RowW (l : List Int) (x : Int) (T : TypeId) (g N i j : Nat) (W : World) : Prop where
  blk : ∃ cs : Array Value, Blk W g cs T ∧ cs.size = N ∧ (∀ m (h : m < (keptI l x j).length), cs[m]? = some (.int .i64 (keptI l x j)[m])) ∧ ∀ m (h : m < l.length), j ≤ m → cs[m]? = some (.int .i64 l[m])
  i : i = (keptI l x j).length
theorem RowW.skip {l : List Int} {x : Int} {T g N i j : Nat} {W : World} (h : RowW l x T g N i j W) (hj : j < l.length) (e : l[j] = x) : RowW l x T g N i (j + 1) W := by
  obtain ⟨⟨cs, h1, h2, h3, h4⟩, hi⟩ := h
  have hk : keptI l x (j + 1) = keptI l x j := by rw [keptI_succ _ _ _ hj, if_pos e]
  exact ⟨⟨cs, h1, h2, by rw [hk]; exact h3, fun m hm hjm => h4 m hm (by omega)⟩, by rw [hk]; exact hi⟩
theorem RowW.keep {l : List Int} {x : Int} {T g N i j : Nat} {W : World} (h : RowW l x T g N i j W) (hj : j < l.length) (e : l[j] ≠ x) (hN : l.length ≤ N) : RowW l x T g N (i + 1) (j + 1) (W.setCell ⟨g, i, none⟩ (.int .i64 l[j])) := by
  obtain ⟨⟨cs, h1, h2, h3, h4⟩, hi⟩ := h
  have hk : keptI l x (j + 1) = keptI l x j ++ [l[j]] := by rw [keptI_succ _ _ _ hj, if_neg e]
  have hle := keptI_le l x j
  refine ⟨⟨cs.setIfInBounds i (.int .i64 l[j]), h1.set i _, by simpa using h2, fun m hm => ?_, fun m hm hjm => ?_⟩, by rw [hk]; simp [hi]⟩
  · rw [hk, List.length_append] at hm
    simp only [List.length_cons, List.length_nil] at hm
    by_cases em : m = i
    · subst em
      rw [Array.getElem?_setIfInBounds_self_of_lt (by omega)]
      simp only [hk]
      rw [List.getElem_concat_length hi]
    · rw [Array.getElem?_setIfInBounds_ne (Ne.symm em), h3 m (by omega)]
      simp only [hk]
      rw [List.getElem_append_left (by omega)]
  · rw [Array.getElem?_setIfInBounds_ne (by omega)]
    exact h4 m hm (by omega)
theorem delf_ok {w : World} {g cap p T : Nat} {cs : Array Value} {l : List Int} {x : Int} (hB : Blk w g cs T) (hcs : ∀ m (h : m < l.length), cs[m]? = some (.int .i64 l[m])) (hl : l.length < 1000000) (hcap : l.length ≤ cap) (hp : w.cell? ⟨p, 0, none⟩ = some (.int .i64 x)) (hpg : p ≠ g) (hx : x ∈ l) :
    Calls Try.prog 34 #[.slice (some ⟨g, 0, none⟩) l.length cap, .func (.func 35) #[] #[.pointer (some ⟨p, 0, none⟩)]] w fun e w' =>
      ∃ n, e = .returned (.slice (some ⟨g, 0, none⟩) n cap) ∧ n = (remI l x).length ∧ RowAt w'.heap.size w' (.slice (some ⟨g, 0, none⟩) n cap) n (intVals .i64 (remI l x)) ∧ Chg g w w' := by
  have eD : ∀ args W, (callFunc 35 args).run Try.prog W = .ok (.enter 35 args) W := enters_of Try.func35 (by kernel_rfl) rfl
  have hsz : l.length ≤ cs.size := by
    rcases Nat.lt_or_ge cs.size l.length with h | h
    · have := hcs cs.size h
      simp at this
    · exact h
  have hrow : RowAt w.heap.size w (.slice (some ⟨g, 0, none⟩) l.length cap) l.length (intVals .i64 l) := ⟨_, cap, rfl, ⟨hcap, fun h => by cases h⟩, .inr ⟨g, 0, rfl, hB.lt, fun i hi => by
    rw [intVals_len] at hi
    rw [Nat.zero_add, hB.cell i (hcs i hi), intVals_get _ _ _ hi]⟩⟩
  have hstart : ∀ k (hk : k < l.length), l[k] = x → (∀ j (hj : j < k), l[j] ≠ x) → RowW l x T g cs.size k (k + 1) w := fun k hk e hn => by
    have h1 := keptI_first (l := l) (x := x) k (by omega) fun j hj hjk => hn j hjk
    have h2 : keptI l x (k + 1) = l.take k := by rw [keptI_succ _ _ _ hk, if_pos e, h1]
    exact ⟨⟨cs, hB, rfl, fun m hm => by simp only [h2] at hm ⊢; rw [List.getElem_take]; exact hcs m (by rw [List.length_take] at hm; omega), fun m hm _ => hcs m hm⟩, by rw [h2, List.length_take]; omega⟩
  have HST := Lib.hid hstart
  have HROW := Lib.hid hrow
  have HX := Lib.hid hx
  have HI := idxf_ok _ l x p w.heap.size w hl hrow hp
  clear hcs hstart hrow hx
  go_enter Try.func34, Try.ntmps34
  go_wp2_with fail
  refine HI.mono ?_; rintro e _ ⟨i0, rfl, hF, rfl⟩
  clear HI
  rcases hF with ⟨_, hno⟩ | ⟨k0, rfl, hk0, he0, hn0⟩
  · exact absurd HX.out hno
  have hst := HST.out k0 hk0 he0 hn0
  clear HST hn0 he0
  have hne1 : ((k0 : Int) == -1) = false := beq_eq_false_iff_ne.2 (by omega)
  go_wp2_with fail
  go_loopw [5, 6, 7] (fun s5 s6 _ wr => ∃ i j : Nat, i < j ∧ j ≤ l.length ∧ s5 = .int .i64 i ∧ s6 = .int .i64 j ∧ RowW l x T g cs.size i j wr ∧ Chg g w wr) (fun _ s6 _ _ => l.length - (intOf s6).toNat)
  case atStart => exact ⟨k0, k0 + 1, by omega, by omega, rfl, by go_num, hst, Chg.refl _ _⟩
  case round =>
    obtain ⟨i, j, hij, hj, rfl, rfl, hR, hC⟩ := hrel
    clear hst
    have hpl := World.block_lt_of_cell? w _ hp
    have hp' : wr.cell? ⟨p, 0, none⟩ = some (.int .i64 x) := (World.cell?_of_block (hC.block p hpl hpg)).trans hp
    by_cases hlt : j < l.length
    · obtain ⟨cs', g1, g2, g3, g4⟩ := id hR.blk
      have cj : wr.cell? ⟨g, j, none⟩ = some (.int .i64 l[j]) := g1.cell j (g4 j hlt (Nat.le_refl _))
      obtain ⟨old, hold⟩ : ∃ old, cs'[i]? = some old := ⟨cs'[i]'(by omega), Array.getElem?_eq_getElem _⟩
      have ci : wr.cell? ⟨g, i, none⟩ = some old := g1.cell i hold
      have fi := g1.frozen i
      have i0 : (0 : Int) ≤ i := by omega
      have i1 : (i : Int) < l.length := by omega
      have j0 : (0 : Int) ≤ j := by omega
      have j1 : (j : Int) < l.length := by omega
      clear g1 g2 g3 g4 hold
      by_cases he : l[j] = x
      · have hb : (l[j] == x) = true := by simpa using he
        have hcall := drop1_calls l[j] x p wr hp'
        rw [hb] at hcall
        have HC := Lib.hid hcall
        have hR2 := hR.skip hlt he
        clear hb hcall he hR
        go_wp2_with fail
        refine (HC.out).mono ?_; rintro e _ ⟨rfl, rfl⟩
        go_wp2_with fail
        exact ⟨⟨i, j + 1, by omega, by omega, rfl, by go_num, hR2, hC⟩, by simp [intOf]; omega⟩
      · have hb : (l[j] == x) = false := by simpa using he
        have hcall := drop1_calls l[j] x p wr hp'
        rw [hb] at hcall
        have HC := Lib.hid hcall
        have hR2 := hR.keep hlt he hsz
        have hC2 := hC.setc ⟨g, i, none⟩ (.int .i64 l[j]) rfl
        clear hb hcall he hR hC
        go_wp2_with fail
        refine (HC.out).mono ?_; rintro e _ ⟨rfl, rfl⟩
        go_wp2_with fail
        exact ⟨⟨i + 1, j + 1, by omega, by omega, by go_num, by go_num, hR2, hC2⟩, by simp [intOf]; omega⟩
    · obtain rfl : j = l.length := by omega
      obtain ⟨⟨cs', g1, g2, g3, g4⟩, hi⟩ := hR
      have hcl : ∀ ty, (Builtin.clear_ #[35] ty #[.slice (some ⟨g, i, none⟩) (l.length - i) (cap - i)]).run Try.prog wr = .ok (.tuple #[]) (wr.setCells g i (List.replicate (l.length - i) (.int .i64 0))) :=
        fun ty => Lib.run_clear_slice wr _ _ ty _ Try.underlying35 (fun w => by kernel_rfl) (by rfl) (by rfl) g i _ _ (by omega) (fun t ht => by rw [g1.cell (i + t) (Array.getElem?_eq_getElem (by omega))]; rfl) (fun t ht => g1.frozen _)
      have hrowF : RowAt (wr.setCells g i (List.replicate (l.length - i) (.int .i64 0))).heap.size (wr.setCells g i (List.replicate (l.length - i) (.int .i64 0))) (.slice (some ⟨g, 0, none⟩) i cap) i (intVals .i64 (remI l x)) := by
        rw [remI, ← keptI_all]
        have hCs := Chg.setCells (List.replicate (l.length - i) (.int .i64 0)) i (Chg.refl g wr)
        refine ⟨_, cap, rfl, ⟨by omega, fun h => by cases h⟩, .inr ⟨g, 0, rfl, by have := hCs.size; have := g1.lt; omega, fun m hm => ?_⟩⟩
        rw [intVals_len] at hm
        rw [World.cell?_setCells_out g _ _ _ _ (fun _ _ => .inl (by dsimp only; omega)), Nat.zero_add, g1.cell m (g3 m hm), intVals_get _ _ _ hm]
      have hF : i = (remI l x).length := by rw [remI, ← keptI_all]; exact hi
      have HF := Lib.hid hF
      have HI := Lib.hid hi
      have hC2 := Chg.setCells (List.replicate (l.length - i) (.int .i64 0)) i hC
      have HR2 := Lib.hid hrowF
      have i0 : (0 : Int) ≤ i := by omega
      have i1 : (i : Int) < l.length := by omega
      clear hi hF g1 g3 g4 hrowF hC
      go_wp2_with fail
      go_ret
      exact ⟨i, rfl, HF.out, HR2.out, hC2⟩
end Go.Proofs.Ytkilmppmghkigaa
