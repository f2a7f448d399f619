/-
  Package cache: shelves in memory; the small questions. No condition.
-/
import Derived.Test.YtkilmppmghkigaaCaA
import Derived.Test.YtkilmppmghkigaaCoreB
namespace Go.Proofs.Ytkilmppmghkigaa
open Go.RowKit
attribute [local go_sem] Oper.semAt_some
set_option maxHeartbeats 4000000
set_option maxRecDepth 4000

def askList (l : List Ask) : List Value := l.flatMap fun a => [.func (.func a.fn) a.recv a.caps, .int .i64 a.err]
theorem askList_at : ∀ (l : List Ask) (i : Nat) (h : i < l.length), (askList l)[i * 2]? = some (.func (.func l[i].fn) l[i].recv l[i].caps) ∧ (askList l)[i * 2 + 1]? = some (.int .i64 l[i].err)
  | a :: r, 0, _ => ⟨rfl, rfl⟩
  | a :: r, i + 1, h => by
    have ih := askList_at r i (by simpa using h)
    rw [show (i + 1) * 2 = i * 2 + 2 by omega]
    simpa [askList] using ih
theorem askRow_of {W : World} {bb : Nat} {l : List Ask} {t : TypeId} (h : Blk W bb (askList l).toArray t) : AskRow W bb l :=
  ⟨fun i hi => h.cell _ (by simpa using (askList_at l i hi).1), fun i hi => h.cell _ (by simpa using (askList_at l i hi).2), h.lt⟩
/-- Shelves in memory: 32 slices, each read. -/
def ShAt (W : World) (s : Nat) (L : Nat → List Int) : Prop :=
  ∃ vs : List Value, vs.length = 32 ∧ Blk W s (vs ++ [Value.bool true]).toArray 63 ∧ ∀ i (h : i < vs.length), RowAt W.heap.size W vs[i] (L i).length (intVals .i64 (L i))
theorem ShAt.lt {W : World} {s : Nat} {L : Nat → List Int} (h : ShAt W s L) : s < W.heap.size := by obtain ⟨_, _, h, _⟩ := h; exact h.lt
theorem ShAt.below {n : Nat} {W W' : World} {s : Nat} {L : Nat → List Int} (h : ShAt W s L) (k : Below n W W') (hn : W.heap.size ≤ n) : ShAt W' s L := by
  have hl := h.lt
  obtain ⟨vs, h1, h2, h3⟩ := h
  exact ⟨vs, h1, h2.below k (by omega), fun i hi => ((h3 i hi).below k hn).mono k.size⟩
theorem ShAt.step {W W' : World} {s : Nat} {L : Nat → List Int} (h : ShAt W s L) (k : Below W.heap.size W W') : ShAt W' s L := h.below k (Nat.le_refl _)
theorem ShAt.alloc {W : World} {s : Nat} {L : Nat → List Int} (h : ShAt W s L) (o : Obj) : ShAt (W.alloc o) s L := h.step ((Below.refl _ W).alloc (Nat.le_refl _) o)
theorem ShAt.there {W : World} {s : Nat} {L : Nat → List Int} (h : ShAt W s L) : W.cell? ⟨s, 32, none⟩ = some (.bool true) := by
  obtain ⟨vs, h1, h2, h3⟩ := h
  exact h2.cell 32 (by simp [h1])
theorem ShAt.row {W : World} {s : Nat} {L : Nat → List Int} (h : ShAt W s L) (i : Nat) (hi : i < 32) : ∃ v, W.cell? ⟨s, i, none⟩ = some v ∧ W.frozen? ⟨s, i, none⟩ = false ∧ RowAt W.heap.size W v (L i).length (intVals .i64 (L i)) := by
  obtain ⟨vs, h1, h2, h3⟩ := h
  exact ⟨vs[i], h2.cell i (by simp [List.getElem?_append_left (show i < vs.length by omega)]), h2.frozen i, h3 i (by omega)⟩
def upd (L : Nat → List Int) (i : Nat) (xs : List Int) : Nat → List Int := fun j => if j = i then xs else L j
/-- No row of ints lies in the shelves' own block. -/
theorem ShAt.apart {B n : Nat} {W : World} {s : Nat} {L : Nat → List Int} (h : ShAt W s L) {v : Value} {xs : List Int} (hr : RowAt B W v n (intVals .i64 xs)) {a : Addr} {v' : Value} (ha : a.block = s) :
    RowAt B (W.setCell a v') v n (intVals .i64 xs) := by
  obtain ⟨ad, cap, rfl, hc, hx⟩ := hr
  refine ⟨ad, cap, rfl, hc, ?_⟩
  rcases hx with hx | ⟨b, off, rfl, hb, hx⟩
  · exact .inl hx
  · by_cases h0 : xs = []
    · subst h0; exact .inl rfl
    · right
      refine ⟨b, off, rfl, hb, fun i hi => ?_⟩
      have hne : b ≠ s := by
        rintro rfl
        have h1 := hx 0 (by rw [intVals_len]; exact List.length_pos_iff.2 h0)
        obtain ⟨vs, hl, hB, hR⟩ := h
        have h2 : W.cell? ⟨b, off, none⟩ = (vs ++ [Value.bool true])[off]? := by
          have := cell_of_row W b off _ _ _ hB
          simpa using this
        rw [Nat.add_zero, h2] at h1
        obtain ⟨x, r, rfl⟩ := List.exists_cons_of_ne_nil h0
        simp only [intVals, List.map_cons, List.getElem?_cons_zero] at h1
        by_cases h3 : off < vs.length
        · rw [List.getElem?_append_left h3, List.getElem?_eq_getElem h3, Option.some.injEq] at h1
          obtain ⟨_, _, e, _⟩ := hR off h3
          rw [e] at h1; cases h1
        · rw [List.getElem?_append_right (by omega)] at h1
          cases hq : off - vs.length with
          | zero => rw [hq] at h1; simp at h1
          | succ q => rw [hq] at h1; simp at h1
      rw [World.cell?_setCell_other _ _ _ _ (fun e => hne (by have := congrArg Addr.block e; dsimp only at this; omega))]
      exact hx i hi
theorem ShAt.set {W : World} {s : Nat} {L : Nat → List Int} (h : ShAt W s L) (i : Nat) (hi : i < 32) {v : Value} (xs : List Int) (hv : RowAt W.heap.size W v xs.length (intVals .i64 xs)) :
    ShAt (W.setCell ⟨s, i, none⟩ v) s (upd L i xs) := by
  have ha := fun (w : Value) (n : Nat) (ys : List Int) (hr : RowAt W.heap.size W w n (intVals .i64 ys)) => h.apart hr (a := ⟨s, i, none⟩) (v' := v) rfl
  obtain ⟨vs, h1, h2, h3⟩ := h
  refine ⟨vs.set i v, by simpa using h1, ?_, fun j hj => ?_⟩
  · have := h2.set i v
    rw [show (vs ++ [Value.bool true]).toArray.setIfInBounds i v = (vs.set i v ++ [Value.bool true]).toArray by
      rw [List.setIfInBounds_toArray, List.set_append_left _ _ (by omega)]] at this
    exact this
  · have hj' : j < vs.length := by simpa using hj
    have hz : (W.setCell ⟨s, i, none⟩ v).heap.size = W.heap.size := by simp
    rw [hz]
    unfold upd
    by_cases e : j = i
    · subst e
      rw [if_pos rfl, List.getElem_set_self]
      exact ha _ _ _ hv
    · rw [if_neg e, List.getElem_set_ne (Ne.symm e)]
      exact ha _ _ _ (h3 j hj')
theorem ShAt.congr {W : World} {s : Nat} {L L' : Nat → List Int} (h : ShAt W s L) (e : ∀ i, i < 32 → L i = L' i) : ShAt W s L' := by
  obtain ⟨vs, h1, h2, h3⟩ := h
  exact ⟨vs, h1, h2, fun i hi => by rw [← e i (by omega)]; exact h3 i hi⟩
/-- No row of the shelves that has slots lies in block g. -/
def Off (g : Nat) (W : World) (s : Nat) : Prop := ∀ i a n c, W.cell? ⟨s, i, none⟩ = some (.slice (some a) n c) → n ≠ 0 → a.block ≠ g
theorem Off.of {g s : Nat} {W W' : World} (h : Off g W s) (e : W'.heap[s]? = W.heap[s]?) : Off g W' s := fun i a n c hc hn => h i a n c ((World.cell?_of_block (a := ⟨s, i, none⟩) e).symm.trans hc) hn
theorem Off.set {g s : Nat} {W : World} (h : Off g W s) (i : Nat) {v : Value} (hv : ∀ a n c, v = .slice (some a) n c → n ≠ 0 → a.block ≠ g) (ho : (W.cell? ⟨s, i, none⟩).isSome = true) : Off g (W.setCell ⟨s, i, none⟩ v) s := by
  intro j a n c hc hn
  by_cases e : j = i
  · subst e
    obtain ⟨o, ho⟩ := Option.isSome_iff_exists.1 ho
    rw [World.cell?_setCell_same (w := W) (a := ⟨s, j, none⟩) (v := v) (u := o) ho] at hc
    exact hv a n c (Option.some.inj hc) hn
  · rw [World.cell?_setCell_other _ _ _ _ (fun h => e (by have := congrArg Addr.off h; dsimp only at this; omega))] at hc
    exact h j a n c hc hn
/-- All rows lie below B. -/
theorem ShAt.off {W : World} {s : Nat} {L : Nat → List Int} (h : ShAt W s L) {g : Nat} (hg : W.heap.size ≤ g) : Off g W s := by
  obtain ⟨vs, h1, h2, h3⟩ := h
  intro i a n c hc hn
  have hc' : W.cell? ⟨s, i, none⟩ = (vs ++ [Value.bool true])[i]? := by simpa using cell_of_row W s i _ _ _ h2
  rw [hc'] at hc
  by_cases hi : i < vs.length
  · rw [List.getElem?_append_left hi, List.getElem?_eq_getElem hi, Option.some.injEq] at hc
    obtain ⟨a', c', e, _, hx⟩ := h3 i hi
    rw [hc] at e
    simp only [Value.slice.injEq] at e
    obtain ⟨rfl, rfl, rfl⟩ := e
    rcases hx with hx | ⟨b, off, e, hb, _⟩
    · have : (intVals .i64 (L i)).length = 0 := by rw [hx]; rfl
      rw [intVals_len] at this
      exact absurd this hn
    · cases e
      dsimp only
      omega
  · rw [List.getElem?_append_right (by omega)] at hc
    cases hq : i - vs.length with
    | zero => rw [hq] at hc; simp at hc
    | succ q => rw [hq] at hc; simp at hc
/-- The shelves where only block g turns, in which none of their rows lies. -/
theorem ShAt.turned {W W' : World} {s g : Nat} {L : Nat → List Int} (h : ShAt W s L) (ho : Off g W s) (hs : s ≠ g) (hz : W.heap.size ≤ W'.heap.size) (hb : ∀ k, k < W.heap.size → k ≠ g → W'.heap[k]? = W.heap[k]?) : ShAt W' s L := by
  have hlt := h.lt
  obtain ⟨vs, h1, h2, h3⟩ := h
  refine ⟨vs, h1, (hb s hlt hs).trans h2, fun i hi => ?_⟩
  have hc : W.cell? ⟨s, i, none⟩ = some vs[i] := by
    have := cell_of_row W s i _ _ _ h2
    rw [show W.cell? ⟨s, i, none⟩ = (vs ++ [Value.bool true])[i]? by simpa using this, List.getElem?_append_left hi, List.getElem?_eq_getElem hi]
  obtain ⟨a, c, e, hcap, hx⟩ := h3 i hi
  refine ⟨a, c, e, hcap, hx.imp id ?_⟩
  rintro ⟨b, off, rfl, hbl, hcell⟩
  refine ⟨b, off, rfl, by omega, fun m hm => ?_⟩
  have hne : b ≠ g := ho i _ _ _ (hc.trans (by rw [e])) (by rw [intVals_len] at hm; omega)
  exact (World.cell?_of_block (a := ⟨b, off + m, none⟩) (hb b hbl hne)).trans (hcell m hm)
theorem none_live {w : World} {s : Nat} {L : Nat → List Int} (h : ShAt w s L) : Calls Try.prog 44 #[.pointer (some ⟨s, 0, none⟩)] w fun e w' => e = .returned (.bool false) ∧ Below w.heap.size w w' := by
  have c := h.there
  go_enter Try.func44, Try.ntmps44
  go_wp2_with fail
  go_ret
  exact ⟨rfl, Below.refl _ _⟩
theorem is_calls (p : Option Addr) (w : World) : Calls Try.prog 27 #[.pointer p] w fun e w' => e = .returned (.agg #[.func (.func 44) #[.pointer p] #[], .int .i64 1]) ∧ Below w.heap.size w w' := by
  go_enter Try.func27, Try.ntmps27
  go_wp2_with fail
  exact bodyPost_ret (v := .agg #[.func (.func 44) #[.pointer p] #[], .int .i64 1]) (by simp [results, Try.results27, go_sem]) rfl ⟨rfl, (Below.refl _ w).alloc (Nat.le_refl _) _⟩
theorem in_calls (n bound er : Int) (w : World) : Calls Try.prog 28 #[.int .i64 n, .int .i64 bound, .int .i64 er] w fun e w' =>
    e = .returned (.agg #[.func (.func 53) #[] #[.pointer (some ⟨w.heap.size, 0, none⟩), .pointer (some ⟨w.heap.size + 1, 0, none⟩)], .int .i64 er]) ∧ Blk w' w.heap.size #[.int .i64 n] 3 ∧ Blk w' (w.heap.size + 1) #[.int .i64 bound] 3 ∧ Below w.heap.size w w' := by
  go_enter Try.func28, Try.ntmps28
  go_wp2_with fail
  exact bodyPost_ret (v := .agg #[.func (.func 53) #[] #[.pointer (some ⟨w.heap.size, 0, none⟩), .pointer (some ⟨w.heap.size + 1, 0, none⟩)], .int .i64 er]) (by simp [results, Try.results28, go_sem]) rfl
    ⟨rfl, ((Blk.new w _ _).alloc _).alloc _, (Blk.newAt _ _ _ (by simp)).alloc _, (((Below.refl _ w).alloc (Nat.le_refl _) _).alloc (by simp) _).alloc (by simp; omega) _⟩
def badIn (n bound : Int) : Bool := decide (n < 0 ∨ bound ≤ n)
theorem in1_calls (n bound : Int) (p q : Nat) (w : World) (hp : w.cell? ⟨p, 0, none⟩ = some (.int .i64 n)) (hq : w.cell? ⟨q, 0, none⟩ = some (.int .i64 bound)) :
    Calls Try.prog 53 #[.pointer (some ⟨p, 0, none⟩), .pointer (some ⟨q, 0, none⟩)] w fun e w' => e = .returned (.bool (badIn n bound)) ∧ Below w.heap.size w w' := by
  by_cases h1 : n < 0
  · have hb : badIn n bound = true := by simp [badIn, h1]
    go_enter Try.func53, Try.ntmps53
    go_wp2_with fail
    go_ret
    exact ⟨by first | rfl | (rw [hb]; rfl), Below.refl _ _⟩
  · by_cases h2 : bound ≤ n
    · have hb : badIn n bound = true := by simp [badIn, h2]
      go_enter Try.func53, Try.ntmps53
      go_wp2_with fail
      go_ret
      exact ⟨by first | rfl | (rw [hb]; rfl), Below.refl _ _⟩
    · have hb : badIn n bound = false := by simp [badIn]; omega
      go_enter Try.func53, Try.ntmps53
      go_wp2_with fail
      go_ret
      exact ⟨by first | rfl | (rw [hb]; rfl), Below.refl _ _⟩
theorem on_calls (s t c : Nat) (ht : t < 4) (hc : c < 8) (w : World) : Calls Try.prog 31 #[.pointer (some ⟨s, 0, none⟩), .int .i64 t, .int .i64 c] w fun e w' => e = .returned (.pointer (some ⟨s, t * 8 + c, none⟩)) ∧ w = w' := by
  have i0 : (0 : Int) ≤ t := by omega
  have i1 : (t : Int) < 4 := by omega
  have i2 : (0 : Int) ≤ c := by omega
  have i3 : (c : Int) < 8 := by omega
  go_enter Try.func31, Try.ntmps31
  go_wp2_with fail
  go_ret
  exact ⟨rfl, rfl⟩
end Go.Proofs.Ytkilmppmghkigaa
