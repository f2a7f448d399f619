/-
  Package cache: All. Conditions: On's answers for the class are known; no slot comes twice.
-/
import Derived.Test.YtkilmppmghkigaaCaO
import Derived.Test.YtkilmppmghkigaaCaRI
import Derived.Test.YtkilmppmghkigaaCoreS
import Derived.Deep.AppendLies
namespace Go.Proofs.Ytkilmppmghkigaa
open Go.RowKit
attribute [local go_sem] Oper.semAt_some
set_option maxHeartbeats 4000000
set_option maxRecDepth 8000

/-- What On tells of a class, by thread. -/
def Ons (w : World) (p : Option Addr) (c : Int) (l : Nat → List Int) : Prop := ∀ (t : Nat), t < 4 → ∀ W, Below w.heap.size w W → Calls Try.prog 15 #[.pointer p, .int .i64 t, .int .i64 c] W fun e W' =>
  ∃ v, e = .returned v ∧ W'.ownsRow W.heap.size 3 1 v (l t).length (intVals .i64 (l t)) ∧ Below W.heap.size W W'
/-- The slots of a class with their threads, for threads below a. -/
def pTo (l : Nat → List Int) (a : Nat) : List (Int × Int) := (List.range a).flatMap fun t => (l t).map fun n => (n, (t : Int))
theorem pTo_succ (l : Nat → List Int) (a : Nat) : pTo l (a + 1) = pTo l a ++ (l a).map fun n => (n, (a : Int)) := by simp [pTo, List.range_succ]
def encP (m : List (Int × Int)) : List (Int × Value) := m.map fun x => (x.1, .int .i64 x.2)
theorem encP_append (m n : List (Int × Int)) : encP (m ++ n) = encP m ++ encP n := by simp [encP]
theorem pTo_pre (l : Nat → List Int) (a b : Nat) (h : a ≤ b) : ∃ rest, pTo l b = pTo l a ++ rest := by
  induction b with
  | zero => obtain rfl : a = 0 := by omega
            exact ⟨[], by simp⟩
  | succ b ih =>
    by_cases e : a = b + 1
    · subst e; exact ⟨[], by simp⟩
    · obtain ⟨r, hr⟩ := ih (by omega)
      exact ⟨_, by rw [pTo_succ, hr, List.append_assoc]⟩
theorem pTo_split (l : Nat → List Int) (a i : Nat) (ha : a < 4) (hi : i < (l a).length) : ∃ rest, pTo l 4 = (pTo l a ++ ((l a).take i).map fun n => (n, (a : Int))) ++ ((l a)[i], (a : Int)) :: rest := by
  obtain ⟨r, hr⟩ := pTo_pre l (a + 1) 4 (by omega)
  refine ⟨((l a).drop (i + 1)).map (fun n => (n, (a : Int))) ++ r, ?_⟩
  rw [hr, pTo_succ]
  have : l a = (l a).take i ++ (l a)[i] :: (l a).drop (i + 1) := by rw [← List.drop_eq_getElem_cons hi, List.take_append_drop]
  have e := congrArg (List.map fun n => (n, (a : Int))) this
  rw [e, List.map_append, List.map_cons]
  simp only [List.append_assoc, List.cons_append]
theorem fresh_at {A R : List (Int × Int)} {x : Int × Int} (h : ((A ++ x :: R).map (·.1)).Nodup) : hasA (encP A) x.1 = false := by
  unfold hasA
  rw [Bool.eq_false_iff]
  intro e
  rw [List.any_eq_true] at e
  obtain ⟨y, hy, hk⟩ := e
  obtain ⟨z, hz, rfl⟩ := List.mem_map.1 hy
  simp only [List.map_append, List.map_cons, List.nodup_append] at h
  exact h.2.2 z.1 (List.mem_map_of_mem hz) x.1 (by simp) (by simpa using hk)
theorem setA_fresh {A R : List (Int × Int)} {x : Int × Int} (h : ((A ++ x :: R).map (·.1)).Nodup) : setA (encP A) x.1 (.int .i64 x.2) = encP (A ++ [x]) := by
  unfold setA
  rw [fresh_at h]
  simp [encP]
/-- The map as it is filled. -/
structure Whose (w W : World) (cb mb : Nat) (m : List (Int × Int)) : Prop where
  box : Blk W cb #[.map (some mb)] 83
  map : MapI W mb (encP m)
  bel : Below w.heap.size w W
  lo : w.heap.size ≤ mb ∧ w.heap.size ≤ cb ∧ mb ≠ cb
theorem Whose.step {w W W' : World} {cb mb : Nat} {m : List (Int × Int)} (h : Whose w W cb mb m) (k : Below W.heap.size W W') : Whose w W' cb mb m :=
  ⟨h.box.below k h.box.lt, h.map.below k h.map.lt, h.bel.trans (k.mono h.bel.size), h.lo⟩
theorem All_calls {w : World} {p : Option Addr} {c : Int} {l : Nat → List Int} (hO : Ons w p c l) (hnd : ((pTo l 4).map (·.1)).Nodup) (hfew : ∀ t, t < 4 → (l t).length < 1000000) :
    Calls Try.prog 21 #[.pointer p, .int .i64 c] w fun e w' => ∃ s mb, e = .returned (.func (.func 46) #[] #[.pointer (some ⟨s, 0, none⟩)]) ∧
      w.heap.size ≤ s ∧ w.heap.size ≤ mb ∧ Blk w' s #[.map (some mb)] 83 ∧ MapI w' mb (encP (pTo l 4)) ∧ Below w.heap.size w w' := by
  have HND := Lib.hid hnd
  have HFEW := Lib.hid hfew
  clear hnd hfew
  have hmm := @run_makeMap Try.prog
  go_enter Try.func21, Try.ntmps21
  go_wp2_with fail
  clear hmm
  obtain ⟨W0, hW0⟩ : ∃ W0, W0 = (w.alloc (.map #[] 0)).alloc (.cells #[.map (some w.heap.size)] 83) := ⟨_, rfl⟩
  rw [← hW0]
  have h0 : Whose w W0 (w.heap.size + 1) w.heap.size (pTo l 0) := by
    rw [hW0]
    exact ⟨Blk.newAt _ _ _ (by simp), (MapI.new w).alloc _, ((Below.refl _ w).alloc (Nat.le_refl _) _).alloc (by simp) _, Nat.le_refl _, by omega, by omega⟩
  clear hW0
  go_loopw [10] (fun i wr => ∃ a : Nat, a ≤ 4 ∧ i = .int .i64 a ∧ Whose w wr (w.heap.size + 1) w.heap.size (pTo l a)) (fun i _ => 4 - (intOf i).toNat)
  case atStart => exact ⟨0, by omega, rfl, h0⟩
  case round =>
    obtain ⟨a, ha, rfl, hr⟩ := hrel
    clear h0
    by_cases hlt : a < 4
    · have i0 : (0 : Int) ≤ a := by omega
      have i1 : (a : Int) < 4 := by omega
      obtain ⟨Wa, rfl⟩ : ∃ Wa : World, Wa = wr := ⟨_, rfl⟩
      have HC := Lib.hid (hO a hlt Wa hr.bel)
      go_wp2_with fail
      refine HC.out.mono ?_; rintro e w1 ⟨v, rfl, ho, k1⟩
      have h1 := hr.step k1
      have hlw := hr.map.lt
      have hlm := HFEW.out a hlt
      obtain ⟨la, lc, rfl, _⟩ := (RowAt.of_owns ho (Nat.le_refl _)).len
      obtain ⟨on, hon⟩ : ∃ on, l a = on := ⟨_, rfl⟩
      rw [hon] at ho hlm ⊢
      have HON := Lib.hid hon
      clear hr k1 HC hon
      go_wp2_with fail
      go_loopw [18] (fun i wr2 => ∃ k : Nat, k ≤ on.length ∧ i = .int .i64 k ∧ wr2.ownsRow Wa.heap.size 3 1 (.slice la on.length lc) on.length (intVals .i64 on) ∧ Whose w wr2 (w.heap.size + 1) w.heap.size (pTo l a ++ (on.take k).map fun n => (n, (a : Int)))) (fun i _ => on.length - (intOf i).toNat)
      case atStart => exact ⟨0, by omega, rfl, ho, by simpa using h1⟩
      case round =>
        obtain ⟨k, hk, rfl, ho2, hr2⟩ := hrel
        clear ho h1
        by_cases hltk : k < on.length
        · obtain ⟨b, off, rfl, _, qc⟩ := (RowAt.of_owns ho2 (Nat.le_refl _)).geti k hltk
          obtain ⟨rest, hsp⟩ := pTo_split l a k hlt (by rw [HON.out]; exact hltk)
          have hnd := HND.out
          rw [hsp] at hnd
          have hset := setA_fresh hnd
          rw [List.append_assoc] at hset
          have htk : on.take (k + 1) = on.take k ++ [on[k]] := List.take_succ_eq_append_getElem hltk
          simp only [HON.out] at hset
          obtain ⟨y, hy⟩ : ∃ y, on[k] = y := ⟨_, rfl⟩
          rw [hy] at qc htk hset
          have hmap : (pTo l a ++ (on.take (k + 1)).map fun n => (n, (a : Int))) = pTo l a ++ ((on.take k).map (fun n => (n, (a : Int))) ++ [(y, (a : Int))]) := by rw [htk]; simp
          have HM := Lib.hid hmap
          obtain ⟨W9, hrun, hM9, hT9⟩ := hr2.map.store (P := Try.prog) Try.underlying83 Try.underlying3 y (.int .i64 a)
          rw [hset] at hM9
          have c0 : wr.cell? ⟨w.heap.size + 1, 0, none⟩ = some (.map (some w.heap.size)) := hr2.box.cell 0 rfl
          have j0 : (0 : Int) ≤ k := by omega
          have j1 : (k : Int) < on.length := by omega
          have ho9 := (Chg.of_turn hT9).owns ho2 (by omega)
          have h9 : Whose w W9 (w.heap.size + 1) w.heap.size (pTo l a ++ ((on.take k).map (fun n => (n, (a : Int))) ++ [(y, (a : Int))])) :=
            ⟨hr2.box.turn hT9 (by omega), hM9, hr2.bel.trans ((Chg.of_turn hT9).below (Nat.le_refl _) hr2.bel.size), hr2.lo⟩
          clear hsp hnd hset htk hmap hy hM9 hT9
          go_wp2_with fail
          exact ⟨⟨k + 1, by omega, by go_num, ho9, by rw [HM.out]; exact h9⟩, by simp [intOf]; omega⟩
        · obtain rfl : k = on.length := by omega
          rw [List.take_length] at hr2
          go_wp2_with fail
          exact ⟨⟨a + 1, by omega, by go_num, by rw [pTo_succ, HON.out]; exact hr2⟩, by simp [intOf]; omega⟩
    · obtain rfl : a = 4 := by omega
      go_wp2_with fail
      go_ret
      exact ⟨_, _, rfl, hr.lo.2.1, hr.lo.1, hr.box, hr.map, hr.bel⟩
end Go.Proofs.Ytkilmppmghkigaa
