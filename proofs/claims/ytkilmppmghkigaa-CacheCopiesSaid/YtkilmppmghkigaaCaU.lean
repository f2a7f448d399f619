/-
  Package cache: the slots that All goes over. Conditions: few slots, ints.
-/
import Derived.Test.YtkilmppmghkigaaCaS
namespace Go.Proofs.Ytkilmppmghkigaa
open Go.RowKit
attribute [local go_sem] Oper.semAt_some
set_option maxHeartbeats 4000000
set_option maxRecDepth 8000

def whoP (m : List (Int × Int)) (k : Int) : Int := ((m.find? fun x => x.1 == k).map (·.2)).getD 0
def allL (m : List (Int × Int)) : List (Int × Int) := (srt (encP m)).map fun k => (k, whoP m k)
theorem look_who (m : List (Int × Int)) (k : Int) : (getA (encP m) k).getD (.int .i64 0) = .int .i64 (whoP m k) := by
  unfold getA whoP encP
  rw [List.find?_map]
  simp only [Function.comp_def]
  cases h : m.find? fun x => x.1 == k with
  | none => rfl
  | some q => rfl
theorem zero_int (W : World) : (zeroValue 3).run Try.prog W = .ok (.int .i64 0) W := by
  have := info64
  obtain ⟨i, hi, hz, _⟩ := this
  simp [zeroValue, typeInfo, hi, hz]
theorem all_iterC (s mb : Nat) (m : List (Int × Int)) (hlen : m.length ≤ 1000000) (hw : ∀ x ∈ m, (Lit.int .i64 x.1).wf = true) :
    IterS Try.prog 46 #[.pointer (some ⟨s, 0, none⟩)] (fun x : Int × Int => #[.int .i64 x.1, .int .i64 x.2]) (allL m)
      (fun W => W.cell? ⟨s, 0, none⟩ = some (.map (some mb)) ∧ MapI W mb (encP m)) := by
  intro l J Jx W hJ hJx hA hY h0
  obtain ⟨hc0, hp0⟩ := hA _ _ _ (h0 _ (Nat.le_refl _))
  have hwE : ∀ p ∈ encP m, (Lit.int .i64 p.1).wf = true := fun p hp => by obtain ⟨x, hx, rfl⟩ := List.mem_map.1 hp; exact hw x hx
  have hlE : (encP m).length ≤ 1000000 := by simpa [encP] using hlen
  have hlS : (srt (encP m)).length ≤ 1000000 := by simpa [srt, encP] using hlen
  refine calls_in Try.func46 rfl ?_; simp only [Try.ntmps46, List.size_toArray, List.length_cons, List.length_nil, Nat.reduceAdd, Nat.reduceSub, Array.replicate_succ, Array.replicate_zero, List.push_toArray, List.append_toArray, List.nil_append, List.cons_append]
  gi_wp2_with fail
  refine wpIn_scope_straight ?_
  gi_wp2_with fail
  refine wpIn_label ?_
  gi_wp2_with fail
  refine (callsIn_wide.2 (keys_calls _ _)).mono ?_; rintro e w1 ⟨rfl, rfl⟩
  gi_wp2_with fail
  refine (callsIn_wide.2 (sorted_calls (w := W.alloc (.cells #[.map (some mb)] 83)) ((Blk.new W _ _).cell 0 rfl) (hp0.alloc _) hwE hlE)).mono ?_; rintro e w2 ⟨v, rfl, ho, h2⟩
  obtain ⟨ad, cap, rfl, ⟨hcap, hnil⟩, _⟩ := RowAt.of_owns ho (Nat.le_refl _)
  have hz2 : W.heap.size + 1 ≤ w2.heap.size := by have := h2.size; simpa using this
  have hk2 : Keeps W.heap.size W w2 := .of_below (((Below.refl _ W).alloc (Nat.le_refl _) _).trans (h2.mono (by simp))) (Nat.le_refl _) (Nat.le_refl _)
  have hJ2 := hJ _ _ _ _ (h0 w2.heap.size (by omega)) hk2
  have HO := Lib.hid ho
  have HY := Lib.hid hY
  clear ho hY hcap hnil h2 h0 hc0 hp0
  gi_wp2_with fail
  gi_loopw [9] (fun i wr => ∃ k : Nat, k ≤ (srt (encP m)).length ∧ i = .int .i64 k ∧ J w2.heap.size ((allL m).take k) wr ∧ w2.heap.size ≤ wr.heap.size ∧ Sm W.heap.size w2.heap.size w2 wr) (fun i _ => (srt (encP m)).length - (intOf i).toNat)
  case atStart => exact ⟨0, by omega, rfl, by simpa using hJ2, Nat.le_refl _, Sm.refl _ _ _⟩
  case round =>
    obtain ⟨k, hk, rfl, hJk, hsz, hsm⟩ := hrel
    obtain ⟨hc1, hp1⟩ := hA _ _ _ hJk
    by_cases hlt : k < (srt (encP m)).length
    · have hlA : k < (allL m).length := by simpa [allL] using hlt
      have hsp := Lib.hid (split_at (allL m) k hlA)
      have htk := Lib.hid (take_next (allL m) k hlA)
      have hgk : (allL m)[k] = ((srt (encP m))[k], whoP m (srt (encP m))[k]) := by simp [allL]
      have i0 : (0 : Int) ≤ k := by omega
      have i1 : (k : Int) < (srt (encP m)).length := by omega
      obtain ⟨g, cap', hv, hg1, hg2⟩ := World.ownsRow.form HO.out (by omega)
      simp only [Value.slice.injEq, true_and] at hv
      obtain ⟨rfl, rfl⟩ := hv
      have hcell : wr.cell? ⟨g, k, none⟩ = some (.int .i64 (srt (encP m))[k]) := by
        rw [World.cell?_of_block (hsm.2 g (by simp at hg1; omega) hg2), World.ownsRow.cellAt HO.out k (by omega), intVals_get _ _ _ hlt]
      have hlk := (hp1.lookup (P := Try.prog) Try.underlying83 Try.underlying3 (zero_int wr) (srt (encP m))[k]).1
      rw [look_who] at hlk
      obtain ⟨fn, tmps, assign, body, hy, hR⟩ := HY.out _ _ _ _ wr hsp.out hJk (by omega) hsz
      rw [hgk] at hy
      gi_wp2_with fail
      refine (hR _).mono ?_; rintro e W3 ⟨hs3, (⟨rfl, hJ3⟩ | ⟨rfl, hJx3⟩)⟩
      · have hz3 := hs3.1
        gi_wp2
        go_roundw
        case rel => exact ⟨k + 1, by omega, by go_num, by rw [htk.out]; exact hJ3, by omega, hsm.trans hs3⟩
        case measure => simp [intOf]; omega
      · gi_wp2
        rw [Exit.noGoto_normal]
        go_end0
        exact ⟨⟨_, rfl⟩, .inr hJx3⟩
    · gi_wp2_with fail
      rw [Exit.noGoto_normal]
      go_end0
      exact ⟨⟨_, rfl⟩, .inl ⟨w2.heap.size, by omega, by rw [List.take_of_length_le (by simp [allL]; omega)] at hJk; exact hJk⟩⟩
end Go.Proofs.Ytkilmppmghkigaa
