/-
  Package frame: All. Conditions: a pool, its keys ints.
-/
import Derived.Test.YtfmkjckckekliaaBFrO
import Derived.Test.YtfmkjckckekliaaBFrN
import Derived.Test.YtfmkjckckekliaaCoreS
import Derived.Shelf.SlMaps.Clone
import Derived.Ground.SlmcProg
import Derived.Deep.AppendLies
namespace Go.Proofs
open Go.RowKit Go.Maps Go.Sort Go.Shelf
def Try.cloneF_ren : Go.Shelf.Ren := ⟨fun | 5 => 52 | 7 => 67 | n => n, fun | 23 => 72 | 25 => 3 | 3 => 89 | 4 => 4 | 20 => 20 | n => n, fun | n => n⟩
theorem Try.cloneF : Go.Proofs.SlLaysW.n5 Try.prog Try.cloneF_ren := {
  mixed := by kernel_rfl
  f5 := ⟨Try.f52.name, by decide, Try.func52.trans (congrArg some (by kernel_rfl))⟩
  f7 := Try.func67.trans (congrArg some (by kernel_rfl))
  t4 := Try.underlying4
  a4 := Try.isAgg4
  z4 := Try.sizeOf4
  v4 := Try.zeroValue4
  t20 := Try.underlying20
  a20 := Try.isAgg20
  z20 := Try.sizeOf20
  v20 := Try.zeroValue20
  t23 := Try.underlying72
  a23 := Try.isAgg72
  z23 := Try.sizeOf72
  v23 := Try.zeroValue72 }
def Try.cloneR_ren : Go.Shelf.Ren := ⟨fun | 5 => 53 | 7 => 67 | n => n, fun | 23 => 35 | 25 => 3 | 3 => 3 | 4 => 4 | 20 => 20 | n => n, fun | n => n⟩
theorem Try.cloneR : Go.Proofs.SlLaysW.n5 Try.prog Try.cloneR_ren := {
  mixed := by kernel_rfl
  f5 := ⟨Try.f53.name, by decide, Try.func53.trans (congrArg some (by kernel_rfl))⟩
  f7 := Try.func67.trans (congrArg some (by kernel_rfl))
  t4 := Try.underlying4
  a4 := Try.isAgg4
  z4 := Try.sizeOf4
  v4 := Try.zeroValue4
  t20 := Try.underlying20
  a20 := Try.isAgg20
  z20 := Try.sizeOf20
  v20 := Try.zeroValue20
  t23 := Try.underlying35
  a23 := Try.isAgg35
  z23 := Try.sizeOf35
  v23 := Try.zeroValue35 }
end Go.Proofs
namespace Go.Proofs.Ytfmkjckckekliaa
open Go.RowKit
attribute [local go_sem] Oper.semAt_some
set_option maxHeartbeats 4000000
set_option maxRecDepth 4000

theorem clone_map {k f : Nat} {w : World} {b : Nat} {m : List (Int × Value)} (h : MapI w b m) (hc : ∀ es clock, w.heap[b]? = some (.map es clock) → Calls Try.prog f #[.map (some b)] w fun e w' => e = .returned (.map (some w.heap.size)) ∧ w' = w.alloc (.map es clock)) :
    Calls Try.prog f #[.map (some b)] w fun e w' => e = .returned (.map (some w.heap.size)) ∧ MapI w' w.heap.size m ∧ ∃ o, w' = w.alloc o := by
  obtain ⟨es, clock, hb, hs, he⟩ := h
  refine (hc es clock hb).mono ?_
  rintro e w' ⟨rfl, rfl⟩
  exact ⟨rfl, ⟨es, clock, World.alloc_heap_new w _, hs, he⟩, _, rfl⟩
theorem cloneF_calls {w : World} {b : Nat} {m : List (Int × Value)} (h : MapI w b m) : Calls Try.prog 52 #[.map (some b)] w fun e w' => e = .returned (.map (some w.heap.size)) ∧ MapI w' w.heap.size m ∧ ∃ o, w' = w.alloc o :=
  clone_map (k := 0) h fun es clock hb => AnyW.maps_Clone Try.cloneF b es clock w hb
theorem cloneR_calls {w : World} {b : Nat} {m : List (Int × Value)} (h : MapI w b m) : Calls Try.prog 53 #[.map (some b)] w fun e w' => e = .returned (.map (some w.heap.size)) ∧ MapI w' w.heap.size m ∧ ∃ o, w' = w.alloc o :=
  clone_map (k := 0) h fun es clock hb => AnyW.maps_Clone Try.cloneR b es clock w hb
theorem All_calls {w : World} {b bf br : Nat} {many : Int} {F : List Fr} {R : List (Int × Int)} (hpo : PoolAt w b bf br many F R) :
    Calls Try.prog 25 #[.pointer (some ⟨b, 0, none⟩)] w fun e w' => ∃ s bc, e = .returned (.func (.func 55) #[] #[.pointer (some ⟨s, 0, none⟩)]) ∧
      w.heap.size ≤ s ∧ w.heap.size ≤ bc ∧ Blk w' s #[.map (some bc)] 72 ∧ MapI w' bc (encF F) ∧ Below w.heap.size w w' := by
  go_enter Try.func25, Try.ntmps25
  go_wp2_with fail
  refine (none_live hpo).mono ?_; rintro e w1 ⟨rfl, h1⟩
  have hP1 := hpo.step h1
  have hz1 := h1.size
  obtain ⟨c0, c1, c2⟩ := hP1.cells
  go_wp2_with fail
  refine (cloneF_calls hP1.fr).mono ?_; rintro e w2 ⟨rfl, hM, o, rfl⟩
  go_wp2_with fail
  go_ret
  refine ⟨_, _, rfl, by omega, by omega, Blk.newAt _ _ _ (by simp), hM.alloc _, ?_⟩
  exact h1.trans ((((Below.refl _ w1).alloc (Nat.le_refl _) _).alloc (by simp) _).mono hz1)
def ownF (F : List Fr) (k : Int) : Int := ((F.find? fun x => x.1 == k).map (·.2.1)).getD 0
def allL (F : List Fr) : List (Int × Int) := (srt (encF F)).map fun k => (k, ownF F k)
theorem look_owner (F : List Fr) (h256 : ∀ x ∈ F, x.2.2.length = 256) (fr : Int) : ∃ bs, (getA (encF F) fr).getD (.agg (takenA 0 zeros256)) = .agg (takenA (ownF F fr) bs) ∧ bs.length = 256 := by
  unfold getA ownF encF
  rw [List.find?_map]
  simp only [Function.comp_def]
  cases h : F.find? fun x => x.1 == fr with
  | none => exact ⟨zeros256, rfl, rfl⟩
  | some q => exact ⟨q.2.2, rfl, h256 q (List.mem_of_find?_eq_some h)⟩
theorem field_owner (o : Int) (bs : List Int) (W : World) : (Instr.field 89 (.agg (takenA o bs)) 0).run Try.prog W = .ok (.int .i64 o) W := by
  unfold Instr.field
  rw [Sem.run_bind, run_underlying Try.underlying89]
  simp [Result.andThen, asAgg, part, takenA, go_sem]
theorem all_iter (s bc : Nat) (F : List Fr) (h256 : ∀ x ∈ F, x.2.2.length = 256) (hlen : F.length ≤ 1000000) (hw : ∀ x ∈ F, (Lit.int .i64 x.1).wf = true) :
    IterS Try.prog 55 #[.pointer (some ⟨s, 0, none⟩)] (fun x : Int × Int => #[.int .i64 x.1, .int .i64 x.2]) (allL F)
      (fun W => W.cell? ⟨s, 0, none⟩ = some (.map (some bc)) ∧ MapI W bc (encF F)) := by
  intro l J Jx W hJ hJx hA hY h0
  obtain ⟨hc0, hp0⟩ := hA _ _ _ (h0 _ (Nat.le_refl _))
  have hwE : ∀ p ∈ encF F, (Lit.int .i64 p.1).wf = true := fun p hp => by obtain ⟨x, hx, rfl⟩ := List.mem_map.1 hp; exact hw x hx
  have hlE : (encF F).length ≤ 1000000 := by simpa [encF] using hlen
  have hlS : (srt (encF F)).length ≤ 1000000 := by simpa [srt, encF] using hlen
  refine calls_in Try.func55 rfl ?_; simp only [Try.ntmps55, List.size_toArray, List.length_cons, List.length_nil, Nat.reduceAdd, Nat.reduceSub, Array.replicate_succ, Array.replicate_zero, List.push_toArray, List.append_toArray, List.nil_append, List.cons_append]
  gi_wp2_with fail
  refine wpIn_scope_straight ?_
  gi_wp2_with fail
  refine wpIn_label ?_
  gi_wp2_with fail
  refine (callsIn_wide.2 (keys_calls _ _)).mono ?_; rintro e w1 ⟨rfl, rfl⟩
  gi_wp2_with fail
  refine (callsIn_wide.2 (sorted_calls (w := W.alloc (.cells #[.map (some bc)] 72)) ((Blk.new W _ _).cell 0 rfl) (hp0.alloc _) hwE hlE)).mono ?_; rintro e w2 ⟨v, rfl, ho, h2⟩
  obtain ⟨ad, cap, rfl, ⟨hcap, hnil⟩, _⟩ := RowAt.of_owns ho (Nat.le_refl _)
  have hz2 : W.heap.size + 1 ≤ w2.heap.size := by have := h2.size; simpa using this
  have hk2 : Keeps W.heap.size W w2 := .of_below (((Below.refl _ W).alloc (Nat.le_refl _) _).trans (h2.mono (by simp))) (Nat.le_refl _) (Nat.le_refl _)
  have hJ2 := hJ _ _ _ _ (h0 w2.heap.size (by omega)) hk2
  have HO := Lib.hid ho
  have HY := Lib.hid hY
  clear ho hY hcap hnil h2 h0 hc0 hp0
  gi_wp2_with fail
  gi_loopw [9] (fun i wr => ∃ k : Nat, k ≤ (srt (encF F)).length ∧ i = .int .i64 k ∧ J w2.heap.size ((allL F).take k) wr ∧ w2.heap.size ≤ wr.heap.size ∧ Sm W.heap.size w2.heap.size w2 wr) (fun i _ => (srt (encF F)).length - (intOf i).toNat)
  case atStart => exact ⟨0, by omega, rfl, by simpa using hJ2, Nat.le_refl _, Sm.refl _ _ _⟩
  case round =>
    obtain ⟨k, hk, rfl, hJk, hsz, hsm⟩ := hrel
    obtain ⟨hc1, hp1⟩ := hA _ _ _ hJk
    by_cases hlt : k < (srt (encF F)).length
    · have hlA : k < (allL F).length := by simpa [allL] using hlt
      have hsp := Lib.hid (split_at (allL F) k hlA)
      have htk := Lib.hid (take_next (allL F) k hlA)
      have hgk : (allL F)[k] = ((srt (encF F))[k], ownF F (srt (encF F))[k]) := by simp [allL]
      have i0 : (0 : Int) ≤ k := by omega
      have i1 : (k : Int) < (srt (encF F)).length := by omega
      obtain ⟨g, cap', hv, hg1, hg2⟩ := World.ownsRow.form HO.out (by omega)
      simp only [Value.slice.injEq, true_and] at hv
      obtain ⟨rfl, rfl⟩ := hv
      have hcell : wr.cell? ⟨g, k, none⟩ = some (.int .i64 (srt (encF F))[k]) := by
        rw [World.cell?_of_block (hsm.2 g (by simp at hg1; omega) hg2), World.ownsRow.cellAt HO.out k (by omega), intVals_get _ _ _ hlt]
      obtain ⟨bs9, hcs, h25⟩ := look_owner F h256 (srt (encF F))[k]
      have hcz := takenA_size (ownF F (srt (encF F))[k]) bs9 h25
      have hlk := (hp1.lookup (P := Try.prog) Try.underlying72 Try.underlying3 (zero_taken wr) (srt (encF F))[k]).1
      rw [hcs] at hlk
      obtain ⟨fn, tmps, assign, body, hy, hR⟩ := HY.out _ _ _ _ wr hsp.out hJk (by omega) hsz
      rw [hgk] at hy
      clear hcs
      have hfo := field_owner (ownF F (srt (encF F))[k]) bs9 wr
      gi_wp2_with fail
      refine (hR _).mono ?_; rintro e W3 ⟨hs3, (⟨rfl, hJ3⟩ | ⟨rfl, hJx3⟩)⟩
      · have hz3 := hs3.1
        gi_wp2
        go_roundw
        case rel => exact ⟨k + 1, by omega, by go_num, by rw [htk.out]; exact hJ3, by omega, hsm.trans hs3⟩
        case measure => simp [intOf]; omega
      · gi_wp2
        rw [Exit.noGoto_normal]
        go_end0
        exact ⟨⟨_, rfl⟩, .inr hJx3⟩
    · gi_wp2_with fail
      rw [Exit.noGoto_normal]
      go_end0
      exact ⟨⟨_, rfl⟩, .inl ⟨w2.heap.size, by omega, by rw [List.take_of_length_le (by simp [allL]; omega)] at hJk; exact hJk⟩⟩
end Go.Proofs.Ytfmkjckckekliaa
