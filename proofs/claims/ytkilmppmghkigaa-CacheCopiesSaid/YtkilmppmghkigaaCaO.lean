/-
  The keys of a map of ints, sorted: the shelf's contracts laid over this program. Conditions: few keys, ints.
-/
import Derived.Test.YtkilmppmghkigaaRows
import Derived.Test.YtkilmppmghkigaaMaps
import Derived.Shelf.SlIterI.Nil
import Derived.Shelf.SortM.Plain
import Derived.Shelf.SortM.SortNone
import Derived.Ground.GgzProg
import Derived.Ground.SlgmProg
namespace Go.Proofs
open Go.RowKit Go.Maps Go.Sort Go.Shelf

def Try.keysA_ren : Go.Shelf.Ren := ⟨fun | 7 => 48 | 10 => 58 | n => n, fun | 23 => 83 | 26 => 3 | 3 => 3 | 28 => 87 | 0 => 0 | 27 => 86 | 33 => 25 | 4 => 4 | n => n, fun | n => n⟩
theorem Try.keysA : Go.Proofs.SlLaysZI.n7 Try.prog Try.keysA_ren := {
  mixed := by kernel_rfl
  f7 := ⟨Try.f48.name, by decide, Try.func48.trans (congrArg some (by kernel_rfl))⟩
  f10 := ⟨Try.f58.name, by decide, Try.func58.trans (congrArg some (by kernel_rfl))⟩
  t0 := Try.underlying0
  a0 := Try.isAgg0
  z0 := Try.sizeOf0
  v0 := Try.zeroValue0
  t4 := Try.underlying4
  a4 := Try.isAgg4
  z4 := Try.sizeOf4
  v4 := Try.zeroValue4
  t23 := Try.underlying83
  a23 := Try.isAgg83
  z23 := Try.sizeOf83
  v23 := Try.zeroValue83
  t26 := Try.underlying3
  a26 := Try.isAgg3
  z26 := Try.sizeOf3
  v26 := Try.zeroValue3
  t27 := Try.underlying86
  a27 := Try.isAgg86
  z27 := Try.sizeOf86
  v27 := Try.zeroValue86
  t28 := Try.underlying87
  a28 := Try.isAgg87
  z28 := Try.sizeOf87
  v28 := Try.zeroValue87
  t33 := Try.underlying25
  a33 := Try.isAgg25
  z33 := Try.sizeOf25
  v33 := Try.zeroValue25 }
def Try.sortedA_ren : Go.Shelf.Ren := ⟨fun | 6 => 47 | 8 => 56 | 9 => 57 | 11 => 61 | 13 => 63 | 12 => 62 | 23 => 73 | 24 => 74 | 14 => 64 | 15 => 65 | 16 => 66 | 17 => 67 | 18 => 68 | 19 => 69 | 20 => 70 | 21 => 71 | 22 => 72 | 25 => 75 | 26 => 76 | 27 => 77 | 28 => 78 | 29 => 79 | 30 => 80 | 31 => 81 | n => n, fun | 26 => 3 | 28 => 87 | 24 => 35 | 0 => 0 | 3 => 3 | 37 => 105 | 48 => 114 | 50 => 116 | 4 => 4 | 40 => 108 | 39 => 107 | 45 => 58 | 5 => 5 | 9 => 9 | 51 => 117 | 55 => 121 | 57 => 123 | 58 => 124 | 33 => 25 | n => n, fun | n => n⟩
theorem Try.sortedA : Go.Proofs.SlLaysZI.n6 Try.prog Try.sortedA_ren := {
  mixed := by kernel_rfl
  f6 := ⟨Try.f47.name, by decide, Try.func47.trans (congrArg some (by kernel_rfl))⟩
  f8 := ⟨Try.f56.name, by decide, Try.func56.trans (congrArg some (by kernel_rfl))⟩
  f11 := ⟨Try.f61.name, by decide, Try.func61.trans (congrArg some (by kernel_rfl))⟩
  t0 := Try.underlying0
  a0 := Try.isAgg0
  z0 := Try.sizeOf0
  v0 := Try.zeroValue0
  t24 := Try.underlying35
  a24 := Try.isAgg35
  z24 := Try.sizeOf35
  v24 := Try.zeroValue35
  t26 := Try.underlying3
  a26 := Try.isAgg3
  z26 := Try.sizeOf3
  v26 := Try.zeroValue3
  t28 := Try.underlying87
  a28 := Try.isAgg87
  z28 := Try.sizeOf87
  v28 := Try.zeroValue87
  i26 := by kernel_rfl }
def Try.sortA_ren : Go.Shelf.Ren := ⟨fun | 5 => 57 | 8 => 63 | 7 => 62 | 19 => 73 | 20 => 74 | 10 => 64 | 11 => 65 | 12 => 66 | 13 => 67 | 14 => 68 | 15 => 69 | 16 => 70 | 17 => 71 | 18 => 72 | 30 => 75 | 31 => 76 | 32 => 77 | 33 => 78 | 34 => 79 | 35 => 80 | 40 => 81 | n => n, fun | 23 => 35 | 25 => 3 | 3 => 3 | 32 => 105 | 22 => 35 | 0 => 0 | 44 => 114 | 46 => 116 | 4 => 4 | 36 => 108 | 35 => 107 | 41 => 58 | 5 => 5 | 9 => 9 | 53 => 117 | 57 => 121 | 63 => 123 | 64 => 124 | n => n, fun | n => n⟩
theorem Try.sortA : Go.Proofs.SlLaysM.n5 Try.prog Try.sortA_ren := {
  mixed := by kernel_rfl
  f5 := ⟨Try.f57.name, by decide, Try.func57.trans (congrArg some (by kernel_rfl))⟩
  f7 := ⟨Try.f62.name, by decide, Try.func62.trans (congrArg some (by kernel_rfl))⟩
  f8 := Try.func63.trans (congrArg some (by kernel_rfl))
  f10 := ⟨Try.f64.name, by decide, Try.func64.trans (congrArg some (by kernel_rfl))⟩
  f11 := ⟨Try.f65.name, by decide, Try.func65.trans (congrArg some (by kernel_rfl))⟩
  f12 := ⟨Try.f66.name, by decide, Try.func66.trans (congrArg some (by kernel_rfl))⟩
  f13 := ⟨Try.f67.name, by decide, Try.func67.trans (congrArg some (by kernel_rfl))⟩
  f14 := ⟨Try.f68.name, by decide, Try.func68.trans (congrArg some (by kernel_rfl))⟩
  f15 := ⟨Try.f69.name, by decide, Try.func69.trans (congrArg some (by kernel_rfl))⟩
  f16 := ⟨Try.f70.name, by decide, Try.func70.trans (congrArg some (by kernel_rfl))⟩
  f17 := ⟨Try.f71.name, by decide, Try.func71.trans (congrArg some (by kernel_rfl))⟩
  f18 := ⟨Try.f72.name, by decide, Try.func72.trans (congrArg some (by kernel_rfl))⟩
  f19 := Try.func73.trans (congrArg some (by kernel_rfl))
  f20 := Try.func74.trans (congrArg some (by kernel_rfl))
  f30 := ⟨Try.f75.name, by decide, Try.func75.trans (congrArg some (by kernel_rfl))⟩
  f31 := Try.func76.trans (congrArg some (by kernel_rfl))
  f32 := Try.func77.trans (congrArg some (by kernel_rfl))
  f33 := ⟨Try.f78.name, by decide, Try.func78.trans (congrArg some (by kernel_rfl))⟩
  f34 := ⟨Try.f79.name, by decide, Try.func79.trans (congrArg some (by kernel_rfl))⟩
  f35 := ⟨Try.f80.name, by decide, Try.func80.trans (congrArg some (by kernel_rfl))⟩
  f40 := ⟨Try.f81.name, by decide, Try.func81.trans (congrArg some (by kernel_rfl))⟩
  t0 := Try.underlying0
  a0 := Try.isAgg0
  z0 := Try.sizeOf0
  v0 := Try.zeroValue0
  t3 := Try.underlying3
  a3 := Try.isAgg3
  z3 := Try.sizeOf3
  v3 := Try.zeroValue3
  t4 := Try.underlying4
  a4 := Try.isAgg4
  z4 := Try.sizeOf4
  v4 := Try.zeroValue4
  t5 := Try.underlying5
  a5 := Try.isAgg5
  z5 := Try.sizeOf5
  v5 := Try.zeroValue5
  t9 := Try.underlying9
  a9 := Try.isAgg9
  z9 := Try.sizeOf9
  v9 := Try.zeroValue9
  t22 := Try.underlying35
  a22 := Try.isAgg35
  z22 := Try.sizeOf35
  v22 := Try.zeroValue35
  t23 := Try.underlying35
  a23 := Try.isAgg35
  z23 := Try.sizeOf35
  v23 := Try.zeroValue35
  t25 := Try.underlying3
  a25 := Try.isAgg3
  z25 := Try.sizeOf3
  v25 := Try.zeroValue3
  t32 := Try.underlying105
  a32 := Try.isAgg105
  z32 := Try.sizeOf105
  v32 := Try.zeroValue105
  t35 := Try.underlying107
  a35 := Try.isAgg107
  z35 := Try.sizeOf107
  v35 := Try.zeroValue107
  t36 := Try.underlying108
  a36 := Try.isAgg108
  z36 := Try.sizeOf108
  v36 := Try.zeroValue108
  t41 := Try.underlying58
  a41 := Try.isAgg58
  z41 := Try.sizeOf58
  v41 := Try.zeroValue58
  t44 := Try.underlying114
  a44 := Try.isAgg114
  z44 := Try.sizeOf114
  v44 := Try.zeroValue114
  t46 := Try.underlying116
  a46 := Try.isAgg116
  z46 := Try.sizeOf116
  v46 := Try.zeroValue116
  t53 := Try.underlying117
  a53 := Try.isAgg117
  z53 := Try.sizeOf117
  v53 := Try.zeroValue117
  t57 := Try.underlying121
  a57 := Try.isAgg121
  z57 := Try.sizeOf121
  v57 := Try.zeroValue121
  t63 := Try.underlying123
  a63 := Try.isAgg123
  z63 := Try.sizeOf123
  v63 := Try.zeroValue123
  t64 := Try.underlying124
  a64 := Try.isAgg124
  z64 := Try.sizeOf124
  v64 := Try.zeroValue124 }
end Go.Proofs
namespace Go.Proofs.Ytkilmppmghkigaa
open Go.RowKit Go.Maps Go.Sort Go.Shelf
set_option maxHeartbeats 1000000
/-- slices.Sort's two contracts at this dump. -/
theorem sorts_in (m : Nat) : AnyZI.SortsIn Try.prog Try.sortedA_ren Fence.wide m :=
  ⟨fun blk off cap ss W hH hblk hsz => callsIn_wide.2 (AnyM.slices_Sort_int Try.sortA blk off cap ss W hH hblk hsz),
   fun p cap W => callsIn_wide.2 (AnyM.slices_Sort_int_none Try.sortA p cap W)⟩
def noElem (_ : Value) : Option (DataW Unit × List MemPlace) := some (.nil, [])
def datumI (m : List (Int × Value)) : DataW Unit := .map ((m.map fun p => (Lit.int .i64 p.1, (DataW.nil : DataW Unit))).foldr DataW.insert [])
theorem MapI.owns {P : Program} {k : TypeId} (hk : P.underlying k = some (.int .i64)) {W : World} {b : Nat} {m : List (Int × Value)} (h : MapI W b m) (hw : ∀ p ∈ m, (Lit.int .i64 p.1).wf = true) (hl : m.length ≤ maxLen) :
    W.ownsMap P k noElem b m.length (datumI m) := by
  obtain ⟨es, clock, hb, hs, he⟩ := h
  have hsz : es.size = m.length := by simpa using congrArg List.length he
  have hrd : ∀ x ∈ es.toList, ∀ p ∈ m, entI x = encI p → WideElems.rd P k noElem x = some (.int .i64 p.1, .nil) := by
    intro x hx p hp e
    have hpk : x.key = .int .i64 p.1 := congrArg Prod.fst e
    simp [WideElems.rd, noElem, hpk, keyOf_int_mk hk (hw p hp)]
  refine ⟨es, clock, hb, ⟨by omega, hs, fun x hx => ?_⟩, by omega, ?_⟩
  · have := List.mem_map_of_mem (f := entI) hx
    rw [he] at this
    obtain ⟨p, hp, e⟩ := List.mem_map.1 this
    exact ⟨_, hrd x hx p hp e.symm⟩
  · unfold datumI
    congr 2
    refine List.ext_getElem? fun i => ?_
    have hi := congrArg (fun l => l[i]?) he
    simp only [List.getElem?_map] at hi ⊢
    cases hx : es.toList[i]? with
    | none => rw [hx] at hi; cases hp : m[i]? with
      | none => simp
      | some p => rw [hp] at hi; simp at hi
    | some x => rw [hx] at hi; cases hp : m[i]? with
      | none => rw [hp] at hi; simp at hi
      | some p =>
        rw [hp] at hi
        simp only [Option.map_some, Option.some.injEq] at hi ⊢
        unfold WideElems.rg
        rw [hrd x (List.mem_of_getElem? hx) p (List.mem_of_getElem? hp) hi]
        rfl
theorem datumI_keys (m : List (Int × Value)) : (intKeys (datumI m)).Perm (m.map (·.1)) := by
  have h := (WideShapes.sorted_perm (m.map fun p => (Lit.int .i64 p.1, (DataW.nil : DataW Unit)))).map (fun p => Go.intOf p.1)
  unfold datumI intKeys
  simpa [Function.comp_def, Go.intOf] using h
theorem datumI_size (m : List (Int × Value)) : Maps.size (datumI m) = m.length := by
  have h := (WideShapes.sorted_perm (m.map fun p => (Lit.int .i64 p.1, (DataW.nil : DataW Unit)))).length_eq
  unfold datumI Maps.size
  simpa using h
/-- A map's keys, sorted. -/
def srt (m : List (Int × Value)) : List Int := (m.map (·.1)).mergeSort leI
theorem keys_calls (mb : Nat) (w : World) : Calls Try.prog 48 #[.map (some mb)] w fun e w' =>
    e = .returned (.func (.func 58) #[] #[.pointer (some ⟨w.heap.size, 0, none⟩)]) ∧ w' = w.alloc (.cells #[.map (some mb)] 83) :=
  (callsIn_wide (n := 6)).1 (AnyZI.keys_in Try.keysA Fence.wide 6 trivial rfl (some mb) w)
theorem sorted_calls {w : World} {Bm b : Nat} {m : List (Int × Value)} (hm : w.cell? ⟨Bm, 0, none⟩ = some (.map (some b))) (h : MapI w b m) (hw : ∀ p ∈ m, (Lit.int .i64 p.1).wf = true) (hl : m.length ≤ 1000000) :
    Calls Try.prog 47 #[.func (.func 58) #[] #[.pointer (some ⟨Bm, 0, none⟩)]] w fun e w' =>
      ∃ v, e = .returned v ∧ w'.ownsRow w.heap.size 3 1 v (srt m).length (intVals .i64 (srt m)) ∧ Below w.heap.size w w' := by
  have hown := h.owns (P := Try.prog) Try.underlying3 hw (by unfold maxLen; omega)
  have hsz := datumI_size m
  have hseq : SeqGives Fence.wide 2 Try.prog 58 #[.pointer (some ⟨Bm, 0, none⟩)] encZ (fun ss => ss.Perm (intKeys (datumI m))) (Maps.size (datumI m)) w :=
    AnyZI.keys_gives (ρ := Try.keysA_ren) { Try.keysA with } Fence.wide _ trivial rfl (by omega) Bm b m.length (datumI m) w (World.block_lt_of_cell? w _ hm) hm hown
  have cS := AnyZI.sorted_in Try.sortedA Fence.wide 5 trivial trivial trivial trivial rfl (by omega) (sorts_in _) (enters_of Try.func57 (by kernel_rfl) rfl) 58 #[.pointer (some ⟨Bm, 0, none⟩)] trivial (enters_of Try.func58 (by kernel_rfl) rfl) _ _ (by rw [hsz]; unfold maxLen; omega) (by rw [hsz]; omega) _ hseq
  refine ((callsIn_wide (n := 5)).1 cS).mono ?_
  rintro e w' ⟨v, ss, rfl, hS, hrow, hnil, hb⟩
  have he : ss.mergeSort leI = srt m := mergeSort_of_perm_i (hS.trans (datumI_keys m))
  refine ⟨v, rfl, ?_, hb⟩
  rw [← he]
  have hrow' : w'.ownsRow w.heap.size 3 1 v ss.length ((ss.mergeSort leI).map encZ) := hrow
  rw [List.length_mergeSort]
  exact hrow'
end Go.Proofs.Ytkilmppmghkigaa
