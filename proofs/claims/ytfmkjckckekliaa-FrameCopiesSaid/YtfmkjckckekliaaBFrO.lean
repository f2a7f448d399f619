/-
  The keys of a map of ints, sorted: the shelf's contracts laid over this program. Conditions: few keys, ints.
-/
import Derived.Test.YtfmkjckckekliaaRows
import Derived.Test.YtfmkjckckekliaaMaps
import Derived.Shelf.SlIterI.Nil
import Derived.Shelf.SortM.Plain
import Derived.Shelf.SortM.SortNone
import Derived.Ground.GgzProg
import Derived.Ground.SlgmProg
import Derived.Laws.EntriesVeiled
namespace Go.Proofs
open Go.RowKit Go.Maps Go.Sort Go.Shelf

def Try.keysA_ren : Go.Shelf.Ren := ⟨fun | 7 => 57 | 10 => 70 | n => n, fun | 23 => 72 | 26 => 3 | 3 => 89 | 28 => 84 | 0 => 0 | 27 => 83 | 33 => 32 | 4 => 4 | n => n, fun | n => n⟩
theorem Try.keysA : Go.Proofs.SlLaysZI.n7 Try.prog Try.keysA_ren := {
  mixed := by kernel_rfl
  f7 := ⟨Try.f57.name, by decide, Try.func57.trans (congrArg some (by kernel_rfl))⟩
  f10 := ⟨Try.f70.name, by decide, Try.func70.trans (congrArg some (by kernel_rfl))⟩
  t0 := Try.underlying0
  a0 := Try.isAgg0
  z0 := Try.sizeOf0
  v0 := Try.zeroValue0
  t4 := Try.underlying4
  a4 := Try.isAgg4
  z4 := Try.sizeOf4
  v4 := Try.zeroValue4
  t23 := Try.underlying72
  a23 := Try.isAgg72
  z23 := Try.sizeOf72
  v23 := Try.zeroValue72
  t26 := Try.underlying3
  a26 := Try.isAgg3
  z26 := Try.sizeOf3
  v26 := Try.zeroValue3
  t27 := Try.underlying83
  a27 := Try.isAgg83
  z27 := Try.sizeOf83
  v27 := Try.zeroValue83
  t28 := Try.underlying84
  a28 := Try.isAgg84
  z28 := Try.sizeOf84
  v28 := Try.zeroValue84
  t33 := Try.underlying32
  a33 := Try.isAgg32
  z33 := Try.sizeOf32
  v33 := Try.zeroValue32 }
def Try.sortedA_ren : Go.Shelf.Ren := ⟨fun | 6 => 56 | 8 => 68 | 9 => 69 | 11 => 71 | 13 => 73 | 12 => 72 | 23 => 83 | 24 => 84 | 14 => 74 | 15 => 75 | 16 => 76 | 17 => 77 | 18 => 78 | 19 => 79 | 20 => 80 | 21 => 81 | 22 => 82 | 25 => 85 | 26 => 86 | 27 => 87 | 28 => 88 | 29 => 89 | 30 => 90 | 31 => 91 | n => n, fun | 26 => 3 | 28 => 84 | 24 => 106 | 0 => 0 | 3 => 3 | 37 => 120 | 48 => 129 | 50 => 131 | 4 => 4 | 40 => 123 | 39 => 122 | 45 => 43 | 5 => 5 | 9 => 9 | 51 => 132 | 55 => 136 | 57 => 138 | 58 => 41 | 33 => 32 | n => n, fun | n => n⟩
theorem Try.sortedA : Go.Proofs.SlLaysZI.n6 Try.prog Try.sortedA_ren := {
  mixed := by kernel_rfl
  f6 := ⟨Try.f56.name, by decide, Try.func56.trans (congrArg some (by kernel_rfl))⟩
  f8 := ⟨Try.f68.name, by decide, Try.func68.trans (congrArg some (by kernel_rfl))⟩
  f11 := ⟨Try.f71.name, by decide, Try.func71.trans (congrArg some (by kernel_rfl))⟩
  t0 := Try.underlying0
  a0 := Try.isAgg0
  z0 := Try.sizeOf0
  v0 := Try.zeroValue0
  t24 := Try.underlying106
  a24 := Try.isAgg106
  z24 := Try.sizeOf106
  v24 := Try.zeroValue106
  t26 := Try.underlying3
  a26 := Try.isAgg3
  z26 := Try.sizeOf3
  v26 := Try.zeroValue3
  t28 := Try.underlying84
  a28 := Try.isAgg84
  z28 := Try.sizeOf84
  v28 := Try.zeroValue84
  i26 := by kernel_rfl }
def Try.sortA_ren : Go.Shelf.Ren := ⟨fun | 5 => 69 | 8 => 73 | 7 => 72 | 19 => 83 | 20 => 84 | 10 => 74 | 11 => 75 | 12 => 76 | 13 => 77 | 14 => 78 | 15 => 79 | 16 => 80 | 17 => 81 | 18 => 82 | 30 => 85 | 31 => 86 | 32 => 87 | 33 => 88 | 34 => 89 | 35 => 90 | 40 => 91 | n => n, fun | 23 => 106 | 25 => 3 | 3 => 3 | 32 => 120 | 22 => 106 | 0 => 0 | 44 => 129 | 46 => 131 | 4 => 4 | 36 => 123 | 35 => 122 | 41 => 43 | 5 => 5 | 9 => 9 | 53 => 132 | 57 => 136 | 63 => 138 | 64 => 41 | n => n, fun | n => n⟩
theorem Try.sortA : Go.Proofs.SlLaysM.n5 Try.prog Try.sortA_ren := {
  mixed := by kernel_rfl
  f5 := ⟨Try.f69.name, by decide, Try.func69.trans (congrArg some (by kernel_rfl))⟩
  f7 := ⟨Try.f72.name, by decide, Try.func72.trans (congrArg some (by kernel_rfl))⟩
  f8 := Try.func73.trans (congrArg some (by kernel_rfl))
  f10 := ⟨Try.f74.name, by decide, Try.func74.trans (congrArg some (by kernel_rfl))⟩
  f11 := ⟨Try.f75.name, by decide, Try.func75.trans (congrArg some (by kernel_rfl))⟩
  f12 := ⟨Try.f76.name, by decide, Try.func76.trans (congrArg some (by kernel_rfl))⟩
  f13 := ⟨Try.f77.name, by decide, Try.func77.trans (congrArg some (by kernel_rfl))⟩
  f14 := ⟨Try.f78.name, by decide, Try.func78.trans (congrArg some (by kernel_rfl))⟩
  f15 := ⟨Try.f79.name, by decide, Try.func79.trans (congrArg some (by kernel_rfl))⟩
  f16 := ⟨Try.f80.name, by decide, Try.func80.trans (congrArg some (by kernel_rfl))⟩
  f17 := ⟨Try.f81.name, by decide, Try.func81.trans (congrArg some (by kernel_rfl))⟩
  f18 := ⟨Try.f82.name, by decide, Try.func82.trans (congrArg some (by kernel_rfl))⟩
  f19 := Try.func83.trans (congrArg some (by kernel_rfl))
  f20 := Try.func84.trans (congrArg some (by kernel_rfl))
  f30 := ⟨Try.f85.name, by decide, Try.func85.trans (congrArg some (by kernel_rfl))⟩
  f31 := Try.func86.trans (congrArg some (by kernel_rfl))
  f32 := Try.func87.trans (congrArg some (by kernel_rfl))
  f33 := ⟨Try.f88.name, by decide, Try.func88.trans (congrArg some (by kernel_rfl))⟩
  f34 := ⟨Try.f89.name, by decide, Try.func89.trans (congrArg some (by kernel_rfl))⟩
  f35 := ⟨Try.f90.name, by decide, Try.func90.trans (congrArg some (by kernel_rfl))⟩
  f40 := ⟨Try.f91.name, by decide, Try.func91.trans (congrArg some (by kernel_rfl))⟩
  t0 := Try.underlying0
  a0 := Try.isAgg0
  z0 := Try.sizeOf0
  v0 := Try.zeroValue0
  t3 := Try.underlying3
  a3 := Try.isAgg3
  z3 := Try.sizeOf3
  v3 := Try.zeroValue3
  t4 := Try.underlying4
  a4 := Try.isAgg4
  z4 := Try.sizeOf4
  v4 := Try.zeroValue4
  t5 := Try.underlying5
  a5 := Try.isAgg5
  z5 := Try.sizeOf5
  v5 := Try.zeroValue5
  t9 := Try.underlying9
  a9 := Try.isAgg9
  z9 := Try.sizeOf9
  v9 := Try.zeroValue9
  t22 := Try.underlying106
  a22 := Try.isAgg106
  z22 := Try.sizeOf106
  v22 := Try.zeroValue106
  t23 := Try.underlying106
  a23 := Try.isAgg106
  z23 := Try.sizeOf106
  v23 := Try.zeroValue106
  t25 := Try.underlying3
  a25 := Try.isAgg3
  z25 := Try.sizeOf3
  v25 := Try.zeroValue3
  t32 := Try.underlying120
  a32 := Try.isAgg120
  z32 := Try.sizeOf120
  v32 := Try.zeroValue120
  t35 := Try.underlying122
  a35 := Try.isAgg122
  z35 := Try.sizeOf122
  v35 := Try.zeroValue122
  t36 := Try.underlying123
  a36 := Try.isAgg123
  z36 := Try.sizeOf123
  v36 := Try.zeroValue123
  t41 := Try.underlying43
  a41 := Try.isAgg43
  z41 := Try.sizeOf43
  v41 := Try.zeroValue43
  t44 := Try.underlying129
  a44 := Try.isAgg129
  z44 := Try.sizeOf129
  v44 := Try.zeroValue129
  t46 := Try.underlying131
  a46 := Try.isAgg131
  z46 := Try.sizeOf131
  v46 := Try.zeroValue131
  t53 := Try.underlying132
  a53 := Try.isAgg132
  z53 := Try.sizeOf132
  v53 := Try.zeroValue132
  t57 := Try.underlying136
  a57 := Try.isAgg136
  z57 := Try.sizeOf136
  v57 := Try.zeroValue136
  t63 := Try.underlying138
  a63 := Try.isAgg138
  z63 := Try.sizeOf138
  v63 := Try.zeroValue138
  t64 := Try.underlying41
  a64 := Try.isAgg41
  z64 := Try.sizeOf41
  v64 := Try.zeroValue41 }
end Go.Proofs
namespace Go.Proofs.Ytfmkjckckekliaa
open Go.RowKit Go.Maps Go.Sort Go.Shelf
set_option maxHeartbeats 1000000
/-- slices.Sort's two contracts at this dump. -/
theorem sorts_in (m : Nat) : AnyZI.SortsIn Try.prog Try.sortedA_ren Fence.wide m :=
  ⟨fun blk off cap ss W hH hblk hsz => callsIn_wide.2 (AnyM.slices_Sort_int Try.sortA blk off cap ss W hH hblk hsz),
   fun p cap W => callsIn_wide.2 (AnyM.slices_Sort_int_none Try.sortA p cap W)⟩
def noElem (_ : Value) : Option (DataW Unit × List MemPlace) := some (.nil, [])
def datumI (m : List (Int × Value)) : DataW Unit := .map ((m.map fun p => (Lit.int .i64 p.1, (DataW.nil : DataW Unit))).foldr DataW.insert [])
theorem MapI.owns {P : Program} {k : TypeId} (hk : P.underlying k = some (.int .i64)) {W : World} {b : Nat} {m : List (Int × Value)} (h : MapI W b m) (hw : ∀ p ∈ m, (Lit.int .i64 p.1).wf = true) (hl : m.length ≤ maxLen) :
    W.ownsMap P k noElem b m.length (datumI m) := by
  obtain ⟨es, clock, hb, hs, he⟩ := h
  have hsz : es.size = m.length := by simpa using congrArg List.length he
  have hrd : ∀ x ∈ es.toList, ∀ p ∈ m, entI x = encI p → WideElems.rd P k noElem x = some (.int .i64 p.1, .nil) := by
    intro x hx p hp e
    have hpk : x.key = .int .i64 p.1 := congrArg Prod.fst e
    simp [WideElems.rd, noElem, hpk, keyOf_int_mk hk (hw p hp)]
  refine ⟨es, clock, hb, ⟨by omega, hs, fun x hx => ?_⟩, by omega, ?_⟩
  · have := List.mem_map_of_mem (f := entI) hx
    rw [he] at this
    obtain ⟨p, hp, e⟩ := List.mem_map.1 this
    exact ⟨_, hrd x hx p hp e.symm⟩
  · unfold datumI
    congr 2
    refine List.ext_getElem? fun i => ?_
    have hi := congrArg (fun l => l[i]?) he
    simp only [List.getElem?_map] at hi ⊢
    cases hx : es.toList[i]? with
    | none => rw [hx] at hi; cases hp : m[i]? with
      | none => simp
      | some p => rw [hp] at hi; simp at hi
    | some x => rw [hx] at hi; cases hp : m[i]? with
      | none => rw [hp] at hi; simp at hi
      | some p =>
        rw [hp] at hi
        simp only [Option.map_some, Option.some.injEq] at hi ⊢
        unfold WideElems.rg
        rw [hrd x (List.mem_of_getElem? hx) p (List.mem_of_getElem? hp) hi]
        rfl
theorem datumI_keys (m : List (Int × Value)) : (intKeys (datumI m)).Perm (m.map (·.1)) := by
  have h := (WideShapes.sorted_perm (m.map fun p => (Lit.int .i64 p.1, (DataW.nil : DataW Unit)))).map (fun p => Go.intOf p.1)
  unfold datumI intKeys
  simpa [Function.comp_def, Go.intOf] using h
theorem datumI_size (m : List (Int × Value)) : Maps.size (datumI m) = m.length := by
  have h := (WideShapes.sorted_perm (m.map fun p => (Lit.int .i64 p.1, (DataW.nil : DataW Unit)))).length_eq
  unfold datumI Maps.size
  simpa using h
/-- A map's keys, sorted. -/
def srt (m : List (Int × Value)) : List Int := (m.map (·.1)).mergeSort leI
theorem keys_calls (mb : Nat) (w : World) : Calls Try.prog 57 #[.map (some mb)] w fun e w' =>
    e = .returned (.func (.func 70) #[] #[.pointer (some ⟨w.heap.size, 0, none⟩)]) ∧ w' = w.alloc (.cells #[.map (some mb)] 72) :=
  (callsIn_wide (n := 6)).1 (AnyZI.keys_in Try.keysA Fence.wide 6 trivial rfl (some mb) w)
theorem sorted_calls {w : World} {Bm b : Nat} {m : List (Int × Value)} (hm : w.cell? ⟨Bm, 0, none⟩ = some (.map (some b))) (h : MapI w b m) (hw : ∀ p ∈ m, (Lit.int .i64 p.1).wf = true) (hl : m.length ≤ 1000000) :
    Calls Try.prog 56 #[.func (.func 70) #[] #[.pointer (some ⟨Bm, 0, none⟩)]] w fun e w' =>
      ∃ v, e = .returned v ∧ w'.ownsRow w.heap.size 3 1 v (srt m).length (intVals .i64 (srt m)) ∧ Below w.heap.size w w' := by
  have hown := h.owns (P := Try.prog) Try.underlying3 hw (by unfold maxLen; omega)
  have hsz := datumI_size m
  have hseq : SeqGives Fence.wide 2 Try.prog 70 #[.pointer (some ⟨Bm, 0, none⟩)] encZ (fun ss => ss.Perm (intKeys (datumI m))) (Maps.size (datumI m)) w :=
    AnyZI.keys_gives (ρ := Try.keysA_ren) { Try.keysA with } Fence.wide _ trivial rfl (by omega) Bm b m.length (datumI m) w (World.block_lt_of_cell? w _ hm) hm hown
  have cS := AnyZI.sorted_in Try.sortedA Fence.wide 5 trivial trivial trivial trivial rfl (by omega) (sorts_in _) (enters_of Try.func69 (by kernel_rfl) rfl) 70 #[.pointer (some ⟨Bm, 0, none⟩)] trivial (enters_of Try.func70 (by kernel_rfl) rfl) _ _ (by rw [hsz]; unfold maxLen; omega) (by rw [hsz]; omega) _ hseq
  refine ((callsIn_wide (n := 5)).1 cS).mono ?_
  rintro e w' ⟨v, ss, rfl, hS, hrow, hnil, hb⟩
  have he : ss.mergeSort leI = srt m := mergeSort_of_perm_i (hS.trans (datumI_keys m))
  refine ⟨v, rfl, ?_, hb⟩
  rw [← he]
  have hrow' : w'.ownsRow w.heap.size 3 1 v ss.length ((ss.mergeSort leI).map encZ) := hrow
  rw [List.length_mergeSort]
  exact hrow'
end Go.Proofs.Ytfmkjckckekliaa

/-
  Package frame: questions, the first error of questions; what a pool is in memory. No condition.
-/
namespace Go.Proofs.Ytfmkjckckekliaa
open Go.RowKit
attribute [local go_sem] Oper.semAt_some
set_option maxHeartbeats 400000
set_option maxRecDepth 4000

/-- A question: what is called, with what; its error; its answer. -/
structure Ask where
  fn : Nat
  recv : Array Value
  caps : Array Value
  err : Int
  wrong : Bool
def firstErr : List Ask → Int
  | [] => 0
  | a :: r => if a.wrong = true then a.err else firstErr r
theorem firstErr_hit : ∀ (l : List Ask) (k : Nat) (h : k < l.length), (∀ j (hj : j < l.length), j < k → l[j].wrong = false) → l[k].wrong = true → firstErr l = l[k].err
  | a :: r, 0, _, _, hw => by simp only [List.getElem_cons_zero] at hw ⊢; simp [firstErr, hw]
  | a :: r, k + 1, h, hn, hw => by
    have h0 := hn 0 (by simp) (by omega)
    simp only [List.getElem_cons_zero] at h0
    simp only [List.getElem_cons_succ] at hw ⊢
    rw [firstErr, if_neg (by rw [h0]; decide)]
    exact firstErr_hit r k (by simpa using h) (fun j hj hjk => hn (j + 1) (by simpa using hj) (by omega)) hw
theorem firstErr_none : ∀ (l : List Ask), (∀ j (hj : j < l.length), l[j].wrong = false) → firstErr l = 0
  | [], _ => rfl
  | a :: r, h => by
    have h0 := h 0 (by simp)
    simp only [List.getElem_cons_zero] at h0
    rw [firstErr, if_neg (by rw [h0]; decide)]
    exact firstErr_none r fun j hj => h (j + 1) (by simpa using hj)
/-- The questions lie in a row; each is answered, whatever has been made since. -/
structure AskRow (w : World) (bb : Nat) (l : List Ask) : Prop where
  c0 : ∀ i (h : i < l.length), w.cell? ⟨bb, i * 2, none⟩ = some (.func (.func l[i].fn) l[i].recv l[i].caps)
  c1 : ∀ i (h : i < l.length), w.cell? ⟨bb, i * 2 + 1, none⟩ = some (.int .i64 l[i].err)
  lt : bb < w.heap.size
structure Answers (w : World) (l : List Ask) : Prop where
  eg : ∀ i (h : i < l.length) args W, (callFunc l[i].fn args).run Try.prog W = .ok (.enter l[i].fn args) W
  ans : ∀ i (h : i < l.length) W, Below w.heap.size w W → Calls Try.prog l[i].fn (l[i].recv ++ l[i].caps) W fun e W' => e = .returned (.bool l[i].wrong) ∧ Below W.heap.size W W'
theorem asked_ok (w : World) (bb n cap : Nat) (l : List Ask) (hn : n = l.length) (hlen : l.length ≤ 1000) (hr : Hid (AskRow w bb l)) (ha : Hid (Answers w l)) :
    Calls Try.prog 29 #[.slice (some ⟨bb, 0, none⟩) n cap] w fun e w' => e = .returned (.int .i64 (firstErr l)) ∧ Below w.heap.size w w' := by
  subst hn
  have hbb := hr.out.lt
  go_enter Try.func29, Try.ntmps29
  go_wp2_with fail
  refine wp_scope_fwd 0 rfl ?_
  go_wp2_with (first | go_step3 | rw [fwd_goto] | rw [fwd_ret] | rw [Exit.noGoto_ret])
  go_loopw [7] (fun i wr => ∃ k : Nat, k ≤ l.length ∧ i = .int .i64 k ∧ (∀ j (hj : j < l.length), j < k → l[j].wrong = false) ∧ Below w.heap.size w wr) (fun i _ => l.length - (intOf i).toNat)
  case atStart => exact ⟨0, by omega, rfl, fun j _ hj => by omega, Below.refl _ _⟩
  case round =>
    obtain ⟨k, hk, rfl, hn, hb⟩ := hrel
    have hz := hb.size
    have HN := Lib.hid hn
    clear hn
    by_cases hlt : k < l.length
    · have q0 : wr.cell? ⟨bb, k * 2, none⟩ = some (.func (.func l[k].fn) l[k].recv l[k].caps) := (hb.cell (p := ⟨bb, k * 2, none⟩) hbb).trans (hr.out.c0 k hlt)
      have q1 : wr.cell? ⟨bb, k * 2 + 1, none⟩ = some (.int .i64 l[k].err) := (hb.cell (p := ⟨bb, k * 2 + 1, none⟩) hbb).trans (hr.out.c1 k hlt)
      have i0 : (0 : Int) ≤ k := by omega
      have i1 : (k : Int) < l.length := by omega
      have hX := Blk.new wr #[.func (.func l[k].fn) l[k].recv l[k].caps, .int .i64 l[k].err] 79
      have hb1 := hb.alloc hz (.cells #[.func (.func l[k].fn) l[k].recv l[k].caps, .int .i64 l[k].err] 79)
      have hcall := Lib.hid (ha.out.ans k hlt _ hb1)
      have heg := ha.out.eg k hlt
      by_cases hp : l[k].wrong = true
      · have hres := Lib.hid (firstErr_hit l k hlt (fun j hj hjk => HN.out j hj hjk) hp)
        rw [hp] at hcall
        clear hp
        go_wp2_with fail
        refine (hcall.out).mono ?_; rintro e w1 ⟨rfl, h1⟩
        have hX1 := hX.below h1 (by simp)
        go_wp2_with fail
        go_wp2_with (first | go_step3 | rw [fwd_goto] | rw [fwd_ret] | rw [Exit.noGoto_ret])
        go_ret
        exact ⟨by rw [hres.out]; rfl, hb1.trans (h1.mono (by simp; omega))⟩
      · have hp' : l[k].wrong = false := by simpa using hp
        rw [hp'] at hcall
        have HP := Lib.hid hp'
        clear hp hp'
        go_wp2_with fail
        refine (hcall.out).mono ?_; rintro e w1 ⟨rfl, h1⟩
        go_wp2_with fail
        go_roundw
        case rel => exact ⟨k + 1, by omega, by go_num, fun j hj hjk => by rcases Nat.lt_or_ge j k with h | h; exact HN.out j hj h; (have : j = k := by omega); subst this; exact HP.out, hb1.trans (h1.mono (by simp; omega))⟩
        case measure => simp [intOf]; omega
    · obtain rfl : k = l.length := by omega
      go_wp2_with fail
      rw [fwd_ret]
      go_ret
      exact ⟨by rw [firstErr_none l fun j hj => HN.out j hj hj]; rfl, hb⟩
end Go.Proofs.Ytfmkjckckekliaa
