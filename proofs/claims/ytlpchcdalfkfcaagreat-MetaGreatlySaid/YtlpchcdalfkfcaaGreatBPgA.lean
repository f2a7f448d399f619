/-
  Package page: questions, the first error of questions; a row of questions. No condition.
-/
import Derived.Test.YtlpchcdalfkfcaaGreatRows
import Derived.Test.YtlpchcdalfkfcaaGreatBMaps
import Derived.Laws.EntriesVeiled
import Derived.Shelf.SlIterI.Nil
import Derived.Shelf.SortM.Plain
import Derived.Shelf.SortM.SortNone
import Derived.Ground.GgzProg
import Derived.Ground.SlgmProg
namespace Go.Proofs.YtlpchcdalfkfcaaGreat
open Go.RowKit
attribute [local go_sem] Oper.semAt_some
set_option maxHeartbeats 400000
set_option maxRecDepth 4000

/-- A question: what is called, with what; its error; its answer. -/
structure AskP where
  fn : Nat
  recv : Array Value
  caps : Array Value
  err : Int
  wrong : Bool
def firstErrP : List AskP → Int
  | [] => 0
  | a :: r => if a.wrong = true then a.err else firstErrP r
theorem firstErr_hitP : ∀ (l : List AskP) (k : Nat) (h : k < l.length), (∀ j (hj : j < l.length), j < k → l[j].wrong = false) → l[k].wrong = true → firstErrP l = l[k].err
  | a :: r, 0, _, _, hw => by simp only [List.getElem_cons_zero] at hw ⊢; simp [firstErrP, hw]
  | a :: r, k + 1, h, hn, hw => by
    have h0 := hn 0 (by simp) (by omega)
    simp only [List.getElem_cons_zero] at h0
    simp only [List.getElem_cons_succ] at hw ⊢
    rw [firstErrP, if_neg (by rw [h0]; decide)]
    exact firstErr_hitP r k (by simpa using h) (fun j hj hjk => hn (j + 1) (by simpa using hj) (by omega)) hw
theorem firstErr_noneP : ∀ (l : List AskP), (∀ j (hj : j < l.length), l[j].wrong = false) → firstErrP l = 0
  | [], _ => rfl
  | a :: r, h => by
    have h0 := h 0 (by simp)
    simp only [List.getElem_cons_zero] at h0
    rw [firstErrP, if_neg (by rw [h0]; decide)]
    exact firstErr_noneP r fun j hj => h (j + 1) (by simpa using hj)
/-- The questions lie in a row; each is answered, whatever has been made since, if those ahead of it are all in order. -/
structure AskRowP (w : World) (bb : Nat) (l : List AskP) : Prop where
  c0 : ∀ i (h : i < l.length), w.cell? ⟨bb, i * 2, none⟩ = some (.func (.func l[i].fn) l[i].recv l[i].caps)
  c1 : ∀ i (h : i < l.length), w.cell? ⟨bb, i * 2 + 1, none⟩ = some (.int .i64 l[i].err)
  lt : bb < w.heap.size
structure AnswersP (w : World) (l : List AskP) : Prop where
  eg : ∀ i (h : i < l.length) args W, (callFunc l[i].fn args).run Tryz.prog W = .ok (.enter l[i].fn args) W
  ans : ∀ i (h : i < l.length) W, (∀ j (hj : j < l.length), j < i → l[j].wrong = false) → Below w.heap.size w W → Calls Tryz.prog l[i].fn (l[i].recv ++ l[i].caps) W fun e W' => e = .returned (.bool l[i].wrong) ∧ Below W.heap.size W W'
theorem asked_okP (w : World) (bb n cap : Nat) (l : List AskP) (hn : n = l.length) (hlen : l.length ≤ 1000) (hr : Hid (AskRowP w bb l)) (ha : Hid (AnswersP w l)) :
    Calls Tryz.prog 156 #[.slice (some ⟨bb, 0, none⟩) n cap] w fun e w' => e = .returned (.int .i64 (firstErrP l)) ∧ Below w.heap.size w w' := by
  subst hn
  have hbb := hr.out.lt
  go_enter Tryz.func156, Tryz.ntmps156
  go_wp2_with fail
  refine wp_scope_fwd 0 rfl ?_
  go_wp2_with (first | go_step3 | rw [fwd_goto] | rw [fwd_ret] | rw [Exit.noGoto_ret])
  go_loopw [7] (fun i wr => ∃ k : Nat, k ≤ l.length ∧ i = .int .i64 k ∧ (∀ j (hj : j < l.length), j < k → l[j].wrong = false) ∧ Below w.heap.size w wr) (fun i _ => l.length - (intOf i).toNat)
  case atStart => exact ⟨0, by omega, rfl, fun j _ hj => by omega, Below.refl _ _⟩
  case round =>
    obtain ⟨k, hk, rfl, hn, hb⟩ := hrel
    have hz := hb.size
    have HN := Lib.hid hn
    clear hn
    by_cases hlt : k < l.length
    · have q0 : wr.cell? ⟨bb, k * 2, none⟩ = some (.func (.func l[k].fn) l[k].recv l[k].caps) := (hb.cell (p := ⟨bb, k * 2, none⟩) hbb).trans (hr.out.c0 k hlt)
      have q1 : wr.cell? ⟨bb, k * 2 + 1, none⟩ = some (.int .i64 l[k].err) := (hb.cell (p := ⟨bb, k * 2 + 1, none⟩) hbb).trans (hr.out.c1 k hlt)
      have i0 : (0 : Int) ≤ k := by omega
      have i1 : (k : Int) < l.length := by omega
      have hX := Blk.new wr #[.func (.func l[k].fn) l[k].recv l[k].caps, .int .i64 l[k].err] 204
      have hb1 := hb.alloc hz (.cells #[.func (.func l[k].fn) l[k].recv l[k].caps, .int .i64 l[k].err] 204)
      have hcall := Lib.hid (ha.out.ans k hlt _ (fun j hj hjk => HN.out j hj hjk) hb1)
      have heg := ha.out.eg k hlt
      by_cases hp : l[k].wrong = true
      · have hres := Lib.hid (firstErr_hitP l k hlt (fun j hj hjk => HN.out j hj hjk) hp)
        rw [hp] at hcall
        clear hp
        go_wp2_with fail
        refine (hcall.out).mono ?_; rintro e w1 ⟨rfl, h1⟩
        have hX1 := hX.below h1 (by simp)
        go_wp2_with fail
        go_wp2_with (first | go_step3 | rw [fwd_goto] | rw [fwd_ret] | rw [Exit.noGoto_ret])
        go_ret
        exact ⟨by rw [hres.out]; rfl, hb1.trans (h1.mono (by simp; omega))⟩
      · have hp' : l[k].wrong = false := by simpa using hp
        rw [hp'] at hcall
        have HP := Lib.hid hp'
        clear hp hp'
        go_wp2_with fail
        refine (hcall.out).mono ?_; rintro e w1 ⟨rfl, h1⟩
        go_wp2_with fail
        go_roundw
        case rel => exact ⟨k + 1, by omega, by go_num, fun j hj hjk => by rcases Nat.lt_or_ge j k with h | h; exact HN.out j hj h; (have : j = k := by omega); subst this; exact HP.out, hb1.trans (h1.mono (by simp; omega))⟩
        case measure => simp [intOf]; omega
    · obtain rfl : k = l.length := by omega
      go_wp2_with fail
      rw [fwd_ret]
      go_ret
      exact ⟨by rw [firstErr_noneP l fun j hj => HN.out j hj hj]; rfl, hb⟩
def askListP (l : List AskP) : List Value := l.flatMap fun a => [.func (.func a.fn) a.recv a.caps, .int .i64 a.err]
theorem askList_atP : ∀ (l : List AskP) (i : Nat) (h : i < l.length), (askListP l)[i * 2]? = some (.func (.func l[i].fn) l[i].recv l[i].caps) ∧ (askListP l)[i * 2 + 1]? = some (.int .i64 l[i].err)
  | a :: r, 0, _ => ⟨rfl, rfl⟩
  | a :: r, i + 1, h => by
    have ih := askList_atP r i (by simpa using h)
    have e1 : (i + 1) * 2 = i * 2 + 1 + 1 := by omega
    refine ⟨?_, ?_⟩
    · rw [e1]; exact ih.1
    · rw [e1]; exact ih.2
theorem askRow_ofP {W : World} {bb : Nat} {l : List AskP} {t : TypeId} (h : Blk W bb (askListP l).toArray t) : AskRowP W bb l :=
  ⟨fun i hi => h.cell _ (by simpa using (askList_atP l i hi).1), fun i hi => h.cell _ (by simpa using (askList_atP l i hi).2), h.lt⟩
end Go.Proofs.YtlpchcdalfkfcaaGreat

/-
  Package meta: questions, the first error of questions. No condition.
-/
namespace Go.Proofs.YtlpchcdalfkfcaaGreat
open Go.RowKit
attribute [local go_sem] Oper.semAt_some
set_option maxHeartbeats 400000
set_option maxRecDepth 4000

theorem asked_okM (w : World) (bb n cap : Nat) (l : List AskP) (hn : n = l.length) (hlen : l.length ≤ 1000) (hr : Hid (AskRowP w bb l)) (ha : Hid (AnswersP w l)) :
    Calls Tryz.prog 24 #[.slice (some ⟨bb, 0, none⟩) n cap] w fun e w' => e = .returned (.int .i64 (firstErrP l)) ∧ Below w.heap.size w w' := by
  subst hn
  have hbb := hr.out.lt
  go_enter Tryz.func24, Tryz.ntmps24
  go_wp2_with fail
  refine wp_scope_fwd 0 rfl ?_
  go_wp2_with (first | go_step3 | rw [fwd_goto] | rw [fwd_ret] | rw [Exit.noGoto_ret])
  go_loopw [7] (fun i wr => ∃ k : Nat, k ≤ l.length ∧ i = .int .i64 k ∧ (∀ j (hj : j < l.length), j < k → l[j].wrong = false) ∧ Below w.heap.size w wr) (fun i _ => l.length - (intOf i).toNat)
  case atStart => exact ⟨0, by omega, rfl, fun j _ hj => by omega, Below.refl _ _⟩
  case round =>
    obtain ⟨k, hk, rfl, hn, hb⟩ := hrel
    have hz := hb.size
    have HN := Lib.hid hn
    clear hn
    by_cases hlt : k < l.length
    · have q0 : wr.cell? ⟨bb, k * 2, none⟩ = some (.func (.func l[k].fn) l[k].recv l[k].caps) := (hb.cell (p := ⟨bb, k * 2, none⟩) hbb).trans (hr.out.c0 k hlt)
      have q1 : wr.cell? ⟨bb, k * 2 + 1, none⟩ = some (.int .i64 l[k].err) := (hb.cell (p := ⟨bb, k * 2 + 1, none⟩) hbb).trans (hr.out.c1 k hlt)
      have i0 : (0 : Int) ≤ k := by omega
      have i1 : (k : Int) < l.length := by omega
      have hX := Blk.new wr #[.func (.func l[k].fn) l[k].recv l[k].caps, .int .i64 l[k].err] 70
      have hb1 := hb.alloc hz (.cells #[.func (.func l[k].fn) l[k].recv l[k].caps, .int .i64 l[k].err] 70)
      have hcall := Lib.hid (ha.out.ans k hlt _ (fun j hj hjk => HN.out j hj hjk) hb1)
      have heg := ha.out.eg k hlt
      by_cases hp : l[k].wrong = true
      · have hres := Lib.hid (firstErr_hitP l k hlt (fun j hj hjk => HN.out j hj hjk) hp)
        rw [hp] at hcall
        clear hp
        go_wp2_with fail
        refine (hcall.out).mono ?_; rintro e w1 ⟨rfl, h1⟩
        have hX1 := hX.below h1 (by simp)
        go_wp2_with fail
        go_wp2_with (first | go_step3 | rw [fwd_goto] | rw [fwd_ret] | rw [Exit.noGoto_ret])
        go_ret
        exact ⟨by rw [hres.out]; rfl, hb1.trans (h1.mono (by simp; omega))⟩
      · have hp' : l[k].wrong = false := by simpa using hp
        rw [hp'] at hcall
        have HP := Lib.hid hp'
        clear hp hp'
        go_wp2_with fail
        refine (hcall.out).mono ?_; rintro e w1 ⟨rfl, h1⟩
        go_wp2_with fail
        go_roundw
        case rel => exact ⟨k + 1, by omega, by go_num, fun j hj hjk => by rcases Nat.lt_or_ge j k with h | h; exact HN.out j hj h; (have : j = k := by omega); subst this; exact HP.out, hb1.trans (h1.mono (by simp; omega))⟩
        case measure => simp [intOf]; omega
    · obtain rfl : k = l.length := by omega
      go_wp2_with fail
      rw [fwd_ret]
      go_ret
      exact ⟨by rw [firstErr_noneP l fun j hj => HN.out j hj hj]; rfl, hb⟩
end Go.Proofs.YtlpchcdalfkfcaaGreat

/-
  Package meta: whether all of some numbers are at least 0 and not above a bound; the first number that is such. No condition.
-/
namespace Go.Proofs.YtlpchcdalfkfcaaGreat
open Go.RowKit
attribute [local go_sem] Oper.semAt_some
set_option maxHeartbeats 400000
set_option maxRecDepth 4000

def inB (b n : Int) : Bool := decide (0 ≤ n) && decide (n ≤ b)
theorem inB_iff {b n : Int} : inB b n = true ↔ 0 ≤ n ∧ n ≤ b := by unfold inB; simp
theorem mfits1_calls (b n : Int) (bs : Nat) (w : World) (hbox : w.cell? ⟨bs, 0, none⟩ = some (.int .i64 b)) :
    Calls Tryz.prog 87 #[.int .i64 n, .pointer (some ⟨bs, 0, none⟩)] w fun e w' => e = .returned (.bool (!inB b n)) ∧ w = w' := by
  by_cases h : n < 0
  · have hr : inB b n = false := by simp [inB]; omega
    rw [hr]
    have hr : decide (n < 0) = true := by simpa using h
    go_enter Tryz.func87, Tryz.ntmps87
    go_wp2_with fail
    go_ret
    exact ⟨rfl, rfl⟩
  · by_cases h2 : b < n
    · have hr : inB b n = false := by simp [inB]; omega
      rw [hr]
      have hr : decide (n < 0) = false := by simpa using h
      have hr2 : decide (b < n) = true := by simpa using h2
      go_enter Tryz.func87, Tryz.ntmps87
      go_wp2_with fail
      go_ret
      exact ⟨rfl, rfl⟩
    · have hr : inB b n = true := by simp [inB]; omega
      rw [hr]
      have hr : decide (n < 0) = false := by simpa using h
      have hr2 : decide (b < n) = false := by simpa using h2
      go_enter Tryz.func87, Tryz.ntmps87
      go_wp2_with fail
      go_ret
      exact ⟨rfl, rfl⟩
/-- The first number that is such, of a function that may make memory. -/
structure IdxP (w : World) (lb f : Nat) (caps : Array Value) (P : Int → Bool) (l : List Int) : Prop where
  eg : ∀ args W, (callFunc f args).run Tryz.prog W = .ok (.enter f args) W
  ans : ∀ n ∈ l, ∀ W, Below w.heap.size w W → Calls Tryz.prog f (#[.int .i64 n] ++ caps) W fun e W' => e = .returned (.bool (P n)) ∧ Below W.heap.size W W'
  c : ∀ i (h : i < l.length), w.cell? ⟨lb, i, none⟩ = some (.int .i64 l[i])
  lt : lb < w.heap.size
theorem index_genM (w : World) (lb n cap f : Nat) (caps : Array Value) (P : Int → Bool) (l : List Int) (hn : n = l.length) (hl : l.length ≤ 1000) (H : Hid (IdxP w lb f caps P l)) :
    Calls Tryz.prog 83 #[.slice (some ⟨lb, 0, none⟩) n cap, .func (.func f) #[] caps] w fun e w' => ∃ k : Int, e = .returned (.int .i64 k) ∧ decide (0 ≤ k) = l.any P ∧ Below w.heap.size w w' := by
  subst hn
  have hlt := H.out.lt
  have eg := H.out.eg
  go_enter Tryz.func83, Tryz.ntmps83
  go_wp2_with fail
  go_loopw [8] (fun i wr => ∃ k : Nat, k ≤ l.length ∧ i = .int .i64 k ∧ (l.take k).any P = false ∧ Below w.heap.size w wr) (fun i _ => l.length - (intOf i).toNat)
  case atStart => exact ⟨0, by omega, rfl, rfl, Below.refl _ _⟩
  case round =>
    obtain ⟨k, hk, rfl, hn, hb⟩ := hrel
    have HN := Lib.hid hn
    clear hn
    by_cases hlt2 : k < l.length
    · have q0 : wr.cell? ⟨lb, k, none⟩ = some (.int .i64 l[k]) := (hb.cell (p := ⟨lb, k, none⟩) hlt).trans (H.out.c k hlt2)
      have hcall := Lib.hid (H.out.ans l[k] (List.getElem_mem hlt2) wr hb)
      have hany := Lib.hid (List.any_eq_true (l := l) (p := P)).2
      by_cases hp : P l[k] = true
      · have hres : l.any P = true := hany.out ⟨_, List.getElem_mem hlt2, hp⟩
        have HR := Lib.hid hres
        rw [hp] at hcall
        clear hp hres hany
        go_wp2_with fail
        refine (hcall.out).mono ?_; rintro e w1 ⟨rfl, h1⟩
        go_wp2_with fail
        all_goals (go_ret; exact ⟨_, rfl, by rw [HR.out]; simp, hb.trans (h1.mono hb.size)⟩)
      · have hp' : P l[k] = false := by simpa using hp
        have hres : (l.take (k + 1)).any P = false := by rw [take_next l k hlt2, List.any_append, HN.out]; simp [hp']
        have HR := Lib.hid hres
        rw [hp'] at hcall
        clear hp hp' hres hany
        go_wp2_with fail
        refine (hcall.out).mono ?_; rintro e w1 ⟨rfl, h1⟩
        go_wp2_with fail
        go_roundw
        case rel => exact ⟨k + 1, by omega, by go_num, HR.out, hb.trans (h1.mono hb.size)⟩
        case measure => simp [intOf]; omega
    · obtain rfl : k = l.length := by omega
      have HA := Lib.hid (show l.any P = false by have := HN.out; rwa [List.take_length] at this)
      go_wp2_with fail
      go_ret
      exact ⟨_, rfl, by rw [HA.out]; rfl, hb⟩
theorem contains_genM (w : World) (lb n cap f : Nat) (caps : Array Value) (P : Int → Bool) (l : List Int) (hn : n = l.length) (hl : l.length ≤ 1000) (H : Hid (IdxP w lb f caps P l)) :
    Calls Tryz.prog 41 #[.slice (some ⟨lb, 0, none⟩) n cap, .func (.func f) #[] caps] w fun e w' => e = .returned (.bool (l.any P)) ∧ Below w.heap.size w w' := by
  subst hn
  go_enter Tryz.func41, Tryz.ntmps41
  go_wp2_with fail
  refine (index_genM w lb _ cap f caps P l rfl hl H).mono ?_; rintro e w1 ⟨k, rfl, hk, h1⟩
  have HK := Lib.hid hk
  clear hk
  go_wp2_with fail
  go_ret
  exact ⟨by rw [← HK.out]; rfl, h1⟩
theorem mfits_ok (b : Int) (l : List Int) (lb n : Nat) (w : World) (hn : n = l.length) (hl : l.length ≤ 1000) (hc : ∀ i (h : i < l.length), w.cell? ⟨lb, i, none⟩ = some (.int .i64 l[i])) (hlb : lb < w.heap.size) :
    Calls Tryz.prog 46 #[.int .i64 b, .slice (some ⟨lb, 0, none⟩) n n] w fun e w' => e = .returned (.bool (l.all (inB b))) ∧ Below w.heap.size w w' := by
  have HX : IdxP (w.alloc (.cells #[.int .i64 b] 3)) lb 87 #[.pointer (some ⟨w.heap.size, 0, none⟩)] (fun n => !inB b n) l := by
    have hb := Blk.new w #[.int .i64 b] 3
    refine ⟨enters_of Tryz.func87 (by kernel_rfl) rfl, fun m _ W hW => ?_, fun i hi => ?_, by simp; omega⟩
    · exact (mfits1_calls b m w.heap.size W ((hb.below hW hb.lt).cell 0 rfl)).mono fun e w' ⟨h1, h2⟩ => ⟨h1, by subst h2; exact Below.refl _ _⟩
    · exact (((Below.refl _ w).alloc (Nat.le_refl _) _).cell (p := ⟨lb, i, none⟩) hlb).trans (hc i hi)
  have HH := Lib.hid HX
  clear HX hc
  subst hn
  go_enter Tryz.func46, Tryz.ntmps46
  go_wp2_with fail
  refine (contains_genM _ lb _ _ _ _ _ l rfl hl HH).mono ?_; rintro e w1 ⟨rfl, h1⟩
  go_wp2_with fail
  go_ret
  refine ⟨?_, ((Below.refl _ w).alloc (Nat.le_refl _) _).trans (h1.mono (by simp))⟩
  rw [show l.all (inB b) = !(l.any fun n => !inB b n) by simp [List.any_eq_not_all_not]]
  rfl
theorem mfits_one (b n : Int) (w : World) : Calls Tryz.prog 46 #[.int .i64 b, .slice (some ⟨w.heap.size, 0, none⟩) 1 1] (w.alloc (.cells #[.int .i64 n] 3)) fun e w' => e = .returned (.bool (inB b n)) ∧ Below w.heap.size w w' := by
  have hB := Blk.new w #[.int .i64 n] 3
  refine (mfits_ok b [n] w.heap.size 1 _ rfl (Nat.le_of_ble_eq_true rfl) (fun i hi => ?_) hB.lt).mono fun e w' ⟨h1, h2⟩ => ⟨by rw [h1]; simp, ((Below.refl _ w).alloc (Nat.le_refl _) _).trans (h2.mono (by simp))⟩
  have : i = 0 := by simpa using hi
  subst this
  exact hB.cell 0 rfl
end Go.Proofs.YtlpchcdalfkfcaaGreat

/-
  The keys of a map of ints, sorted: the shelf's contracts laid over this program. Conditions: few keys, ints.
-/
namespace Go.Proofs
open Go.RowKit Go.Maps Go.Sort Go.Shelf

end Go.Proofs
namespace Go.Proofs.YtlpchcdalfkfcaaGreat
open Go.RowKit Go.Maps Go.Sort Go.Shelf
set_option maxHeartbeats 1000000
def noElem (_ : Value) : Option (DataW Unit × List MemPlace) := some (.nil, [])
def datumI (m : List (Int × Value)) : DataW Unit := .map ((m.map fun p => (Lit.int .i64 p.1, (DataW.nil : DataW Unit))).foldr DataW.insert [])
theorem MapI.owns {P : Program} {k : TypeId} (hk : P.underlying k = some (.int .i64)) {W : World} {b : Nat} {m : List (Int × Value)} (h : MapI W b m) (hw : ∀ p ∈ m, (Lit.int .i64 p.1).wf = true) (hl : m.length ≤ maxLen) :
    W.ownsMap P k noElem b m.length (datumI m) := by
  obtain ⟨es, clock, hb, hs, he⟩ := h
  have hsz : es.size = m.length := by simpa using congrArg List.length he
  have hrd : ∀ x ∈ es.toList, ∀ p ∈ m, entI x = encI p → WideElems.rd P k noElem x = some (.int .i64 p.1, .nil) := by
    intro x hx p hp e
    have hpk : x.key = .int .i64 p.1 := congrArg Prod.fst e
    simp [WideElems.rd, noElem, hpk, keyOf_int_mk hk (hw p hp)]
  refine ⟨es, clock, hb, ⟨by omega, hs, fun x hx => ?_⟩, by omega, ?_⟩
  · have := List.mem_map_of_mem (f := entI) hx
    rw [he] at this
    obtain ⟨p, hp, e⟩ := List.mem_map.1 this
    exact ⟨_, hrd x hx p hp e.symm⟩
  · unfold datumI
    congr 2
    refine List.ext_getElem? fun i => ?_
    have hi := congrArg (fun l => l[i]?) he
    simp only [List.getElem?_map] at hi ⊢
    cases hx : es.toList[i]? with
    | none => rw [hx] at hi; cases hp : m[i]? with
      | none => simp
      | some p => rw [hp] at hi; simp at hi
    | some x => rw [hx] at hi; cases hp : m[i]? with
      | none => rw [hp] at hi; simp at hi
      | some p =>
        rw [hp] at hi
        simp only [Option.map_some, Option.some.injEq] at hi ⊢
        unfold WideElems.rg
        rw [hrd x (List.mem_of_getElem? hx) p (List.mem_of_getElem? hp) hi]
        rfl
theorem datumI_keys (m : List (Int × Value)) : (intKeys (datumI m)).Perm (m.map (·.1)) := by
  have h := (WideShapes.sorted_perm (m.map fun p => (Lit.int .i64 p.1, (DataW.nil : DataW Unit)))).map (fun p => Go.intOf p.1)
  unfold datumI intKeys
  simpa [Function.comp_def, Go.intOf] using h
theorem datumI_size (m : List (Int × Value)) : Maps.size (datumI m) = m.length := by
  have h := (WideShapes.sorted_perm (m.map fun p => (Lit.int .i64 p.1, (DataW.nil : DataW Unit)))).length_eq
  unfold datumI Maps.size
  simpa using h
/-- A map's keys, sorted. -/
def srt (m : List (Int × Value)) : List Int := (m.map (·.1)).mergeSort leI
end Go.Proofs.YtlpchcdalfkfcaaGreat

/-
  Package frame: questions, the first error of questions; what a pool is in memory. No condition.
-/
namespace Go.Proofs.YtlpchcdalfkfcaaGreat
open Go.RowKit
attribute [local go_sem] Oper.semAt_some
set_option maxHeartbeats 400000
set_option maxRecDepth 4000

/-- A question: what is called, with what; its error; its answer. -/
structure Ask where
  fn : Nat
  recv : Array Value
  caps : Array Value
  err : Int
  wrong : Bool
def firstErr : List Ask → Int
  | [] => 0
  | a :: r => if a.wrong = true then a.err else firstErr r
theorem firstErr_hit : ∀ (l : List Ask) (k : Nat) (h : k < l.length), (∀ j (hj : j < l.length), j < k → l[j].wrong = false) → l[k].wrong = true → firstErr l = l[k].err
  | a :: r, 0, _, _, hw => by simp only [List.getElem_cons_zero] at hw ⊢; simp [firstErr, hw]
  | a :: r, k + 1, h, hn, hw => by
    have h0 := hn 0 (by simp) (by omega)
    simp only [List.getElem_cons_zero] at h0
    simp only [List.getElem_cons_succ] at hw ⊢
    rw [firstErr, if_neg (by rw [h0]; decide)]
    exact firstErr_hit r k (by simpa using h) (fun j hj hjk => hn (j + 1) (by simpa using hj) (by omega)) hw
theorem firstErr_none : ∀ (l : List Ask), (∀ j (hj : j < l.length), l[j].wrong = false) → firstErr l = 0
  | [], _ => rfl
  | a :: r, h => by
    have h0 := h 0 (by simp)
    simp only [List.getElem_cons_zero] at h0
    rw [firstErr, if_neg (by rw [h0]; decide)]
    exact firstErr_none r fun j hj => h (j + 1) (by simpa using hj)
/-- The questions lie in a row; each is answered, whatever has been made since. -/
structure AskRow (w : World) (bb : Nat) (l : List Ask) : Prop where
  c0 : ∀ i (h : i < l.length), w.cell? ⟨bb, i * 2, none⟩ = some (.func (.func l[i].fn) l[i].recv l[i].caps)
  c1 : ∀ i (h : i < l.length), w.cell? ⟨bb, i * 2 + 1, none⟩ = some (.int .i64 l[i].err)
  lt : bb < w.heap.size
structure Answers (w : World) (l : List Ask) : Prop where
  eg : ∀ i (h : i < l.length) args W, (callFunc l[i].fn args).run Tryz.prog W = .ok (.enter l[i].fn args) W
  ans : ∀ i (h : i < l.length) W, Below w.heap.size w W → Calls Tryz.prog l[i].fn (l[i].recv ++ l[i].caps) W fun e W' => e = .returned (.bool l[i].wrong) ∧ Below W.heap.size W W'
theorem asked_ok (w : World) (bb n cap : Nat) (l : List Ask) (hn : n = l.length) (hlen : l.length ≤ 1000) (hr : Hid (AskRow w bb l)) (ha : Hid (Answers w l)) :
    Calls Tryz.prog 141 #[.slice (some ⟨bb, 0, none⟩) n cap] w fun e w' => e = .returned (.int .i64 (firstErr l)) ∧ Below w.heap.size w w' := by
  subst hn
  have hbb := hr.out.lt
  go_enter Tryz.func141, Tryz.ntmps141
  go_wp2_with fail
  refine wp_scope_fwd 0 rfl ?_
  go_wp2_with (first | go_step3 | rw [fwd_goto] | rw [fwd_ret] | rw [Exit.noGoto_ret])
  go_loopw [7] (fun i wr => ∃ k : Nat, k ≤ l.length ∧ i = .int .i64 k ∧ (∀ j (hj : j < l.length), j < k → l[j].wrong = false) ∧ Below w.heap.size w wr) (fun i _ => l.length - (intOf i).toNat)
  case atStart => exact ⟨0, by omega, rfl, fun j _ hj => by omega, Below.refl _ _⟩
  case round =>
    obtain ⟨k, hk, rfl, hn, hb⟩ := hrel
    have hz := hb.size
    have HN := Lib.hid hn
    clear hn
    by_cases hlt : k < l.length
    · have q0 : wr.cell? ⟨bb, k * 2, none⟩ = some (.func (.func l[k].fn) l[k].recv l[k].caps) := (hb.cell (p := ⟨bb, k * 2, none⟩) hbb).trans (hr.out.c0 k hlt)
      have q1 : wr.cell? ⟨bb, k * 2 + 1, none⟩ = some (.int .i64 l[k].err) := (hb.cell (p := ⟨bb, k * 2 + 1, none⟩) hbb).trans (hr.out.c1 k hlt)
      have i0 : (0 : Int) ≤ k := by omega
      have i1 : (k : Int) < l.length := by omega
      have hX := Blk.new wr #[.func (.func l[k].fn) l[k].recv l[k].caps, .int .i64 l[k].err] 196
      have hb1 := hb.alloc hz (.cells #[.func (.func l[k].fn) l[k].recv l[k].caps, .int .i64 l[k].err] 196)
      have hcall := Lib.hid (ha.out.ans k hlt _ hb1)
      have heg := ha.out.eg k hlt
      by_cases hp : l[k].wrong = true
      · have hres := Lib.hid (firstErr_hit l k hlt (fun j hj hjk => HN.out j hj hjk) hp)
        rw [hp] at hcall
        clear hp
        go_wp2_with fail
        refine (hcall.out).mono ?_; rintro e w1 ⟨rfl, h1⟩
        have hX1 := hX.below h1 (by simp)
        go_wp2_with fail
        go_wp2_with (first | go_step3 | rw [fwd_goto] | rw [fwd_ret] | rw [Exit.noGoto_ret])
        go_ret
        exact ⟨by rw [hres.out]; rfl, hb1.trans (h1.mono (by simp; omega))⟩
      · have hp' : l[k].wrong = false := by simpa using hp
        rw [hp'] at hcall
        have HP := Lib.hid hp'
        clear hp hp'
        go_wp2_with fail
        refine (hcall.out).mono ?_; rintro e w1 ⟨rfl, h1⟩
        go_wp2_with fail
        go_roundw
        case rel => exact ⟨k + 1, by omega, by go_num, fun j hj hjk => by rcases Nat.lt_or_ge j k with h | h; exact HN.out j hj h; (have : j = k := by omega); subst this; exact HP.out, hb1.trans (h1.mono (by simp; omega))⟩
        case measure => simp [intOf]; omega
    · obtain rfl : k = l.length := by omega
      go_wp2_with fail
      rw [fwd_ret]
      go_ret
      exact ⟨by rw [firstErr_none l fun j hj => HN.out j hj hj]; rfl, hb⟩
end Go.Proofs.YtlpchcdalfkfcaaGreat
