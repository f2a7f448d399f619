/-
 Chapter 15, plain: where slots lie, and whose an address is. No condition.
-/
import Derived.Test.YtlpchcdalfkfcaaGreatBCore
import Derived.Test.YtlpchcdalfkfcaaGreatBPgA
import Derived.Test.YtlpchcdalfkfcaaGreatRows
import Derived.Test.YtlpchcdalfkfcaaGreatBFrame
import Derived.Shelf.SlIterI.Nil
import Derived.Shelf.SortM.Plain
import Derived.Shelf.SortM.SortNone
import Derived.Ground.GgzProg
import Derived.Ground.SlgmProg
import Derived.Laws.EntriesVeiled
namespace Go.Proofs.YtlpchcdalfkfcaaGreat
set_option maxHeartbeats 1000000
set_option maxRecDepth 4000

def payI (c : Int) : Int := if c = 0 then 16 else if c = 1 then 32 else if c = 2 then 48 else if c = 3 then 64 else if c = 4 then 96 else if c = 5 then 128 else if c = 6 then 192 else 256
def sltI (c : Int) : Int := 16 + payI c + 16
def cntIM (c : Int) : Int := if c = 0 then 85 else if c = 1 then 64 else if c = 2 then 51 else if c = 3 then 42 else if c = 4 then 32 else if c = 5 then 25 else if c = 6 then 18 else 14
def regJ (s c : Int) : Int := 4096 * (s + 1) + 1 + 17 * c
def atIM (s c i : Int) : Int := 256 * regJ s c + i * sltI c + 16
def inS (s c : Int) : Bool := decide (0 ≤ s ∧ s < 4) && decide (0 ≤ c ∧ c < 8)
def spE (s c i : Int) : Int := if inS s c = false then 2 else if decide (0 ≤ i ∧ i < cntIM c) = false then 4 else 0
theorem inS_iff {s c : Int} : inS s c = true ↔ (0 ≤ s ∧ s < 4) ∧ 0 ≤ c ∧ c < 8 := by unfold inS; simp
theorem spE_zero {s c i : Int} : spE s c i = 0 ↔ ((0 ≤ s ∧ s < 4) ∧ 0 ≤ c ∧ c < 8) ∧ 0 ≤ i ∧ i < cntIM c := by
 unfold spE
 cases h : inS s c
 ·have : ¬ ((0 ≤ s ∧ s < 4) ∧ 0 ≤ c ∧ c < 8) := fun e => by rw [inS_iff.2 e] at h; cases h
  simp [this]
 ·have := inS_iff.1 h
  by_cases h2 : 0 ≤ i ∧ i < cntIM c
  ·simp [this, h2]
  ·rw [if_neg (by decide), if_pos (by simpa using h2)]
   simp only [this, and_true, true_and, h2, iff_false]
   decide
theorem cls8 {c : Int} (h0 : 0 ≤ c) (h1 : c < 8) : c = 0 ∨ c = 1 ∨ c = 2 ∨ c = 3 ∨ c = 4 ∨ c = 5 ∨ c = 6 ∨ c = 7 := by omega
theorem slt_v : sltI 0 = 48 ∧ sltI 1 = 64 ∧ sltI 2 = 80 ∧ sltI 3 = 96 ∧ sltI 4 = 128 ∧ sltI 5 = 160 ∧ sltI 6 = 224 ∧ sltI 7 = 288 := by decide
theorem cnt_v : cntIM 0 = 85 ∧ cntIM 1 = 64 ∧ cntIM 2 = 51 ∧ cntIM 3 = 42 ∧ cntIM 4 = 32 ∧ cntIM 5 = 25 ∧ cntIM 6 = 18 ∧ cntIM 7 = 14 := by decide
theorem sp_bd {s c i : Int} (h : spE s c i = 0) : 0 ≤ i * sltI c ∧ i * sltI c + 32 ≤ 4096 := by
 obtain ⟨⟨_, h0, h1⟩, h2, h3⟩ := spE_zero.1 h
 rcases cls8 h0 h1 with rfl | rfl | rfl | rfl | rfl | rfl | rfl | rfl <;> simp only [slt_v, cnt_v] at * <;> omega
theorem at_inj {s c i s' c' i' : Int} (h : spE s c i = 0) (h' : spE s' c' i' = 0) (e : atIM s c i = atIM s' c' i') : s = s' ∧ c = c' ∧ i = i' := by
 obtain ⟨b0, b1⟩ := sp_bd h
 obtain ⟨b2, b3⟩ := sp_bd h'
 obtain ⟨⟨a0, a1⟩, _, _⟩ := spE_zero.1 h
 obtain ⟨⟨a2, a3⟩, _, _⟩ := spE_zero.1 h'
 unfold atIM regJ at e
 have es : s = s' := by omega
 have ec : c = c' := by omega
 subst es ec
 refine ⟨rfl, rfl, ?_⟩
 have ei : i * sltI c = i' * sltI c := by omega
 rcases cls8 a1.1 a1.2 with rfl | rfl | rfl | rfl | rfl | rfl | rfl | rfl <;> simp only [slt_v] at ei <;> omega
/-- Whose an address is. -/
def FindSp (at_ s c i no : Int) : Prop := (no = 0 ∧ spE s c i = 0 ∧ atIM s c i = at_) ∨ ((no = 250 ∧ s = 0 ∧ c = 0 ∧ i = 0) ∧ ∀ s c i, spE s c i = 0 → atIM s c i ≠ at_)
theorem FindSp.uniq {a s c i no s' c' i' no' : Int} (h : FindSp a s c i no) (k : FindSp a s' c' i' no') : s = s' ∧ c = c' ∧ i = i' ∧ no = no' := by
 rcases h with ⟨rfl, h1, h2⟩ | ⟨⟨rfl, rfl, rfl, rfl⟩, h1⟩ <;> rcases k with ⟨rfl, k1, k2⟩ | ⟨⟨rfl, rfl, rfl, rfl⟩, k1⟩
 ·obtain ⟨e1, e2, e3⟩ := at_inj h1 k1 (h2.trans k2.symm)
  exact ⟨e1, e2, e3, rfl⟩
 ·exact absurd h2 (k1 _ _ _ h1)
 ·exact absurd k2 (h1 _ _ _ k1)
 ·exact ⟨rfl, rfl, rfl, rfl⟩
theorem at_page {s c i : Int} (h : spE s c i = 0) : regJ s c ≤ atIM s c i / 256 ∧ atIM s c i / 256 < regJ s c + 16 ∧ 0 ≤ atIM s c i ∧ atIM s c i < 16777216 := by
 obtain ⟨b0, b1⟩ := sp_bd h
 obtain ⟨⟨a0, a1⟩, _, _⟩ := spE_zero.1 h
 unfold atIM
 have : 256 * regJ s c = 1048576 * (s + 1) + 256 + 4352 * c := by unfold regJ; omega
 unfold regJ at *
 omega
theorem at_index {s c i : Int} (h : spE s c i = 0) : Int.tdiv (atIM s c i - atIM s c 0) (sltI c) = i := by
 obtain ⟨⟨_, h0, h1⟩, h2, h3⟩ := spE_zero.1 h
 have e : atIM s c i - atIM s c 0 = i * sltI c := by unfold atIM; omega
 rw [e]
 refine Int.mul_tdiv_cancel i ?_
 rcases cls8 h0 h1 with rfl | rfl | rfl | rfl | rfl | rfl | rfl | rfl <;> decide
end Go.Proofs.YtlpchcdalfkfcaaGreat


/-
 Package meta: whether all of some numbers are at least 0 and not above a bound; the first number that is such. No condition.
-/
namespace Go.Proofs.YtlpchcdalfkfcaaGreat
open Go.RowKit
attribute [local go_sem] Oper.semAt_some
set_option maxHeartbeats 400000
set_option maxRecDepth 4000

def inB (b n : Int) : Bool := decide (0 ≤ n) && decide (n ≤ b)
theorem inB_iff {b n : Int} : inB b n = true ↔ 0 ≤ n ∧ n ≤ b := by unfold inB; simp
theorem mfits1_calls (b n : Int) (bs : Nat) (w : World) (hbox : w.cell? ⟨bs, 0, none⟩ = some (.int .i64 b)) :
  Calls Tryz.prog 87 #[.int .i64 n, .pointer (some ⟨bs, 0, none⟩)] w fun e w' => e = .returned (.bool (!inB b n)) ∧ w = w' := by
 by_cases h : n < 0
 ·have hr : inB b n = false := by simp [inB]; omega
  rw [hr]
  have hr : decide (n < 0) = true := by simpa using h
  go_enter Tryz.func87, Tryz.ntmps87
  go_wp2_with fail
  go_ret
  exact ⟨rfl, rfl⟩
 ·by_cases h2 : b < n
  ·have hr : inB b n = false := by simp [inB]; omega
   rw [hr]
   have hr : decide (n < 0) = false := by simpa using h
   have hr2 : decide (b < n) = true := by simpa using h2
   go_enter Tryz.func87, Tryz.ntmps87
   go_wp2_with fail
   go_ret
   exact ⟨rfl, rfl⟩
  ·have hr : inB b n = true := by simp [inB]; omega
   rw [hr]
   have hr : decide (n < 0) = false := by simpa using h
   have hr2 : decide (b < n) = false := by simpa using h2
   go_enter Tryz.func87, Tryz.ntmps87
   go_wp2_with fail
   go_ret
   exact ⟨rfl, rfl⟩
/-- The first number that is such, of a function that may make memory. -/
structure IdxP (w : World) (lb f : Nat) (caps : Array Value) (P : Int → Bool) (l : List Int) : Prop where
 eg : ∀ args W, (callFunc f args).run Tryz.prog W = .ok (.enter f args) W
 ans : ∀ n ∈ l, ∀ W, Below w.heap.size w W → Calls Tryz.prog f (#[.int .i64 n] ++ caps) W fun e W' => e = .returned (.bool (P n)) ∧ Below W.heap.size W W'
 c : ∀ i (h : i < l.length), w.cell? ⟨lb, i, none⟩ = some (.int .i64 l[i])
 lt : lb < w.heap.size
theorem index_genM (w : World) (lb n cap f : Nat) (caps : Array Value) (P : Int → Bool) (l : List Int) (hn : n = l.length) (hl : l.length ≤ 1000) (H : Hid (IdxP w lb f caps P l)) :
  Calls Tryz.prog 83 #[.slice (some ⟨lb, 0, none⟩) n cap, .func (.func f) #[] caps] w fun e w' => ∃ k : Int, e = .returned (.int .i64 k) ∧ decide (0 ≤ k) = l.any P ∧ Below w.heap.size w w' := by
 subst hn
 have hlt := H.out.lt
 have eg := H.out.eg
 go_enter Tryz.func83, Tryz.ntmps83
 go_wp2_with fail
 go_loopw [8] (fun i wr => ∃ k : Nat, k ≤ l.length ∧ i = .int .i64 k ∧ (l.take k).any P = false ∧ Below w.heap.size w wr) (fun i _ => l.length - (intOf i).toNat)
 case atStart => exact ⟨0, by omega, rfl, rfl, Below.refl _ _⟩
 case round =>
  obtain ⟨k, hk, rfl, hn, hb⟩ := hrel
  have HN := Lib.hid hn
  clear hn
  by_cases hlt2 : k < l.length
  ·have q0 : wr.cell? ⟨lb, k, none⟩ = some (.int .i64 l[k]) := (hb.cell (p := ⟨lb, k, none⟩) hlt).trans (H.out.c k hlt2)
   have hcall := Lib.hid (H.out.ans l[k] (List.getElem_mem hlt2) wr hb)
   have hany := Lib.hid (List.any_eq_true (l := l) (p := P)).2
   by_cases hp : P l[k] = true
   ·have hres : l.any P = true := hany.out ⟨_, List.getElem_mem hlt2, hp⟩
    have HR := Lib.hid hres
    rw [hp] at hcall
    clear hp hres hany
    go_wp2_with fail
    refine (hcall.out).mono ?_; rintro e w1 ⟨rfl, h1⟩
    go_wp2_with fail
    all_goals (go_ret; exact ⟨_, rfl, by rw [HR.out]; simp, hb.trans (h1.mono hb.size)⟩)
   ·have hp' : P l[k] = false := by simpa using hp
    have hres : (l.take (k + 1)).any P = false := by rw [take_next l k hlt2, List.any_append, HN.out]; simp [hp']
    have HR := Lib.hid hres
    rw [hp'] at hcall
    clear hp hp' hres hany
    go_wp2_with fail
    refine (hcall.out).mono ?_; rintro e w1 ⟨rfl, h1⟩
    go_wp2_with fail
    go_roundw
    case rel => exact ⟨k + 1, by omega, by go_num, HR.out, hb.trans (h1.mono hb.size)⟩
    case measure => simp [intOf]; omega
  ·obtain rfl : k = l.length := by omega
   have HA := Lib.hid (show l.any P = false by have := HN.out; rwa [List.take_length] at this)
   go_wp2_with fail
   go_ret
   exact ⟨_, rfl, by rw [HA.out]; rfl, hb⟩
theorem contains_genM (w : World) (lb n cap f : Nat) (caps : Array Value) (P : Int → Bool) (l : List Int) (hn : n = l.length) (hl : l.length ≤ 1000) (H : Hid (IdxP w lb f caps P l)) :
  Calls Tryz.prog 41 #[.slice (some ⟨lb, 0, none⟩) n cap, .func (.func f) #[] caps] w fun e w' => e = .returned (.bool (l.any P)) ∧ Below w.heap.size w w' := by
 subst hn
 go_enter Tryz.func41, Tryz.ntmps41
 go_wp2_with fail
 refine (index_genM w lb _ cap f caps P l rfl hl H).mono ?_; rintro e w1 ⟨k, rfl, hk, h1⟩
 have HK := Lib.hid hk
 clear hk
 go_wp2_with fail
 go_ret
 exact ⟨by rw [← HK.out]; rfl, h1⟩
theorem mfits_ok (b : Int) (l : List Int) (lb n : Nat) (w : World) (hn : n = l.length) (hl : l.length ≤ 1000) (hc : ∀ i (h : i < l.length), w.cell? ⟨lb, i, none⟩ = some (.int .i64 l[i])) (hlb : lb < w.heap.size) :
  Calls Tryz.prog 46 #[.int .i64 b, .slice (some ⟨lb, 0, none⟩) n n] w fun e w' => e = .returned (.bool (l.all (inB b))) ∧ Below w.heap.size w w' := by
 have HX : IdxP (w.alloc (.cells #[.int .i64 b] 3)) lb 87 #[.pointer (some ⟨w.heap.size, 0, none⟩)] (fun n => !inB b n) l := by
  have hb := Blk.new w #[.int .i64 b] 3
  refine ⟨enters_of Tryz.func87 (by kernel_rfl) rfl, fun m _ W hW => ?_, fun i hi => ?_, by simp; omega⟩
  ·exact (mfits1_calls b m w.heap.size W ((hb.below hW hb.lt).cell 0 rfl)).mono fun e w' ⟨h1, h2⟩ => ⟨h1, by subst h2; exact Below.refl _ _⟩
  ·exact (((Below.refl _ w).alloc (Nat.le_refl _) _).cell (p := ⟨lb, i, none⟩) hlb).trans (hc i hi)
 have HH := Lib.hid HX
 clear HX hc
 subst hn
 go_enter Tryz.func46, Tryz.ntmps46
 go_wp2_with fail
 refine (contains_genM _ lb _ _ _ _ _ l rfl hl HH).mono ?_; rintro e w1 ⟨rfl, h1⟩
 go_wp2_with fail
 go_ret
 refine ⟨?_, ((Below.refl _ w).alloc (Nat.le_refl _) _).trans (h1.mono (by simp))⟩
 rw [show l.all (inB b) = !(l.any fun n => !inB b n) by simp [List.any_eq_not_all_not]]
 rfl
theorem mfits_one (b n : Int) (w : World) : Calls Tryz.prog 46 #[.int .i64 b, .slice (some ⟨w.heap.size, 0, none⟩) 1 1] (w.alloc (.cells #[.int .i64 n] 3)) fun e w' => e = .returned (.bool (inB b n)) ∧ Below w.heap.size w w' := by
 have hB := Blk.new w #[.int .i64 n] 3
 refine (mfits_ok b [n] w.heap.size 1 _ rfl (Nat.le_of_ble_eq_true rfl) (fun i hi => ?_) hB.lt).mono fun e w' ⟨h1, h2⟩ => ⟨by rw [h1]; simp, ((Below.refl _ w).alloc (Nat.le_refl _) _).trans (h2.mono (by simp))⟩
 have : i = 0 := by simpa using hi
 subst this
 exact hB.cell 0 rfl
end Go.Proofs.YtlpchcdalfkfcaaGreat


/-
 The keys of a map of ints, sorted: the shelf's contracts laid over this program. Conditions: few keys, ints.
-/
namespace Go.Proofs
open Go.RowKit Go.Maps Go.Sort Go.Shelf

end Go.Proofs
namespace Go.Proofs.YtlpchcdalfkfcaaGreat
open Go.RowKit Go.Maps Go.Sort Go.Shelf
set_option maxHeartbeats 1000000
/-- A map's keys, sorted. -/
def srt (m : List (Int × Value)) : List Int := (m.map (·.1)).mergeSort leI
end Go.Proofs.YtlpchcdalfkfcaaGreat


/-
 Package frame: questions, the first error of questions; what a pool is in memory. No condition.
-/
namespace Go.Proofs.YtlpchcdalfkfcaaGreat
open Go.RowKit
attribute [local go_sem] Oper.semAt_some
set_option maxHeartbeats 400000
set_option maxRecDepth 4000

/-- A question: what is called, with what; its error; its answer. -/
structure Ask where
 fn : Nat
 recv : Array Value
 caps : Array Value
 err : Int
 wrong : Bool
def firstErr : List Ask → Int
 | [] => 0
 | a :: r => if a.wrong = true then a.err else firstErr r
theorem firstErr_hit : ∀ (l : List Ask) (k : Nat) (h : k < l.length), (∀ j (hj : j < l.length), j < k → l[j].wrong = false) → l[k].wrong = true → firstErr l = l[k].err
 | a :: r, 0, _, _, hw => by simp only [List.getElem_cons_zero] at hw ⊢; simp [firstErr, hw]
 | a :: r, k + 1, h, hn, hw => by
  have h0 := hn 0 (by simp) (by omega)
  simp only [List.getElem_cons_zero] at h0
  simp only [List.getElem_cons_succ] at hw ⊢
  rw [firstErr, if_neg (by rw [h0]; decide)]
  exact firstErr_hit r k (by simpa using h) (fun j hj hjk => hn (j + 1) (by simpa using hj) (by omega)) hw
theorem firstErr_none : ∀ (l : List Ask), (∀ j (hj : j < l.length), l[j].wrong = false) → firstErr l = 0
 | [], _ => rfl
 | a :: r, h => by
  have h0 := h 0 (by simp)
  simp only [List.getElem_cons_zero] at h0
  rw [firstErr, if_neg (by rw [h0]; decide)]
  exact firstErr_none r fun j hj => h (j + 1) (by simpa using hj)
/-- The questions lie in a row; each is answered, whatever has been made since. -/
structure AskRow (w : World) (bb : Nat) (l : List Ask) : Prop where
 c0 : ∀ i (h : i < l.length), w.cell? ⟨bb, i * 2, none⟩ = some (.func (.func l[i].fn) l[i].recv l[i].caps)
 c1 : ∀ i (h : i < l.length), w.cell? ⟨bb, i * 2 + 1, none⟩ = some (.int .i64 l[i].err)
 lt : bb < w.heap.size
structure Answers (w : World) (l : List Ask) : Prop where
 eg : ∀ i (h : i < l.length) args W, (callFunc l[i].fn args).run Tryz.prog W = .ok (.enter l[i].fn args) W
 ans : ∀ i (h : i < l.length) W, Below w.heap.size w W → Calls Tryz.prog l[i].fn (l[i].recv ++ l[i].caps) W fun e W' => e = .returned (.bool l[i].wrong) ∧ Below W.heap.size W W'
theorem asked_ok (w : World) (bb n cap : Nat) (l : List Ask) (hn : n = l.length) (hlen : l.length ≤ 1000) (hr : Hid (AskRow w bb l)) (ha : Hid (Answers w l)) :
  Calls Tryz.prog 141 #[.slice (some ⟨bb, 0, none⟩) n cap] w fun e w' => e = .returned (.int .i64 (firstErr l)) ∧ Below w.heap.size w w' := by
 subst hn
 have hbb := hr.out.lt
 go_enter Tryz.func141, Tryz.ntmps141
 go_wp2_with fail
 refine wp_scope_fwd 0 rfl ?_
 go_wp2_with (first | go_step3 | rw [fwd_goto] | rw [fwd_ret] | rw [Exit.noGoto_ret])
 go_loopw [7] (fun i wr => ∃ k : Nat, k ≤ l.length ∧ i = .int .i64 k ∧ (∀ j (hj : j < l.length), j < k → l[j].wrong = false) ∧ Below w.heap.size w wr) (fun i _ => l.length - (intOf i).toNat)
 case atStart => exact ⟨0, by omega, rfl, fun j _ hj => by omega, Below.refl _ _⟩
 case round =>
  obtain ⟨k, hk, rfl, hn, hb⟩ := hrel
  have hz := hb.size
  have HN := Lib.hid hn
  clear hn
  by_cases hlt : k < l.length
  ·have q0 : wr.cell? ⟨bb, k * 2, none⟩ = some (.func (.func l[k].fn) l[k].recv l[k].caps) := (hb.cell (p := ⟨bb, k * 2, none⟩) hbb).trans (hr.out.c0 k hlt)
   have q1 : wr.cell? ⟨bb, k * 2 + 1, none⟩ = some (.int .i64 l[k].err) := (hb.cell (p := ⟨bb, k * 2 + 1, none⟩) hbb).trans (hr.out.c1 k hlt)
   have i0 : (0 : Int) ≤ k := by omega
   have i1 : (k : Int) < l.length := by omega
   have hX := Blk.new wr #[.func (.func l[k].fn) l[k].recv l[k].caps, .int .i64 l[k].err] 196
   have hb1 := hb.alloc hz (.cells #[.func (.func l[k].fn) l[k].recv l[k].caps, .int .i64 l[k].err] 196)
   have hcall := Lib.hid (ha.out.ans k hlt _ hb1)
   have heg := ha.out.eg k hlt
   by_cases hp : l[k].wrong = true
   ·have hres := Lib.hid (firstErr_hit l k hlt (fun j hj hjk => HN.out j hj hjk) hp)
    rw [hp] at hcall
    clear hp
    go_wp2_with fail
    refine (hcall.out).mono ?_; rintro e w1 ⟨rfl, h1⟩
    have hX1 := hX.below h1 (by simp)
    go_wp2_with fail
    go_wp2_with (first | go_step3 | rw [fwd_goto] | rw [fwd_ret] | rw [Exit.noGoto_ret])
    go_ret
    exact ⟨by rw [hres.out]; rfl, hb1.trans (h1.mono (by simp; omega))⟩
   ·have hp' : l[k].wrong = false := by simpa using hp
    rw [hp'] at hcall
    have HP := Lib.hid hp'
    clear hp hp'
    go_wp2_with fail
    refine (hcall.out).mono ?_; rintro e w1 ⟨rfl, h1⟩
    go_wp2_with fail
    go_roundw
    case rel => exact ⟨k + 1, by omega, by go_num, fun j hj hjk => by rcases Nat.lt_or_ge j k with h | h; exact HN.out j hj h; (have : j = k := by omega); subst this; exact HP.out, hb1.trans (h1.mono (by simp; omega))⟩
    case measure => simp [intOf]; omega
  ·obtain rfl : k = l.length := by omega
   go_wp2_with fail
   rw [fwd_ret]
   go_ret
   exact ⟨by rw [firstErr_none l fun j hj => HN.out j hj hj]; rfl, hb⟩
end Go.Proofs.YtlpchcdalfkfcaaGreat

