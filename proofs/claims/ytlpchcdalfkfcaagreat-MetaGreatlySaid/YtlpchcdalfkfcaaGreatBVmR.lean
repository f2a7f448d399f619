/-
  Package pinfoldlaw09: works; calls in memory; few. No condition.
-/
import Derived.Test.YtlpchcdalfkfcaaGreatBVmP
import Derived.Test.YtlpchcdalfkfcaaGreatBFrame
import Derived.Test.YtlpchcdalfkfcaaGreatBCoreB
import Derived.Deep.Slices
import Derived.Lib.SlBytesConst
import Derived.Test.YtlpchcdalfkfcaaGreatBCoreO
import Derived.Test.YtlpchcdalfkfcaaGreatBPgA
import Derived.Test.YtlpchcdalfkfcaaGreatRows
import Derived.Test.YtlpchcdalfkfcaaGreatBCore
namespace Go.Proofs.YtlpchcdalfkfcaaGreat
open Go.ChangeShapes Go.WideShapes Go.ChangeAt Go.RowKit
attribute [local go_sem] Oper.semAt_some
set_option maxHeartbeats 4000000
set_option maxRecDepth 4000

/-- A memory that was made behind w0. -/
structure LivM (w0 W : World) (k : Mb) (s : Ms) : Prop where
  m : MemAt W k s
  gd : MGd s
  bel : Below w0.heap.size w0 W
  lo : w0.heap.size ≤ k.tm ∧ w0.heap.size ≤ k.pf ∧ w0.heap.size ≤ k.pr
section
variable {w0 W W' : World} {k : Mb} {s s' : Ms}
theorem LivM.step (h : LivM w0 W k s) (j : Below W.heap.size W W') : LivM w0 W' k s := ⟨h.m.step j, h.gd, h.bel.trans (j.mono h.bel.size), h.lo⟩
theorem LivM.chg (h : LivM w0 W k s) (hm : MemAt W' k s') (hg : MGd s') (j : ChgM k W W') : LivM w0 W' k s' := ⟨hm, hg, h.bel.trans (j.below h.lo.1 h.lo.2.1 h.lo.2.2 h.bel.size), h.lo⟩
theorem LivM.reserve (h : LivM w0 W k s) (who n : Int) : Calls Tryz.prog 38 #[.pointer (some ⟨k.b, 0, none⟩), .int .i64 who, .int .i64 n] W fun e W' => e = .returned (.int .i64 (resErr s.many s.F s.R who n)) ∧
    LivM w0 W' k { s with R := resAfter s.many s.F s.R who n } ∧ ChgM k W W' := by
  refine (vReserve_ok h.m h.gd.g.snd who n).mono ?_
  rintro e W' ⟨rfl, hm, hc⟩
  exact ⟨rfl, h.chg hm (h.gd.res who n) hc, hc⟩
theorem LivM.map (h : LivM w0 W k s) (n owner payer may : Int) : Calls Tryz.prog 49 #[.pointer (some ⟨k.b, 0, none⟩), .int .i64 n, .int .i64 owner, .int .i64 payer, .int .i64 may] W fun e W' => e = .returned (.int .i64 (vmpE s n owner payer may)) ∧
    LivM w0 W' k (vmpF s n owner payer may) ∧ ChgM k W W' := by
  refine (vMap_ok h.m h.gd.g (by have := h.gd.len; omega) h.gd.gd.srt n owner payer may).mono ?_
  rintro e W' ⟨rfl, hm, hc⟩
  exact ⟨rfl, h.chg hm (h.gd.map n owner payer may).1 hc, hc⟩
theorem LivM.store (h : LivM w0 W k s) (owner at_ : Int) (h0 : 0 ≤ at_) (h1 : at_ < 4294967296) {v : Value} (bs : List Int) {B : Nat} (hB : B ≤ W.heap.size) (hv : RowAt B W v bs.length (intVals .u8 bs)) :
    Calls Tryz.prog 23 #[.pointer (some ⟨k.b, 0, none⟩), .int .i64 owner, .int .u32 at_, v] W fun e W' => e = .returned (.int .i64 (rchE s.D (max owner (-1)) at_ bs.length 2)) ∧ LivM w0 W' k (wrS s (max owner (-1)) at_ bs) ∧ ChgM k W W' := by
  refine (Store_ok h.m h.gd.g owner at_ h0 h1 bs hB hv).mono ?_
  rintro e W' ⟨rfl, hm, hc⟩
  exact ⟨rfl, h.chg hm (h.gd.wr _ at_ bs h0).1 hc, hc⟩
theorem LivM.load (h : LivM w0 W k s) (owner at_ many : Int) (h0 : 0 ≤ at_) (h1 : at_ < 4294967296) (hm : many ≤ 1000000 ∨ 16777216 < many) :
    Calls Tryz.prog 22 #[.pointer (some ⟨k.b, 0, none⟩), .int .i64 owner, .int .u32 at_, .int .i64 many] W fun e W' => ∃ v, e = .returned (.tuple #[v, .int .i64 (rchE s.D (max owner (-1)) at_ many 1)]) ∧
      W'.ownsRow W.heap.size 5 1 v (rdA s (max owner (-1)) at_ many).length (intVals .u8 (rdA s (max owner (-1)) at_ many)) ∧ Below W.heap.size W W' := Load_ok h.m h.gd.g.snd.b256 owner at_ many h0 h1 hm
end
def D1 : Tb := [(3, ⟨1, 2, 0⟩)]
def F1 : List Fr := [(0, 1, zeros256)]
def F2 : List Fr := [(0, 1, putL zeros256 0 [97, 98])]
def m0 : Ms := ⟨4, [], [], []⟩
def m1 : Ms := ⟨4, [], [(1, 2)], []⟩
def m2 : Ms := ⟨4, F1, [(1, 2)], D1⟩
def m3 : Ms := ⟨4, F2, [(1, 2)], D1⟩
theorem mm1 : ({ m0 with R := resAfter m0.many m0.F m0.R 1 2 } : Ms) = m1 := by decide +kernel
theorem mm2 : vmpF m1 3 1 1 2 = m2 := by decide +kernel
theorem mm3 : wrS m2 (max 1 (-1)) 768 [97, 98] = m3 := by decide +kernel
theorem mm4 : wrS m3 (max 1 (-1)) 1023 [120, 121] = m3 := by decide +kernel
/-- A row of a constant string. -/
theorem row_marked (w : World) (cs : Array Value) (t : TypeId) (m : Nat × Nat) (n B : Nat) (hB : w.heap.size < B) : RowAt B (w.alloc (.cells cs t m)) (.slice (some ⟨w.heap.size, 0, none⟩) n n) n cs.toList :=
  ⟨_, n, rfl, ⟨Nat.le_refl _, fun h => by cases h⟩, .inr ⟨w.heap.size, 0, rfl, hB, fun i hi => by
    have h1 : (w.alloc (.cells cs t m)).heap[w.heap.size]? = some (.cells cs t m) := by
      show (w.heap.push (.cells cs t m))[w.heap.size]? = _
      simp
    rw [Nat.zero_add]
    unfold World.cell?
    dsimp only
    rw [h1]
    simp⟩⟩
theorem owns_chgM {W W' : World} {k : Mb} {s : Ms} {base : Nat} {e : TypeId} {size : Nat} {v : Value} {n : Nat} {xs : List Value} (ho : W.ownsRow base e size v n xs) (hm : MemAt W k s) (h : ChgM k W W') : W'.ownsRow base e size v n xs := by
  refine ⟨ho.1, ?_⟩
  rcases ho.2 with hn | ⟨g, cap, cur, rfl, hg1, hg, rest⟩
  · exact .inl hn
  · refine .inr ⟨g, cap, cur, rfl, hg1, ?_, rest⟩
    exact h.cells hm hg
end Go.Proofs.YtlpchcdalfkfcaaGreat

/-
  Package size: how many slots a class has, how great they are. No condition.
-/
namespace Go.Proofs.YtlpchcdalfkfcaaGreat
open Go.RowKit
attribute [local go_sem] Oper.semAt_some
set_option maxHeartbeats 1000000
set_option maxRecDepth 8000

def inC (c : Int) : Bool := decide (0 ≤ c) && decide (c < 8)
theorem inC_iff {c : Int} : inC c = true ↔ 0 ≤ c ∧ c < 8 := by unfold inC; simp
theorem szis_calls (c : Int) (w : World) : Calls Tryz.prog 133 #[.int .i64 c] w fun e w' => e = .returned (.bool (inC c)) ∧ w = w' := by
  by_cases h : 0 ≤ c
  · have h1 : decide (0 ≤ c) = true := by simpa using h
    by_cases h2 : c < 8
    · have h3 : decide (c < 8) = true := by simpa using h2
      unfold inC
      rw [h1, h3]
      go_enter Tryz.func133, Tryz.ntmps133
      go_wp2_with fail
      go_ret
      exact ⟨rfl, rfl⟩
    · have h3 : decide (c < 8) = false := by simpa using h2
      unfold inC
      rw [h1, h3]
      go_enter Tryz.func133, Tryz.ntmps133
      go_wp2_with fail
      go_ret
      exact ⟨rfl, rfl⟩
  · have h1 : decide (0 ≤ c) = false := by simpa using h
    unfold inC
    rw [h1]
    go_enter Tryz.func133, Tryz.ntmps133
    go_wp2_with fail
    go_ret
    exact ⟨rfl, rfl⟩
def payA : Array Value := #[.int .i64 16, .int .i64 32, .int .i64 48, .int .i64 64, .int .i64 96, .int .i64 128, .int .i64 192, .int .i64 256]
theorem pay_info : (Tryz.prog.info? 232).map (·.size) = some 8 := by kernel_rfl
theorem payloads_calls (w : World) : Calls Tryz.prog 184 #[] w fun e w' => e = .returned (.agg payA) ∧ Below w.heap.size w w' := by
  have hB := Blk.new w payA 232
  go_enter Tryz.func184, Tryz.ntmps184
  go_wp2_with fail
  refine bodyPost_ret (v := .agg payA) ?_ rfl ⟨rfl, (Below.refl _ w).alloc (Nat.le_refl _) _⟩
  have h8 : (loadVar 232 ⟨w.heap.size, 0, none⟩).run Tryz.prog (w.alloc (.cells payA 232)) = .ok (.agg payA) _ := run_loadVar_row _ w.heap.size 232 _ payA (0, 0) _ hB Tryz.underlying232 rfl pay_info
  have h9 : (w.alloc (.cells #[.int .i64 16, .int .i64 32, .int .i64 48, .int .i64 64, .int .i64 96, .int .i64 128, .int .i64 192, .int .i64 256] 232)) = w.alloc (.cells payA 232) := rfl
  rw [h9]
  simp [results, Tryz.results184, asAddr, h8]
theorem run_pay (c : Int) (h : inC c = true) (w : World) : (Instr.index 232 (.agg payA) (.int .i64 c)).run Tryz.prog w = .ok (.int .i64 (payI c)) w := by
  obtain ⟨h0, h1⟩ := inC_iff.1 h
  rcases cls8 h0 h1 with rfl | rfl | rfl | rfl | rfl | rfl | rfl | rfl <;> kernel_rfl
theorem payload_calls (c : Int) (h : inC c = true) (w : World) : Calls Tryz.prog 134 #[.agg #[.int .i64 c]] w fun e w' => e = .returned (.int .i64 (payI c)) ∧ Below w.heap.size w w' := by
  have hr := fun W => run_pay c h W
  have hB := Blk.new w #[.int .i64 c] 125
  have H := Lib.hid (show (w.alloc (.cells #[.int .i64 c] 125)).cell? ⟨w.heap.size, 0, none⟩ = some (.int .i64 c) from hB.cell 0 rfl)
  go_enter Tryz.func134, Tryz.ntmps134
  go_wp2_with fail
  clear hB h
  refine wp_onlyN ?_
  refine wp_region_held_drew (S := fun Y => Y.cell? ⟨w.heap.size, 0, none⟩ = some (.int .i64 c)) (by kernel_rfl) H.out (fun hHeld => ?_)
  refine wpAnyH_take (i := 1) (v := ?_) rfl (by kernel_rfl) (by kernel_rfl) (by kernel_rfl) (fun _ _ _ h => h) (Or.inl ⟨by rfl, ?_⟩) (by assumption) ?_
  rotate_left
  · (intro Y hSw; (try dsimp only at hSw); obtain hS0 := hSw; go_simp; try with_reducible rfl)
  try simp only [Act.put, List.getElem_toArray, List.getElem_cons_zero, List.getElem_cons_succ, List.setIfInBounds_toArray, List.set_cons_zero, List.set_cons_succ]
  refine wpAnyH_take (i := 2) (v := ?_) rfl (by kernel_rfl) (by kernel_rfl) (by kernel_rfl) (fun _ _ _ h => h) (Or.inl ⟨by rfl, ?_⟩) (by assumption) ?_
  rotate_left
  · (intro Y hSw; (try dsimp only at hSw); obtain hS0 := hSw; go_simp; try with_reducible rfl)
  try simp only [Act.put, List.getElem_toArray, List.getElem_cons_zero, List.getElem_cons_succ, List.setIfInBounds_toArray, List.set_cons_zero, List.set_cons_succ]
  refine wpAnyH_ready (rs := [0]) (by kernel_rfl) (by simp) ?_
  refine AllReadyH.cons rfl (fun K hK => ?_) AllReadyH.nil
  go_simp
  refine (payloads_calls _).mono ?_; rintro e w1 ⟨rfl, k1⟩
  go_wp2_with fail
  refine hK.out _ _ ((k1.cell (p := ⟨w.heap.size, 0, none⟩) (by simp)).trans H.out) (fun hHeld => ?_)
  clear hK K
  try simp only [Act.put, List.getElem_toArray, List.getElem_cons_zero, List.getElem_cons_succ, List.setIfInBounds_toArray, List.set_cons_zero, List.set_cons_succ]
  refine wpAnyH_take (i := 3) (v := ?_) rfl (by kernel_rfl) (by kernel_rfl) (by kernel_rfl) (fun _ _ _ h => h) (Or.inl ⟨by rfl, ?_⟩) (by assumption) ?_
  rotate_left
  · (intro Y hSw; (try dsimp only at hSw); obtain hS0 := hSw; go_simp; try with_reducible rfl)
  try simp only [Act.put, List.getElem_toArray, List.getElem_cons_zero, List.getElem_cons_succ, List.setIfInBounds_toArray, List.set_cons_zero, List.set_cons_succ]
  refine wpAnyH_take (i := 4) (v := ?_) rfl (by kernel_rfl) (by kernel_rfl) (by kernel_rfl) (fun _ _ _ h => h) (Or.inl ⟨by rfl, ?_⟩) (by assumption) ?_
  rotate_left
  · (intro Y hSw; (try dsimp only at hSw); obtain hS0 := hSw; go_simp; try with_reducible rfl)
  try simp only [Act.put, List.getElem_toArray, List.getElem_cons_zero, List.getElem_cons_succ, List.setIfInBounds_toArray, List.set_cons_zero, List.set_cons_succ]
  refine wpAnyH_done (by kernel_rfl) ?_ _
  rw [onlyN_normal]
  go_wp2_with fail
  go_ret
  exact ⟨rfl, ((Below.refl _ w).alloc (Nat.le_refl _) _).drew.trans (k1.mono (by simp))⟩
theorem slot_calls (c : Int) (h : inC c = true) (w : World) : Calls Tryz.prog 70 #[.agg #[.int .i64 c]] w fun e w' => e = .returned (.int .i64 (sltI c)) ∧ Below w.heap.size w w' := by
  have hb : 0 ≤ payI c ∧ payI c ≤ 256 := by
    obtain ⟨h0, h1⟩ := inC_iff.1 h
    rcases cls8 h0 h1 with rfl | rfl | rfl | rfl | rfl | rfl | rfl | rfl <;> decide
  obtain ⟨b0, b1⟩ := hb
  go_enter Tryz.func70, Tryz.ntmps70
  go_wp2_with fail
  refine (payload_calls c h _).mono ?_; rintro e w1 ⟨rfl, k1⟩
  go_wp2_with fail
  go_ret
  refine ⟨?_, ((Below.refl _ w).alloc (Nat.le_refl _) _).trans (k1.mono (by simp))⟩
  unfold sltI
  go_num
theorem cnt_div (c : Int) (h : inC c = true) : Int.tdiv 4096 (sltI c) = cntIM c ∧ sltI c ≠ 0 := by
  obtain ⟨h0, h1⟩ := inC_iff.1 h
  rcases cls8 h0 h1 with rfl | rfl | rfl | rfl | rfl | rfl | rfl | rfl <;> decide
theorem count1_calls (c : Int) (h : inC c = true) (w : World) : Calls Tryz.prog 131 #[.agg #[.int .i64 c]] w fun e w' => e = .returned (.int .i64 (cntIM c)) ∧ Below w.heap.size w w' := by
  obtain ⟨d0, d1⟩ := cnt_div c h
  have hb : 48 ≤ sltI c ∧ sltI c ≤ 288 := by
    obtain ⟨h0, h1⟩ := inC_iff.1 h
    rcases cls8 h0 h1 with rfl | rfl | rfl | rfl | rfl | rfl | rfl | rfl <;> decide
  obtain ⟨b0, b1⟩ := hb
  go_enter Tryz.func131, Tryz.ntmps131
  go_wp2_with fail
  refine (slot_calls c h _).mono ?_; rintro e w1 ⟨rfl, k1⟩
  have HD := Lib.hid d0
  generalize sltI c = q at *
  clear d0 h
  go_wp2_with fail
  go_ret
  refine ⟨?_, ((Below.refl _ w).alloc (Nat.le_refl _) _).trans (k1.mono (by simp))⟩
  rw [← HD.out, Int.tdiv_eq_ediv_of_nonneg (by omega)]
  rfl
structure ToldF (f : Nat) (F : Int → Int) : Prop where
  eg : ∀ args W, (callFunc f args).run Tryz.prog W = .ok (.enter f args) W
  ans : ∀ c, inC c = true → ∀ W, Calls Tryz.prog f #[.agg #[.int .i64 c]] W fun e W' => e = .returned (.int .i64 (F c)) ∧ Below W.heap.size W W'
theorem told_ok (f : Nat) (F : Int → Int) (H : ToldF f F) (c : Int) (h : inC c = true) (w : World) : Calls Tryz.prog 69 #[.int .i64 c, .func (.func f) #[] #[]] w fun e w' => e = .returned (.tuple #[.int .i64 (F c), .int .i64 0]) ∧ Below w.heap.size w w' := by
  have eg := H.eg
  have HH := Lib.hid H.ans
  clear H
  go_enter Tryz.func69, Tryz.ntmps69
  go_wp2_with fail
  refine wp_scope_fwd 0 rfl ?_
  go_wp2_with (first | go_step3 | rw [fwd_goto] | rw [fwd_ret] | rw [Exit.noGoto_ret])
  refine (szis_calls c _).mono ?_; rintro e w1 ⟨rfl, rfl⟩
  rw [h]
  go_wp2_with (first | go_step3 | rw [fwd_goto] | rw [fwd_ret] | rw [Exit.noGoto_ret])
  refine (HH.out c h _).mono ?_; rintro e w1 ⟨rfl, k1⟩
  go_wp2_with (first | go_step3 | rw [fwd_goto] | rw [fwd_ret] | rw [Exit.noGoto_ret])
  go_ret2
  exact ⟨rfl, ((Below.refl _ w).alloc (Nat.le_refl _) _).trans (k1.mono (by simp))⟩
theorem told_no (f : Nat) (c : Int) (h : inC c = false) (w : World) : Calls Tryz.prog 69 #[.int .i64 c, .func (.func f) #[] #[]] w fun e w' => e = .returned (.tuple #[.int .i64 0, .int .i64 2]) ∧ Below w.heap.size w w' := by
  go_enter Tryz.func69, Tryz.ntmps69
  go_wp2_with fail
  refine wp_scope_fwd 0 rfl ?_
  go_wp2_with (first | go_step3 | rw [fwd_goto] | rw [fwd_ret] | rw [Exit.noGoto_ret])
  refine (szis_calls c _).mono ?_; rintro e w1 ⟨rfl, rfl⟩
  rw [h]
  go_wp2_with (first | go_step3 | rw [fwd_goto] | rw [fwd_ret] | rw [Exit.noGoto_ret])
  go_ret2
  exact ⟨rfl, (Below.refl _ w).alloc (Nat.le_refl _) _⟩
def cntO (c : Int) : Int := if inC c = true then cntIM c else 0
def sltO (c : Int) : Int := if inC c = true then sltI c else 0
def clsE (c : Int) : Int := if inC c = true then 0 else 2
theorem Count_ok (c : Int) (w : World) : Calls Tryz.prog 64 #[.int .i64 c] w fun e w' => e = .returned (.tuple #[.int .i64 (cntO c), .int .i64 (clsE c)]) ∧ Below w.heap.size w w' := by
  unfold cntO clsE
  cases h : inC c
  · go_enter Tryz.func64, Tryz.ntmps64
    go_wp2_with fail
    refine (told_no _ c h _).mono ?_; rintro e w1 ⟨rfl, k1⟩
    clear h
    go_wp2_with fail
    go_ret2
    exact ⟨rfl, k1⟩
  · have HF := ToldF.mk (f := 131) (F := cntIM) (enters_of Tryz.func131 (by kernel_rfl) rfl) (fun c h W => count1_calls c h W)
    go_enter Tryz.func64, Tryz.ntmps64
    go_wp2_with fail
    refine (told_ok _ cntIM HF c h _).mono ?_; rintro e w1 ⟨rfl, k1⟩
    clear h
    go_wp2_with fail
    go_ret2
    exact ⟨rfl, k1⟩
theorem Slot_ok (c : Int) (w : World) : Calls Tryz.prog 29 #[.int .i64 c] w fun e w' => e = .returned (.tuple #[.int .i64 (sltO c), .int .i64 (clsE c)]) ∧ Below w.heap.size w w' := by
  unfold sltO clsE
  cases h : inC c
  · go_enter Tryz.func29, Tryz.ntmps29
    go_wp2_with fail
    refine (told_no _ c h _).mono ?_; rintro e w1 ⟨rfl, k1⟩
    clear h
    go_wp2_with fail
    go_ret2
    exact ⟨rfl, k1⟩
  · have HF := ToldF.mk (f := 70) (F := sltI) (enters_of Tryz.func70 (by kernel_rfl) rfl) (fun c h W => slot_calls c h W)
    go_enter Tryz.func29, Tryz.ntmps29
    go_wp2_with fail
    refine (told_ok _ sltI HF c h _).mono ?_; rintro e w1 ⟨rfl, k1⟩
    clear h
    go_wp2_with fail
    go_ret2
    exact ⟨rfl, k1⟩
end Go.Proofs.YtlpchcdalfkfcaaGreat

/-
  Package window: slots, bases, bounds.
-/
namespace Go.Proofs.YtlpchcdalfkfcaaGreat
open Go.RowKit
set_option maxHeartbeats 400000

def slotI (s : Int) : Bool := decide (0 ≤ s ∧ s < 4)
def inI (b n : Int) : Bool := decide (0 ≤ n ∧ n < b)
theorem is_callsW (s : Int) (w : World) : Calls Tryz.prog 66 #[.int .i64 s] w fun e w' => e = .returned (.bool (slotI s)) ∧ w = w' := by
  by_cases h : 0 ≤ s
  · have hd : decide (0 ≤ s) = true := by simpa using h
    go_enter Tryz.func66, Tryz.ntmps66
    go_wp2_with fail
    go_ret
    exact ⟨by simp [slotI, h], rfl⟩
  · have hd : decide (0 ≤ s) = false := by simpa using h
    have hr : slotI s = false := by simp [slotI]; omega
    rw [hr]
    go_enter Tryz.func66, Tryz.ntmps66
    go_wp2_with fail
    go_ret
    exact ⟨rfl, rfl⟩
theorem base_calls (s : Int) (h : slotI s = true) (w : World) : Calls Tryz.prog 77 #[.agg #[.int .i64 s]] w fun e w' => e = .returned (.int .i64 (4096 * (s + 1))) ∧ Below w.heap.size w w' := by
  have hs : 0 ≤ s ∧ s < 4 := by simpa [slotI] using h
  obtain ⟨h0, h1⟩ := hs
  go_enter Tryz.func77, Tryz.ntmps77
  go_wp2_with fail
  go_ret
  exact ⟨rfl, (Below.refl _ w).alloc (Nat.le_refl _) _⟩
theorem book_calls (s : Int) (h : slotI s = true) (w : World) : Calls Tryz.prog 137 #[.agg #[.int .i64 s]] w fun e w' => e = .returned (.int .i64 (64 * s + 1)) ∧ Below w.heap.size w w' := by
  have hs : 0 ≤ s ∧ s < 4 := by simpa [slotI] using h
  obtain ⟨h0, h1⟩ := hs
  go_enter Tryz.func137, Tryz.ntmps137
  go_wp2_with fail
  go_ret
  exact ⟨rfl, (Below.refl _ w).alloc (Nat.le_refl _) _⟩
theorem region_calls (s c : Int) (h : slotI s = true) (hc : inI 8 c = true) (w : World) : Calls Tryz.prog 68 #[.agg #[.int .i64 s], .int .i64 c] w fun e w' => e = .returned (.int .i64 (4096 * (s + 1) + 1 + 17 * c)) ∧ Below w.heap.size w w' := by
  have hs : 0 ≤ s ∧ s < 4 := by simpa [slotI] using h
  have hc' : 0 ≤ c ∧ c < 8 := by simpa [inI] using hc
  obtain ⟨h0, h1⟩ := hs
  obtain ⟨h2, h3⟩ := hc'
  go_enter Tryz.func68, Tryz.ntmps68
  go_wp2_with fail
  refine (base_calls s h _).mono ?_; rintro e w1 ⟨rfl, hb⟩
  go_wp2_with fail
  go_ret
  exact ⟨rfl, ((Below.refl _ w).alloc (Nat.le_refl _) _).trans (hb.mono (by simp))⟩
/-- fits's closure. -/
theorem fits1_calls (b n : Int) (bs : Nat) (w : World) (hbox : w.cell? ⟨bs, 0, none⟩ = some (.int .i64 b)) :
    Calls Tryz.prog 132 #[.int .i64 n, .pointer (some ⟨bs, 0, none⟩)] w fun e w' => e = .returned (.bool (!inI b n)) ∧ w = w' := by
  by_cases h : n < 0
  · have hr : inI b n = false := by simp [inI]; omega
    rw [hr]
    have hr : decide (n < 0) = true := by simpa using h
    go_enter Tryz.func132, Tryz.ntmps132
    go_wp2_with fail
    go_ret
    exact ⟨rfl, rfl⟩
  · by_cases h2 : b ≤ n
    · have hr : inI b n = false := by simp [inI]; omega
      rw [hr]
      have hr : decide (n < 0) = false := by simpa using h
      have hr2 : decide (b ≤ n) = true := by simpa using h2
      go_enter Tryz.func132, Tryz.ntmps132
      go_wp2_with fail
      go_ret
      exact ⟨rfl, rfl⟩
    · have hr : inI b n = true := by simp [inI]; omega
      rw [hr]
      have hr : decide (n < 0) = false := by simpa using h
      have hr2 : decide (b ≤ n) = false := by simpa using h2
      go_enter Tryz.func132, Tryz.ntmps132
      go_wp2_with fail
      go_ret
      exact ⟨rfl, rfl⟩
theorem Slot_calls (s : Int) (w : World) : Calls Tryz.prog 30 #[.int .i64 s] w fun e w' => e = .returned (.bool (slotI s)) ∧ w = w' := by
  by_cases h : 0 ≤ s
  · have hd : decide (0 ≤ s) = true := by simpa using h
    go_enter Tryz.func30, Tryz.ntmps30
    go_wp2_with fail
    go_ret
    exact ⟨by simp [slotI, h], rfl⟩
  · have hd : decide (0 ≤ s) = false := by simpa using h
    have hr : slotI s = false := by simp [slotI]; omega
    rw [hr]
    go_enter Tryz.func30, Tryz.ntmps30
    go_wp2_with fail
    go_ret
    exact ⟨rfl, rfl⟩
theorem Class_calls (s : Int) (w : World) : Calls Tryz.prog 31 #[.int .i64 s] w fun e w' => e = .returned (.bool (inI 8 s)) ∧ w = w' := by
  by_cases h : 0 ≤ s
  · have hd : decide (0 ≤ s) = true := by simpa using h
    go_enter Tryz.func31, Tryz.ntmps31
    go_wp2_with fail
    go_ret
    exact ⟨by simp [inI, h], rfl⟩
  · have hd : decide (0 ≤ s) = false := by simpa using h
    have hr : inI 8 s = false := by simp [inI]; omega
    rw [hr]
    go_enter Tryz.func31, Tryz.ntmps31
    go_wp2_with fail
    go_ret
    exact ⟨rfl, rfl⟩
theorem rBase_calls (s : Int) (h : slotI s = true) (w : World) : Calls Tryz.prog 71 #[.int .i64 s] w fun e w' => e = .returned (.int .i64 (4096 * (s + 1))) ∧ w = w' := by
  have hs : 0 ≤ s ∧ s < 4 := by simpa [slotI] using h
  obtain ⟨h0, h1⟩ := hs
  go_enter Tryz.func71, Tryz.ntmps71
  go_wp2_with fail
  go_ret
  exact ⟨rfl, rfl⟩
theorem rBook_calls (s : Int) (h : slotI s = true) (w : World) : Calls Tryz.prog 16 #[.int .i64 s] w fun e w' => e = .returned (.int .i64 (64 * s + 1)) ∧ w = w' := by
  have hs : 0 ≤ s ∧ s < 4 := by simpa [slotI] using h
  obtain ⟨h0, h1⟩ := hs
  go_enter Tryz.func16, Tryz.ntmps16
  go_wp2_with fail
  go_ret
  exact ⟨rfl, rfl⟩
theorem rRegion_calls (s c : Int) (h : slotI s = true) (hc : inI 8 c = true) (w : World) : Calls Tryz.prog 33 #[.int .i64 s, .int .i64 c] w fun e w' => e = .returned (.int .i64 (4096 * (s + 1) + 1 + 17 * c)) ∧ w = w' := by
  have hs : 0 ≤ s ∧ s < 4 := by simpa [slotI] using h
  have hc' : 0 ≤ c ∧ c < 8 := by simpa [inI] using hc
  obtain ⟨h0, h1⟩ := hs
  obtain ⟨h2, h3⟩ := hc'
  go_enter Tryz.func33, Tryz.ntmps33
  go_wp2_with fail
  refine (rBase_calls s h _).mono ?_; rintro e w1 ⟨rfl, rfl⟩
  go_wp2_with fail
  go_ret
  exact ⟨rfl, rfl⟩
/-- One number, against a bound. -/
theorem index1 (b n : Int) (lb bs : Nat) (w : World) (hbox : w.cell? ⟨bs, 0, none⟩ = some (.int .i64 b)) (hc : w.cell? ⟨lb, 0, none⟩ = some (.int .i64 n)) :
    Calls Tryz.prog 83 #[.slice (some ⟨lb, 0, none⟩) 1 1, .func (.func 132) #[] #[.pointer (some ⟨bs, 0, none⟩)]] w fun e w' => e = .returned (.int .i64 (if inI b n = true then -1 else 0)) ∧ w = w' := by
  have eg := enters_of (P := Tryz.prog) Tryz.func132 (by kernel_rfl) rfl
  go_enter Tryz.func83, Tryz.ntmps83
  go_wp2_with fail
  go_loopw [8] (fun i wr => (i = .int .i64 0 ∨ (i = .int .i64 1 ∧ inI b n = true)) ∧ w = wr) (fun i _ => 1 - (intOf i).toNat)
  case atStart => exact ⟨.inl rfl, rfl⟩
  case round =>
    obtain ⟨(rfl | ⟨rfl, hh⟩), rfl⟩ := hrel
    · by_cases h : inI b n = true
      · go_wp2_with fail
        refine (fits1_calls b n bs _ hbox).mono ?_; rintro e w' ⟨rfl, rfl⟩
        rw [show (!inI b n) = false by rw [h]; rfl]
        go_wp2_with fail
        go_roundw
        case rel => exact ⟨.inr ⟨rfl, h⟩, trivial⟩
        case measure => simp [intOf]
      · have h' : inI b n = false := by simpa using h
        clear h
        go_wp2_with fail
        refine (fits1_calls b n bs _ hbox).mono ?_; rintro e w' ⟨rfl, rfl⟩
        rw [show (!inI b n) = true by rw [h']; rfl]
        go_wp2_with fail
        all_goals (go_ret; exact ⟨rfl, rfl⟩)
    · go_wp2_with fail
      go_ret
      exact ⟨rfl, rfl⟩
theorem fits_ok (b n : Int) (lb : Nat) (w : World) (hc : w.cell? ⟨lb, 0, none⟩ = some (.int .i64 n)) :
    Calls Tryz.prog 67 #[.int .i64 b, .slice (some ⟨lb, 0, none⟩) 1 1] w fun e w' => e = .returned (.bool (inI b n)) ∧ Below w.heap.size w w' := by
  have hl : lb < w.heap.size := World.block_lt_of_cell? w _ hc
  have hc1 : (w.alloc (.cells #[.int .i64 b] 3)).cell? ⟨lb, 0, none⟩ = some (.int .i64 n) := ((Below.refl _ w).alloc (Nat.le_refl _) _ |>.cell (p := ⟨lb, 0, none⟩) hl).trans hc
  go_enter Tryz.func67, Tryz.ntmps67
  go_wp2_with fail
  go_enter Tryz.func41, Tryz.ntmps41
  go_wp2_with fail
  refine (index1 b n lb w.heap.size _ ((Blk.new w _ _).cell 0 rfl) hc1).mono ?_; rintro e w' ⟨rfl, rfl⟩
  by_cases h : inI b n = true
  · rw [h, if_pos rfl]
    go_wp2_with fail
    go_ret
    exact ⟨by rw [h]; rfl, (Below.refl _ w).alloc (Nat.le_refl _) _⟩
  · have h' : inI b n = false := by simpa using h
    rw [h', if_neg (by decide)]
    go_wp2_with fail
    go_ret
    exact ⟨by rw [h']; rfl, (Below.refl _ w).alloc (Nat.le_refl _) _⟩
theorem Book_ok (s : Int) (h : slotI s = true) (w : World) : Calls Tryz.prog 149 #[.int .i64 s] w fun e w' => e = .returned (.tuple #[.int .i64 (64 * s + 1), .int .i64 0]) ∧ Below w.heap.size w w' := by
  go_enter Tryz.func149, Tryz.ntmps149
  go_wp2_with fail
  refine (is_callsW s _).mono ?_; rintro e w1 ⟨rfl, rfl⟩
  rw [h]
  go_wp2_with fail
  refine (book_calls s h _).mono ?_; rintro e w1 ⟨rfl, hb⟩
  go_wp2_with fail
  go_ret2
  exact ⟨rfl, hb⟩
theorem Book_arg (s : Int) (h : slotI s = false) (w : World) : Calls Tryz.prog 149 #[.int .i64 s] w fun e w' => e = .returned (.tuple #[.int .i64 0, .int .i64 2]) ∧ Below w.heap.size w w' := by
  go_enter Tryz.func149, Tryz.ntmps149
  go_wp2_with fail
  refine (is_callsW s _).mono ?_; rintro e w1 ⟨rfl, rfl⟩
  rw [h]
  go_wp2_with fail
  go_ret2
  exact ⟨rfl, Below.refl _ _⟩
theorem lit1 (w : World) (n : Int) (t : TypeId) : (w.alloc (.cells #[.int .i64 n] t)).cell? ⟨w.heap.size, 0, none⟩ = some (.int .i64 n) := (Blk.new w #[.int .i64 n] t).cell 0 rfl
theorem Region_ok (s c : Int) (h : slotI s = true) (hc : inI 8 c = true) (w : World) : Calls Tryz.prog 28 #[.int .i64 s, .int .i64 c] w fun e w' => e = .returned (.tuple #[.int .i64 (4096 * (s + 1) + 1 + 17 * c), .int .i64 0]) ∧ Below w.heap.size w w' := by
  go_enter Tryz.func28, Tryz.ntmps28
  go_wp2_with fail
  refine wp_scope_fwd 0 rfl ?_
  go_wp2_with (first | go_step3 | rw [fwd_goto] | rw [fwd_ret] | rw [Exit.noGoto_ret])
  refine (is_callsW s _).mono ?_; rintro e w1 ⟨rfl, rfl⟩
  rw [h]
  go_wp2_with (first | go_step3 | rw [fwd_goto] | rw [fwd_ret] | rw [Exit.noGoto_ret])
  refine (fits_ok 8 c _ _ (lit1 _ _ _)).mono ?_; rintro e w1 ⟨rfl, hb1⟩
  rw [hc]
  have hz1 := hb1.size
  simp at hz1
  go_wp2_with (first | go_step3 | rw [fwd_goto] | rw [fwd_ret] | rw [Exit.noGoto_ret])
  refine (region_calls s c h hc _).mono ?_; rintro e w2 ⟨rfl, hb2⟩
  go_wp2_with (first | go_step3 | rw [fwd_goto] | rw [fwd_ret] | rw [Exit.noGoto_ret])
  go_ret2
  exact ⟨rfl, (((Below.refl _ w).alloc (Nat.le_refl _) _).trans (hb1.mono (by simp))).trans (hb2.mono (by omega))⟩
theorem Region_arg (s c : Int) (h : slotI s = false ∨ inI 8 c = false) (w : World) : Calls Tryz.prog 28 #[.int .i64 s, .int .i64 c] w fun e w' => e = .returned (.tuple #[.int .i64 0, .int .i64 2]) ∧ Below w.heap.size w w' := by
  by_cases hs : slotI s = true
  · have hc : inI 8 c = false := by rcases h with h | h; rw [hs] at h; cases h; exact h
    clear h
    go_enter Tryz.func28, Tryz.ntmps28
    go_wp2_with fail
    refine wp_scope_fwd 0 rfl ?_
    go_wp2_with (first | go_step3 | rw [fwd_goto] | rw [fwd_ret] | rw [Exit.noGoto_ret])
    refine (is_callsW s _).mono ?_; rintro e w1 ⟨rfl, rfl⟩
    rw [hs]
    go_wp2_with (first | go_step3 | rw [fwd_goto] | rw [fwd_ret] | rw [Exit.noGoto_ret])
    refine (fits_ok 8 c _ _ (lit1 _ _ _)).mono ?_; rintro e w1 ⟨rfl, hb1⟩
    rw [hc]
    go_wp2_with (first | go_step3 | rw [fwd_goto] | rw [fwd_ret] | rw [Exit.noGoto_ret])
    go_ret2
    exact ⟨rfl, ((Below.refl _ w).alloc (Nat.le_refl _) _).trans (hb1.mono (by simp))⟩
  · have hs' : slotI s = false := by simpa using hs
    clear hs h
    go_enter Tryz.func28, Tryz.ntmps28
    go_wp2_with fail
    refine wp_scope_fwd 0 rfl ?_
    go_wp2_with (first | go_step3 | rw [fwd_goto] | rw [fwd_ret] | rw [Exit.noGoto_ret])
    refine (is_callsW s _).mono ?_; rintro e w1 ⟨rfl, rfl⟩
    rw [hs']
    go_wp2_with (first | go_step3 | rw [fwd_goto] | rw [fwd_ret] | rw [Exit.noGoto_ret])
    go_ret2
    exact ⟨rfl, Below.refl _ _⟩
theorem Split_ok (a : Int) (h0 : 0 ≤ a) (h1 : a < 16777216) (w : World) : Calls Tryz.prog 35 #[.int .u32 a] w fun e w' => e = .returned (.tuple #[.int .i64 (a / 256), .int .i64 (a % 256), .int .i64 0]) ∧ w = w' := by
  go_enter Tryz.func35, Tryz.ntmps35
  go_wp2_with fail
  exact bodyPost_ret (v := .tuple #[.int .i64 (a / 256), .int .i64 (a % 256), .int .i64 0]) (by simp [results, Tryz.results35, go_sem]) rfl ⟨rfl, rfl⟩
theorem Split_no (a : Int) (h0 : 16777216 ≤ a) (w : World) : Calls Tryz.prog 35 #[.int .u32 a] w fun e w' => e = .returned (.tuple #[.int .i64 0, .int .i64 0, .int .i64 4]) ∧ w = w' := by
  go_enter Tryz.func35, Tryz.ntmps35
  go_wp2_with fail
  exact bodyPost_ret (v := .tuple #[.int .i64 0, .int .i64 0, .int .i64 4]) (by simp [results, Tryz.results35, go_sem]) rfl ⟨rfl, rfl⟩
end Go.Proofs.YtlpchcdalfkfcaaGreat
