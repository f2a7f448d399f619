/-
  Package vmem: New, Reserve; the parts of a reach, one by one. Conditions: books in order; reaches within the addresses.
-/
import Derived.Test.YtlpchcdalfkfcaaGreatVmA
namespace Go.Proofs.YtlpchcdalfkfcaaGreat
open Go.RowKit
attribute [local go_sem] Oper.semAt_some
set_option maxHeartbeats 2000000
set_option maxRecDepth 4000

theorem there_okV {w : World} {k : Mb} {s : Ms} (h : MemAt w k s) : Calls Tryz.prog 90 #[.pointer (some ⟨k.b, 0, none⟩)] w fun r w' =>
    r = .returned (.func (.func 155) #[] #[.pointer (some ⟨w.heap.size + 1, 0, none⟩), .pointer (some ⟨w.heap.size + 1 + 1, 0, none⟩)]) ∧
    (Blk w' w.heap.size #[.pointer (some ⟨k.b, 0, none⟩)] 38 ∧ Blk w' (w.heap.size + 1) #[.func (.func 154) #[] #[.pointer (some ⟨w.heap.size, 0, none⟩)]] 35 ∧ Blk w' (w.heap.size + 1 + 1) #[.int .i64 1] 25) ∧ Below w.heap.size w w' := by
  obtain ⟨w0, hw0⟩ : ∃ w0, w.alloc (.cells #[.pointer (some ⟨k.b, 0, none⟩)] 38) = w0 := ⟨_, rfl⟩
  have h0 : Blk w0 w.heap.size #[.pointer (some ⟨k.b, 0, none⟩)] 38 := by rw [← hw0]; exact Blk.new w _ _
  have k0 : Below w.heap.size w w0 := by rw [← hw0]; exact (Below.refl _ w).alloc (Nat.le_refl _) _
  have z0 : w0.heap.size = w.heap.size + 1 := by rw [← hw0]; simp
  go_enter Tryz.func90, Tryz.ntmps90
  go_wp2_with fail
  clear hw0
  refine (is_ok2 _ _ _ w0).mono ?_; rintro e w1 ⟨rfl, h1, h2, k1⟩
  go_wp2_with fail
  go_ret
  rw [z0] at h1 h2
  exact ⟨rfl, ⟨h0.below k1 h0.lt, h1, h2⟩, k0.trans (k1.mono (by omega))⟩
theorem there1_ok {w : World} {k : Mb} {s : Ms} (h : MemAt w k s) {p : Nat} (hp : w.cell? ⟨p, 0, none⟩ = some (.pointer (some ⟨k.b, 0, none⟩))) :
    Calls Tryz.prog 154 #[.pointer (some ⟨p, 0, none⟩)] w fun e w' => e = .returned (.bool true) ∧ Below w.heap.size w w' := by
  go_enter Tryz.func154, Tryz.ntmps154
  go_wp2_with fail
  refine (vnone_ok h).mono ?_; rintro e _ ⟨rfl, rfl⟩
  go_wp2_with fail
  go_ret
  exact ⟨rfl, Below.refl _ _⟩
theorem vNew_ok (many : Int) (h0 : 0 ≤ many) (h1 : many ≤ 16384) (w : World) :
    Calls Tryz.prog 37 #[.int .i64 many] w fun e w' => ∃ k : Mb, e = .returned (.tuple #[.pointer (some ⟨k.b, 0, none⟩), .int .i64 0]) ∧ MemAt w' k ⟨many, [], [], []⟩ ∧ (w.heap.size ≤ k.tm ∧ w.heap.size ≤ k.pf ∧ w.heap.size ≤ k.pr) ∧ w.heap.size ≤ k.b ∧ Below w.heap.size w w' := by
  go_enter Tryz.func37, Tryz.ntmps37
  go_wp2_with fail
  refine (New_calls many h0 h1 w).mono ?_; rintro e w1 ⟨b, bf, br, rfl, hp, l1, l2, l3, k1⟩
  have z1 := k1.size
  have f1 := hp.fr.lt
  have f2 := hp.re.lt
  go_wp2_with fail
  refine (New_callsP w1).mono ?_; rintro e w2 ⟨t, tm, rfl, ht, l4, l5, k2⟩
  have z2 := k2.size
  have hp2 := hp.step k2
  go_wp2_with fail
  go_ret2
  exact ⟨⟨w2.heap.size, t, tm, b, bf, br⟩, rfl, ⟨Blk.new _ _ _, ht.alloc _, hp2.alloc _, by dsimp only; omega, by dsimp only; omega⟩, ⟨by dsimp only; omega, l1, l2⟩, by dsimp only; omega, (k1.trans (k2.mono z1)).alloc (by omega) _⟩
theorem vReserve_ok {w : World} {k : Mb} {s : Ms} (h : MemAt w k s) (hs : Sound s.many s.F s.R) (who n : Int) :
    Calls Tryz.prog 38 #[.pointer (some ⟨k.b, 0, none⟩), .int .i64 who, .int .i64 n] w fun e w' => e = .returned (.int .i64 (resErr s.many s.F s.R who n)) ∧
      MemAt w' k { s with R := resAfter s.many s.F s.R who n } ∧ ChgM k w w' := by
  obtain ⟨c0, c1⟩ := h.cells
  go_enter Tryz.func38, Tryz.ntmps38
  go_wp2_with fail
  refine (vnone_ok h).mono ?_; rintro e _ ⟨rfl, rfl⟩
  go_wp2_with fail
  refine (Reserve_ok h.pl hs who n).mono ?_; rintro e w1 ⟨rfl, hp, hc⟩
  have hm := h.owners hp hc
  go_wp2_with fail
  go_ret
  exact ⟨rfl, hm, .of_pr hc⟩
/-! ### Parts -/
/-- The parts from one address to another: a page, a place in it, how many bytes. -/
def partsK : Nat → Int → Int → List (Int × Int × Int)
  | 0, _, _ => []
  | n + 1, f, u => if f < u then (f / 256, f % 256, min (u - f) (256 - f % 256)) :: partsK n (f + min (u - f) (256 - f % 256)) u else []
def partsL (at_ many : Int) : List (Int × Int × Int) := partsK many.toNat at_ (at_ + many)
theorem partsK_end {f u : Int} (h : u ≤ f) : ∀ n, partsK n f u = []
  | 0 => rfl
  | n + 1 => by rw [partsK, if_neg (by omega)]
theorem partsK_step {n : Nat} {f u : Int} (h : f < u) (hn : u - f ≤ n) : partsK n f u = (f / 256, f % 256, min (u - f) (256 - f % 256)) :: partsK (n - 1) (f + min (u - f) (256 - f % 256)) u := by
  obtain ⟨m, rfl⟩ : ∃ m, n = m + 1 := ⟨n - 1, by omega⟩
  rw [partsK, if_pos h]; rfl
def encPart (x : Int × Int × Int) : Value := .agg #[.int .i64 x.1, .int .i64 x.2.1, .int .i64 x.2.2]
theorem vparts_ok (at_ many : Int) (w : World) : Calls Tryz.prog 173 #[.int .u32 at_, .int .i64 many] w fun e w' => e = .returned (.func (.func 198) #[] #[.pointer (some ⟨w.heap.size, 0, none⟩), .pointer (some ⟨w.heap.size + 1, 0, none⟩)]) ∧
    Blk w' w.heap.size #[.int .u32 at_] 24 ∧ Blk w' (w.heap.size + 1) #[.int .i64 many] 3 ∧ w' = (w.alloc (.cells #[.int .u32 at_] 24)).alloc (.cells #[.int .i64 many] 3) := by
  go_enter Tryz.func173, Tryz.ntmps173
  go_wp2_with fail
  go_ret
  exact ⟨rfl, (Blk.new w _ _).alloc _, Blk.newAt _ _ _ (by simp), rfl⟩
structure PaS (pa pm : Nat) (at_ many : Int) (Y : World) : Prop where
  a : Y.cell? ⟨pa, 0, none⟩ = some (.int .u32 at_)
  m : Y.cell? ⟨pm, 0, none⟩ = some (.int .i64 many)
theorem parts_iter (pa pm : Nat) (at_ many : Int) (h0 : 0 ≤ at_) (h1 : at_ < 4294967296) (h2 : 0 ≤ many) (h3 : many ≤ 16777216) :
    IterK Tryz.prog 198 #[.pointer (some ⟨pa, 0, none⟩), .pointer (some ⟨pm, 0, none⟩)] (fun x : Int × Int × Int => #[encPart x]) (partsL at_ many) (PaS pa pm at_ many) := by
  intro l J Jx W hJ hJx hA hY hJ0
  obtain ⟨c0, c1⟩ := hA _ _ hJ0
  have hJd := hJ _ _ _ hJ0 (Keeps.refl _ W).drew
  have e1 : IntKind.i64.wrap at_ = at_ := IntWalk.i64_in _ (by omega)
  have e2 : IntKind.i64.wrap (at_ + many) = at_ + many := IntWalk.i64_in _ (by omega)
  obtain ⟨u, hu⟩ : ∃ u, at_ + many = u := ⟨_, rfl⟩
  have HU := Lib.hid hu
  have hL : partsL at_ many = partsK many.toNat at_ u := by unfold partsL; rw [hu]
  have hu0 : at_ ≤ u ∧ u ≤ 4311744512 := by omega
  rw [hL] at hY ⊢
  clear hL
  refine calls_in Tryz.func198 rfl ?_; simp only [Tryz.ntmps198, List.size_toArray, List.length_cons, List.length_nil, Nat.reduceAdd, Nat.reduceSub, Array.replicate_succ, Array.replicate_zero, List.push_toArray, List.append_toArray, List.nil_append, List.cons_append]
  gi_wp2_with fail
  refine wpIn_wide.2 ?_
  refine wp_onlyN ?_
  refine wp_region_held_drew (S := PaS pa pm at_ many) (by kernel_rfl) ⟨c0, c1⟩ (fun hHeld => ?_)
  change wpAnyH _ _ _ _ _ _ _ _ W.drew
  have hz : W.heap.size ≤ W.drew.heap.size := Nat.le_refl _
  generalize W.drew = Y at hJd hz hHeld ⊢
  refine wpAnyH_take (i := 0) (v := ?_) rfl (by kernel_rfl) (by kernel_rfl) (by kernel_rfl) (fun _ _ _ h => h) (Or.inl ⟨by rfl, ?_⟩) (by assumption) ?_
  rotate_left
  · (intro Y hSw; (try dsimp only at hSw); obtain ⟨hS0, hS1⟩ := hSw; go_simp; try with_reducible rfl)
  try simp only [Act.put, List.getElem_toArray, List.getElem_cons_zero, List.getElem_cons_succ, List.setIfInBounds_toArray, List.set_cons_zero, List.set_cons_succ]
  refine wpAnyH_take (i := 1) (v := .int .i64 at_) rfl (by kernel_rfl) (by kernel_rfl) (by kernel_rfl) (fun _ _ _ h => h) (Or.inl ⟨by rfl, by intro Y hSw; go_simp⟩) (by assumption) ?_
  try simp only [Act.put, List.getElem_toArray, List.getElem_cons_zero, List.getElem_cons_succ, List.setIfInBounds_toArray, List.set_cons_zero, List.set_cons_succ]
  refine wpAnyH_take (i := 2) (v := ?_) rfl (by kernel_rfl) (by kernel_rfl) (by kernel_rfl) (fun _ _ _ h => h) (Or.inl ⟨by rfl, ?_⟩) (by assumption) ?_
  rotate_left
  · (intro Y hSw; (try dsimp only at hSw); obtain ⟨hS0, hS1⟩ := hSw; go_simp; try with_reducible rfl)
  try simp only [Act.put, List.getElem_toArray, List.getElem_cons_zero, List.getElem_cons_succ, List.setIfInBounds_toArray, List.set_cons_zero, List.set_cons_succ]
  refine wpAnyH_take (i := 3) (v := .int .i64 at_) rfl (by kernel_rfl) (by kernel_rfl) (by kernel_rfl) (fun _ _ _ h => h) (Or.inl ⟨by rfl, by intro Y hSw; go_simp⟩) (by assumption) ?_
  try simp only [Act.put, List.getElem_toArray, List.getElem_cons_zero, List.getElem_cons_succ, List.setIfInBounds_toArray, List.set_cons_zero, List.set_cons_succ]
  refine wpAnyH_take (i := 4) (v := ?_) rfl (by kernel_rfl) (by kernel_rfl) (by kernel_rfl) (fun _ _ _ h => h) (Or.inl ⟨by rfl, ?_⟩) (by assumption) ?_
  rotate_left
  · (intro Y hSw; (try dsimp only at hSw); obtain ⟨hS0, hS1⟩ := hSw; go_simp; try with_reducible rfl)
  try simp only [Act.put, List.getElem_toArray, List.getElem_cons_zero, List.getElem_cons_succ, List.setIfInBounds_toArray, List.set_cons_zero, List.set_cons_succ]
  refine wpAnyH_take (i := 5) (v := .int .i64 u) rfl (by kernel_rfl) (by kernel_rfl) (by kernel_rfl) (fun _ _ _ h => h) (Or.inl ⟨by rfl, by intro Y hSw; rw [hu] at e2; go_simp⟩) (by assumption) ?_
  try simp only [Act.put, List.getElem_toArray, List.getElem_cons_zero, List.getElem_cons_succ, List.setIfInBounds_toArray, List.set_cons_zero, List.set_cons_succ]
  refine wpAnyH_take (i := 6) (v := ?_) rfl (by kernel_rfl) (by kernel_rfl) (by kernel_rfl) (fun _ _ _ h => h) (Or.inl ⟨by rfl, ?_⟩) (by assumption) ?_
  rotate_left
  · (intro Y hSw; (try dsimp only at hSw); obtain ⟨hS0, hS1⟩ := hSw; go_simp; try with_reducible rfl)
  try simp only [Act.put, List.getElem_toArray, List.getElem_cons_zero, List.getElem_cons_succ, List.setIfInBounds_toArray, List.set_cons_zero, List.set_cons_succ]
  refine wpAnyH_take (i := 7) (v := ?_) rfl (by kernel_rfl) (by kernel_rfl) (by kernel_rfl) (fun _ _ _ h => h) (Or.inl ⟨by rfl, ?_⟩) (by assumption) ?_
  rotate_left
  · (intro Y hSw; (try dsimp only at hSw); obtain ⟨hS0, hS1⟩ := hSw; go_simp; try with_reducible rfl)
  try simp only [Act.put, List.getElem_toArray, List.getElem_cons_zero, List.getElem_cons_succ, List.setIfInBounds_toArray, List.set_cons_zero, List.set_cons_succ]
  refine wpAnyH_done (by kernel_rfl) ?_ _
  rw [onlyN_normal]
  clear hHeld hJ0 c0 c1 e1 e2 hu
  gi_wp2_with fail
  gi_loopw [4] (fun i wr => ∃ (f : Int) (pre : List (Int × Int × Int)) (n : Nat), i = .int .i64 f ∧ (at_ ≤ f ∧ f ≤ u ∧ u - f ≤ n) ∧ partsK many.toNat at_ u = pre ++ partsK n f u ∧ J pre wr ∧ W.heap.size ≤ wr.heap.size) (fun i _ => (u - intOf i).toNat)
  case atStart => exact ⟨at_, [], many.toNat, rfl, by have := HU.out; omega, rfl, hJd, hz⟩
  case round =>
    obtain ⟨f, pre, n, rfl, ⟨f0, f1, f2⟩, hsp, hJk, hsz⟩ := hrel
    by_cases hlt : f < u
    · have hst := partsK_step hlt f2
      rw [hst] at hsp
      obtain ⟨m, hm⟩ : ∃ m, min (u - f) (256 - f % 256) = m := ⟨_, rfl⟩
      rw [hm] at hsp
      have hm1 : 1 ≤ m ∧ m ≤ 256 ∧ f + m ≤ u := by omega
      obtain ⟨fn, tmps, assign, body, hy, hR⟩ := hY _ _ _ _ hsp hJk hsz
      have q1 : f.tdiv 256 = f / 256 := Int.tdiv_eq_ediv_of_nonneg (by omega)
      have q2 : f.tmod 256 = f % 256 := Int.tmod_eq_emod_of_nonneg (by omega)
      have HSP := Lib.hid hsp
      have HM := Lib.hid hm
      change (Instr.yield l #[.agg #[.int .i64 (f / 256), .int .i64 (f % 256), .int .i64 m]]).run Tryz.prog wr = _ at hy
      clear hY hst hsp
      gi_wp2_with fail
      refine (hR _).mono ?_; rintro e W3 (⟨rfl, hJ3, hs3⟩ | ⟨rfl, hJx3, hs3⟩)
      · gi_wp2_with fail
        go_roundw
        case rel => exact ⟨f + m, _, n - 1, rfl, by omega, by rw [HSP.out]; simp, hJ3, by omega⟩
        case measure => simp [intOf]; omega
      · gi_wp2_with fail
        refine bodyPost_ret (results_none rfl _ _ _) rfl ?_
        exact ⟨⟨_, rfl⟩, .inr hJx3⟩
    · obtain rfl : f = u := by omega
      rw [partsK_end (Int.le_refl _), List.append_nil] at hsp
      gi_wp2
      go_end0
      exact ⟨⟨_, rfl⟩, .inl hJk⟩
end Go.Proofs.YtlpchcdalfkfcaaGreat
