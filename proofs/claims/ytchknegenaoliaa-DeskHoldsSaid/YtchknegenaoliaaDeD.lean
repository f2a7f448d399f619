/-
  Package desk: Check. No condition.
-/
import Derived.Test.YtchknegenaoliaaDeC
namespace Go.Proofs.Ytchknegenaoliaa
open Go.RowKit
attribute [local go_sem] Oper.semAt_some
set_option maxHeartbeats 1000000
set_option maxRecDepth 4000

def placeAsk (p q : Nat) (n : Int) : Ask := ⟨45, #[], #[.pointer (some ⟨p, 0, none⟩), .pointer (some ⟨q, 0, none⟩)], 2, !inS n⟩
def whoseAsk (p q : Nat) (P : List Ten) (h : Hnd) : Ask := ⟨48, #[], #[.pointer (some ⟨p, 0, none⟩), .pointer (some ⟨q, 0, none⟩)], 311, whoB (tenD P h.s) h.g⟩
def withinAsk (p q : Nat) (n most : Int) : Ask := ⟨47, #[], #[.pointer (some ⟨p, 0, none⟩), .pointer (some ⟨q, 0, none⟩)], 2, badN n most⟩
def liveAsk (b : Nat) : Ask := ⟨34, #[.pointer (some ⟨b, 0, none⟩)], #[], 1, false⟩
theorem live_enter (args : Array Value) (W : World) : (callFunc 34 args).run Try.prog W = .ok (.enter 34 args) W := enters_of Try.func34 (by kernel_rfl) rfl args W
theorem place_enter (args : Array Value) (W : World) : (callFunc 45 args).run Try.prog W = .ok (.enter 45 args) W := enters_of Try.func45 (by kernel_rfl) rfl args W
theorem whose_enter (args : Array Value) (W : World) : (callFunc 48 args).run Try.prog W = .ok (.enter 48 args) W := enters_of Try.func48 (by kernel_rfl) rfl args W
theorem within_enter (args : Array Value) (W : World) : (callFunc 47 args).run Try.prog W = .ok (.enter 47 args) W := enters_of Try.func47 (by kernel_rfl) rfl args W
/-- The two boxes of a question. -/
structure TwoB (W : World) (p q b : Nat) (cs : Array Value) (t : TypeId) : Prop where
  d : Blk W p #[.pointer (some ⟨b, 0, none⟩)] 24
  n : Blk W q cs t
theorem TwoB.below {W W' : World} {p q b n : Nat} {cs : Array Value} {t : TypeId} (h : TwoB W p q b cs t) (k : Below n W W') (hp : p < n) (hq : q < n) : TwoB W' p q b cs t := ⟨h.d.below k hp, h.n.below k hq⟩
theorem TwoB.step {W W' : World} {p q b : Nat} {cs : Array Value} {t : TypeId} (h : TwoB W p q b cs t) (k : Below W.heap.size W W') : TwoB W' p q b cs t := h.below k h.d.lt h.n.lt
theorem place_ans {X : World} {p q b : Nat} {n : Int} (h : TwoB X p q b #[.int .i64 n] 3) : Calls Try.prog 45 #[.pointer (some ⟨p, 0, none⟩), .pointer (some ⟨q, 0, none⟩)] X fun e w' => e = .returned (.bool (!inS n)) ∧ Below X.heap.size X w' :=
  place1_calls b n p q X ⟨h.d.cell 0 rfl, h.n.cell 0 rfl⟩
theorem whose_ans {X : World} {p q b m : Nat} {P : List Ten} {T : Thr} {d : Hnd} (hD : DkAt X b m P T) (h : TwoB X p q b #[.int .i64 d.s, .int .i64 d.g] 28) (hs : inS d.s = true) :
    Calls Try.prog 48 #[.pointer (some ⟨p, 0, none⟩), .pointer (some ⟨q, 0, none⟩)] X fun e w' => e = .returned (.bool (whoB (tenD P d.s) d.g)) ∧ Below X.heap.size X w' := by
  have hs' := inS_iff.1 hs
  obtain ⟨s, g⟩ := d
  dsimp only at hs' h ⊢
  obtain ⟨k, rfl⟩ : ∃ k : Nat, s = k := ⟨s.toNat, by omega⟩
  have hk : k < 4 := by omega
  obtain ⟨c0, c1, _, _⟩ := hD.ten k hk
  exact whose1_calls b k hk g (tenD P k) p q X ⟨h.d.cell 0 rfl, h.n.cell 0 rfl, h.n.cell 1 rfl, c0, c1⟩
def chkAsks (b p1 p2 : Nat) (P : List Ten) (h : Hnd) : List Ask := [liveAsk b, placeAsk p1 (p1 + 1) h.s, whoseAsk p2 (p2 + 1) P h]
theorem chkAsks_eq (b p1 p2 : Nat) (P : List Ten) (h : Hnd) : firstErr (chkAsks b p1 p2 P h) = chkE P h := by
  unfold chkAsks liveAsk placeAsk whoseAsk chkE whoB
  simp only [firstErr]
  cases inS h.s <;> simp
  by_cases h1 : (tenD P h.s).t = true ∧ (tenD P h.s).g = h.g
  · rw [if_pos h1, if_neg (by rw [h1.1]; simp [h1.2])]
  · rw [if_neg h1, if_pos]
    by_cases h2 : (tenD P h.s).t = true
    · exact .inr fun e => h1 ⟨h2, e⟩
    · exact .inl (by simpa using h2)
theorem chk_answers {W : World} {b m p1 p2 : Nat} {P : List Ten} {T : Thr} {h : Hnd} (hD : DkAt W b m P T) (h1 : TwoB W p1 (p1 + 1) b #[.int .i64 h.s] 3) (h2 : TwoB W p2 (p2 + 1) b #[.int .i64 h.s, .int .i64 h.g] 28) : Answers W (chkAsks b p1 p2 P h) := by
  constructor
  · intro i hi args W
    match i, hi with
    | 0, _ => exact live_enter args W
    | 1, _ => exact place_enter args W
    | 2, _ => exact whose_enter args W
  · intro i hi X hel kx
    match i, hi with
    | 0, _ => exact none_live (hD.step kx)
    | 1, _ => exact place_ans (h1.step kx)
    | 2, _ => exact whose_ans (hD.step kx) (h2.step kx) (by have := hel 1 (by simp [chkAsks]) (by omega); simpa [chkAsks, placeAsk] using this)
structure ChS (g : Nat) (h : Hnd) (Y : World) : Prop where
  s : Y.cell? ⟨g, 0, none⟩ = some (.int .i64 h.s)
  g : Y.cell? ⟨g, 1, none⟩ = some (.int .i64 h.g)
theorem Check_ok {w : World} {b m : Nat} {P : List Ten} {T : Thr} (hD : DkAt w b m P T) (h : Hnd) :
    Calls Try.prog 13 #[.pointer (some ⟨b, 0, none⟩), .agg #[.int .i64 h.s, .int .i64 h.g]] w fun e w' => e = .returned (.int .i64 (chkE P h)) ∧ Below w.heap.size w w' := by
  obtain ⟨w0, hw0⟩ : ∃ w0, w.alloc (.cells #[.int .i64 h.s, .int .i64 h.g] 28) = w0 := ⟨_, rfl⟩
  have hH : Blk w0 w.heap.size #[.int .i64 h.s, .int .i64 h.g] 28 := by rw [← hw0]; exact Blk.new w _ _
  have k0 : Below w.heap.size w w0 := by rw [← hw0]; exact (Below.refl _ w).alloc (Nat.le_refl _) _
  have h0 := hD.step k0
  have z0 := k0.size
  have hS : ∀ Y, Below w0.heap.size w0 Y → ChS w.heap.size h Y := fun Y k => ⟨(hH.below k hH.lt).cell 0 rfl, (hH.below k hH.lt).cell 1 rfl⟩
  have HS := Lib.hid hS
  clear hS
  go_enter Try.func13, Try.ntmps13
  go_wp2_with fail
  clear hw0
  refine wp_onlyN ?_
  refine wp_region_held_drew (S := ChS w.heap.size h) (by kernel_rfl) (HS.out _ (Below.refl _ w0).drew) (fun hHeld => ?_)
  refine wpAnyH_take (i := 0) (v := ?_) rfl (by kernel_rfl) (by kernel_rfl) (by kernel_rfl) (fun _ _ _ h => h) (Or.inl ⟨by rfl, ?_⟩) (by assumption) ?_
  rotate_left
  · (intro Y hSw; (try dsimp only at hSw); obtain ⟨hS0, hS1⟩ := hSw; go_simp; try with_reducible rfl)
  try simp only [Act.put, List.getElem_toArray, List.getElem_cons_zero, List.getElem_cons_succ, List.setIfInBounds_toArray, List.set_cons_zero, List.set_cons_succ]
  refine wpAnyH_take (i := 2) (v := ?_) rfl (by kernel_rfl) (by kernel_rfl) (by kernel_rfl) (fun _ _ _ h => h) (Or.inl ⟨by rfl, ?_⟩) (by assumption) ?_
  rotate_left
  · (intro Y hSw; (try dsimp only at hSw); obtain ⟨hS0, hS1⟩ := hSw; go_simp; try with_reducible rfl)
  try simp only [Act.put, List.getElem_toArray, List.getElem_cons_zero, List.getElem_cons_succ, List.setIfInBounds_toArray, List.set_cons_zero, List.set_cons_succ]
  refine wpAnyH_take (i := 3) (v := ?_) rfl (by kernel_rfl) (by kernel_rfl) (by kernel_rfl) (fun _ _ _ h => h) (Or.inl ⟨by rfl, ?_⟩) (by assumption) ?_
  rotate_left
  · (intro Y hSw; (try dsimp only at hSw); obtain ⟨hS0, hS1⟩ := hSw; go_simp; try with_reducible rfl)
  try simp only [Act.put, List.getElem_toArray, List.getElem_cons_zero, List.getElem_cons_succ, List.setIfInBounds_toArray, List.set_cons_zero, List.set_cons_succ]
  refine wpAnyH_take (i := 4) (v := ?_) rfl (by kernel_rfl) (by kernel_rfl) (by kernel_rfl) (fun _ _ _ h => h) (Or.inl ⟨by rfl, ?_⟩) (by assumption) ?_
  rotate_left
  · (intro Y hSw; (try dsimp only at hSw); obtain ⟨hS0, hS1⟩ := hSw; go_simp; try with_reducible rfl)
  try simp only [Act.put, List.getElem_toArray, List.getElem_cons_zero, List.getElem_cons_succ, List.setIfInBounds_toArray, List.set_cons_zero, List.set_cons_succ]
  refine wpAnyH_take (i := 6) (v := ?_) rfl (by kernel_rfl) (by kernel_rfl) (by kernel_rfl) (fun _ _ _ h => h) (Or.inl ⟨by rfl, ?_⟩) (by assumption) ?_
  rotate_left
  · (intro Y hSw; (try dsimp only at hSw); obtain ⟨hS0, hS1⟩ := hSw; go_simp; try with_reducible rfl)
  try simp only [Act.put, List.getElem_toArray, List.getElem_cons_zero, List.getElem_cons_succ, List.setIfInBounds_toArray, List.set_cons_zero, List.set_cons_succ]
  refine wpAnyH_take (i := 7) (v := ?_) rfl (by kernel_rfl) (by kernel_rfl) (by kernel_rfl) (fun _ _ _ h => h) (Or.inl ⟨by rfl, ?_⟩) (by assumption) ?_
  rotate_left
  · (intro Y hSw; (try dsimp only at hSw); obtain ⟨hS0, hS1⟩ := hSw; go_simp; try with_reducible rfl)
  try simp only [Act.put, List.getElem_toArray, List.getElem_cons_zero, List.getElem_cons_succ, List.setIfInBounds_toArray, List.set_cons_zero, List.set_cons_succ]
  refine wpAnyH_ready (rs := [1]) (by kernel_rfl) (by simp) ?_
  refine AllReadyH.cons rfl (fun K hK => ?_) AllReadyH.nil
  go_simp
  refine (is_calls _ _).mono ?_; rintro e w1 ⟨rfl, h1⟩
  have k1 := (Below.refl w0.heap.size w0).drew.trans (h1.mono (Nat.le_refl _))
  go_simp
  refine hK.out _ _ (HS.out _ k1) (fun hHeld => ?_)
  clear hK K
  try simp only [Act.put, List.getElem_toArray, List.getElem_cons_zero, List.getElem_cons_succ, List.setIfInBounds_toArray, List.set_cons_zero, List.set_cons_succ]
  refine wpAnyH_ready (rs := [5]) (by kernel_rfl) (by simp) ?_
  refine AllReadyH.cons rfl (fun K hK => ?_) AllReadyH.nil
  go_simp
  refine (place_calls (some ⟨b, 0, none⟩) h.s w1).mono ?_; rintro e w2 ⟨rfl, p1, p2, h2⟩
  have k2 := k1.trans (h2.mono k1.size)
  have hA : TwoB w2 w1.heap.size (w1.heap.size + 1) b #[.int .i64 h.s] 3 := ⟨p1, p2⟩
  go_simp
  refine hK.out _ _ (HS.out _ k2) (fun hHeld => ?_)
  clear hK K
  try simp only [Act.put, List.getElem_toArray, List.getElem_cons_zero, List.getElem_cons_succ, List.setIfInBounds_toArray, List.set_cons_zero, List.set_cons_succ]
  refine wpAnyH_ready (rs := [8]) (by kernel_rfl) (by simp) ?_
  refine AllReadyH.cons rfl (fun K hK => ?_) AllReadyH.nil
  go_simp
  refine (whose_calls (some ⟨b, 0, none⟩) h w2).mono ?_; rintro e w3 ⟨rfl, q1, q2, h3⟩
  have k3 := k2.trans (h3.mono k2.size)
  have hB : TwoB w3 w2.heap.size (w2.heap.size + 1) b #[.int .i64 h.s, .int .i64 h.g] 28 := ⟨q1, q2⟩
  replace hA := hA.step h3
  have z3 := k3.size
  go_simp
  refine hK.out _ _ (HS.out _ k3) (fun hHeld => ?_)
  clear hK K
  try simp only [Act.put, List.getElem_toArray, List.getElem_cons_zero, List.getElem_cons_succ, List.setIfInBounds_toArray, List.set_cons_zero, List.set_cons_succ]
  refine wpAnyH_ready (rs := [9]) (by kernel_rfl) (by simp) ?_
  refine AllReadyH.cons rfl (fun K hK => ?_) AllReadyH.nil
  go_simp
  have k4 := k3.alloc z3 (.cells (askList (chkAsks b w1.heap.size w2.heap.size P h)).toArray 76)
  have hrow : AskRow (w3.alloc (.cells (askList (chkAsks b w1.heap.size w2.heap.size P h)).toArray 76)) w3.heap.size (chkAsks b w1.heap.size w2.heap.size P h) := askRow_of (Blk.new w3 _ _)
  have j4 : Below w3.heap.size w3 (w3.alloc (.cells (askList (chkAsks b w1.heap.size w2.heap.size P h)).toArray 76)) := (Below.refl _ w3).alloc (Nat.le_refl _) _
  have hA4 := hA.step j4
  have hB4 := hB.step j4
  refine hK.out _ _ (HS.out _ k4) (fun hHeld => ?_)
  clear hK K
  try simp only [Act.put, List.getElem_toArray, List.getElem_cons_zero, List.getElem_cons_succ, List.setIfInBounds_toArray, List.set_cons_zero, List.set_cons_succ]
  change wpAnyH _ _ _ _ _ _ _ _ (w3.alloc (.cells (askList (chkAsks b w1.heap.size w2.heap.size P h)).toArray 76))
  generalize (w3.alloc (.cells (askList (chkAsks b w1.heap.size w2.heap.size P h)).toArray 76)) = w4 at k4 hrow hA4 hB4 j4 hHeld ⊢
  have hans := chk_answers (h0.step k4) hA4 hB4
  refine wpAnyH_ready (rs := [10]) (by kernel_rfl) (by simp) ?_
  refine AllReadyH.cons rfl (fun K hK => ?_) AllReadyH.nil
  go_simp
  refine (asked_ok w4 w3.heap.size 3 3 _ rfl (by simp [chkAsks]) (Lib.hid hrow) (Lib.hid hans)).mono ?_; rintro e w5 ⟨rfl, h5⟩
  rw [chkAsks_eq]
  have k5 := k4.trans (h5.mono k4.size)
  go_simp
  refine hK.out _ _ (HS.out _ k5) (fun hHeld => ?_)
  clear hK K
  try simp only [Act.put, List.getElem_toArray, List.getElem_cons_zero, List.getElem_cons_succ, List.setIfInBounds_toArray, List.set_cons_zero, List.set_cons_succ]
  refine wpAnyH_take (i := 11) (v := ?_) rfl (by kernel_rfl) (by kernel_rfl) (by kernel_rfl) (fun _ _ _ h => h) (Or.inl ⟨by rfl, ?_⟩) (by assumption) ?_
  rotate_left
  · (intro Y hSw; (try dsimp only at hSw); obtain ⟨hS0, hS1⟩ := hSw; go_simp; try with_reducible rfl)
  try simp only [Act.put, List.getElem_toArray, List.getElem_cons_zero, List.getElem_cons_succ, List.setIfInBounds_toArray, List.set_cons_zero, List.set_cons_succ]
  refine wpAnyH_done (by kernel_rfl) ?_ _
  rw [onlyN_normal]
  go_wp2_with fail
  go_ret
  exact ⟨rfl, k0.trans (k5.mono z0)⟩
end Go.Proofs.Ytchknegenaoliaa
