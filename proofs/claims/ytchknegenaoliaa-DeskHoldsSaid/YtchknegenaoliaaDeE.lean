/-
  Package desk: Create. Conditions: a desk whose generations are small.
-/
import Derived.Test.YtchknegenaoliaaDeD
namespace Go.Proofs.Ytchknegenaoliaa
open Go.RowKit
attribute [local go_sem] Oper.semAt_some
set_option maxHeartbeats 2000000
set_option maxRecDepth 4000

theorem hnd_info : (Try.prog.info? 28).map (·.size) = some 2 := by kernel_rfl
theorem run_loadH {w : World} {g : Nat} {cs : Array Value} {t : TypeId} (hB : Blk w g cs t) (hs : cs.size = 2) : (loadVar 28 ⟨g, 0, none⟩).run Try.prog w = .ok (.agg cs) w :=
  run_loadVar_row w g t _ cs (0, 0) _ hB Try.underlying28 rfl (by rw [hs]; exact hnd_info)
theorem ret_h2 {fn : Func} {R : Ending → World → Prop} {a : Act} {w : World} {p u : Tmp} (h : fn.results = #[.cell p 28, .tmp u]) (g : Nat) {cs : Array Value} {t : TypeId} (hp : a.tmps.getD p undef = .pointer (some ⟨g, 0, none⟩))
    (hB : Blk w g cs t) (hs : cs.size = 2) (hd : a.defers = []) (hR : R (.returned (.tuple #[.agg cs, a.tmps.getD u undef])) w) : bodyPost Try.prog fn R .ret a w := by
  refine bodyPost_ret (v := .tuple #[.agg cs, a.tmps.getD u undef]) ?_ hd hR
  have hp' : a.tmps[p]?.getD undef = .pointer (some ⟨g, 0, none⟩) := by simpa using hp
  simp [results, h, hp', asAddr, run_loadH hB hs]
theorem Blk.set2 {W : World} {b : Nat} {a0 a1 : Value} {t : TypeId} (h : Blk W b #[a0, a1] t) (v0 v1 : Value) : Blk ((W.setCell ⟨b, 0, none⟩ v0).setCell ⟨b, 1, none⟩ v1) b #[v0, v1] t := (h.set 0 v0).set 1 v1
theorem Chg.set2 {c : Nat} {W X : World} (h : Chg c W X) (b : Nat) (v0 v1 : Value) (hb : W.heap.size ≤ b) : Chg c W ((X.setCell ⟨b, 0, none⟩ v0).setCell ⟨b, 1, none⟩ v1) := (h.set ⟨b, 0, none⟩ v0 hb).set ⟨b, 1, none⟩ v1 hb
theorem DkAt.set2 {W : World} {b m g : Nat} {P : List Ten} {T : Thr} (h : DkAt W b m P T) (v0 v1 : Value) (h1 : b ≠ g) (h2 : m ≠ g) : DkAt ((W.setCell ⟨g, 0, none⟩ v0).setCell ⟨g, 1, none⟩ v1) b m P T :=
  ⟨(h.blk.setOther _ _ h1).setOther _ _ h1, (h.mp.setCell _ _ h2).setCell _ _ h2, h.len⟩
/-- A tenant laid at a place. -/
theorem DkAt.put {W : World} {b m : Nat} {P : List Ten} {T : Thr} (h : DkAt W b m P T) (k : Nat) (hk : k < 4) (x : Ten) :
    DkAt ((((W.setCell ⟨b, k * 4, none⟩ (.int .i64 x.g)).setCell ⟨b, k * 4 + 1, none⟩ (.bool x.t)).setCell ⟨b, k * 4 + 2, none⟩ (.int .i64 x.q)).setCell ⟨b, k * 4 + 3, none⟩ (.int .i64 x.f)) b m (P.set k x) T := by
  refine ⟨?_, ?_, by rw [List.length_set]; exact h.len⟩
  · rw [← dkV_set h.len (some m) k hk x]
    exact (((h.blk.set (k * 4) _).set (k * 4 + 1) _).set (k * 4 + 2) _).set (k * 4 + 3) _
  · have := h.ne.symm
    exact (((h.mp.setCell _ _ this).setCell _ _ this).setCell _ _ this).setCell _ _ this
theorem Chg.put4 {b : Nat} {W X : World} (h : Chg b W X) (k : Nat) (v0 v1 v2 v3 : Value) : Chg b W ((((X.setCell ⟨b, k * 4, none⟩ v0).setCell ⟨b, k * 4 + 1, none⟩ v1).setCell ⟨b, k * 4 + 2, none⟩ v2).setCell ⟨b, k * 4 + 3, none⟩ v3) :=
  (((h.setc ⟨b, k * 4, none⟩ v0 rfl).setc ⟨b, k * 4 + 1, none⟩ v1 rfl).setc ⟨b, k * 4 + 2, none⟩ v2 rfl).setc ⟨b, k * 4 + 3, none⟩ v3 rfl
structure CrS (p q b k : Nat) (x : Ten) (Y : World) : Prop where
  d : Y.cell? ⟨p, 0, none⟩ = some (.pointer (some ⟨b, 0, none⟩))
  s : Y.cell? ⟨q, 0, none⟩ = some (.int .i64 k)
  c1 : Y.cell? ⟨b, k * 4 + 1, none⟩ = some (.bool x.t)
theorem create1_calls (b k : Nat) (hk : k < 4) (x : Ten) (p q : Nat) (w : World) (h : CrS p q b k x w) : Calls Try.prog 30 #[.pointer (some ⟨p, 0, none⟩), .pointer (some ⟨q, 0, none⟩)] w fun e w' => e = .returned (.bool x.t) ∧ Below w.heap.size w w' := by
  have i0 : (0 : Int) ≤ k := by omega
  have i1 : (k : Int) < 4 := by omega
  go_enter Try.func30, Try.ntmps30
  go_wp2_with fail
  refine wp_onlyN ?_
  refine wp_region_held_drew (S := CrS p q b k x) (by kernel_rfl) ⟨h.d, h.s, h.c1⟩ (fun hHeld => ?_)
  refine wpAnyH_take (i := 0) (v := ?_) rfl (by kernel_rfl) (by kernel_rfl) (by kernel_rfl) (fun _ _ _ h => h) (Or.inl ⟨by rfl, ?_⟩) (by assumption) ?_
  rotate_left
  · (intro Y hSw; (try dsimp only at hSw); obtain ⟨hS0, hS1, hS2⟩ := hSw; go_simp; try with_reducible rfl)
  try simp only [Act.put, List.getElem_toArray, List.getElem_cons_zero, List.getElem_cons_succ, List.setIfInBounds_toArray, List.set_cons_zero, List.set_cons_succ]
  refine wpAnyH_take (i := 1) (v := ?_) rfl (by kernel_rfl) (by kernel_rfl) (by kernel_rfl) (fun _ _ _ h => h) (Or.inl ⟨by rfl, ?_⟩) (by assumption) ?_
  rotate_left
  · (intro Y hSw; (try dsimp only at hSw); obtain ⟨hS0, hS1, hS2⟩ := hSw; go_simp; try with_reducible rfl)
  try simp only [Act.put, List.getElem_toArray, List.getElem_cons_zero, List.getElem_cons_succ, List.setIfInBounds_toArray, List.set_cons_zero, List.set_cons_succ]
  refine wpAnyH_take (i := 2) (v := ?_) rfl (by kernel_rfl) (by kernel_rfl) (by kernel_rfl) (fun _ _ _ h => h) (Or.inl ⟨by rfl, ?_⟩) (by assumption) ?_
  rotate_left
  · (intro Y hSw; (try dsimp only at hSw); obtain ⟨hS0, hS1, hS2⟩ := hSw; go_simp; try with_reducible rfl)
  try simp only [Act.put, List.getElem_toArray, List.getElem_cons_zero, List.getElem_cons_succ, List.setIfInBounds_toArray, List.set_cons_zero, List.set_cons_succ]
  refine wpAnyH_take (i := 3) (v := ?_) rfl (by kernel_rfl) (by kernel_rfl) (by kernel_rfl) (fun _ _ _ h => h) (Or.inl ⟨by rfl, ?_⟩) (by assumption) ?_
  rotate_left
  · (intro Y hSw; (try dsimp only at hSw); obtain ⟨hS0, hS1, hS2⟩ := hSw; go_simp; try with_reducible rfl)
  try simp only [Act.put, List.getElem_toArray, List.getElem_cons_zero, List.getElem_cons_succ, List.setIfInBounds_toArray, List.set_cons_zero, List.set_cons_succ]
  refine wpAnyH_take (i := 4) (v := ?_) rfl (by kernel_rfl) (by kernel_rfl) (by kernel_rfl) (fun _ _ _ h => h) (Or.inl ⟨by rfl, ?_⟩) (by assumption) ?_
  rotate_left
  · (intro Y hSw; (try dsimp only at hSw); obtain ⟨hS0, hS1, hS2⟩ := hSw; go_simp; try with_reducible rfl)
  try simp only [Act.put, List.getElem_toArray, List.getElem_cons_zero, List.getElem_cons_succ, List.setIfInBounds_toArray, List.set_cons_zero, List.set_cons_succ]
  refine wpAnyH_take (i := 5) (v := ?_) rfl (by kernel_rfl) (by kernel_rfl) (by kernel_rfl) (fun _ _ _ h => h) (Or.inl ⟨by rfl, ?_⟩) (by assumption) ?_
  rotate_left
  · (intro Y hSw; (try dsimp only at hSw); obtain ⟨hS0, hS1, hS2⟩ := hSw; go_simp; try with_reducible rfl)
  try simp only [Act.put, List.getElem_toArray, List.getElem_cons_zero, List.getElem_cons_succ, List.setIfInBounds_toArray, List.set_cons_zero, List.set_cons_succ]
  refine wpAnyH_take (i := 6) (v := ?_) rfl (by kernel_rfl) (by kernel_rfl) (by kernel_rfl) (fun _ _ _ h => h) (Or.inl ⟨by rfl, ?_⟩) (by assumption) ?_
  rotate_left
  · (intro Y hSw; (try dsimp only at hSw); obtain ⟨hS0, hS1, hS2⟩ := hSw; go_simp; try with_reducible rfl)
  try simp only [Act.put, List.getElem_toArray, List.getElem_cons_zero, List.getElem_cons_succ, List.setIfInBounds_toArray, List.set_cons_zero, List.set_cons_succ]
  refine wpAnyH_take (i := 7) (v := ?_) rfl (by kernel_rfl) (by kernel_rfl) (by kernel_rfl) (fun _ _ _ h => h) (Or.inl ⟨by rfl, ?_⟩) (by assumption) ?_
  rotate_left
  · (intro Y hSw; (try dsimp only at hSw); obtain ⟨hS0, hS1, hS2⟩ := hSw; go_simp; try with_reducible rfl)
  try simp only [Act.put, List.getElem_toArray, List.getElem_cons_zero, List.getElem_cons_succ, List.setIfInBounds_toArray, List.set_cons_zero, List.set_cons_succ]
  refine wpAnyH_done (by kernel_rfl) ?_ _
  rw [onlyN_normal]
  go_wp2_with fail
  go_ret
  exact ⟨rfl, (Below.refl _ w).drew⟩
theorem create1_ans {X : World} {p q b m : Nat} {P : List Ten} {T : Thr} {s : Int} (hD : DkAt X b m P T) (h : TwoB X p q b #[.int .i64 s] 3) (hs : inS s = true) :
    Calls Try.prog 30 #[.pointer (some ⟨p, 0, none⟩), .pointer (some ⟨q, 0, none⟩)] X fun e w' => e = .returned (.bool (tenD P s).t) ∧ Below X.heap.size X w' := by
  have hs' := inS_iff.1 hs
  obtain ⟨k, rfl⟩ : ∃ k : Nat, s = k := ⟨s.toNat, by omega⟩
  have hk : k < 4 := by omega
  obtain ⟨_, c1, _, _⟩ := hD.ten k hk
  exact create1_calls b k hk (tenD P k) p q X ⟨h.d.cell 0 rfl, h.n.cell 0 rfl, c1⟩
def createAsk (p q : Nat) (P : List Ten) (s : Int) : Ask := ⟨30, #[], #[.pointer (some ⟨p, 0, none⟩), .pointer (some ⟨q, 0, none⟩)], 310, (tenD P s).t⟩
def creAsks (b p1 p2 p3 p4 : Nat) (P : List Ten) (s q f : Int) : List Ask :=
  [liveAsk b, placeAsk p1 (p1 + 1) s, withinAsk p2 (p2 + 1) q 1073741824, withinAsk p3 (p3 + 1) f 16384, createAsk p4 (p4 + 1) P s]
theorem creAsks_eq (b p1 p2 p3 p4 : Nat) (P : List Ten) (s q f : Int) : firstErr (creAsks b p1 p2 p3 p4 P s q f) = creE P s q f := by
  unfold creAsks liveAsk placeAsk withinAsk createAsk creE
  simp only [firstErr]
  cases inS s <;> simp
structure NumB (W : World) (p q : Nat) (n most : Int) : Prop where
  n : Blk W p #[.int .i64 n] 3
  m : Blk W q #[.int .i64 most] 3
theorem NumB.step {W W' : World} {p q : Nat} {n most : Int} (h : NumB W p q n most) (k : Below W.heap.size W W') : NumB W' p q n most := ⟨h.n.below k h.n.lt, h.m.below k h.m.lt⟩
theorem within_enter' (args : Array Value) (W : World) : (callFunc 30 args).run Try.prog W = .ok (.enter 30 args) W := enters_of Try.func30 (by kernel_rfl) rfl args W
theorem cre_answers {W : World} {b m p1 p2 p3 p4 : Nat} {P : List Ten} {T : Thr} {s q f : Int} (hD : DkAt W b m P T) (h1 : TwoB W p1 (p1 + 1) b #[.int .i64 s] 3) (h2 : NumB W p2 (p2 + 1) q 1073741824) (h3 : NumB W p3 (p3 + 1) f 16384) (h4 : TwoB W p4 (p4 + 1) b #[.int .i64 s] 3) :
    Answers W (creAsks b p1 p2 p3 p4 P s q f) := by
  constructor
  · intro i hi args W
    match i, hi with
    | 0, _ => exact live_enter args W
    | 1, _ => exact place_enter args W
    | 2, _ => exact within_enter args W
    | 3, _ => exact within_enter args W
    | 4, _ => exact within_enter' args W
  · intro i hi X hel kx
    match i, hi with
    | 0, _ => exact none_live (hD.step kx)
    | 1, _ => exact place_ans (h1.step kx)
    | 2, _ => exact within1_calls q 1073741824 _ _ X ((h2.step kx).n.cell 0 rfl) ((h2.step kx).m.cell 0 rfl)
    | 3, _ => exact within1_calls f 16384 _ _ X ((h3.step kx).n.cell 0 rfl) ((h3.step kx).m.cell 0 rfl)
    | 4, _ => exact create1_ans (hD.step kx) (h4.step kx) (by have := hel 1 (by simp [creAsks]) (by omega); simpa [creAsks, placeAsk] using this)
end Go.Proofs.Ytchknegenaoliaa
