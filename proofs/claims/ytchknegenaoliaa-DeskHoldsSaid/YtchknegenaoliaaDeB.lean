/-
  Package desk: what a desk is in memory; none, New; its questions. No condition.
-/
import Derived.Test.YtchknegenaoliaaDeA
import Derived.Test.YtchknegenaoliaaDeP
import Derived.Deep.RegionHeld
import Derived.BigRegion
namespace Go.Proofs.Ytchknegenaoliaa
open Go.RowKit
attribute [local go_sem] Oper.semAt_some
set_option maxHeartbeats 1000000
set_option maxRecDepth 4000

def tenV (x : Ten) : List Value := [.int .i64 x.g, .bool x.t, .int .i64 x.q, .int .i64 x.f]
def tensV (P : List Ten) : List Value := P.flatMap tenV
def dkV (P : List Ten) (m : Option Nat) : Array Value := (tensV P ++ [Value.map m]).toArray
structure DkAt (W : World) (b m : Nat) (P : List Ten) (T : Thr) : Prop where
  blk : Blk W b (dkV P (some m)) 73
  mp : MapP encH W m T
  len : P.length = 4
theorem four {P : List Ten} (h : P.length = 4) : ∃ a b c d, P = [a, b, c, d] := by
  match P, h with
  | [a, b, c, d], _ => exact ⟨a, b, c, d, rfl⟩
theorem dkV_map {P : List Ten} (h : P.length = 4) (m : Option Nat) : (dkV P m)[16]? = some (.map m) := by
  obtain ⟨a, b, c, d, rfl⟩ := four h; rfl
theorem dkV_get {P : List Ten} (h : P.length = 4) (m : Option Nat) (k : Nat) (hk : k < 4) :
    (dkV P m)[k * 4]? = some (.int .i64 (tenD P k).g) ∧ (dkV P m)[k * 4 + 1]? = some (.bool (tenD P k).t) ∧ (dkV P m)[k * 4 + 2]? = some (.int .i64 (tenD P k).q) ∧ (dkV P m)[k * 4 + 3]? = some (.int .i64 (tenD P k).f) := by
  obtain ⟨a, b, c, d, rfl⟩ := four h
  match k, hk with
  | 0, _ => exact ⟨rfl, rfl, rfl, rfl⟩
  | 1, _ => exact ⟨rfl, rfl, rfl, rfl⟩
  | 2, _ => exact ⟨rfl, rfl, rfl, rfl⟩
  | 3, _ => exact ⟨rfl, rfl, rfl, rfl⟩
theorem dkV_set {P : List Ten} (h : P.length = 4) (m : Option Nat) (k : Nat) (hk : k < 4) (x : Ten) :
    ((((dkV P m).setIfInBounds (k * 4) (.int .i64 x.g)).setIfInBounds (k * 4 + 1) (.bool x.t)).setIfInBounds (k * 4 + 2) (.int .i64 x.q)).setIfInBounds (k * 4 + 3) (.int .i64 x.f) = dkV (P.set k x) m := by
  obtain ⟨a, b, c, d, rfl⟩ := four h
  match k, hk with
  | 0, _ => rfl
  | 1, _ => rfl
  | 2, _ => rfl
  | 3, _ => rfl
section
variable {W W' : World} {b m : Nat} {P : List Ten} {T : Thr}
theorem MapP.neB {cs : Array Value} {t : TypeId} {g : Nat} (h : MapP encH W m T) (k : Blk W g cs t) : m ≠ g := by
  rintro rfl
  obtain ⟨l, _, es, clock, h1, _⟩ := h
  have := h1.symm.trans k
  simp at this
theorem DkAt.ne (h : DkAt W b m P T) : b ≠ m := fun e => h.mp.neB h.blk e.symm
theorem DkAt.below {n : Nat} (h : DkAt W b m P T) (k : Below n W W') (h1 : b < n) (h2 : m < n) : DkAt W' b m P T := ⟨h.blk.below k h1, h.mp.below k h2, h.len⟩
theorem DkAt.step (h : DkAt W b m P T) (k : Below W.heap.size W W') : DkAt W' b m P T := h.below k h.blk.lt h.mp.lt
theorem DkAt.cellm (h : DkAt W b m P T) : W.cell? ⟨b, 16, none⟩ = some (.map (some m)) := h.blk.cell 16 (dkV_map h.len _)
theorem DkAt.ten (h : DkAt W b m P T) (k : Nat) (hk : k < 4) : W.cell? ⟨b, k * 4, none⟩ = some (.int .i64 (tenD P k).g) ∧ W.cell? ⟨b, k * 4 + 1, none⟩ = some (.bool (tenD P k).t) ∧ W.cell? ⟨b, k * 4 + 2, none⟩ = some (.int .i64 (tenD P k).q) ∧ W.cell? ⟨b, k * 4 + 3, none⟩ = some (.int .i64 (tenD P k).f) := by
  obtain ⟨h1, h2, h3, h4⟩ := dkV_get h.len (some m) k hk
  exact ⟨h.blk.cell _ h1, h.blk.cell _ h2, h.blk.cell _ h3, h.blk.cell _ h4⟩
end
def NoDk (W : World) (p : Option Addr) : Prop := p = none ∨ ∃ s, p = some ⟨s, 0, none⟩ ∧ W.cell? ⟨s, 16, none⟩ = some (.map none)
theorem NoDk.step {W W' : World} {p : Option Addr} (h : NoDk W p) (k : Below W.heap.size W W') : NoDk W' p := by
  rcases h with rfl | ⟨s, rfl, hc⟩
  · exact .inl rfl
  · exact .inr ⟨s, rfl, (k.cell (p := ⟨s, 16, none⟩) (World.block_lt_of_cell? W _ hc)).trans hc⟩
theorem run_eql_map_nil {P : Program} {t k e : TypeId} (ht : P.underlying t = some (.map k e)) (b : Nat) (w : World) : (binOp .eql t (.map (some b)) (.map none)).run P w = .ok (.bool false) w := by
  have h1 : ∀ d : Nat, (Op.equalIn (d + 1) t (.map (some b)) (.map none)).run P w = .ok false w := fun d => by simp [Op.equalIn, run_underlying ht]
  simp only [binOp]
  simp [Op.equal, Op.maxDepth, h1 9999]
theorem run_eql_map_nn {P : Program} {t k e : TypeId} (ht : P.underlying t = some (.map k e)) (w : World) : (binOp .eql t (.map none) (.map none)).run P w = .ok (.bool true) w := by
  have h1 : ∀ d : Nat, (Op.equalIn (d + 1) t (.map none) (.map none)).run P w = .ok true w := fun d => by simp [Op.equalIn, run_underlying ht]
  simp only [binOp]
  simp [Op.equal, Op.maxDepth, h1 9999]
theorem none_live {w : World} {b m : Nat} {P : List Ten} {T : Thr} (h : DkAt w b m P T) : Calls Try.prog 34 #[.pointer (some ⟨b, 0, none⟩)] w fun e w' => e = .returned (.bool false) ∧ Below w.heap.size w w' := by
  have c0 := h.cellm
  have he := run_eql_map_nil (P := Try.prog) Try.underlying67 m w
  go_enter Try.func34, Try.ntmps34
  go_wp2_with fail
  go_ret
  exact ⟨rfl, Below.refl _ _⟩
theorem none_no {w : World} {p : Option Addr} (h : NoDk w p) : Calls Try.prog 34 #[.pointer p] w fun e w' => e = .returned (.bool true) ∧ Below w.heap.size w w' := by
  rcases h with rfl | ⟨s, rfl, c0⟩
  · go_enter Try.func34, Try.ntmps34
    go_wp2_with fail
    go_ret
    exact ⟨rfl, Below.refl _ _⟩
  · have he := run_eql_map_nn (P := Try.prog) Try.underlying67 w
    go_enter Try.func34, Try.ntmps34
    go_wp2_with fail
    go_ret
    exact ⟨rfl, Below.refl _ _⟩
theorem New_calls (w : World) : Calls Try.prog 7 #[] w fun e w' => ∃ b m : Nat, e = .returned (.pointer (some ⟨b, 0, none⟩)) ∧ DkAt w' b m [zT, zT, zT, zT] [] ∧ w.heap.size ≤ m ∧ w.heap.size ≤ b ∧ Below w.heap.size w w' := by
  have hmm := @run_makeMap Try.prog
  go_enter Try.func7, Try.ntmps7
  go_wp2_with fail
  go_ret
  exact ⟨_, _, rfl, ⟨Blk.newAt _ _ _ (by simp), (MapP.new w).alloc _, rfl⟩, Nat.le_refl _, by omega, ((Below.refl _ w).alloc (Nat.le_refl _) _).alloc (by simp) _⟩
theorem has_calls (v : Value) (n : Int) (w : World) : Calls Try.prog 46 #[v, .int .i64 n] w fun e w' => e = .returned (.bool (inS n)) ∧ w = w' := by
  by_cases h1 : 0 ≤ n
  · by_cases h2 : n < 4
    · have hb : inS n = true := by simp [inS]; omega
      go_enter Try.func46, Try.ntmps46
      go_wp2_with fail
      go_ret
      exact ⟨by first | rfl | (rw [hb]; rfl), rfl⟩
    · have hb : inS n = false := by simp [inS]; omega
      go_enter Try.func46, Try.ntmps46
      go_wp2_with fail
      go_ret
      exact ⟨by first | rfl | (rw [hb]; rfl), rfl⟩
  · have hb : inS n = false := by simp [inS]; omega
    go_enter Try.func46, Try.ntmps46
    go_wp2_with fail
    go_ret
    exact ⟨by first | rfl | (rw [hb]; rfl), rfl⟩
theorem is_calls (p : Option Addr) (w : World) : Calls Try.prog 27 #[.pointer p] w fun e w' => e = .returned (.agg #[.func (.func 34) #[.pointer p] #[], .int .i64 1]) ∧ Below w.heap.size w w' := by
  go_enter Try.func27, Try.ntmps27
  go_wp2_with fail
  exact bodyPost_ret (v := .agg #[.func (.func 34) #[.pointer p] #[], .int .i64 1]) (by simp [results, Try.results27, go_sem]) rfl ⟨rfl, (Below.refl _ w).alloc (Nat.le_refl _) _⟩
theorem within_calls (n most : Int) (w : World) : Calls Try.prog 29 #[.int .i64 n, .int .i64 most] w fun e w' => e = .returned (.agg #[.func (.func 47) #[] #[.pointer (some ⟨w.heap.size, 0, none⟩), .pointer (some ⟨w.heap.size + 1, 0, none⟩)], .int .i64 2]) ∧ Blk w' w.heap.size #[.int .i64 n] 3 ∧ Blk w' (w.heap.size + 1) #[.int .i64 most] 3 ∧ Below w.heap.size w w' := by
  go_enter Try.func29, Try.ntmps29
  go_wp2_with fail
  exact bodyPost_ret (v := .agg #[.func (.func 47) #[] #[.pointer (some ⟨w.heap.size, 0, none⟩), .pointer (some ⟨w.heap.size + 1, 0, none⟩)], .int .i64 2]) (by simp [results, Try.results29, go_sem]) rfl ⟨rfl, ((Blk.new w _ _).alloc _).alloc _, (Blk.newAt _ _ _ (by simp)).alloc _, (((Below.refl _ w).alloc (Nat.le_refl _) _).alloc (by simp) _).alloc (by simp; omega) _⟩
theorem within1_calls (n most : Int) (p q : Nat) (w : World) (hp : w.cell? ⟨p, 0, none⟩ = some (.int .i64 n)) (hq : w.cell? ⟨q, 0, none⟩ = some (.int .i64 most)) : Calls Try.prog 47 #[.pointer (some ⟨p, 0, none⟩), .pointer (some ⟨q, 0, none⟩)] w fun e w' => e = .returned (.bool (badN n most)) ∧ Below w.heap.size w w' := by
  by_cases h1 : n < 0
  · have hb : badN n most = true := by simp [badN, h1]
    go_enter Try.func47, Try.ntmps47
    go_wp2_with fail
    go_ret
    exact ⟨by first | rfl | (rw [hb]; rfl), Below.refl _ _⟩
  · by_cases h2 : most < n
    · have hb : badN n most = true := by simp [badN, h2]
      go_enter Try.func47, Try.ntmps47
      go_wp2_with fail
      go_ret
      exact ⟨by first | rfl | (rw [hb]; rfl), Below.refl _ _⟩
    · have hb : badN n most = false := by simp [badN]; omega
      go_enter Try.func47, Try.ntmps47
      go_wp2_with fail
      go_ret
      exact ⟨by first | rfl | (rw [hb]; rfl), Below.refl _ _⟩
theorem place_calls (d : Option Addr) (n : Int) (w : World) : Calls Try.prog 28 #[.pointer d, .int .i64 n] w fun e w' => e = .returned (.agg #[.func (.func 45) #[] #[.pointer (some ⟨w.heap.size, 0, none⟩), .pointer (some ⟨w.heap.size + 1, 0, none⟩)], .int .i64 2]) ∧ Blk w' w.heap.size #[.pointer d] 24 ∧ Blk w' (w.heap.size + 1) #[.int .i64 n] 3 ∧ Below w.heap.size w w' := by
  go_enter Try.func28, Try.ntmps28
  go_wp2_with fail
  exact bodyPost_ret (v := .agg #[.func (.func 45) #[] #[.pointer (some ⟨w.heap.size, 0, none⟩), .pointer (some ⟨w.heap.size + 1, 0, none⟩)], .int .i64 2]) (by simp [results, Try.results28, go_sem]) rfl ⟨rfl, ((Blk.new w _ _).alloc _).alloc _, (Blk.newAt _ _ _ (by simp)).alloc _, (((Below.refl _ w).alloc (Nat.le_refl _) _).alloc (by simp) _).alloc (by simp; omega) _⟩
theorem whose_calls (d : Option Addr) (h : Hnd) (w : World) : Calls Try.prog 31 #[.pointer d, .agg #[.int .i64 h.s, .int .i64 h.g]] w fun e w' => e = .returned (.agg #[.func (.func 48) #[] #[.pointer (some ⟨w.heap.size, 0, none⟩), .pointer (some ⟨w.heap.size + 1, 0, none⟩)], .int .i64 311]) ∧ Blk w' w.heap.size #[.pointer d] 24 ∧ Blk w' (w.heap.size + 1) #[.int .i64 h.s, .int .i64 h.g] 28 ∧ Below w.heap.size w w' := by
  go_enter Try.func31, Try.ntmps31
  go_wp2_with fail
  exact bodyPost_ret (v := .agg #[.func (.func 48) #[] #[.pointer (some ⟨w.heap.size, 0, none⟩), .pointer (some ⟨w.heap.size + 1, 0, none⟩)], .int .i64 311]) (by simp [results, Try.results31, go_sem]) rfl ⟨rfl, ((Blk.new w _ _).alloc _).alloc _, (Blk.newAt _ _ _ (by simp)).alloc _, (((Below.refl _ w).alloc (Nat.le_refl _) _).alloc (by simp) _).alloc (by simp; omega) _⟩
end Go.Proofs.Ytchknegenaoliaa
