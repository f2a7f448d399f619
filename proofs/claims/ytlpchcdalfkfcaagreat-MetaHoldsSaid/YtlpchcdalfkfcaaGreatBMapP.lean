/-
 A map of rows with keys of the kind int, whatever order it holds them in. No condition.
-/
import Derived.Test.YtlpchcdalfkfcaaGreatBFrT
import Derived.Test.YtlpchcdalfkfcaaGreatBPgA
import Derived.Deep.RegionHeld
import Derived.BigRegion
namespace Go.Proofs.YtlpchcdalfkfcaaGreat
open Go.RowKit Go.MapKept
variable {P : Program} {ρ : Type} {enc : ρ → Value}
/-- Block b is a map that holds just the rows D. -/
def MapP (enc : ρ → Value) (W : World) (b : Nat) (D : List (Int × ρ)) : Prop := ∃ l, l.Perm (encR enc D) ∧ MapI W b l
section
variable {W W' : World} {b : Nat} {D : List (Int × ρ)}
theorem MapP.lt (h : MapP enc W b D) : b < W.heap.size := by obtain ⟨l, _, h⟩ := h; exact h.lt
theorem MapP.of_block (h : MapP enc W b D) (hb : W'.heap[b]? = W.heap[b]?) : MapP enc W' b D := by obtain ⟨l, hp, h⟩ := h; exact ⟨l, hp, h.of_block hb⟩
theorem MapP.below {n : Nat} (h : MapP enc W b D) (hb : Below n W W') (hn : b < n) : MapP enc W' b D := h.of_block (hb.block b hn)
theorem MapP.step (h : MapP enc W b D) (hb : Below W.heap.size W W') : MapP enc W' b D := h.of_block (hb.block b h.lt)
theorem MapP.alloc (h : MapP enc W b D) (o : Obj) : MapP enc (W.alloc o) b D := h.of_block (Below.heap_alloc W o b h.lt)
theorem MapP.chg {c : Nat} (h : MapP enc W b D) (ht : Chg c W W') (hne : b ≠ c) : MapP enc W' b D := h.of_block (ht.block b h.lt hne)
theorem MapP.setCell (h : MapP enc W b D) (a : Addr) (v : Value) (hne : b ≠ a.block) : MapP enc (W.setCell a v) b D := h.of_block (Below.heap_setCell W a v b hne)
theorem MapP.new (W : World) : MapP enc (W.alloc (.map #[] 0)) W.heap.size ([] : List (Int × ρ)) := ⟨[], List.Perm.refl _, MapI.new W⟩
theorem MapP.nodup (h : MapP enc W b D) : (D.map (·.1)).Nodup := by
 obtain ⟨l, hp, h⟩ := h
 exact (keys_perm hp).nodup_iff.1 h.nodup
theorem MapP.lookup {t kt et : TypeId} (h : MapP enc W b D) (ht : P.underlying t = some (.map kt et)) (hk : P.underlying kt = some (.int .i64)) {z : Value} (hz : (zeroValue et).run P W = .ok z W) (k : Int) :
  (Instr.lookup t (.map (some b)) (.int .i64 k) false).run P W = .ok (((getR D k).map enc).getD z) W ∧ (Instr.lookup t (.map (some b)) (.int .i64 k) true).run P W = .ok (.tuple #[((getR D k).map enc).getD z, .bool (hasR D k)]) W := by
 have hn := h.nodup
 obtain ⟨l, hp, h⟩ := h
 have := h.lookup (P := P) ht hk hz k
 rw [getA_perm hp hn, hasA_perm hp] at this
 exact this
theorem MapP.store {t kt et : TypeId} (h : MapP enc W b D) (ht : P.underlying t = some (.map kt et)) (hk : P.underlying kt = some (.int .i64)) (k : Int) (v : ρ) :
  ∃ W', (Instr.mapUpdate t (.map (some b)) (.int .i64 k) (enc v)).run P W = .ok () W' ∧ MapP enc W' b (putR D k v) ∧ Turn b W W' := by
 obtain ⟨l, hp, h⟩ := h
 obtain ⟨W', h1, h2, h3⟩ := h.store (P := P) ht hk k (enc v)
 exact ⟨W', h1, ⟨_, setA_perm hp k v, h2⟩, h3⟩
theorem MapP.drop {t kt et : TypeId} (h : MapP enc W b D) (ht : P.underlying t = some (.map kt et)) (hk : P.underlying kt = some (.int .i64)) (k : Int) (kt' ty : TypeId) :
  ∃ W', (Builtin.delete_ #[t, kt'] ty #[.map (some b), .int .i64 k]).run P W = .ok (.tuple #[]) W' ∧ MapP enc W' b (delR D k) ∧ Turn b W W' := by
 obtain ⟨l, hp, h⟩ := h
 obtain ⟨W', h1, h2, h3⟩ := h.drop (P := P) ht hk k kt' ty
 exact ⟨W', h1, ⟨_, delA_perm hp k, h2⟩, h3⟩
end
/-- Block r goes over block b's map: left is what has not come. -/
def RangeP (enc : ρ → Value) (W : World) (r b : Nat) (D left : List (Int × ρ)) : Prop := ∃ l ll, l.Perm (encR enc D) ∧ ll.Perm (encR enc left) ∧ RangeI W r b l ll
section
variable {W W' : World} {r b : Nat} {D left : List (Int × ρ)}
theorem RangeP.of_block (h : RangeP enc W r b D left) (hr : W'.heap[r]? = W.heap[r]?) (hb : W'.heap[b]? = W.heap[b]?) : RangeP enc W' r b D left := by
 obtain ⟨l, ll, h1, h2, h3⟩ := h; exact ⟨l, ll, h1, h2, h3.of_block hr hb⟩
theorem RangeP.lt (h : RangeP enc W r b D left) : r < W.heap.size ∧ b < W.heap.size := by obtain ⟨l, ll, h1, h2, h3⟩ := h; exact h3.lt
theorem RangeP.step (h : RangeP enc W r b D left) (hb : Below W.heap.size W W') : RangeP enc W' r b D left := h.of_block (hb.block r h.lt.1) (hb.block b h.lt.2)
theorem MapP.range {t kt et : TypeId} (h : MapP enc W b D) (ht : P.underlying t = some (.map kt et)) :
  ∃ o, (Instr.range t (.map (some b))).run P W = .ok (.pointer (some ⟨W.heap.size, 0, none⟩)) (W.alloc o) ∧ RangeP enc (W.alloc o) W.heap.size b D D := by
 obtain ⟨l, hp, h⟩ := h
 obtain ⟨o, h1, h2⟩ := h.range (P := P) ht
 exact ⟨o, h1, l, l, hp, hp, h2⟩
theorem RangeP.count (h : RangeP enc W r b D left) : rangeN D.length r W = left.length := by
 obtain ⟨l, ll, h1, h2, h3⟩ := h
 have e1 := h1.length_eq
 have e2 := h2.length_eq
 rw [encR_len] at e1 e2
 rw [← e1, h3.count, e2]
theorem RangeP.next (h : RangeP enc W r b D left) (hne : r ≠ b) (ty : TypeId) :
  (left = [] ∧ (Instr.next (.pointer (some ⟨r, 0, none⟩)) false ty).run P W = .ok (.tuple #[.bool false]) W) ∨
  ∃ p ∈ left, ∃ W', (Instr.next (.pointer (some ⟨r, 0, none⟩)) false ty).run P W = .ok (.tuple #[.bool true, .int .i64 p.1, enc p.2]) W' ∧ RangeP enc W' r b D (delR left p.1) ∧ Turn r W W' ∧
   (Instr.entry (.pointer (some ⟨r, 0, none⟩))).run P W' = .ok (.tuple #[.int .i64 p.1, enc p.2]) W' := by
 obtain ⟨l, ll, h1, h2, h3⟩ := h
 rcases h3.next (P := P) hne ty with ⟨e, hr⟩ | ⟨q, hq, W', hr, hR, hT, he⟩
 ·refine .inl ⟨?_, hr⟩
  have := h2.length_eq
  rw [e, encR_len] at this
  exact List.eq_nil_of_length_eq_zero this.symm
 ·obtain ⟨p, hp, rfl⟩ := List.mem_map.1 (h2.mem_iff.1 hq)
  exact .inr ⟨p, hp, W', hr, ⟨l, _, h1, delA_perm h2 p.1, hR⟩, hT, he⟩
end
end Go.Proofs.YtlpchcdalfkfcaaGreat


/-
 Chapter 8, plain: what Map, Unmap, Protect, Free and Next answer. No condition.
-/
namespace Go.Proofs.YtlpchcdalfkfcaaGreat
open Go.RowKit
@[ext] structure Ent where
 o : Int
 m : Int
 f : Int
deriving DecidableEq
def encE (e : Ent) : Value := .agg #[.int .i64 e.o, .int .i64 e.m, .int .i64 e.f]
abbrev Tb := List (Int × Ent)
def badM (m : Int) : Bool := decide (m < 0 ∨ 2 < m)
def badO (x : Ent) : Bool := decide (x.o < -1 ∨ 64 ≤ x.o ∨ x.f < 0)
def badP (p : Int) : Bool := decide (p < 0 ∨ 65536 ≤ p)
def frmR (D : Tb) (f : Int) : Bool := D.any fun p => p.2.f == f
def getE (D : Tb) (p : Int) : Ent := (getR D p).getD ⟨0, 0, 0⟩
def mapE (D : Tb) (p : Int) (x : Ent) : Int := if badM x.m = true then 2 else if badO x = true then 2 else if badP p = true then 4 else if hasR D p = true then 180 else if frmR D x.f = true then 181 else 0
def unmE (D : Tb) (p : Int) : Int := if badP p = true then 4 else if hasR D p = false then 5 else 0
def mapD (D : Tb) (p : Int) (x : Ent) : Tb := if mapE D p x = 0 then insR p x D else D
def unmD (D : Tb) (p : Int) : Tb := if unmE D p = 0 then delR D p else D
/-- What stands in a table. -/
structure GoodP (D : Tb) : Prop where
 srt : SrtR D
 pg : ∀ x ∈ D, 0 ≤ x.1 ∧ x.1 < 65536
 en : ∀ x ∈ D, -1 ≤ x.2.o ∧ x.2.o ≤ 63 ∧ 0 ≤ x.2.m ∧ x.2.m ≤ 2 ∧ 0 ≤ x.2.f
theorem GoodP.nil : GoodP [] := ⟨SrtR.nil, fun _ h => absurd h (by simp), fun _ h => absurd h (by simp)⟩
theorem mapE_ok {D : Tb} {p : Int} {x : Ent} (h : mapE D p x = 0) : (0 ≤ x.m ∧ x.m ≤ 2) ∧ (-1 ≤ x.o ∧ x.o ≤ 63 ∧ 0 ≤ x.f) ∧ (0 ≤ p ∧ p < 65536) ∧ hasR D p = false ∧ frmR D x.f = false := by
 unfold mapE at h
 split at h
 ·cases h
 rename_i h1
 split at h
 ·cases h
 rename_i h2
 split at h
 ·cases h
 rename_i h3
 split at h
 ·cases h
 rename_i h4
 split at h
 ·cases h
 rename_i h5
 simp only [badM, badO, badP, decide_eq_true_eq, not_or, Bool.not_eq_true] at h1 h2 h3 h4 h5
 exact ⟨by omega, by omega, by omega, h4, h5⟩
theorem GoodP.map {D : Tb} (h : GoodP D) (p : Int) (x : Ent) : GoodP (mapD D p x) := by
 unfold mapD
 split
 ·rename_i h0
  obtain ⟨h1, h2, h3, h4, _⟩ := mapE_ok h0
  refine ⟨h.srt.ins h4, fun y hy => ?_, fun y hy => ?_⟩
  ·rcases insR_mem.1 hy with rfl | hy
   ·exact h3
   ·exact h.pg y hy
  ·rcases insR_mem.1 hy with rfl | hy
   ·exact ⟨h2.1, h2.2.1, h1.1, h1.2, h2.2.2⟩
   ·exact h.en y hy
 ·exact h
theorem getE_mem {D : Tb} (h : SrtR D) {p : Int} (hp : hasR D p = true) : (p, getE D p) ∈ D := by
 obtain ⟨v, hv, hg⟩ := getR_has h.nodup hp
 unfold getE
 rw [hg]
 exact hv
/-! ### The least run -/
end Go.Proofs.YtlpchcdalfkfcaaGreat


/-
 Package page: what a table is in memory; its questions; whether a frame is somebody's. No condition.
-/
namespace Go.Proofs.YtlpchcdalfkfcaaGreat
open Go.RowKit
attribute [local go_sem] Oper.semAt_some
set_option maxHeartbeats 1000000
set_option maxRecDepth 4000

structure TblAt (W : World) (b m : Nat) (D : Tb) : Prop where
 blk : Blk W b #[.map (some m)] 193
 mp : MapP encE W m D
section
variable {W W' : World} {b m : Nat} {D : Tb}
theorem TblAt.ne (h : TblAt W b m D) : b ≠ m := by
 rintro rfl
 obtain ⟨l, _, es, cl, h1, _⟩ := h.mp
 have h2 := h.blk
 unfold Blk at h2
 rw [h1] at h2; cases h2
theorem TblAt.below {n : Nat} (h : TblAt W b m D) (k : Below n W W') (h1 : b < n) (h2 : m < n) : TblAt W' b m D := ⟨h.blk.below k h1, h.mp.below k h2⟩
theorem TblAt.step (h : TblAt W b m D) (k : Below W.heap.size W W') : TblAt W' b m D := h.below k h.blk.lt h.mp.lt
theorem TblAt.alloc (h : TblAt W b m D) (o : Obj) : TblAt (W.alloc o) b m D := h.step ((Below.refl _ W).alloc (Nat.le_refl _) o)
theorem TblAt.chg {c : Nat} (h : TblAt W b m D) (k : Chg c W W') (h1 : b ≠ c) (h2 : m ≠ c) : TblAt W' b m D := ⟨k.blk h.blk h1, h.mp.chg k h2⟩
theorem TblAt.cell (h : TblAt W b m D) : W.cell? ⟨b, 0, none⟩ = some (.map (some m)) := h.blk.cell 0 rfl
end
theorem zero_ent (w : World) : (zeroValue 97).run Tryz.prog w = .ok (encE ⟨0, 0, 0⟩) w := by kernel_rfl
theorem run_eql_map_nilP {P : Program} {t k e : TypeId} (ht : P.underlying t = some (.map k e)) (b : Nat) (w : World) : (binOp .eql t (.map (some b)) (.map none)).run P w = .ok (.bool false) w := by
 have h1 : ∀ d : Nat, (Op.equalIn (d + 1) t (.map (some b)) (.map none)).run P w = .ok false w := fun d => by simp [Op.equalIn, run_underlying ht]
 simp only [binOp]
 simp [Op.equal, Op.maxDepth, h1 9999]
theorem none_liveP {w : World} {b m : Nat} {D : Tb} (h : TblAt w b m D) : Calls Tryz.prog 150 #[.pointer (some ⟨b, 0, none⟩)] w fun e w' => e = .returned (.bool false) ∧ Below w.heap.size w w' := by
 have c0 := h.cell
 have he := run_eql_map_nilP (P := Tryz.prog) Tryz.underlying191 m w
 go_enter Tryz.func150, Tryz.ntmps150
 go_wp2_with fail
 go_ret
 exact ⟨rfl, Below.refl _ _⟩
theorem New_callsP (w : World) : Calls Tryz.prog 79 #[] w fun e w' => ∃ b m : Nat, e = .returned (.pointer (some ⟨b, 0, none⟩)) ∧ TblAt w' b m [] ∧ w.heap.size ≤ m ∧ w.heap.size ≤ b ∧ Below w.heap.size w w' := by
 have hmm := @run_makeMap Tryz.prog
 go_enter Tryz.func79, Tryz.ntmps79
 go_wp2_with fail
 go_ret
 exact ⟨_, _, rfl, ⟨Blk.newAt _ _ _ (by simp), (MapP.new w).alloc _⟩, Nat.le_refl _, by omega, ((Below.refl _ w).alloc (Nat.le_refl _) _).alloc (by simp) _⟩
theorem is_callsP (p : Option Addr) (w : World) : Calls Tryz.prog 157 #[.pointer p] w fun e w' => e = .returned (.agg #[.func (.func 150) #[.pointer p] #[], .int .i64 1]) ∧ Below w.heap.size w w' := by
 go_enter Tryz.func157, Tryz.ntmps157
 go_wp2_with fail
 exact bodyPost_ret (v := .agg #[.func (.func 150) #[.pointer p] #[], .int .i64 1]) (by simp [results, Tryz.results157, go_sem]) rfl ⟨rfl, (Below.refl _ w).alloc (Nat.le_refl _) _⟩
theorem may_calls (n : Int) (w : World) : Calls Tryz.prog 158 #[.int .i64 n] w fun e w' => e = .returned (.agg #[.func (.func 191) #[] #[.pointer (some ⟨w.heap.size, 0, none⟩)], .int .i64 2]) ∧ Blk w' w.heap.size #[.int .i64 n] 95 ∧ Below w.heap.size w w' := by
 go_enter Tryz.func158, Tryz.ntmps158
 go_wp2_with fail
 exact bodyPost_ret (v := .agg #[.func (.func 191) #[] #[.pointer (some ⟨w.heap.size, 0, none⟩)], .int .i64 2]) (by simp [results, Tryz.results158, go_sem]) rfl ⟨rfl, (Blk.new w _ _).alloc _, ((Below.refl _ w).alloc (Nat.le_refl _) _).alloc (by simp) _⟩
theorem may1_calls (n : Int) (p : Nat) (w : World) (hp : w.cell? ⟨p, 0, none⟩ = some (.int .i64 n)) : Calls Tryz.prog 191 #[.pointer (some ⟨p, 0, none⟩)] w fun e w' => e = .returned (.bool (badM n)) ∧ Below w.heap.size w w' := by
 by_cases h1 : n < 0
 ·have hb : badM n = true := by simp [badM, h1]
  go_enter Tryz.func191, Tryz.ntmps191
  go_wp2_with fail
  go_ret
  exact ⟨by first | rfl | (rw [hb]; rfl), Below.refl _ _⟩
 ·by_cases h2 : 2 < n
  ·have hb : badM n = true := by simp [badM, h2]
   go_enter Tryz.func191, Tryz.ntmps191
   go_wp2_with fail
   go_ret
   exact ⟨by first | rfl | (rw [hb]; rfl), Below.refl _ _⟩
  ·have hb : badM n = false := by simp [badM]; omega
   go_enter Tryz.func191, Tryz.ntmps191
   go_wp2_with fail
   go_ret
   exact ⟨by first | rfl | (rw [hb]; rfl), Below.refl _ _⟩
theorem in_calls (n : Int) (w : World) : Calls Tryz.prog 160 #[.int .i64 n] w fun e w' => e = .returned (.agg #[.func (.func 192) #[] #[.pointer (some ⟨w.heap.size, 0, none⟩)], .int .i64 4]) ∧ Blk w' w.heap.size #[.int .i64 n] 3 ∧ Below w.heap.size w w' := by
 go_enter Tryz.func160, Tryz.ntmps160
 go_wp2_with fail
 exact bodyPost_ret (v := .agg #[.func (.func 192) #[] #[.pointer (some ⟨w.heap.size, 0, none⟩)], .int .i64 4]) (by simp [results, Tryz.results160, go_sem]) rfl ⟨rfl, (Blk.new w _ _).alloc _, ((Below.refl _ w).alloc (Nat.le_refl _) _).alloc (by simp) _⟩
theorem in1_calls (n : Int) (p : Nat) (w : World) (hp : w.cell? ⟨p, 0, none⟩ = some (.int .i64 n)) : Calls Tryz.prog 192 #[.pointer (some ⟨p, 0, none⟩)] w fun e w' => e = .returned (.bool (badP n)) ∧ Below w.heap.size w w' := by
 by_cases h1 : n < 0
 ·have hb : badP n = true := by simp [badP, h1]
  go_enter Tryz.func192, Tryz.ntmps192
  go_wp2_with fail
  go_ret
  exact ⟨by first | rfl | (rw [hb]; rfl), Below.refl _ _⟩
 ·by_cases h2 : 65536 ≤ n
  ·have hb : badP n = true := by simp [badP, h2]
   go_enter Tryz.func192, Tryz.ntmps192
   go_wp2_with fail
   go_ret
   exact ⟨by first | rfl | (rw [hb]; rfl), Below.refl _ _⟩
  ·have hb : badP n = false := by simp [badP]; omega
   go_enter Tryz.func192, Tryz.ntmps192
   go_wp2_with fail
   go_ret
   exact ⟨by first | rfl | (rw [hb]; rfl), Below.refl _ _⟩
theorem look_ent (D : Tb) (k : Int) : ((getR D k).map encE).getD (encE ⟨0, 0, 0⟩) = .agg #[.int .i64 (getE D k).o, .int .i64 (getE D k).m, .int .i64 (getE D k).f] := by
 unfold getE
 cases getR D k <;> rfl
theorem TblAt.look {w : World} {b m : Nat} {D : Tb} (h : TblAt w b m D) (p : Int) : (Instr.lookup 191 (.map (some m)) (.int .i64 p) false).run Tryz.prog w = .ok (.agg #[.int .i64 (getE D p).o, .int .i64 (getE D p).m, .int .i64 (getE D p).f]) w ∧
  (Instr.lookup 191 (.map (some m)) (.int .i64 p) true).run Tryz.prog w = .ok (.tuple #[.agg #[.int .i64 (getE D p).o, .int .i64 (getE D p).m, .int .i64 (getE D p).f], .bool (hasR D p)]) w := by
 have := h.mp.lookup (P := Tryz.prog) Tryz.underlying191 Tryz.underlying3 (zero_ent w) p
 rwa [look_ent] at this
theorem mapped_calls {w : World} {b m : Nat} {D : Tb} (h : TblAt w b m D) (p : Int) : Calls Tryz.prog 162 #[.pointer (some ⟨b, 0, none⟩), .int .i64 p] w fun e w' => e = .returned (.bool (hasR D p)) ∧ Below w.heap.size w w' := by
 have c0 := h.cell
 have hlk := (h.look p).2
 go_enter Tryz.func162, Tryz.ntmps162
 go_wp2_with fail
 go_ret
 exact ⟨rfl, (Below.refl _ w).alloc (Nat.le_refl _) _⟩
/-! ### Whether a frame is somebody's -/
theorem frame1_calls (x : Ent) (f : Int) (p : Nat) (w : World) (hp : w.cell? ⟨p, 0, none⟩ = some (.int .i64 f)) :
  Calls Tryz.prog 194 #[encE x, .pointer (some ⟨p, 0, none⟩)] w fun e w' => e = .returned (.bool (x.f == f)) ∧ Below w.heap.size w w' := by
 have hpl := World.block_lt_of_cell? w _ hp
 obtain ⟨w0, hw0⟩ : ∃ w0, w.alloc (.cells #[.int .i64 x.o, .int .i64 x.m, .int .i64 x.f] 97) = w0 := ⟨_, rfl⟩
 have hX : Blk w0 w.heap.size #[.int .i64 x.o, .int .i64 x.m, .int .i64 x.f] 97 := by rw [← hw0]; exact Blk.new w _ _
 have hb0 : Below w.heap.size w w0 := by rw [← hw0]; exact (Below.refl _ w).alloc (Nat.le_refl _) _
 have c0 : w0.cell? ⟨w.heap.size, 2, none⟩ = some (.int .i64 x.f) := hX.cell 2 rfl
 have c1 : w0.cell? ⟨p, 0, none⟩ = some (.int .i64 f) := (hb0.cell (p := ⟨p, 0, none⟩) hpl).trans hp
 unfold encE
 go_enter Tryz.func194, Tryz.ntmps194
 go_wp2_with fail
 go_ret
 exact ⟨rfl, hb0⟩
theorem some_ok {w : World} {m : Nat} {D : Tb} (f : Int) (p : Nat) (hlen : D.length ≤ 1000000) (hD : MapP encE w m D) (hp : w.cell? ⟨p, 0, none⟩ = some (.int .i64 f)) :
  Calls Tryz.prog 193 #[.map (some m), .func (.func 194) #[] #[.pointer (some ⟨p, 0, none⟩)]] w fun e w' => e = .returned (.bool (frmR D f)) ∧ Below w.heap.size w w' := by
 obtain ⟨o, hrun, hR⟩ := hD.range (P := Tryz.prog) Tryz.underlying190
 go_enter Tryz.func193, Tryz.ntmps193
 go_wp2_with fail
 have hb0 : Below w.heap.size w (w.alloc o) := (Below.refl _ w).alloc (Nat.le_refl _) _
 generalize w.alloc o = w0 at hR hb0 ⊢
 clear hrun
 go_loopw [] (fun wr => ∃ left : Tb, (∀ x ∈ left, x ∈ D) ∧ (∀ x ∈ D, x ∈ left ∨ x.2.f ≠ f) ∧ RangeP encE wr w.heap.size m D left ∧ Below w.heap.size w wr) (fun wr => rangeN D.length w.heap.size wr)
 case atStart => exact ⟨D, fun _ h => h, fun _ h => .inl h, hR, hb0⟩
 case round =>
  obtain ⟨left, hsub, hall, hRr, hb⟩ := hrel
  have hz := hb.size
  have hbl := hRr.lt
  have hbf := hD.lt
  rcases hRr.next (P := Tryz.prog) (by omega) 0 with ⟨rfl, hrun⟩ | ⟨x, hx, wn, hrun, hRn, hTn, hent⟩
  ·have hno : frmR D f = false := by
    unfold frmR
    rw [List.any_eq_false]
    intro x hx
    rcases hall x hx with h | h
    ·simp at h
    ·simpa using h
   have HNO := Lib.hid hno
   clear hno
   go_wp2_with fail
   go_ret
   exact ⟨by rw [HNO.out]; rfl, hb⟩
  ·have hpl := World.block_lt_of_cell? w _ hp
   have hbn : Below w.heap.size w wn := hb.trans (hTn.below (Nat.le_refl _))
   unfold encE at hrun hent
   obtain ⟨w2, hw2⟩ : ∃ w2, wn.alloc (.cells #[.int .i64 x.2.o, .int .i64 x.2.m, .int .i64 x.2.f] 97) = w2 := ⟨_, rfl⟩
   have hk2 : Below wn.heap.size wn w2 := by rw [← hw2]; exact (Below.refl _ wn).alloc (Nat.le_refl _) _
   have hX : Blk w2 wn.heap.size #[.int .i64 x.2.o, .int .i64 x.2.m, .int .i64 x.2.f] 97 := by rw [← hw2]; exact Blk.new wn _ _
   have hb2 := hbn.trans (hk2.mono hbn.size)
   have hp2 : w2.cell? ⟨p, 0, none⟩ = some (.int .i64 f) := (hb2.cell (p := ⟨p, 0, none⟩) hpl).trans hp
   have hcall := Lib.hid (frame1_calls x.2 f p w2 hp2)
   have hRr2 := hRn.step hk2
   have hm0 := hRr.count
   have q0 := hX.cell 0 rfl
   have q1 := hX.cell 1 rfl
   have q2 := hX.cell 2 rfl
   have hlt := delR_lt (hasR_mem.2 (List.mem_map_of_mem hx) : hasR left x.1 = true)
   unfold encE at hcall
   cases hw9 : (x.2.f == f)
   ·rw [hw9] at hcall
    have HW := Lib.hid hw9
    clear hw9
    go_wp2_with fail
    refine hcall.out.mono ?_; rintro e w3 ⟨rfl, h3⟩
    have hRr3 := hRr2.step h3
    have hm1 := hRr3.count
    go_wp2_with fail
    go_roundw
    case rel => exact ⟨_, fun y hy => hsub y (delR_mem.1 hy).1, fun y hy => by
      rcases hall y hy with h | h
      ·by_cases e : y.1 = x.1
       ·right
        have h1 := getR_some hD.nodup hy
        have h2 := getR_some hD.nodup (hsub x hx)
        rw [e, h2] at h1
        have h4 : x.2 = y.2 := Option.some.inj h1
        rw [← h4]
        simpa using HW.out
       ·exact .inl (delR_mem.2 ⟨h, e⟩)
      ·exact .inr h, hRr3, hb2.trans (h3.mono hb2.size)⟩
    case measure => rw [hm0, hm1]; exact hlt
   ·rw [hw9] at hcall
    have hyes : frmR D f = true := List.any_eq_true.2 ⟨x, hsub x hx, hw9⟩
    have HY := Lib.hid hyes
    clear hw9 hyes
    go_wp2_with fail
    refine hcall.out.mono ?_; rintro e w3 ⟨rfl, h3⟩
    go_wp2_with fail
    go_ret
    exact ⟨by rw [HY.out]; rfl, hb2.trans (h3.mono hb2.size)⟩
end Go.Proofs.YtlpchcdalfkfcaaGreat

