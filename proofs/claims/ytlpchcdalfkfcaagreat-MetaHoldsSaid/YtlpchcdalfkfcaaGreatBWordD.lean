/-
 Package word: First, Zero, Differ, and the reference's.
-/
import Derived.Test.YtlpchcdalfkfcaaGreatBWordA
import Derived.Laws.BytesArg
import Derived.Lib.AppendZeros
namespace Go.Proofs.YtlpchcdalfkfcaaGreat
open Go.RowKit
attribute [local go_sem] Oper.semAt_some
set_option maxHeartbeats 400000

end Go.Proofs.YtlpchcdalfkfcaaGreat


/-
 Package word: the reference's First and Differ.
-/
namespace Go.Proofs.YtlpchcdalfkfcaaGreat
open Go.RowKit
attribute [local go_sem] Oper.semAt_some
set_option maxHeartbeats 400000

end Go.Proofs.YtlpchcdalfkfcaaGreat


/-
 Package pinfoldlaw01: lent, kept, works.
-/
namespace Go.Proofs.YtlpchcdalfkfcaaGreat
open Go.RowKit
set_option maxHeartbeats 400000

end Go.Proofs.YtlpchcdalfkfcaaGreat


/-
 Package word, plain laws: a number's bytes say it again, and there and back.
-/
namespace Go.Proofs.YtlpchcdalfkfcaaGreat
theorem byteI_succ (n : Int) (i : Nat) : byteI n (i + 1) = byteI (n / 256) i := by
 unfold byteI
 rw [Int.pow_succ, Int.mul_comm, Int.ediv_ediv_of_nonneg (by decide)]
theorem bytesI_cons (n : Int) (k : Nat) : bytesI n (k + 1) = n % 256 :: bytesI (n / 256) k := by
 unfold bytesI
 rw [List.range_succ_eq_map, List.map_cons, List.map_map]
 congr 1
 ·simp [byteI]
 ·exact List.map_congr_left fun i _ => byteI_succ n i
theorem bytesI_bd (n : Int) (k : Nat) : ∀ x ∈ bytesI n k, 0 ≤ x ∧ x < 256 := by
 intro x hx
 simp only [bytesI, List.mem_map] at hx
 obtain ⟨i, _, rfl⟩ := hx
 exact byteI_bd n i
open Go.RowKit
/-- Bytes lent: with 77 behind. -/
structure LentAt (B : Nat) (W : World) (g cp : Nat) (l : List Int) : Prop where
 row : RowAt B W (.slice (some ⟨g, 0, none⟩) l.length cp) l.length (intVals .u8 l)
 c77 : W.cell? ⟨g, l.length, none⟩ = some (.int .u8 77)
 lt : g < B
 room : l.length + 1 ≤ cp
 cm : cp ≤ maxLen
end Go.Proofs.YtlpchcdalfkfcaaGreat


/-
 Package slices: Grow and Concat of bytes; package word: Joined.
-/
namespace Go.Proofs.YtlpchcdalfkfcaaGreat
open Go.RowKit
set_option maxHeartbeats 400000

/-- Slices that are read: v holds the slices vs, which read ls. -/
def RowsAt (B : Nat) (W : World) (v : Value) (vs : List Value) (ls : List (List Int)) : Prop :=
 RowAt B W v vs.length vs ∧ vs.length = ls.length ∧ ∀ (i : Nat) (h : i < vs.length) (h' : i < ls.length), RowAt B W vs[i] ls[i].length (intVals .u8 ls[i])
theorem Grow_ok (n : Nat) (hn : n ≤ 1000000) (w : World) : Calls Tryz.prog 209 #[.slice none 0 0, .int .i64 n] w fun e w' => ∃ v, e = .returned v ∧ w'.ownsRow w.heap.size 5 1 v 0 [] ∧ Below w.heap.size w w' := by
 by_cases h0 : n = 0
 ·subst h0
  go_enter Tryz.func209, Tryz.ntmps209
  go_wp2_with fail
  go_ret
  exact ⟨_, rfl, World.ownsRow_nil _ _ _ _, Below.refl _ _⟩
 ·have hn0 : 0 < n := by omega
  have g0 : ¬ (n : Int) < 0 := by omega
  have g1 : (0 : Int) < n := by omega
  obtain ⟨i, hi, hz, hsize, hby, hzs, hsz⟩ := info8O
  have hr := Lib.hid (Lib.run_append_nil_zeros (P := Tryz.prog) w 44 3 44 5 i (.int .u8 0) .i64 .i64 Tryz.underlying44 Tryz.underlying3 hi hz n hn0 (by omega) (by omega) (by rw [hby]; omega))
  have hge := grownCap_ge w n 0 5
  have hle := grownCap_le_maxLen w n 0 5 (by unfold maxLen; omega)
  have hlen : ((grownCap w n 0 5 : Nat) : Int) ≥ 0 := by omega
  go_enter Tryz.func209, Tryz.ntmps209
  go_wp2_with (at_builtin; refine Lib.wpList_append_run _ rfl _ _ _ _ rfl _ _ rfl rfl _ _ hr.out ?_)
  go_ret
  have hsz0 : (Builtin.zeroCells #[Value.int .u8 0] n ++ Builtin.zeroCells #[Value.int .u8 0] (grownCap w n 0 5 - n)).size = grownCap w n 0 5 * 1 := by
   simp [size_zeroCells]; omega
  have hb : Below w.heap.size w (w.alloc (Obj.cells (Builtin.zeroCells #[Value.int .u8 0] n ++ Builtin.zeroCells #[Value.int .u8 0] (grownCap w n 0 5 - n)) 5)).drew := ((Below.refl _ w).alloc (Nat.le_refl _) _).drewN 1
  refine ⟨_, rfl, ⟨rfl, .inr ⟨w.heap.size, _, Builtin.zeroCells #[Value.int .u8 0] n ++ Builtin.zeroCells #[Value.int .u8 0] (grownCap w n 0 5 - n), rfl, Nat.le_refl _, ?_, Nat.zero_le _, hle, hsz0, rfl⟩⟩, hb⟩
  exact (Blk.new w _ _).drew
/-- How many bytes the first k have. -/
def lenK (ls : List (List Int)) (k : Nat) : Nat := (ls.take k).flatten.length
theorem lenK_succ (ls : List (List Int)) (k : Nat) (h : k < ls.length) : lenK ls (k + 1) = lenK ls k + ls[k].length := by
 unfold lenK; rw [List.take_succ_eq_append_getElem h, List.flatten_append, List.length_append, List.flatten_singleton]
theorem flat_succ (ls : List (List Int)) (k : Nat) (h : k < ls.length) : (ls.take (k + 1)).flatten = (ls.take k).flatten ++ ls[k] := by
 rw [List.take_succ_eq_append_getElem h, List.flatten_append, List.flatten_singleton]
theorem lenK_le (ls : List (List Int)) (k : Nat) : lenK ls k ≤ ls.flatten.length := by
 unfold lenK
 have : ls.flatten.length = (ls.take k).flatten.length + (ls.drop k).flatten.length := by rw [← List.length_append, ← List.flatten_append, List.take_append_drop]
 omega
theorem lenK_all (ls : List (List Int)) : lenK ls ls.length = ls.flatten.length := by unfold lenK; rw [List.take_length]
theorem intVals_app (k : IntKind) (a b : List Int) : intVals k (a ++ b) = intVals k a ++ intVals k b := by simp [intVals]
theorem Concat_ok (v : Value) (vs : List Value) (ls : List (List Int)) (hl : ls.flatten.length ≤ 1000000) (hn : ls.length ≤ 1000000) (B : Nat) (w : World) (hB : B ≤ w.heap.size) (hv : RowsAt B w v vs ls) :
  Calls Tryz.prog 183 #[v] w fun e w' => ∃ v', e = .returned v' ∧ w'.ownsRow w.heap.size 5 1 v' ls.flatten.length (intVals .u8 ls.flatten) ∧ Below w.heap.size w w' := by
 obtain ⟨⟨ad, cap, rfl, _, hrow⟩, hlen, hrows⟩ := hv
 have HRow := Lib.hid hrow
 have HRows := Lib.hid hrows
 clear hrow hrows
 have HK := Lib.hid (lenK_le ls)
 go_enter Tryz.func183, Tryz.ntmps183
 go_wp2_with fail
 go_loopw [3, 11] (fun n i wr => ∃ k : Nat, k ≤ vs.length ∧ i = .int .i64 k ∧ n = .int .i64 (lenK ls k) ∧ w = wr) (fun _ i _ => vs.length - (intOf i).toNat)
 case atStart => exact ⟨0, by omega, rfl, rfl, rfl⟩
 case round =>
  obtain ⟨k, hk, rfl, rfl, rfl⟩ := hrel
  by_cases hlt : k < vs.length
  ·have hk' : k < ls.length := by omega
   have hs := lenK_succ ls k hk'
   have hle := HK.out k
   have hle' := HK.out (k + 1)
   rcases HRow.out with h0 | ⟨b, off, rfl, hbB, hc⟩
   ·subst h0; simp at hlt
   have hck := hc k hlt
   rw [List.getElem?_eq_getElem hlt] at hck
   obtain ⟨ad', cap', he, _, _⟩ := HRows.out k hlt hk'
   rw [he] at hck
   clear hc he
   have hs' : ((lenK ls (k + 1) : Nat) : Int) = (lenK ls k : Int) + (ls[k].length : Nat) := by omega
   have i0 : (0 : Int) ≤ k := by omega
   have i1 : (k : Int) < vs.length := by omega
   generalize lenK ls k = Lk at *
   generalize ls[k].length = Le at *
   have hs2 := Lib.hid hs'
   have hs3 : ¬ ((Lk : Int) + Le < 0) := by omega
   have hs4 : (Lk : Int) + Le ≤ 1000000 := by omega
   clear hs' hs hle'
   go_wp2_with fail
   go_roundw
   case rel => exact ⟨k + 1, by omega, by go_num, by rw [hs2.out], by trivial⟩
   case measure => simp [intOf]; omega
  ·obtain rfl : k = vs.length := by omega
   obtain ⟨T, hT⟩ : ∃ T, lenK ls vs.length = T := ⟨_, rfl⟩
   have hall := Lib.hid (show ls.flatten.length = T by rw [← hT, hlen]; exact (lenK_all ls).symm)
   have hT1 : T ≤ 1000000 := by have := hall.out; omega
   rw [hT]
   clear hT hl
   go_wp2_with fail
   refine (Grow_ok T hT1 w).mono ?_; rintro e w1 ⟨v1, rfl, ho1, hb1⟩
   have hz1 := hb1.size
   go_wp2_with fail
   go_loopw [6, 27] (fun n i wr => ∃ (k : Nat) (v' : Value), k ≤ vs.length ∧ i = .int .i64 k ∧ n = v' ∧ wr.ownsRow w.heap.size 5 1 v' (lenK ls k) (intVals .u8 (ls.take k).flatten) ∧ Below w.heap.size w wr) (fun _ i _ => vs.length - (intOf i).toNat)
   case atStart => exact ⟨0, _, by omega, rfl, rfl, ho1, hb1⟩
   case round =>
    obtain ⟨k, v', hk, rfl, rfl, ho, hb⟩ := hrel
    have hz := hb.size
    by_cases hlt : k < vs.length
    ·have hk' : k < ls.length := by omega
     have hs := Lib.hid (lenK_succ ls k hk')
     have hfs := Lib.hid (flat_succ ls k hk')
     have hle' := HK.out (k + 1)
     rcases HRow.out with h0 | ⟨b, off, rfl, hbB, hc⟩
     ·subst h0; simp at hlt
     have hck := (hb.cell (p := ⟨b, off + k, none⟩) (by dsimp only; omega)).trans (hc k hlt)
     rw [List.getElem?_eq_getElem hlt] at hck
     have hrk := (HRows.out k hlt hk').below hb hB
     clear hc
     have i0 : (0 : Int) ≤ k := by omega
     have i1 : (k : Int) < vs.length := by omega
     go_wp2_with (at_builtin; refine wpList_append_row rfl _ _ 44 rfl w.heap.size Tryz.underlying44 info8O (lenK ls k) (intVals .u8 (ls.take k).flatten) rfl ?c1 B ls[k].length (intVals .u8 ls[k]) rfl ?c2 ?c3 ?c4 ?c5 ?c6 ?c7 ?_)
     case c1 => exact ho
     case c2 => exact hrk
     case c3 => rw [intVals_len]; omega
     case c4 => intro u hu; simp only [intVals, List.mem_map] at hu; obtain ⟨x, _, rfl⟩ := hu; rfl
     case c5 => have := hs.out; have := hall.out; unfold maxLen; omega
     case c6 => have := hs.out; have := hall.out; omega
     case c7 => exact hz
     intro v2 w2 ho2 hg2
     have hb2 : Below w.heap.size w w2 := hb.appended ho hg2 (Nat.le_refl _) hz
     rw [← hs.out, ← intVals_app, ← hfs.out] at ho2
     clear hg2 ho hck hrk
     go_wp2_with fail
     go_roundw
     case rel => exact ⟨k + 1, v2, by omega, by go_num, rfl, ho2, hb2⟩
     case measure => simp [intOf]; omega
    ·obtain rfl : k = vs.length := by omega
     have e1 : ls.take vs.length = ls := by rw [hlen, List.take_length]
     have e2 : lenK ls vs.length = ls.flatten.length := by rw [hlen]; exact lenK_all ls
     rw [e1, e2] at ho
     clear e1 e2
     go_wp2_with fail
     go_ret
     exact ⟨_, rfl, ho, hb⟩
theorem Joined_ok (v : Value) (vs : List Value) (ls : List (List Int)) (hl : ls.flatten.length ≤ 1000000) (hn : ls.length ≤ 1000000) (B : Nat) (w : World) (hB : B ≤ w.heap.size) (hv : RowsAt B w v vs ls) :
  Calls Tryz.prog 130 #[v] w fun e w' => ∃ v', e = .returned v' ∧ w'.ownsRow w.heap.size 5 1 v' ls.flatten.length (intVals .u8 ls.flatten) ∧ Below w.heap.size w w' := by
 go_enter Tryz.func130, Tryz.ntmps130
 go_wp2_with fail
 refine (Concat_ok v vs ls hl hn B w hB hv).mono ?_; rintro e w1 ⟨v1, rfl, ho, hb⟩
 go_wp2_with fail
 go_ret
 exact ⟨_, rfl, ho, hb⟩
end Go.Proofs.YtlpchcdalfkfcaaGreat

