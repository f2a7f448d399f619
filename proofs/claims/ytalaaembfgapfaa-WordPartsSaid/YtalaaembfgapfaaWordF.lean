/-
  Package pinfoldlaw01: lent, kept, works.
-/
import Derived.Test.YtalaaembfgapfaaWordE
import Derived.Laws.BytesArg
namespace Go.Proofs.Ytalaaembfgapfaa
open Go.RowKit
set_option maxHeartbeats 400000

/-- string(b) of a slice that is read. -/
theorem run_convert_row {P : Program} {B : Nat} {w : World} {v : Value} (xs : List Int) (h : RowAt B w v xs.length (intVals .u8 xs)) {src e dst : TypeId} (hs : P.underlying src = some (.slice e)) (he : P.underlying e = some (.int .u8)) (hd : P.underlying dst = some .string) :
    (convert src dst v).run P w = .ok (.string (strOfNums xs)) w := by
  obtain ⟨a, cap, rfl, ⟨_, hn⟩, hc⟩ := h
  rcases hc with h0 | ⟨b, off, rfl, _, hc⟩
  · obtain rfl : xs = [] := by simpa [intVals] using h0
    cases a with
    | none => exact run_convert_bytes_nil w src e hs he _ _ dst hd
    | some a =>
      rw [run_convert_bytes_string w src dst e _ _ cap hs he hd]
      have := run_loadCells_list (P := P) (w := w) a [] (by intro j v hj; simp at hj)
      rw [run_bytesToString w a _ cap [] (by simpa using this)]
      rfl
  · refine run_convert_bytes_arg w src e hs he b off _ cap xs rfl (fun i hi => ?_) dst hd
    rw [hc i (by simpa [intVals] using hi), intVals_get _ _ _ hi]
    simp [List.getD, hi]

/-- Bytes in memory of their own, one more behind. -/
theorem lent_ok (v : Value) (l : List Int) (B : Nat) (w : World) (hB : B ≤ w.heap.size) (hl : l.length < 140737488355328) (hv : RowAt B w v l.length (intVals .u8 l)) :
    Calls Try.prog 14 #[v] w fun e w' => ∃ g cp : Nat, e = .returned (.slice (some ⟨g, 0, none⟩) l.length cp) ∧
      w'.ownsRow w.heap.size 5 1 (.slice (some ⟨g, 0, none⟩) (l.length + 1) cp) (l.length + 1) (intVals .u8 l ++ [.int .u8 77]) ∧ Below w.heap.size w w' := by
  obtain ⟨ad, cap, rfl, hcap, hrow⟩ := id hv
  have HIL := Lib.hid (intVals_len .u8 l)
  go_enter Try.func14, Try.ntmps14
  go_wp2_with (at_builtin; refine wpList_append_row rfl _ _ 23 rfl w.heap.size Try.underlying23 info8 0 [] rfl ?c1 B l.length (intVals .u8 l) rfl ?c2 ?c3 ?c4 ?c5 ?c6 ?c7 ?_)
  case c1 => exact World.ownsRow_made w #[] 0 (Nat.le_refl _) (by decide) rfl
  case c2 => exact hv.below ((Below.refl _ w).alloc (Nat.le_refl _) _) hB
  case c3 => rw [HIL.out]; omega
  case c4 => intro u hu; simp only [intVals, List.mem_map] at hu; obtain ⟨x, _, rfl⟩ := hu; rfl
  case c5 => unfold maxLen; omega
  case c6 => omega
  case c7 => simp
  intro v1 w1 ho1 hg1
  have hb1 : Below w.heap.size w w1 := ((Below.refl _ w).alloc (Nat.le_refl _) _).grown hg1 (by simp) (fun k e => by cases e; exact Nat.le_refl _)
  have hz1 := hb1.size
  clear hg1
  go_wp2_with (at_builtin; refine wpList_append_row rfl _ _ 23 rfl w.heap.size Try.underlying23 info8 l.length (intVals .u8 l) rfl ?c1 (w1.heap.size + 1) 1 [.int .u8 77] rfl ?c2 ?c3 ?c4 ?c5 ?c6 ?c7 ?_)
  case c1 => exact ho1.alloc _
  case c2 => exact RowAt.lit w1 #[.int .u8 77] 5 1 _ (by omega)
  case c3 => rfl
  case c4 => intro u hu; simp at hu; subst hu; rfl
  case c5 => unfold maxLen; omega
  case c6 => omega
  case c7 => simp; omega
  intro v2 w2 ho2 hg2
  obtain ⟨g, cp, rfl⟩ := ownsRow_succ ho2
  have hb2 : Below w.heap.size w w2 := (hb1.alloc hz1 _).appended (ho1.alloc _) hg2 (Nat.le_refl _) (by simp; omega)
  clear hg2
  obtain ⟨hg0, hg1, hg2, hg3⟩ := owns_slice ho2
  have i0 : ((l.length : Nat) : Int) ≤ (cp : Int) := by omega
  go_wp2_with fail
  go_ret
  exact ⟨g, cp, rfl, ho2, hb2⟩

theorem kept_ok (g cp : Nat) (vb : Value) (l : List Int) (B : Nat) (w : World) (hcp : l.length + 1 ≤ cp) (hcm : cp ≤ maxLen) (hm : RowAt B w (.slice (some ⟨g, 0, none⟩) l.length cp) l.length (intVals .u8 l)) (hb : RowAt B w vb l.length (intVals .u8 l))
    (h77 : w.cell? ⟨g, l.length, none⟩ = some (.int .u8 77)) :
    Calls Try.prog 16 #[.slice (some ⟨g, 0, none⟩) l.length cp, vb] w fun e w' => e = .returned (.bool true) ∧ w = w' := by
  have hr1 := run_convert_row (P := Try.prog) l hm Try.underlying23 Try.underlying5 Try.underlying9
  have hr2 := run_convert_row (P := Try.prog) l hb Try.underlying23 Try.underlying5 Try.underlying9
  obtain ⟨ad, cap, rfl, _, _⟩ := hb
  unfold maxLen at hcm
  have i0 : ((l.length : Nat) : Int) + 1 ≤ (cp : Int) := by omega
  go_enter Try.func16, Try.ntmps16
  go_wp2_with fail
  go_ret
  exact ⟨rfl, rfl⟩
theorem lit_row (w : World) (xs : List Int) (t : TypeId) (n B : Nat) (hn : n = xs.length) (hB : w.heap.size < B) : RowAt B (w.alloc (.cells (intVals .u8 xs).toArray t)) (.slice (some ⟨w.heap.size, 0, none⟩) n n) xs.length (intVals .u8 xs) := by
  subst hn
  have := RowAt.lit w (intVals .u8 xs).toArray t xs.length B hB
  simpa using this
theorem lit_row' (w : World) (xs : List Int) (t : TypeId) (n B b : Nat) (hn : n = xs.length) (hb : w.heap.size = b) (hB : b < B) : RowAt B (w.alloc (.cells (intVals .u8 xs).toArray t)) (.slice (some ⟨b, 0, none⟩) n n) xs.length (intVals .u8 xs) := by
  subst hb; exact lit_row w xs t n B hn hB
theorem works_ok (w : World) : Calls Try.prog 12 #[] w fun e w' => e = .returned (.bool true) ∧ Below w.heap.size w w' := by
  go_enter Try.func12, Try.ntmps12
  go_wp2_with fail
  refine (Put_ok 258 2 (by decide) (by decide) rfl rfl w).mono ?_; rintro e w1 ⟨v1, rfl, ho1, hb1⟩
  have hz1 := hb1.size
  have hr : bytesI 258 2 = [2, 1] := by decide
  rw [hr] at ho1
  obtain ⟨ad, cap, rfl, _, _⟩ := RowAt.of_owns ho1 (Nat.le_refl _)
  have hrow : RowAt w1.heap.size w1 (.slice ad 2 cap) ([2, 1] : List Int).length (intVals .u8 [2, 1]) := RowAt.of_owns ho1 (Nat.le_refl _)
  go_wp2_with fail
  refine (Put_range 256 1 (by decide) (by decide) rfl rfl w1).mono ?_; rintro e w2 ⟨rfl, hb2⟩
  have hz2 := hb2.size
  go_wp2_with fail
  refine (Put_arg 1 3 rfl w2).mono ?_; rintro e w3 ⟨rfl, hb3⟩
  have hz3 := hb3.size
  go_wp2_with fail
  refine (Get_ok _ [2, 1] (by decide) (w3.heap.size + 1) _ (by simp) rfl (lit_row w3 [2, 1] 5 2 _ rfl (by omega))).mono ?_; rintro e w4 ⟨rfl, hb4⟩
  have hz4 := hb4.size
  simp at hz4
  rw [show valI [2, 1] = 258 by decide]
  have hb4' : Below w.heap.size w w4 := (((hb1.trans (hb2.mono hz1)).trans (hb3.mono (by omega))).alloc (by omega) _).trans (hb4.mono (by simp; omega))
  have hrow4 := ((((hrow.below hb2 (Nat.le_refl _)).below hb3 hz2).below ((Below.refl _ w3).alloc (Nat.le_refl _) _) (by omega)).below hb4 (by simp; omega))
  have hcv := run_convert_row (P := Try.prog) [2, 1] hrow4 Try.underlying23 Try.underlying5 Try.underlying9
  have hstr : ((strOfNums [2, 1]).toList == [2, 1]) = true := by simp [strOfNums, ByteArray.toList, ByteArray.toList.loop, ByteArray.size, ByteArray.get!]
  clear hrow hrow4 ho1
  go_wp2_with fail
  refine (num_calls _ _).mono ?_; rintro e w' ⟨rfl, rfl⟩
  go_wp2_with fail
  refine (num_calls _ _).mono ?_; rintro e w' ⟨rfl, rfl⟩
  go_wp2_with fail
  refine (num_calls _ _).mono ?_; rintro e w' ⟨rfl, rfl⟩
  go_wp2_with fail
  refine (num_calls _ _).mono ?_; rintro e w' ⟨rfl, rfl⟩
  go_wp2_with fail
  refine (Zero_ok _ [0, 0] (w4.heap.size + 1) _ (by simp) (by decide) (lit_row w4 [0, 0] 5 2 _ rfl (by omega))).mono ?_; rintro e w5 ⟨rfl, hb5⟩
  have hz5 := hb5.size
  simp at hz5
  rw [show zeroI [0, 0] = true by decide]
  go_wp2_with fail
  refine (First_ok _ [0, 5] (w5.heap.size + 1) _ (by simp) (by decide) (lit_row w5 [0, 5] 5 2 _ rfl (by omega))).mono ?_; rintro e w6 ⟨rfl, hb6⟩
  have hz6 := hb6.size
  simp at hz6
  rw [show firstI [0, 5] = 1 by decide]
  go_wp2_with fail
  refine (Differ_ok _ _ [1, 2] [1, 3] (w6.heap.size + 2) _ (by simp) (by decide) (by decide) ((lit_row w6 [1, 2] 5 2 (w6.heap.size + 1) rfl (by omega)).below (m := w6.heap.size + 1) ((Below.refl _ _).alloc (by simp) _) (by simp) |>.mono (by omega)) (lit_row' _ [1, 3] 5 2 (w6.heap.size + 2) _ rfl (by simp) (by omega))).mono ?_; rintro e w7 ⟨rfl, hb7⟩
  have hz7 := hb7.size
  simp at hz7
  rw [show differI [1, 2] [1, 3] = 1 by decide]
  go_wp2_with fail
  refine (Differ_ok _ _ [1] [1, 0] (w7.heap.size + 2) _ (by simp) (by decide) (by decide) ((lit_row w7 [1] 5 1 (w7.heap.size + 1) rfl (by omega)).below (m := w7.heap.size + 1) ((Below.refl _ _).alloc (by simp) _) (by simp) |>.mono (by omega)) (lit_row' _ [1, 0] 5 2 (w7.heap.size + 2) _ rfl (by simp) (by omega))).mono ?_; rintro e w8 ⟨rfl, hb8⟩
  rw [show differI [1] [1, 0] = 1 by decide]
  go_wp2_with fail
  go_ret
  refine ⟨rfl, ?_⟩
  have h5 := (hb4'.alloc (by omega) _).trans (hb5.mono (by simp; omega))
  have h6 := (h5.alloc (by omega) _).trans (hb6.mono (by simp; omega))
  have h7 := ((h6.alloc (by omega) _).alloc (by simp; omega) _).trans (hb7.mono (by simp; omega))
  exact ((h7.alloc (by omega) _).alloc (by simp; omega) _).trans (hb8.mono (by simp; omega))
end Go.Proofs.Ytalaaembfgapfaa
