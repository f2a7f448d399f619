/-
  Package pinfoldlaw04: BitsPlays. No condition.
-/
import Derived.Test.YtbkegknfmcanaaaDoorBiW
namespace Go.Proofs.YtbkegknfmcanaaaDoor
open Go.ChangeShapes Go.WideShapes Go.ChangeAt Go.RowKit
attribute [local go_sem] Oper.semAt_some
set_option maxHeartbeats 400000
set_option maxRecDepth 8000

def OffP (lo hi : Nat) (p : Option Addr) : Prop := ∀ b off, p = some ⟨b, off, none⟩ → b < lo ∨ hi ≤ b
theorem NoMk.lt {W : World} {p : Option Addr} (h : NoMk W p) (b off : Nat) (e : p = some ⟨b, off, none⟩) : b < W.heap.size := by
  rcases h with rfl | ⟨s, rfl, hc⟩
  · cases e
  · simp only [Option.some.injEq, Addr.mk.injEq, and_true] at e
    obtain ⟨rfl, _⟩ := e
    exact World.block_lt_of_cell? W _ hc
theorem NoMk.tur {lo hi : Nat} {W W' : World} {p : Option Addr} (h : NoMk W p) (k : Tur lo hi W W') (ho : OffP lo hi p) : NoMk W' p := by
  rcases h with rfl | ⟨s, rfl, hc⟩
  · exact .inl rfl
  · refine .inr ⟨s, rfl, ?_⟩
    have hlt := World.block_lt_of_cell? W _ hc
    exact (World.cell?_of_block (a := ⟨s, 2, none⟩) (k.block s hlt (by have := ho s 0 rfl; omega))).trans hc
/-- A sheet and the document's list beside it, and one that is none. -/
structure Ply (w wr : World) (p : Option Addr) (lo hi s : Nat) (v : Value) (L : List Bool) : Prop where
  run : Run w.heap.size w wr lo hi s L
  row : RowAt wr.heap.size wr v L.length (bvals L)
  off : OffV lo hi v
  no : NoMk wr p
  offp : OffP lo hi p
theorem Ply.step {w wr w1 : World} {p : Option Addr} {lo hi s : Nat} {v : Value} {L : List Bool} (h : Ply w wr p lo hi s v L) (k : Below wr.heap.size wr w1) : Ply w w1 p lo hi s v L :=
  ⟨h.run.step k, (h.row.below k (Nat.le_refl _)).mono k.size, h.off, h.no.step k, h.offp⟩
theorem Ply.act {w wr w1 : World} {p : Option Addr} {lo hi s lo' hi' s' : Nat} {v v' : Value} {L L' : List Bool} (h : Ply w wr p lo hi s v L) (k : ActE w.heap.size w wr w1 lo hi v s' v' lo' hi' L') : Ply w w1 p lo' hi' s' v' L' := by
  refine ⟨k.run, k.row, k.off, h.no.tur k.tur h.offp, ?_⟩
  rcases k.rng with ⟨rfl, rfl⟩ | h1
  · exact h.offp
  · exact fun b off e => .inl (Nat.lt_of_lt_of_le (h.no.lt b off e) h1)
theorem plays_body (many : Int) (v1 : Value) (l : List ActV) (w : World) (hv : ActsAt w.heap.size w v1 l) :
    Calls Tryd.prog 6 #[.int .i64 many, v1] w fun e w' => e = .returned (.bool true) ∧ Below w.heap.size w w' := by
  have HV := Lib.hid hv
  obtain ⟨ad, cap, rfl, hcap, hmx, _⟩ := hv
  have hml : l.length ≤ 9223372036854775807 := by unfold maxLen at hmx; omega
  have HNth := Lib.hid (fun (W : World) {p : Option Addr} (h : NoMk W p) => Nth_ok (L := []) (.inl ⟨h, rfl⟩) 0 false (by decide))
  have HNext := Lib.hid (fun (W : World) {p : Option Addr} (h : NoMk W p) => Next_ok (L := []) (.inl ⟨h, rfl⟩) 0 false (by decide))
  rw [show nthV (sucL [] 0 false) 0 = 0 from rfl, show nthB (sucL [] 0 false) 0 = false from rfl] at HNth HNext
  clear hmx
  by_cases h1 : 60 < l.length
  · go_enter Tryd.func6, Tryd.ntmps6
    go_wp2_with fail
    refine (works_ok _).mono ?_; rintro e w1 ⟨rfl, k⟩
    go_wp2_with fail
    go_ret
    exact ⟨rfl, k⟩
  by_cases hm : many < 0 ∨ 4096 < many
  · go_enter Tryd.func6, Tryd.ntmps6
    go_wp2_with fail
    refine (New_no many w hm).mono ?_; rintro e _ ⟨rfl, rfl⟩
    go_wp2_with fail
    refine (rNew_no many w hm).mono ?_; rintro e _ ⟨rfl, rfl⟩
    go_wp2_with fail
    · have HN := Lib.hid (show NoMk (w.alloc (.cells #[.int .i64 0, .slice none 0 0, .bool false] 50)) (some ⟨w.heap.size, 0, none⟩) from .inr ⟨_, rfl, (Blk.new w #[.int .i64 0, .slice none 0 0, .bool false] 50).cell 2 rfl⟩)
      have k0 : Below w.heap.size w (w.alloc (.cells #[.int .i64 0, .slice none 0 0, .bool false] 50)) := (Below.refl _ w).alloc (Nat.le_refl _) _
      refine (Set_none HN.out 0 true).mono ?_; rintro e _ ⟨rfl, rfl⟩
      go_wp2_with fail
      refine (HNth.out _ HN.out).mono ?_; rintro e u1 ⟨rfl, j1⟩
      have HN1 := Lib.hid (HN.out.step j1)
      go_wp2_with fail
      refine (HNext.out _ HN1.out).mono ?_; rintro e u2 ⟨rfl, j2⟩
      have HN2 := Lib.hid (HN1.out.step j2)
      replace j1 := j1.trans (j2.mono j1.size)
      clear j2 HN1
      go_wp2_with fail
      refine (num_calls _ _).mono ?_; rintro e _ ⟨rfl, rfl⟩
      go_wp2_with fail
      refine (Has_none HN2.out 0).mono ?_; rintro e u3 ⟨rfl, j2⟩
      have HN3 := Lib.hid (HN2.out.step j2)
      replace j1 := j1.trans (j2.mono j1.size)
      clear j2 HN2
      go_wp2_with fail
      refine (Len_none HN3.out).mono ?_; rintro e _ ⟨rfl, rfl⟩
      go_wp2_with fail
      refine (Count_none HN3.out).mono ?_; rintro e _ ⟨rfl, rfl⟩
      go_wp2_with fail
      refine (all_ok (L := []) (.inl ⟨HN3.out, rfl⟩) 9 (by decide) (by decide)).mono ?_; rintro e u4 ⟨va, rfl, o2, j2⟩
      have HN4 := Lib.hid (HN3.out.step j2)
      obtain ⟨aa, ac, rfl, _⟩ := (RowAt.of_owns o2 (Nat.le_refl _)).len
      rw [show (sucL [] 0 true).length = 0 from rfl]
      replace j1 := j1.trans (j2.mono j1.size)
      clear o2 j2 HN3
      go_wp2_with fail
      refine (Text_none HN4.out).mono ?_; rintro e u5 ⟨rfl, j2⟩
      have HN5 := Lib.hid (HN4.out.step j2)
      replace j1 := j1.trans (j2.mono j1.size)
      clear j2 HN4
      go_wp2_with fail
      refine (Copy_none HN5.out).mono ?_; rintro e _ ⟨rfl, rfl⟩
      go_wp2_with fail
      refine (Same_nn HN5.out (.inl rfl)).mono ?_; rintro e _ ⟨rfl, rfl⟩
      go_wp2_with fail
      refine (Same_nn (.inl rfl) HN5.out).mono ?_; rintro e _ ⟨rfl, rfl⟩
      go_wp2_with fail
      refine (num_calls _ _).mono ?_; rintro e _ ⟨rfl, rfl⟩
      go_wp2_with fail
      refine (works_ok _).mono ?_; rintro e u9 ⟨rfl, j2⟩
      replace j1 := j1.trans (j2.mono j1.size)
      go_wp2_with fail
      go_ret
      exact ⟨rfl, k0.trans (j1.mono k0.size)⟩
    · have HN := Lib.hid (show NoMk w none from .inl rfl)
      have k0 : Below w.heap.size w w := Below.refl _ _
      refine (Set_none HN.out 0 true).mono ?_; rintro e _ ⟨rfl, rfl⟩
      go_wp2_with fail
      refine (HNth.out _ HN.out).mono ?_; rintro e u1 ⟨rfl, j1⟩
      have HN1 := Lib.hid (HN.out.step j1)
      go_wp2_with fail
      refine (HNext.out _ HN1.out).mono ?_; rintro e u2 ⟨rfl, j2⟩
      have HN2 := Lib.hid (HN1.out.step j2)
      replace j1 := j1.trans (j2.mono j1.size)
      clear j2 HN1
      go_wp2_with fail
      refine (num_calls _ _).mono ?_; rintro e _ ⟨rfl, rfl⟩
      go_wp2_with fail
      refine (Has_none HN2.out 0).mono ?_; rintro e u3 ⟨rfl, j2⟩
      have HN3 := Lib.hid (HN2.out.step j2)
      replace j1 := j1.trans (j2.mono j1.size)
      clear j2 HN2
      go_wp2_with fail
      refine (Len_none HN3.out).mono ?_; rintro e _ ⟨rfl, rfl⟩
      go_wp2_with fail
      refine (Count_none HN3.out).mono ?_; rintro e _ ⟨rfl, rfl⟩
      go_wp2_with fail
      refine (all_ok (L := []) (.inl ⟨HN3.out, rfl⟩) 9 (by decide) (by decide)).mono ?_; rintro e u4 ⟨va, rfl, o2, j2⟩
      have HN4 := Lib.hid (HN3.out.step j2)
      obtain ⟨aa, ac, rfl, _⟩ := (RowAt.of_owns o2 (Nat.le_refl _)).len
      rw [show (sucL [] 0 true).length = 0 from rfl]
      replace j1 := j1.trans (j2.mono j1.size)
      clear o2 j2 HN3
      go_wp2_with fail
      refine (Text_none HN4.out).mono ?_; rintro e u5 ⟨rfl, j2⟩
      have HN5 := Lib.hid (HN4.out.step j2)
      replace j1 := j1.trans (j2.mono j1.size)
      clear j2 HN4
      go_wp2_with fail
      refine (Copy_none HN5.out).mono ?_; rintro e _ ⟨rfl, rfl⟩
      go_wp2_with fail
      refine (Same_nn HN5.out (.inl rfl)).mono ?_; rintro e _ ⟨rfl, rfl⟩
      go_wp2_with fail
      refine (Same_nn (.inl rfl) HN5.out).mono ?_; rintro e _ ⟨rfl, rfl⟩
      go_wp2_with fail
      refine (num_calls _ _).mono ?_; rintro e _ ⟨rfl, rfl⟩
      go_wp2_with fail
      refine (works_ok _).mono ?_; rintro e u9 ⟨rfl, j2⟩
      replace j1 := j1.trans (j2.mono j1.size)
      go_wp2_with fail
      go_ret
      exact ⟨rfl, k0.trans (j1.mono k0.size)⟩
  · obtain ⟨n, rfl⟩ : ∃ n : Nat, many = n := ⟨many.toNat, by omega⟩
    have hn : n ≤ 4096 := by omega
    clear hm
    go_enter Tryd.func6, Tryd.ntmps6
    go_wp2_with fail
    refine (New_ok n w hn).mono ?_; rintro e w1 ⟨s, rfl, hS, k1⟩
    go_wp2_with fail
    refine (rNew_ok n w1 hn).mono ?_; rintro e w2 ⟨v, rfl, o2, k2⟩
    have hR2 : Run w.heap.size w w2 w.heap.size w1.heap.size s (List.replicate n false) := (⟨hS, k1, Nat.le_refl _, k1.size, by simpa using hn⟩ : Run w.heap.size w w1 w.heap.size w1.heap.size s (List.replicate n false)).step k2
    have hw2 : RowAt w2.heap.size w2 v (List.replicate n false).length (bvals (List.replicate n false)) := by rw [List.length_replicate]; exact RowAt.of_owns o2 (Nat.le_refl _)
    have hof : OffV w.heap.size w1.heap.size v := (FarV.of_owns o2).off (Nat.le_refl _)
    have z2 := k2.size
    have k12 := k1.trans (k2.mono k1.size)
    obtain ⟨L0, hL0⟩ : ∃ L0, List.replicate n false = L0 := ⟨_, rfl⟩
    rw [hL0] at hR2 hw2
    obtain ⟨hi, hhi⟩ : ∃ hi, w1.heap.size = hi := ⟨_, rfl⟩
    rw [hhi] at hR2 hof z2
    obtain ⟨va, vc, rfl, _⟩ := hw2.len
    have HR2 := Lib.hid hR2
    have HW2 := Lib.hid hw2
    have HOF := Lib.hid hof
    clear hS k1 o2 k2 hR2 hw2 hof hL0 hhi
    go_wp2_with fail
    · have HN := Lib.hid (show NoMk (w2.alloc (.cells #[.int .i64 0, .slice none 0 0, .bool false] 50)) (some ⟨w2.heap.size, 0, none⟩) from .inr ⟨_, rfl, (Blk.new w2 #[.int .i64 0, .slice none 0 0, .bool false] 50).cell 2 rfl⟩)
      have k0 : Below w2.heap.size w2 (w2.alloc (.cells #[.int .i64 0, .slice none 0 0, .bool false] 50)) := (Below.refl _ w2).alloc (Nat.le_refl _) _
      have hP : Ply w (w2.alloc (.cells #[.int .i64 0, .slice none 0 0, .bool false] 50)) (some ⟨w2.heap.size, 0, none⟩) w.heap.size hi s (.slice va L0.length vc) L0 := ⟨HR2.out.step k0, (HW2.out.below k0 (Nat.le_refl _)).mono k0.size, HOF.out, HN.out, fun b off e => by simp only [Option.some.injEq, Addr.mk.injEq, and_true] at e; exact .inr (by omega)⟩
      clear HR2 HW2 HOF k0
      refine (Set_none HN.out 0 true).mono ?_; rintro e _ ⟨rfl, rfl⟩
      go_wp2_with fail
      refine (HNth.out _ HN.out).mono ?_; rintro e u1 ⟨rfl, j1⟩
      have HN1 := Lib.hid (HN.out.step j1)
      go_wp2_with fail
      refine (HNext.out _ HN1.out).mono ?_; rintro e u2 ⟨rfl, j2⟩
      have HN2 := Lib.hid (HN1.out.step j2)
      replace j1 := j1.trans (j2.mono j1.size)
      clear j2 HN1
      go_wp2_with fail
      refine (num_calls _ _).mono ?_; rintro e _ ⟨rfl, rfl⟩
      go_wp2_with fail
      refine (Has_none HN2.out 0).mono ?_; rintro e u3 ⟨rfl, j2⟩
      have HN3 := Lib.hid (HN2.out.step j2)
      replace j1 := j1.trans (j2.mono j1.size)
      clear j2 HN2
      go_wp2_with fail
      refine (Len_none HN3.out).mono ?_; rintro e _ ⟨rfl, rfl⟩
      go_wp2_with fail
      refine (Count_none HN3.out).mono ?_; rintro e _ ⟨rfl, rfl⟩
      go_wp2_with fail
      refine (all_ok (L := []) (.inl ⟨HN3.out, rfl⟩) 9 (by decide) (by decide)).mono ?_; rintro e u4 ⟨va, rfl, o2, j2⟩
      have HN4 := Lib.hid (HN3.out.step j2)
      obtain ⟨aa, ac, rfl, _⟩ := (RowAt.of_owns o2 (Nat.le_refl _)).len
      rw [show (sucL [] 0 true).length = 0 from rfl]
      replace j1 := j1.trans (j2.mono j1.size)
      clear o2 j2 HN3
      go_wp2_with fail
      refine (Text_none HN4.out).mono ?_; rintro e u5 ⟨rfl, j2⟩
      have HN5 := Lib.hid (HN4.out.step j2)
      replace j1 := j1.trans (j2.mono j1.size)
      clear j2 HN4
      go_wp2_with fail
      refine (Copy_none HN5.out).mono ?_; rintro e _ ⟨rfl, rfl⟩
      go_wp2_with fail
      refine (Same_nn HN5.out (.inl rfl)).mono ?_; rintro e _ ⟨rfl, rfl⟩
      go_wp2_with fail
      refine (Same_nn (.inl rfl) HN5.out).mono ?_; rintro e _ ⟨rfl, rfl⟩
      go_wp2_with fail
      have hP2 := hP.step j1
      clear hP j1 HN HN5
      go_loopw [5, 7, 16] (fun sp v i wr => ∃ (k s lo hi : Nat) (L : List Bool), k ≤ l.length ∧ i = .int .i64 k ∧ sp = .pointer (some ⟨s, 0, none⟩) ∧ Ply w wr (some ⟨w2.heap.size, 0, none⟩) lo hi s v L) (fun _ _ i _ => l.length - (intOf i).toNat)
      case atStart => exact ⟨0, _, _, _, _, by omega, rfl, rfl, hP2⟩
      case round =>
        obtain ⟨k, s, lo, hi, L, hk, rfl, rfl, hP⟩ := hrel
        obtain ⟨va, vc, rfl, _⟩ := hP.row.len
        have HP := Lib.hid hP
        clear hP2 hP
        by_cases hlt : k < l.length
        · obtain ⟨ba, off, rfl, hA⟩ : ∃ b off, ad = some ⟨b, off, none⟩ ∧ ∀ i (h : i < l.length), ActAt w.heap.size w b (off + i * 3) l[i] := by
            obtain ⟨_, _, hv, _, _, h⟩ := HV.out
            simp only [Value.slice.injEq] at hv
            obtain ⟨rfl, _⟩ := hv
            rcases h with h | h
            · rw [h] at hlt; simp at hlt
            · exact h
          have hAk := (hA k hlt).below HP.out.run.bel (Nat.le_refl _)
          clear hA
          obtain ⟨⟨cp, at_, to⟩, hak⟩ : ∃ a, l[k] = a := ⟨_, rfl⟩
          rw [hak] at hAk
          obtain ⟨q0, q1, q2, _, hblt⟩ := hAk
          dsimp only at q0 q1 q2
          have i0 : (0 : Int) ≤ k := by omega
          have i1 : (k : Int) < l.length := by omega
          clear hak
          go_wp2_with fail
          refine (act_ok HP.out.run HP.out.row HP.out.off cp at_ to).mono ?_; rintro e w1 ⟨s', v', lo', hi', rfl, hE⟩
          have hP' := HP.out.act hE
          clear hE
          go_wp2_with fail
          exact ⟨⟨k + 1, s', lo', hi', _, by omega, by go_num, rfl, hP'⟩, by simp [intOf]; omega⟩
        · obtain rfl : k = l.length := by omega
          go_wp2_with fail
          refine (num_calls _ _).mono ?_; rintro e _ ⟨rfl, rfl⟩
          go_wp2_with fail
          refine (is_ok HP.out.run HP.out.row).mono ?_; rintro e u1 ⟨rfl, j1⟩
          have HP1 := Lib.hid (HP.out.step j1)
          go_wp2_with fail
          refine (Same_ln HP1.out.run.sh HP1.out.no).mono ?_; rintro e _ ⟨rfl, rfl⟩
          go_wp2_with fail
          refine (Same_nl HP1.out.run.sh HP1.out.no).mono ?_; rintro e _ ⟨rfl, rfl⟩
          go_wp2_with fail
          refine (works_ok _).mono ?_; rintro e u2 ⟨rfl, j2⟩
          go_wp2_with fail
          go_ret
          exact ⟨rfl, (HP1.out.step j2).run.bel⟩
    · have HN := Lib.hid (show NoMk w2 none from .inl rfl)
      have hP : Ply w w2 none w.heap.size hi s (.slice va L0.length vc) L0 := ⟨HR2.out, HW2.out, HOF.out, HN.out, fun b off e => by cases e⟩
      clear HR2 HW2 HOF
      refine (Set_none HN.out 0 true).mono ?_; rintro e _ ⟨rfl, rfl⟩
      go_wp2_with fail
      refine (HNth.out _ HN.out).mono ?_; rintro e u1 ⟨rfl, j1⟩
      have HN1 := Lib.hid (HN.out.step j1)
      go_wp2_with fail
      refine (HNext.out _ HN1.out).mono ?_; rintro e u2 ⟨rfl, j2⟩
      have HN2 := Lib.hid (HN1.out.step j2)
      replace j1 := j1.trans (j2.mono j1.size)
      clear j2 HN1
      go_wp2_with fail
      refine (num_calls _ _).mono ?_; rintro e _ ⟨rfl, rfl⟩
      go_wp2_with fail
      refine (Has_none HN2.out 0).mono ?_; rintro e u3 ⟨rfl, j2⟩
      have HN3 := Lib.hid (HN2.out.step j2)
      replace j1 := j1.trans (j2.mono j1.size)
      clear j2 HN2
      go_wp2_with fail
      refine (Len_none HN3.out).mono ?_; rintro e _ ⟨rfl, rfl⟩
      go_wp2_with fail
      refine (Count_none HN3.out).mono ?_; rintro e _ ⟨rfl, rfl⟩
      go_wp2_with fail
      refine (all_ok (L := []) (.inl ⟨HN3.out, rfl⟩) 9 (by decide) (by decide)).mono ?_; rintro e u4 ⟨va, rfl, o2, j2⟩
      have HN4 := Lib.hid (HN3.out.step j2)
      obtain ⟨aa, ac, rfl, _⟩ := (RowAt.of_owns o2 (Nat.le_refl _)).len
      rw [show (sucL [] 0 true).length = 0 from rfl]
      replace j1 := j1.trans (j2.mono j1.size)
      clear o2 j2 HN3
      go_wp2_with fail
      refine (Text_none HN4.out).mono ?_; rintro e u5 ⟨rfl, j2⟩
      have HN5 := Lib.hid (HN4.out.step j2)
      replace j1 := j1.trans (j2.mono j1.size)
      clear j2 HN4
      go_wp2_with fail
      refine (Copy_none HN5.out).mono ?_; rintro e _ ⟨rfl, rfl⟩
      go_wp2_with fail
      refine (Same_nn HN5.out (.inl rfl)).mono ?_; rintro e _ ⟨rfl, rfl⟩
      go_wp2_with fail
      refine (Same_nn (.inl rfl) HN5.out).mono ?_; rintro e _ ⟨rfl, rfl⟩
      go_wp2_with fail
      have hP2 := hP.step j1
      clear hP j1 HN HN5
      go_loopw [5, 7, 16] (fun sp v i wr => ∃ (k s lo hi : Nat) (L : List Bool), k ≤ l.length ∧ i = .int .i64 k ∧ sp = .pointer (some ⟨s, 0, none⟩) ∧ Ply w wr none lo hi s v L) (fun _ _ i _ => l.length - (intOf i).toNat)
      case atStart => exact ⟨0, _, _, _, _, by omega, rfl, rfl, hP2⟩
      case round =>
        obtain ⟨k, s, lo, hi, L, hk, rfl, rfl, hP⟩ := hrel
        obtain ⟨va, vc, rfl, _⟩ := hP.row.len
        have HP := Lib.hid hP
        clear hP2 hP
        by_cases hlt : k < l.length
        · obtain ⟨ba, off, rfl, hA⟩ : ∃ b off, ad = some ⟨b, off, none⟩ ∧ ∀ i (h : i < l.length), ActAt w.heap.size w b (off + i * 3) l[i] := by
            obtain ⟨_, _, hv, _, _, h⟩ := HV.out
            simp only [Value.slice.injEq] at hv
            obtain ⟨rfl, _⟩ := hv
            rcases h with h | h
            · rw [h] at hlt; simp at hlt
            · exact h
          have hAk := (hA k hlt).below HP.out.run.bel (Nat.le_refl _)
          clear hA
          obtain ⟨⟨cp, at_, to⟩, hak⟩ : ∃ a, l[k] = a := ⟨_, rfl⟩
          rw [hak] at hAk
          obtain ⟨q0, q1, q2, _, hblt⟩ := hAk
          dsimp only at q0 q1 q2
          have i0 : (0 : Int) ≤ k := by omega
          have i1 : (k : Int) < l.length := by omega
          clear hak
          go_wp2_with fail
          refine (act_ok HP.out.run HP.out.row HP.out.off cp at_ to).mono ?_; rintro e w1 ⟨s', v', lo', hi', rfl, hE⟩
          have hP' := HP.out.act hE
          clear hE
          go_wp2_with fail
          exact ⟨⟨k + 1, s', lo', hi', _, by omega, by go_num, rfl, hP'⟩, by simp [intOf]; omega⟩
        · obtain rfl : k = l.length := by omega
          go_wp2_with fail
          refine (num_calls _ _).mono ?_; rintro e _ ⟨rfl, rfl⟩
          go_wp2_with fail
          refine (is_ok HP.out.run HP.out.row).mono ?_; rintro e u1 ⟨rfl, j1⟩
          have HP1 := Lib.hid (HP.out.step j1)
          go_wp2_with fail
          refine (Same_ln HP1.out.run.sh HP1.out.no).mono ?_; rintro e _ ⟨rfl, rfl⟩
          go_wp2_with fail
          refine (Same_nl HP1.out.run.sh HP1.out.no).mono ?_; rintro e _ ⟨rfl, rfl⟩
          go_wp2_with fail
          refine (works_ok _).mono ?_; rintro e u2 ⟨rfl, j2⟩
          go_wp2_with fail
          go_ret
          exact ⟨rfl, (HP1.out.step j2).run.bel⟩
end Go.Proofs.YtbkegknfmcanaaaDoor
