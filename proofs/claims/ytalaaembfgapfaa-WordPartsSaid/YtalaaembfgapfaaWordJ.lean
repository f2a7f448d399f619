/-
  Package slices: Clone of bytes, Chunk of bytes.
-/
import Derived.Test.YtalaaembfgapfaaWordI
import Derived.Test.YtalaaembfgapfaaCoreR
namespace Go.Proofs.Ytalaaembfgapfaa
open Go.RowKit
attribute [local go_sem] Oper.semAt_some
set_option maxHeartbeats 400000

theorem Clone_ok (v : Value) (l : List Int) (B : Nat) (w : World) (hB : B ≤ w.heap.size) (h0 : 0 < l.length) (hl : l.length < 140737488355328) (hv : RowAt B w v l.length (intVals .u8 l)) :
    Calls Try.prog 40 #[v] w fun e w' => ∃ g cp : Nat, e = .returned (.slice (some ⟨g, 0, none⟩) l.length cp) ∧ w'.ownsRow w.heap.size 5 1 (.slice (some ⟨g, 0, none⟩) l.length cp) l.length (intVals .u8 l) ∧ Below w.heap.size w w' := by
  obtain ⟨ad, cap, rfl, hcap, hrow⟩ := id hv
  rcases hrow with hn | ⟨b, off, rfl, _, _⟩
  · exfalso; have := congrArg List.length hn; rw [intVals_len] at this; exact absurd this (by simp; intro h; subst h; simp at h0)
  have HIL := Lib.hid (intVals_len .u8 l)
  have hfn := fun (a : Option Addr) (n c : Nat) (w : World) => Lib.run_eql_slice_nil (P := Try.prog) w 23 _ a n c 0 0 Try.underlying23
  go_enter Try.func40, Try.ntmps40
  go_wp2_with (at_builtin; refine wpList_append_row rfl _ _ 23 rfl w.heap.size Try.underlying23 info8 0 [] rfl ?c1 B l.length (intVals .u8 l) rfl ?c2 ?c3 ?c4 ?c5 ?c6 ?c7 ?_)
  case c1 => exact World.ownsRow_made w #[] 0 (Nat.le_refl _) (by decide) rfl
  case c2 => exact hv.below ((Below.refl _ w).alloc (Nat.le_refl _) _) hB
  case c3 => rw [HIL.out]; omega
  case c4 => exact intVals_one _ _
  case c5 => unfold maxLen; omega
  case c6 => omega
  case c7 => simp
  intro v1 w1 ho1 hg1
  have hb1 : Below w.heap.size w w1 := ((Below.refl _ w).alloc (Nat.le_refl _) _).grown hg1 (by simp) (fun k e => by cases e; exact Nat.le_refl _)
  clear hg1
  go_wp2_with fail
  go_ret
  rcases id ho1 with ⟨_, ⟨_, h1⟩ | ⟨g, cp, cur, rfl, _⟩⟩
  · omega
  · exact ⟨g, cp, rfl, ho1, hb1⟩
/-- How many parts there are. -/
def nch (n s : Nat) : Nat := (n + s - 1) / s
theorem nch_lt {n s c : Nat} (hs : 0 < s) (h : c < nch n s) : c * s < n := by
  unfold nch at h
  have h1 : (c + 1) * s ≤ n + s - 1 := (Nat.le_div_iff_mul_le hs).1 h
  rw [Nat.succ_mul] at h1
  omega
theorem nch_ge {n s c : Nat} (hs : 0 < s) (h : ¬ c < nch n s) : n ≤ c * s := by
  unfold nch at h
  have h1 : ¬ (c + 1) * s ≤ n + s - 1 := fun h' => h ((Nat.le_div_iff_mul_le hs).2 h')
  rw [Nat.succ_mul] at h1
  omega
/-- The c-th part's value: where it lies. -/
def chunkV (b off n s c : Nat) : Value := .slice (some ⟨b, off + c * s, none⟩) (min s (n - c * s)) (min s (n - c * s))
theorem range_get (m k : Nat) (h : k < (List.range m).length) : (List.range m)[k] = k := by simp
theorem Chunk_calls (ad : Option Addr) (n cap : Nat) (s : Int) (hs : 1 ≤ s) (w : World) : Calls Try.prog 39 #[.slice ad n cap, .int .i64 s] w fun e w' =>
    e = .returned (.func (.func 42) #[] #[.pointer (some ⟨w.heap.size, 0, none⟩), .pointer (some ⟨w.heap.size + 1, 0, none⟩)]) ∧ w' = (w.alloc (.cells #[.slice ad n cap] 23)).alloc (.cells #[.int .i64 s] 3) := by
  go_enter Try.func39, Try.ntmps39
  go_wp2
  go_ret
  exact ⟨rfl, rfl⟩
theorem Chunk_iter (b off n cap s : Nat) (hs : 1 ≤ s) (hn : n ≤ 1000000) (hcap : n ≤ cap) (hcm : cap ≤ maxLen) (hs63 : s ≤ maxLen) (bb bs : Nat) :
    IterK Try.prog 42 #[.pointer (some ⟨bb, 0, none⟩), .pointer (some ⟨bs, 0, none⟩)] (fun c : Nat => #[chunkV b off n s c]) (List.range (nch n s))
      (fun W => W.cell? ⟨bb, 0, none⟩ = some (.slice (some ⟨b, off, none⟩) n cap) ∧ W.cell? ⟨bs, 0, none⟩ = some (.int .i64 s)) := by
  intro L J Jx W hJ hJx hA hY h0
  unfold maxLen at hcm hs63
  refine calls_in Try.func42 rfl ?_; simp only [Try.ntmps42, List.size_toArray, List.length_cons, List.length_nil, Nat.reduceAdd, Nat.reduceSub, Array.replicate_succ, Array.replicate_zero, List.push_toArray, List.append_toArray, List.nil_append, List.cons_append]
  gi_wp2_with fail
  gi_loopw [4] (fun i wr => ∃ c : Nat, c ≤ nch n s ∧ i = .int .i64 (c * s : Nat) ∧ J ((List.range (nch n s)).take c) wr ∧ W.heap.size ≤ wr.heap.size) (fun i _ => n - (intOf i).toNat)
  case atStart => exact ⟨0, by omega, by simp, by simpa using h0, Nat.le_refl _⟩
  case round =>
    obtain ⟨c, hc, rfl, hJc, hsz⟩ := hrel
    obtain ⟨c0, c1⟩ := hA _ _ hJc
    by_cases hlt : c < nch n s
    · have hlo := nch_lt hs hlt
      have hl : c < (List.range (nch n s)).length := by simpa using hlt
      have hsp := Lib.hid (split_at _ c hl)
      have htk := Lib.hid (take_next _ c hl)
      generalize hcs : c * s = i at *
      have i0 : (0 : Int) ≤ (i : Int) := by omega
      have i1 : (i : Int) < n := by omega
      have HCV := Lib.hid (show chunkV b off n s c = .slice (some ⟨b, off + i, none⟩) (min s (n - i)) (min s (n - i)) by unfold chunkV; rw [hcs])
      have HY := Lib.hid (fun X hX hXs => hY _ _ _ X hsp.out hX hXs)
      clear hY
      have i3 : i + s ≤ 9223372036854775807 := by
        rcases Nat.eq_zero_or_pos c with h | h
        · subst h; omega
        · have : s ≤ c * s := Nat.le_mul_of_pos_left s h
          omega
      obtain ⟨m, hm⟩ : ∃ m, n - i = m := ⟨_, rfl⟩
      have hm0 : 0 < m := by omega
      have i4 : (i : Int) ≤ cap := by omega
      rw [hm] at HCV
      by_cases hms : m < s
      · have j1 : (m : Int) < s := by omega
        have j2 : (i : Int) + m ≤ cap := by omega
        gi_wp2_with fail
        refine wpIn_wide.2 ?_
        go_quiet (fail)
        obtain ⟨fn, tmps, assign, body, hy, hR⟩ := HY.out (wr.drewN nq) (hJ _ _ _ hJc ((Keeps.refl _ _).drewN nq)) hsz
        rw [range_get, HCV.out, show min s m = m by omega] at hy
        gi_wp2_with fail
        refine (hR _).mono ?_; rintro e W3 (⟨rfl, hJ3, hs3⟩ | ⟨rfl, hJx3, hs3⟩)
        · have c1' := (hA _ _ hJ3).2
          gi_wp2
          go_roundw
          case rel => exact ⟨c + 1, by omega, by rw [← hcs, Nat.succ_mul]; go_num, by rw [htk.out]; exact hJ3, by simpa using Nat.le_trans hsz hs3⟩
          case measure => simp [intOf]; omega
        · gi_wp2
          refine bodyPost_ret (results_none rfl _ _ _) rfl ?_
          exact ⟨⟨_, rfl⟩, .inr hJx3⟩
      · have j1 : ¬ (m : Int) < s := by omega
        have j2 : (i : Int) + s ≤ cap := by omega
        gi_wp2_with fail
        refine wpIn_wide.2 ?_
        go_quiet (fail)
        obtain ⟨fn, tmps, assign, body, hy, hR⟩ := HY.out (wr.drewN nq) (hJ _ _ _ hJc ((Keeps.refl _ _).drewN nq)) hsz
        rw [range_get, HCV.out, show min s m = s by omega] at hy
        gi_wp2_with fail
        refine (hR _).mono ?_; rintro e W3 (⟨rfl, hJ3, hs3⟩ | ⟨rfl, hJx3, hs3⟩)
        · have c1' := (hA _ _ hJ3).2
          gi_wp2
          go_roundw
          case rel => exact ⟨c + 1, by omega, by rw [← hcs, Nat.succ_mul]; go_num, by rw [htk.out]; exact hJ3, by simpa using Nat.le_trans hsz hs3⟩
          case measure => simp [intOf]; omega
        · gi_wp2
          refine bodyPost_ret (results_none rfl _ _ _) rfl ?_
          exact ⟨⟨_, rfl⟩, .inr hJx3⟩
    · have hlo := nch_ge hs hlt
      have hcn : c = nch n s := by omega
      generalize c * s = i at *
      have i1 : ¬ (i : Int) < n := by omega
      gi_wp2
      go_end0
      exact ⟨⟨_, rfl⟩, .inl (by rw [hcn, List.take_of_length_le (by simp)] at hJc; exact hJc)⟩
end Go.Proofs.Ytalaaembfgapfaa
