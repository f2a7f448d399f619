/-
  Package bits: such. Conditions: marks, or none.
-/
import Derived.Test.YtbkegknfmcanaaaDoorBiH
import Derived.Scope
import Derived.Stop.RegionWithIn
namespace Go.Proofs.YtbkegknfmcanaaaDoor
open Go.RowKit
attribute [local go_sem] Oper.semAt_some
set_option maxHeartbeats 2000000
set_option maxRecDepth 100000

/-- The places from f on, below k, that are such. -/
def sucTo (L : List Bool) (f : Int) (b : Bool) : Nat → List Int
  | 0 => []
  | k + 1 => if f ≤ k ∧ L.getD k false = b then sucTo L f b k ++ [(k : Int)] else sucTo L f b k
def sucL (L : List Bool) (f : Int) (b : Bool) : List Int := sucTo L f b L.length
theorem sucTo_low (L : List Bool) (f : Int) (b : Bool) : ∀ k : Nat, (k : Int) ≤ f → sucTo L f b k = []
  | 0, _ => rfl
  | k + 1, h => by rw [sucTo, if_neg (by omega), sucTo_low L f b k (by omega)]
theorem sucTo_len (L : List Bool) (f : Int) (b : Bool) : ∀ k, (sucTo L f b k).length ≤ k
  | 0 => Nat.le_refl _
  | k + 1 => by
    have := sucTo_len L f b k
    rw [sucTo]; split <;> simp <;> omega
theorem sucTo_pre (L : List Bool) (f : Int) (b : Bool) (a c : Nat) (h : a ≤ c) : ∃ rest, sucTo L f b c = sucTo L f b a ++ rest := by
  induction c with
  | zero => obtain rfl : a = 0 := by omega
            exact ⟨[], by simp⟩
  | succ c ih =>
    by_cases e : a = c + 1
    · subst e; exact ⟨[], by simp⟩
    · obtain ⟨r, hr⟩ := ih (by omega)
      rw [sucTo]
      split
      · exact ⟨r ++ [(c : Int)], by rw [hr, List.append_assoc]⟩
      · exact ⟨r, hr⟩
theorem suc_split (L : List Bool) (f : Int) (b : Bool) (k : Nat) (hk : k < L.length) (hx : f ≤ k ∧ L.getD k false = b) : ∃ suf, sucL L f b = sucTo L f b k ++ (k : Int) :: suf := by
  obtain ⟨r, hr⟩ := sucTo_pre L f b (k + 1) L.length (by omega)
  refine ⟨r, ?_⟩
  unfold sucL
  rw [hr, sucTo, if_pos hx, List.append_assoc]; rfl
theorem such_calls (p : Option Addr) (f : Int) (b : Bool) (w : World) : Calls Tryd.prog 32 #[.pointer p, .int .i64 f, .bool b] w fun e w' =>
    e = .returned (.func (.func 53) #[] #[.pointer (some ⟨w.heap.size + 1, 0, none⟩), .pointer (some ⟨w.heap.size, 0, none⟩), .pointer (some ⟨w.heap.size + 2, 0, none⟩)]) ∧
    w' = ((w.alloc (.cells #[.pointer p] 23)).alloc (.cells #[.int .i64 f] 3)).alloc (.cells #[.bool b] 4) := by
  go_enter Tryd.func32, Tryd.ntmps32
  go_wp2_with fail
  go_ret
  exact ⟨rfl, rfl⟩
def SuchA (p : Option Addr) (L : List Bool) (f : Int) (b : Bool) (bf bm bi : Nat) (W : World) : Prop :=
  W.cell? ⟨bf, 0, none⟩ = some (.int .i64 f) ∧ W.cell? ⟨bm, 0, none⟩ = some (.pointer p) ∧ W.cell? ⟨bi, 0, none⟩ = some (.bool b) ∧ MkV W p L
theorem such_iter (p : Option Addr) (L : List Bool) (f : Int) (b : Bool) (bf bm bi : Nat) (hf1 : f ≤ 9223372036854775807) :
    IterK Tryd.prog 53 #[.pointer (some ⟨bf, 0, none⟩), .pointer (some ⟨bm, 0, none⟩), .pointer (some ⟨bi, 0, none⟩)] (fun i : Int => #[.int .i64 i]) (sucL L f b) (SuchA p L f b bf bm bi) := by
  intro l J Jx W hJ hJx hA hY h0
  obtain ⟨c0, _, _, hmv⟩ := hA _ _ h0
  have hfew := hmv.few
  have HA := Lib.hid hA
  have HY := Lib.hid hY
  obtain ⟨g, hg⟩ : ∃ g : Int, max 0 f = g := ⟨_, rfl⟩
  have hg0 : 0 ≤ g := by omega
  have hgf : f ≤ g := by omega
  have hlow : ∀ k : Nat, (k : Int) ≤ g → sucTo L f b k = [] := by
    intro k hk
    by_cases h9 : f < 0
    · obtain rfl : k = 0 := by omega
      rfl
    · exact sucTo_low L f b k (by omega)
  have h00 : J (sucTo L f b (min g.toNat L.length)) W := by rw [hlow _ (by omega)]; exact h0
  have hgm : g ≤ 9223372036854775807 := by omega
  clear hA hY hmv hlow h0
  refine calls_in Tryd.func53 rfl ?_; simp only [Tryd.ntmps53, List.size_toArray, List.length_cons, List.length_nil, Nat.reduceAdd, Nat.reduceSub, Array.replicate_succ, Array.replicate_zero, List.push_toArray, List.append_toArray, List.nil_append, List.cons_append]
  gi_wp2_with fail
  gi_loopw [5] (fun i wr => ∃ k : Int, i = .int .i64 k ∧ g ≤ k ∧ (k = g ∨ k ≤ L.length) ∧ J (sucTo L f b (min k.toNat L.length)) wr ∧ W.heap.size ≤ wr.heap.size) (fun i _ => (L.length - intOf i).toNat)
  case atStart => exact ⟨g, rfl, by omega, .inl rfl, h00, Nat.le_refl _⟩
  case round =>
    obtain ⟨k, rfl, hk, hk2, hJk, hsz⟩ := hrel
    obtain ⟨c1, c2, c3, hmv⟩ := HA.out _ _ hJk
    clear h00
    by_cases hlt : k < L.length
    · obtain ⟨n, rfl⟩ : ∃ n : Nat, k = n := ⟨k.toNat, by omega⟩
      have hn : n < L.length := by omega
      rw [show min ((n : Nat) : Int).toNat L.length = n by omega] at hJk
      have hst : sucTo L f b (n + 1) = if f ≤ n ∧ L.getD n false = b then sucTo L f b n ++ [(n : Int)] else sucTo L f b n := rfl
      have hsp := suc_split L f b n hn
      have hhb : hasB L n = L.getD n false := by unfold hasB; rw [inI_at hn, Int.toNat_natCast]; simp
      have HH := Has_v (hmv.step (Below.refl _ wr).drew) n
      rw [hhb] at HH
      obtain ⟨d, hd⟩ : ∃ d, L.getD n false = d := ⟨_, rfl⟩
      rw [hd] at HH hst hsp
      have HH2 := Lib.hid HH
      have hmin : min ((n : Int) + 1).toNat L.length = n + 1 := by omega
      have HMIN := Lib.hid hmin
      have l3 := World.block_lt_of_cell? wr _ c3
      have l2 := World.block_lt_of_cell? wr _ c2
      have HL := Lib.hid (Len_v hmv)
      have n0 : (0 : Int) ≤ n := by omega
      have n1 : (n : Int) < 4096 := by omega
      by_cases hdb : d = b
      · rw [if_pos ⟨by omega, hdb⟩] at hst
        obtain ⟨suf, hsf⟩ := hsp ⟨by omega, hdb⟩
        have hdx : (d == b) = true := by simpa using hdb
        have HST := Lib.hid hst
        have HSF := Lib.hid hsf
        clear hmin hst hsf hsp hhb HH hd hdb hg
        gi_wp2_with fail
        refine by_calls HL.out ?_; rintro e _ ⟨rfl, rfl⟩
        gi_wp2_with fail
        have d1 : wr.drew.cell? ⟨bf, 0, none⟩ = some (.int .i64 f) := c1
        have d2 : wr.drew.cell? ⟨bm, 0, none⟩ = some (.pointer p) := c2
        have d3 : wr.drew.cell? ⟨bi, 0, none⟩ = some (.bool b) := c3
        have hYc : ∀ W1, Below wr.drew.heap.size wr.drew W1 → Yields Tryd.prog l #[.int .i64 n] W1 fun e W' => W.heap.size ≤ W'.heap.size ∧ ∃ t : Bool, e = .returned (.bool t) ∧ (t = true → J (sucTo L f b (n + 1)) W') ∧ (t = false → Jx () W') := by
          intro W1 hb
          have hz := hb.size
          have hz2 : wr.drew.heap.size = wr.heap.size := rfl
          refine (HY.out _ _ _ W1 HSF.out (hJ _ _ _ hJk (Keeps.of_below ((Below.refl _ wr).drew.trans hb) hsz (Nat.le_refl _))) (by omega)).mono ?_
          rintro e W' (⟨h1, h2, h3⟩ | ⟨h1, h2, h3⟩)
          · exact ⟨by omega, true, h1, fun _ => by rw [HST.out]; exact h2, (fun h => by cases h)⟩
          · exact ⟨by omega, false, h1, (fun h => by cases h), fun _ => h2⟩
        have HYc := Lib.hid hYc
        have HA9 := HA
        clear hYc HST HSF HA HY HL hmv hJk c1 c2 c3
        gi_region_with (first
          | (refine by_calls HH2.out ?_
             rintro e w2 ⟨rfl, hb⟩
             have e3 : w2.cell? ⟨bi, 0, none⟩ = some (.bool b) := (hb.cell (p := ⟨bi, 0, none⟩) l3).trans d3
             obtain ⟨fn, tmps, assign, body, hy, hR⟩ := HYc.out w2 hb)
          | (refine (hR _).mono ?_
             rintro e w3 ⟨hz3, t, rfl, hJ3, hJx3⟩))
        all_goals
          clear hR hy
          cases t
          · gi_wp2_with fail
            refine bodyPost_ret (results_none rfl _ _ _) rfl ?_
            exact ⟨⟨_, rfl⟩, .inr (hJx3 (by trivial))⟩
          · gi_wp2_with fail
            go_roundw
            case rel => exact ⟨(n : Int) + 1, by go_num, by omega, .inr (by omega), by rw [HMIN.out]; exact hJ3 (by trivial), hz3⟩
            case measure => simp [intOf]; omega
      · rw [if_neg (fun h => hdb h.2)] at hst
        have hdx : (d == b) = false := by simpa using hdb
        have HST := Lib.hid hst
        clear hmin hst hsp HH hdb hg
        have d2 := c2
        have d3 := c3
        have hJc : ∀ W1, Below wr.heap.size wr W1 → J (sucTo L f b (n + 1)) W1 ∧ W.heap.size ≤ W1.heap.size := by
          intro W1 hb
          have hz := hb.size
          rw [HST.out]
          exact ⟨hJ _ _ _ hJk (Keeps.of_below hb hsz (Nat.le_refl _)), by omega⟩
        have HH3 := Lib.hid (show ∀ W1, Below wr.heap.size wr W1 → Calls Tryd.prog 21 #[.pointer p, .int .i64 n] W1 fun e w' => e = .returned (.bool d) ∧ Below W1.heap.size W1 w' from fun W1 k => by have := Has_v (hmv.step k) n; rw [hhb, hd] at this; exact this)
        have HJc := Lib.hid hJc
        clear hJc HST HA HY hmv hJk c1 c3 hhb hd
        gi_wp2_with fail
        refine by_calls HL.out ?_; rintro e _ ⟨rfl, rfl⟩
        gi_wp2_with fail
        refine wpIn_wide.2 ?_
        have hd2 : ∀ x : After wr.heap.size wr, x.1.cell? ⟨bm, 0, none⟩ = some (.pointer p) := fun x => x.cell d2 l2
        have hd3 : ∀ x : After wr.heap.size wr, x.1.cell? ⟨bi, 0, none⟩ = some (.bool b) := fun x => x.cell d3 l3
        refine wp_region_after wr.heap.size (by kernel_rfl) (by kernel_rfl) ?_
        repeat (first | go_big_quiet_step (first | (go_at_call 21; exact after_call (Nat.le_refl _) (HH3.out _ (After.below _)))))
        refine wpQuiet_nil ?_
        rintro X ⟨xx, hxx⟩
        have hb : Below wr.heap.size wr X := by rw [hxx]; exact xx.2
        clear hxx xx hd2 hd3
        gi_wp2_with fail
        go_roundw
        case rel => exact ⟨(n : Int) + 1, by go_num, by omega, .inr (by omega), by rw [HMIN.out]; exact (HJc.out _ hb).1, (HJc.out _ hb).2⟩
        case measure => simp [intOf]; omega
    · have hmin : min k.toNat L.length = L.length := by omega
      rw [hmin] at hJk
      have HL := Lib.hid (Len_v hmv)
      clear hmin
      gi_wp2_with fail
      refine by_calls HL.out ?_; rintro e _ ⟨rfl, rfl⟩
      gi_wp2_with fail
      refine bodyPost_end (results_none rfl _ _ _) rfl ?_
      exact ⟨⟨_, rfl⟩, .inl hJk⟩
end Go.Proofs.YtbkegknfmcanaaaDoor
