/-
  Package word: Get, and the reference's.
-/
import Derived.Test.YtlpchcdalfkfcaaGreatBWordA
namespace Go.Proofs.YtlpchcdalfkfcaaGreat
open Go.RowKit
attribute [local go_sem] Oper.semAt_some
set_option maxHeartbeats 400000

/-- The number whose bytes they are. -/
def valI : List Int → Int
  | [] => 0
  | c :: l => valI l * 256 + c
theorem valI_bd : ∀ (l : List Int), (∀ x ∈ l, 0 ≤ x ∧ x < 256) → 0 ≤ valI l ∧ valI l < 256 ^ l.length := by
  intro l
  induction l with
  | nil => intro _; exact ⟨by decide, by decide⟩
  | cons c l ih =>
    intro h
    have h1 := ih fun x hx => h x (List.mem_cons_of_mem _ hx)
    have h2 := h c List.mem_cons_self
    have h3 : (256 : Int) ^ (c :: l).length = 256 ^ l.length * 256 := by rw [List.length_cons, Int.pow_succ]
    simp only [valI]
    rw [h3]
    omega
theorem or_byte (v c : Int) (hv : 0 ≤ v) (hv' : v < 72057594037927936) (hc : 0 ≤ c) (hc' : c < 256) : bits BinOp.or IntKind.u64 (v * 256) c = v * 256 + c := by
  have hw : ∀ n : Int, 0 ≤ n → n < 2 ^ 64 → IntKind.u64.wrap n = n := fun n h0 h1 => by rw [IntKind.wrap_u64]; omega
  exact bits_join .u64 64 (by decide) hw 8 _ _ (by omega) (by omega) (by omega) hc hc' (by omega)
theorem valI_drop (l : List Int) (i : Nat) (h : i < l.length) : valI (l.drop i) = valI (l.drop (i + 1)) * 256 + l[i] := by
  rw [List.drop_eq_getElem_cons h]; rfl
theorem val_step (l : List Int) (hw : ∀ x ∈ l, 0 ≤ x ∧ x < 256) (h8 : l.length ≤ 8) (i : Nat) (h : i < l.length) : bits BinOp.or IntKind.u64 (valI (l.drop (i + 1)) * 256) l[i] = valI (l.drop i) ∧ 0 ≤ valI (l.drop (i + 1)) ∧ valI (l.drop (i + 1)) < 72057594037927936 := by
  have h1 := valI_bd (l.drop (i + 1)) fun x hx => hw x (List.mem_of_mem_drop hx)
  have h2 := hw l[i] (List.getElem_mem h)
  have hm : (l.drop (i + 1)).length ≤ 7 := by rw [List.length_drop]; omega
  have h30 : (256 : Nat) ^ (l.drop (i + 1)).length ≤ 72057594037927936 := Nat.le_trans (Nat.pow_le_pow_right (by decide) hm) (by decide)
  have h31 : (256 : Int) ^ (l.drop (i + 1)).length = ((256 ^ (l.drop (i + 1)).length : Nat) : Int) := by rw [Int.natCast_pow]; rfl
  have h4 : valI (l.drop (i + 1)) < 72057594037927936 := by omega
  exact ⟨by rw [or_byte _ _ h1.1 h4 h2.1 h2.2, valI_drop l i h], h1.1, h4⟩

/-- The bytes from the last on, each with its place. -/
def backI' (l : List Int) : List (Int × Int) := (List.range l.length).map fun (j : Nat) => (((l.length - 1 - j : Nat) : Int), l.getD (l.length - 1 - j) 0)
theorem backI'_len (l : List Int) : (backI' l).length = l.length := by simp [backI']
theorem backI'_get (l : List Int) (j : Nat) (h : j < (backI' l).length) : (backI' l)[j] = (((l.length - 1 - j : Nat) : Int), l.getD (l.length - 1 - j) 0) := by simp [backI']
theorem Backward_calls (ad : Option Addr) (n cap : Nat) (w : World) : Calls Tryz.prog 204 #[.slice ad n cap] w fun e w' => e = .returned (.func (.func 212) #[] #[.pointer (some ⟨w.heap.size, 0, none⟩)]) ∧ w' = w.alloc (.cells #[.slice ad n cap] 44) := by
  go_enter Tryz.func204, Tryz.ntmps204
  go_wp2
  go_ret
  exact ⟨rfl, rfl⟩
theorem Backward_iter (v : Value) (l : List Int) (hl : l.length ≤ maxLen) (B bs : Nat) :
    IterK Tryz.prog 212 #[.pointer (some ⟨bs, 0, none⟩)] (fun p : Int × Int => #[.int .i64 p.1, .int .u8 p.2]) (backI' l)
      (fun W => W.cell? ⟨bs, 0, none⟩ = some v ∧ RowAt B W v l.length (intVals .u8 l)) := by
  intro L J Jx W hJ hJx hA hY h0
  unfold maxLen at hl
  obtain ⟨_, ad, cap, rfl, hcap, _⟩ := hA _ _ h0
  refine calls_in Tryz.func212 rfl ?_; simp only [Tryz.ntmps212, List.size_toArray, List.length_cons, List.length_nil, Nat.reduceAdd, Nat.reduceSub, Array.replicate_succ, Array.replicate_zero, List.push_toArray, List.append_toArray, List.nil_append, List.cons_append]
  have hc0 := (hA _ _ h0).1
  gi_wp2
  gi_loopw [3] (fun i wr => ∃ k : Nat, k ≤ l.length ∧ i = .int .i64 ((l.length : Int) - 1 - k) ∧ J ((backI' l).take k) wr ∧ W.heap.size ≤ wr.heap.size) (fun i _ => (intOf i + 1).toNat)
  case atStart => exact ⟨0, by omega, by simp, by simpa using h0, Nat.le_refl _⟩
  case round =>
    clear hc0
    obtain ⟨k, hk, rfl, hJk, hsz⟩ := hrel
    obtain ⟨hc1, _, _, he, _, hrow⟩ := hA _ _ hJk
    cases he
    by_cases hlt : k < l.length
    · have hll : k < (backI' l).length := by rw [backI'_len]; exact hlt
      have hsp := Lib.hid (split_at _ k hll)
      have htk := Lib.hid (take_next _ k hll)
      rcases hrow with h0 | ⟨b, off, rfl, hbB, hc⟩
      · exfalso; have := congrArg List.length h0; simp [intVals] at this; subst this; simp at hlt
      obtain ⟨q, hq⟩ : ∃ q : Nat, l.length - 1 - k = q := ⟨_, rfl⟩
      have hql : q < l.length := by omega
      have hck : wr.cell? ⟨b, off + q, none⟩ = some (.int .u8 l[q]) := by
        rw [hc q (by simpa [intVals] using hql), intVals_get _ _ _ hql]
      have hx : (backI' l)[k] = ((q : Int), l[q]) := by rw [backI'_get, hq]; simp [List.getD, hql]
      have hidx : (l.length : Int) - 1 - k = q := by omega
      clear hc hq
      obtain ⟨fn, tmps, assign, body, hy, hR⟩ := hY _ _ _ wr hsp.out hJk hsz
      rw [hx] at hy
      have HX := Lib.hid hx
      clear hY hx
      rw [hidx]
      have HI := Lib.hid hidx
      clear hidx
      have i0 : (0 : Int) ≤ q := by omega
      have i1 : (q : Int) < l.length := by omega
      gi_wp2_with fail
      refine (hR _).mono ?_; rintro e W3 (⟨rfl, hJ3, hs3⟩ | ⟨rfl, hJx3, hs3⟩)
      · gi_wp2
        go_roundw
        case rel => exact ⟨k + 1, by omega, by have := HI.out; exact congrArg (Value.int .i64) (by omega), by rw [htk.out]; exact hJ3, by omega⟩
        case measure => have := HI.out; simp [intOf]
      · gi_wp2
        refine bodyPost_ret (results_none rfl _ _ _) rfl ?_
        exact ⟨⟨_, rfl⟩, .inr hJx3⟩
    · obtain rfl : k = l.length := by omega
      gi_wp2
      go_end0
      exact ⟨⟨_, rfl⟩, .inl (by rw [List.take_of_length_le (by rw [backI'_len]; omega)] at hJk; exact hJk)⟩
theorem Get_arg (v : Value) (l : List Int) (B : Nat) (w : World) (h : isW l.length = false) (hv : RowAt B w v l.length (intVals .u8 l)) : Calls Tryz.prog 178 #[v] w fun e w' => e = .returned (.tuple #[.int .u64 0, .int .i64 2]) ∧ Below w.heap.size w w' := by
  obtain ⟨ad, cap, rfl, _, _⟩ := hv
  refine calls_of_wp_marks Tryz.func178 rfl ?_; simp only [Tryz.ntmps178, List.size_toArray, List.length_cons, List.length_nil, Nat.reduceAdd, Nat.reduceSub, Array.replicate_succ, Array.replicate_zero, List.push_toArray, List.append_toArray, List.nil_append, List.cons_append]
  go_wp2_with fail
  refine (is_callsO _ _).mono ?_; rintro e w1 ⟨rfl, hb⟩
  go_wp2_with fail
  exact postM_ret0 (results_tmp2 rfl _ _ _) ⟨rfl, hb⟩
theorem Get_okO (v : Value) (l : List Int) (hw : ∀ x ∈ l, 0 ≤ x ∧ x < 256) (B : Nat) (w : World) (hB : B ≤ w.heap.size) (h : isW l.length = true) (hv : RowAt B w v l.length (intVals .u8 l)) : Calls Tryz.prog 178 #[v] w fun e w' => e = .returned (.tuple #[.int .u64 (valI l), .int .i64 0]) ∧ Below w.heap.size w w' := by
  have h8 : l.length ≤ 8 := by have := isW_cases h; omega
  obtain ⟨ad, cap, rfl, _, _⟩ := id hv
  refine calls_of_wp_marks Tryz.func178 rfl ?_; simp only [Tryz.ntmps178, List.size_toArray, List.length_cons, List.length_nil, Nat.reduceAdd, Nat.reduceSub, Array.replicate_succ, Array.replicate_zero, List.push_toArray, List.append_toArray, List.nil_append, List.cons_append]
  go_wp2_with fail
  refine (is_callsO _ _).mono ?_; rintro e w1 ⟨rfl, hb1⟩
  have hz1 := hb1.size
  go_wp2_with fail
  refine (Backward_calls _ _ _ _).mono ?_; rintro e w2 ⟨rfl, rfl⟩
  go_wp2_with fail
  refine wp_range1 rfl (enters_of Tryz.func212 (by kernel_rfl) rfl) (Backward_iter (.slice ad l.length cap) l (by unfold maxLen; omega) B (w1.heap.size + 1)) (fun _ => rfl)
    (fun pre W => Blk W w1.heap.size #[.int .u64 (valI (l.drop (l.length - pre.length)))] 57 ∧ Blk W (w1.heap.size + 1) #[.slice ad l.length cap] 44 ∧ RowAt B W (.slice ad l.length cap) l.length (intVals .u8 l) ∧ Below w.heap.size w W)
    (fun _ _ => False) ?a1 ?ha ?hI ?hIx ?hA ?h0 ?hbody ?hdone ?hstop
  case ha => intro m l x W K hK; gi_wp2; exact hK
  case hI => rintro pre X Y ⟨h1, h2, h3, h4⟩ hk; exact ⟨h1.keeps hk, h2.keeps hk, h3.keeps hk, h4.keeps hk (by simp; omega)⟩
  case hIx => exact stab_false _
  case hA => rintro pre W ⟨h1, h2, h3, h4⟩; exact ⟨h2.cell 0 rfl, h3⟩
  case h0 =>
    refine ⟨?_, Blk.newAt _ _ _ (by simp), ?_, (hb1.alloc hz1 _).alloc (by simp; omega) _⟩
    · rw [List.length_nil, Nat.sub_zero, List.drop_of_length_le (Nat.le_refl _)]
      exact (Blk.new w1 _ _).alloc _
    · exact ((hv.below hb1 hB).below ((Below.refl _ w1).alloc (Nat.le_refl _) _) (by omega)).below ((Below.refl _ _).alloc (Nat.le_refl _) _) (by simp; omega)
  case hbody =>
    rintro m L pre x suf W hxs hl hrec ⟨h1, h2, h3, h4⟩
    have hpl : pre.length < l.length := by have := congrArg List.length hxs; rw [backI'_len] at this; simp at this; omega
    obtain ⟨q, hq⟩ : ∃ q : Nat, l.length - 1 - pre.length = q := ⟨_, rfl⟩
    have hql : q < l.length := by omega
    have hx : x = ((q : Int), l[q]) := by
      have h1 : (backI' l)[pre.length]'(by rw [backI'_len]; exact hpl) = x := by simp [hxs]
      rw [← h1, backI'_get, hq]; simp [List.getD, hql]
    obtain ⟨hs1, hs2, hs3⟩ := val_step l hw h8 q hql
    rw [show l.length - pre.length = q + 1 by omega] at h1
    have hn : l.length - (pre ++ [x]).length = q := by simp; omega
    subst hx
    have c1 : W.cell? ⟨w1.heap.size, 0, none⟩ = some (.int .u64 (valI (l.drop (q + 1)))) := h1.cell 0 rfl
    have f1 := h1.frozen 0
    have hb := hw l[q] (List.getElem_mem hql)
    have HS := Lib.hid hs1
    have HN := Lib.hid hn
    clear hs1 hn hq
    gi_wp2
    refine ⟨(KeepsRec.refl W).setCell _ _, ?_⟩
    dsimp only
    rw [HN.out, HS.out]
    refine ⟨h1.set 0 _, h2.setOther _ _ (by simp), ?_, h4.setCell (p := ⟨w1.heap.size, 0, none⟩) hz1 _⟩
    exact h3.below (m := w1.heap.size) ((Below.refl _ W).setCell (p := ⟨w1.heap.size, 0, none⟩) (Nat.le_refl _) _) (by omega)
  case hdone =>
    rintro D W hD ⟨h1, h2, h3, h4⟩ hK
    rw [backI'_len, Nat.sub_self, List.drop_zero] at h1
    have c1 : W.cell? ⟨w1.heap.size, 0, none⟩ = some (.int .u64 (valI l)) := h1.cell 0 rfl
    go_wp2_with fail
    exact postM_ret hK (results_tmp2 rfl _ _ _) ⟨rfl, below_putObj h4 (by simp at hD; omega) _ (Array.getElem?_eq_some_iff.1 hK).1⟩
  case hstop => exact fun _ _ _ _ h => h.elim

end Go.Proofs.YtlpchcdalfkfcaaGreat
