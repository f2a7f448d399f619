/-
  Package slices: Values; package page: pages, Next. Conditions: few rows, in order.
-/
import Derived.Test.YtchepkihlnpfeaaPgD
import Derived.Test.YtchepkihlnpfeaaPgK
import Derived.Test.YtchepkihlnpfeaaCoreS
import Derived.Scope
import Derived.Deep.AppendLies
namespace Go.Proofs.Ytchepkihlnpfeaa
open Go.RowKit
attribute [local go_sem] Oper.semAt_some
set_option maxHeartbeats 4000000
set_option maxRecDepth 4000

theorem RowAt.geti {B : Nat} {w : World} {ad : Option Addr} {cap : Nat} {l : List Int} (h : RowAt B w (.slice ad l.length cap) l.length (intVals .i64 l)) (k : Nat) (hk : k < l.length) : ∃ b off, ad = some ⟨b, off, none⟩ ∧ b < B ∧ w.cell? ⟨b, off + k, none⟩ = some (.int .i64 l[k]) := by
  obtain ⟨a, c, e, _, h⟩ := h
  simp only [Value.slice.injEq, true_and] at e
  obtain ⟨rfl, rfl⟩ := e
  rcases h with h | ⟨b, off, rfl, hlt, hc⟩
  · simp [intVals] at h; subst h; simp at hk
  · refine ⟨b, off, rfl, hlt, ?_⟩
    rw [hc k (by rw [intVals_len]; exact hk), intVals_get _ _ _ hk]
theorem wf_i64 {n : Int} (h0 : 0 ≤ n) (h1 : n ≤ 9223372036854775807) : (Lit.int .i64 n).wf = true := by
  show (decide (IntKind.i64.min ≤ n) && decide (n ≤ IntKind.i64.max)) = true
  rw [show IntKind.i64.min = -9223372036854775808 from rfl, show IntKind.i64.max = 9223372036854775807 from rfl, Bool.and_eq_true]
  exact ⟨decide_eq_true (by omega), decide_eq_true (by omega)⟩
theorem RowAt.setO {B n cap : Nat} {W : World} {ad : Option Addr} {xs : List Value} (h : RowAt B W (.slice ad n cap) n xs) (a : Addr) (v : Value) (hb : ∀ b off, ad = some ⟨b, off, none⟩ → b ≠ a.block) : RowAt B (W.setCell a v) (.slice ad n cap) n xs := by
  obtain ⟨a', c, e, h1, h2⟩ := h
  simp only [Value.slice.injEq, true_and] at e
  obtain ⟨rfl, rfl⟩ := e
  refine ⟨_, _, rfl, h1, h2.imp id ?_⟩
  rintro ⟨b, off, e, hlt, hc⟩
  exact ⟨b, off, e, hlt, fun i hi => (World.cell?_of_block (a := ⟨b, off + i, none⟩) (Below.heap_setCell W a v b (hb b off e))).trans (hc i hi)⟩
theorem values_calls (a : Option Addr) (n cap : Nat) (w : World) : Calls Try.prog 54 #[.slice a n cap] w fun e w' =>
    e = .returned (.func (.func 59) #[] #[.pointer (some ⟨w.heap.size, 0, none⟩)]) ∧ w' = w.alloc (.cells #[.slice a n cap] 99) := by
  go_enter Try.func54, Try.ntmps54
  go_wp2_with fail
  go_ret
  exact ⟨rfl, rfl⟩
theorem values_iter (ad : Option Addr) (cap : Nat) (l : List Int) (hl : l.length < 1000000) (B bb : Nat) :
    IterK Try.prog 59 #[.pointer (some ⟨bb, 0, none⟩)] (fun k : Int => #[.int .i64 k]) l
      (fun W => W.cell? ⟨bb, 0, none⟩ = some (.slice ad l.length cap) ∧ RowAt B W (.slice ad l.length cap) l.length (intVals .i64 l)) := by
  intro L J Jx W hJ hJx hA hY h0
  obtain ⟨c0, _⟩ := hA _ _ h0
  have HA := Lib.hid hA
  clear hA
  refine calls_in Try.func59 rfl ?_; simp only [Try.ntmps59, List.size_toArray, List.length_cons, List.length_nil, Nat.reduceAdd, Nat.reduceSub, Array.replicate_succ, Array.replicate_zero, List.push_toArray, List.append_toArray, List.nil_append, List.cons_append]
  gi_wp2_with fail
  gi_loopw [7] (fun i wr => ∃ c : Nat, c ≤ l.length ∧ i = .int .i64 c ∧ J (l.take c) wr ∧ W.heap.size ≤ wr.heap.size) (fun i _ => l.length - (intOf i).toNat)
  case atStart => exact ⟨0, by omega, rfl, by simpa using h0, Nat.le_refl _⟩
  case round =>
    obtain ⟨c, hc, rfl, hJc, hsz⟩ := hrel
    obtain ⟨c1, hr⟩ := HA.out _ _ hJc
    by_cases hlt : c < l.length
    · obtain ⟨b, off, rfl, _, q⟩ := hr.geti c hlt
      have hsp := Lib.hid (split_at _ c hlt)
      have htk := Lib.hid (take_next _ c hlt)
      have i0 : (0 : Int) ≤ c := by omega
      have i1 : (c : Int) < l.length := by omega
      obtain ⟨fn, tmps, assign, body, hy, hR⟩ := hY _ _ _ wr hsp.out hJc hsz
      generalize l[c] = y at q hy
      clear hr hY
      gi_wp2_with fail
      refine (hR _).mono ?_; rintro e W3 (⟨rfl, hJ3, hs3⟩ | ⟨rfl, hJx3, hs3⟩)
      · gi_wp2
        go_roundw
        case rel => exact ⟨c + 1, by omega, by go_num, by rw [htk.out]; exact hJ3, by omega⟩
        case measure => simp [intOf]; omega
      · gi_wp2
        refine bodyPost_ret (results_none rfl _ _ _) rfl ?_
        exact ⟨⟨_, rfl⟩, .inr hJx3⟩
    · gi_wp2_with fail
      refine bodyPost_end (results_none rfl _ _ _) rfl ?_
      exact ⟨⟨_, rfl⟩, .inl (by rw [List.take_of_length_le (by omega)] at hJc; exact hJc)⟩
/-- What pages gives: the box of the keys, and the keys. -/
structure Keys (W : World) (g : Nat) (ad : Option Addr) (cap : Nat) (l : List Int) : Prop where
  box : Blk W g #[.slice ad l.length cap] 99
  row : RowAt W.heap.size W (.slice ad l.length cap) l.length (intVals .i64 l)
theorem Keys.keeps {B : Nat} {W W' : World} {g : Nat} {ad : Option Addr} {cap : Nat} {l : List Int} (h : Keys W g ad cap l) (k : Keeps B W W') : Keys W' g ad cap l := ⟨h.box.keeps k, (h.row.keeps k).mono k.size⟩
theorem Keys.step {W W' : World} {g : Nat} {ad : Option Addr} {cap : Nat} {l : List Int} (h : Keys W g ad cap l) (k : Below W.heap.size W W') : Keys W' g ad cap l := ⟨h.box.below k h.box.lt, (h.row.below k (Nat.le_refl _)).mono k.size⟩
theorem Good.wf {D : Tb} (h : Good D) : ∀ p ∈ D, (Lit.int .i64 p.1).wf = true := fun p hp => wf_i64 (by have := h.pg p hp; omega) (by have := h.pg p hp; omega)
theorem pages_calls {w : World} {b m : Nat} {D : Tb} (h : TblAt w b m D) (hg : Good D) (hl : D.length ≤ 1000000) : Calls Try.prog 40 #[.pointer (some ⟨b, 0, none⟩)] w fun e w' =>
    ∃ g ad cap, e = .returned (.func (.func 59) #[] #[.pointer (some ⟨g, 0, none⟩)]) ∧ Keys w' g ad cap (D.map (·.1)) ∧ w.heap.size ≤ g ∧ (∀ b off, ad = some ⟨b, off, none⟩ → w.heap.size ≤ b) ∧ Below w.heap.size w w' := by
  have c0 := h.cell
  go_enter Try.func40, Try.ntmps40
  go_wp2_with fail
  refine (keys_calls _ _).mono ?_; rintro e _ ⟨rfl, rfl⟩
  have k1 : Below w.heap.size w (w.alloc (.cells #[.map (some m)] 73)) := (Below.refl _ w).alloc (Nat.le_refl _) _
  have hB := Blk.new w #[.map (some m)] 73
  have h1 := h.step k1
  generalize w.alloc (.cells #[.map (some m)] 73) = w1 at k1 hB h1 ⊢
  go_wp2_with fail
  refine (sorted_calls (hB.cell 0 rfl) h1.mp hg.srt hg.wf hl).mono ?_; rintro e w2 ⟨v, rfl, ho, k2⟩
  obtain ⟨ad, cap, rfl, _⟩ := (RowAt.of_owns ho (Nat.le_refl _)).len
  have kk := k1.trans (k2.mono k1.size)
  have hz := k1.size
  have HO := Lib.hid ho
  clear ho k2
  go_wp2_with fail
  refine (values_calls _ _ _ _).mono ?_; rintro e _ ⟨rfl, rfl⟩
  have hrow : RowAt w2.heap.size w2 (.slice ad D.length cap) D.length (intVals .i64 (D.map (·.1))) := RowAt.of_owns HO.out (Nat.le_refl _)
  have k3 : Below w2.heap.size w2 (w2.alloc (.cells #[.slice ad D.length cap] 99)) := (Below.refl _ w2).alloc (Nat.le_refl _) _
  have hz2 := kk.size
  have HR := Lib.hid hrow
  clear hrow
  go_wp2_with fail
  go_ret
  have hlen : (D.map (·.1)).length = D.length := by simp
  refine ⟨_, ad, cap, rfl, ⟨?_, ?_⟩, hz2, ?_, kk.trans (k3.mono hz2)⟩
  · rw [hlen]; exact Blk.new _ _ _
  · rw [hlen]; exact (HR.out.below k3 (Nat.le_refl _)).mono k3.size
  · rintro b' off rfl
    rcases HO.out.2 with ⟨h1, _⟩ | ⟨g, c, cur, h1, h2, _⟩
    · cases h1
    · simp only [Value.slice.injEq, Option.some.injEq, Addr.mk.injEq] at h1
      obtain ⟨⟨rfl, _⟩, _⟩ := h1
      omega
/-! ### Next -/
theorem runN_append (many : Int) : ∀ (l r : List Int) (a : Int), runN many a (l ++ r) = runN many (runN many a l) r
  | [], r, a => rfl
  | n :: l, r, a => by
    rw [List.cons_append, runN, runN]
    split
    · exact runN_append many l r _
    · exact runN_append many l r _
def nxV (D : Tb) (f many : Int) : Int := max 0 (nextI D f many)
def nxB (D : Tb) (f many : Int) : Bool := decide (0 ≤ nextI D f many)
theorem runN_snoc (many : Int) (l : List Int) (n a : Int) : runN many a (l ++ [n]) = if runN many a l ≤ n ∧ n - runN many a l < many then n + 1 else runN many a l := by
  rw [runN_append, runN]; split <;> rfl
theorem runN_stop {many a n : Int} {pre suf : List Int} (hs : (pre ++ n :: suf).Pairwise (· < ·)) (h : many ≤ n - runN many a pre) : runN many a (pre ++ n :: suf) = runN many a pre := by
  rw [runN_append]
  refine runN_far fun m hm => ?_
  have h2 := (List.pairwise_append.1 hs).2.1
  rcases List.mem_cons.1 hm with rfl | hm
  · exact .inr h
  · have := (List.pairwise_cons.1 h2).1 m hm
    omega
structure NxS (w W : World) (bm ba g : Nat) (ad : Option Addr) (cap : Nat) (l : List Int) (many a : Int) : Prop where
  m : Blk W bm #[.int .i64 many] 3
  a : Blk W ba #[.int .i64 a] 3
  k : Keys W g ad cap l
  bel : Below w.heap.size w W
theorem Next_ok {w : World} {b m : Nat} {D : Tb} (h : TblAt w b m D) (hg : Good D) (hl : D.length ≤ 100000) (f many : Int) (hf : f ≤ 9223372036854775807) :
    Calls Try.prog 11 #[.pointer (some ⟨b, 0, none⟩), .int .i64 f, .int .i64 many] w fun e w' => e = .returned (.tuple #[.int .i64 (nxV D f many), .bool (nxB D f many)]) ∧ Below w.heap.size w w' := by
  obtain ⟨w0, hw0⟩ : ∃ w0, w.alloc (.cells #[.int .i64 many] 3) = w0 := ⟨_, rfl⟩
  have hM : Blk w0 w.heap.size #[.int .i64 many] 3 := by rw [← hw0]; exact Blk.new w _ _
  have k0 : Below w.heap.size w w0 := by rw [← hw0]; exact (Below.refl _ w).alloc (Nat.le_refl _) _
  have h0 := h.step k0
  have z0 := k0.size
  refine calls_of_wp_marks Try.func11 rfl ?_; simp only [Try.ntmps11, List.size_toArray, List.length_cons, List.length_nil, Nat.reduceAdd, Nat.reduceSub, Array.replicate_succ, Array.replicate_zero, List.push_toArray, List.append_toArray, List.nil_append, List.cons_append]
  go_wp2_with fail
  clear hw0
  refine wp_scope_straight ?_
  go_wp2_with fail
  refine (none_live h0).mono ?_; rintro e w1 ⟨rfl, k1⟩
  have hM1 := hM.below k1 hM.lt
  have h1 := h0.step k1
  have kk := k0.trans (k1.mono z0)
  have c5 := hM1.cell 0 rfl
  have z1 := k1.size
  by_cases hbad : many < 1 ∨ 65536 < many
  · have hv : nxV D f many = 0 := by unfold nxV nextI; rw [if_pos hbad]; rfl
    have hb : nxB D f many = false := by unfold nxB nextI; rw [if_pos hbad]; rfl
    have HV := Lib.hid hv
    have HB := Lib.hid hb
    clear hv hb
    by_cases h9 : many < 1
    · go_wp2_with fail
      exact postM_ret0 (results_tmp2 rfl _ _ _) ⟨by rw [HV.out, HB.out]; rfl, kk⟩
    · have h8 : 65536 < many := by omega
      go_wp2_with fail
      exact postM_ret0 (results_tmp2 rfl _ _ _) ⟨by rw [HV.out, HB.out]; rfl, kk⟩
  · have h9 : ¬ many < 1 := by omega
    have h8 : ¬ 65536 < many := by omega
    go_wp2_with fail
    refine wp_label ?_
    have a0 : (0 : Int) ≤ max 0 f := by omega
    have hsrt := hg.srt.keys
    have hpg : ∀ n ∈ D.map (·.1), 0 ≤ n ∧ n < 65536 := fun n hn => by obtain ⟨x, hx, rfl⟩ := List.mem_map.1 hn; exact hg.pg x hx
    have hnv : nextI D f many = if 65536 - many < runN many (max 0 f) (D.map (·.1)) then -1 else runN many (max 0 f) (D.map (·.1)) := by unfold nextI; rw [if_neg hbad]
    have HNV := Lib.hid hnv
    have HSR := Lib.hid hsrt
    have HPG := Lib.hid hpg
    have a1 : max 0 f ≤ 9223372036854775807 := by omega
    obtain ⟨st, hst⟩ : ∃ st, max 0 f = st := ⟨_, rfl⟩
    rw [hst] at a0 HNV a1
    clear hnv hsrt hpg hbad
    obtain ⟨W2, hW2⟩ : ∃ W2, w1.alloc (.cells #[.int .i64 st] 3) = W2 := ⟨_, rfl⟩
    have hA2 : Blk W2 w1.heap.size #[.int .i64 st] 3 := by rw [← hW2]; exact Blk.new w1 _ _
    have k2 : Below w1.heap.size w1 W2 := by rw [← hW2]; exact (Below.refl _ w1).alloc (Nat.le_refl _) _
    have hM2 := hM1.below k2 hM1.lt
    have h2 := h1.step k2
    have kk2 := kk.trans (k2.mono (Nat.le_trans z0 z1))
    have z2 := hA2.lt
    have zM := hM.lt
    rw [hst, hW2]
    clear hW2 hst c5
    go_wp2_with fail
    refine (pages_calls h2 hg (by omega)).mono ?_; rintro e W3 ⟨g, ad, cap, rfl, hk3, hg3, had, k3⟩
    have z3 := k3.size
    have hA3 := hA2.below k3 hA2.lt
    have hM3 := hM2.below k3 hM2.lt
    have kk3 := kk2.trans (k3.mono (by omega))
    have hlk : (D.map (·.1)).length < 1000000 := by rw [List.length_map]; omega
    obtain ⟨l, hl9⟩ : ∃ l, D.map (·.1) = l := ⟨_, rfl⟩
    rw [hl9] at hk3 HNV HSR HPG hlk
    have hal := hA3.lt
    have hml := hM3.lt
    clear k3 k2 hA2 hM2 kk2 h2 hl9 k1 hM1 h1 kk hl hg
    go_wp2_with fail
    refine wp_range1 rfl (enters_of Try.func59 (by kernel_rfl) rfl) (values_iter ad cap l hlk W3.heap.size g) (fun _ => rfl)
      (fun pre W => Blk W w.heap.size #[.int .i64 many] 3 ∧ Blk W w1.heap.size #[.int .i64 (runN many st pre)] 3 ∧ Blk W g #[.slice ad l.length cap] 99 ∧ RowAt W3.heap.size W (.slice ad l.length cap) l.length (intVals .i64 l) ∧ Below w.heap.size w W)
      (fun c W => c = .exit 0 ∧ Blk W w.heap.size #[.int .i64 many] 3 ∧ Blk W w1.heap.size #[.int .i64 (runN many st l)] 3 ∧ Below w.heap.size w W) ?a1 ?hassign ?hI ?hIx ?hA ?h0 ?hbody ?hdone ?hstop
    case hassign => intro m l x W K hK; gi_wp2; exact hK
    case hI => rintro pre X Y ⟨q1, q2, q3, q4, q5⟩ hk; exact ⟨q1.keeps hk, q2.keeps hk, q3.keeps hk, q4.keeps hk, q5.keeps hk (by omega)⟩
    case hIx => rintro c X Y ⟨hc, q1, q2, q5⟩ hk; exact ⟨hc, q1.keeps hk, q2.keeps hk, q5.keeps hk (by omega)⟩
    case hA => rintro pre W ⟨q1, q2, q3, q4, q5⟩; exact ⟨q3.cell 0 rfl, q4⟩
    case h0 => exact ⟨hM3, hA3, hk3.box, hk3.row, kk3⟩
    case hbody =>
      rintro m9 lp pre n suf W hxs hlp hrec ⟨q1, q2, q3, q4, q5⟩
      have c5 : W.cell? ⟨w.heap.size, 0, none⟩ = some (.int .i64 many) := q1.cell 0 rfl
      have hge := runN_ge many pre st
      have hn := HPG.out n (by rw [hxs]; simp)
      have hsn := runN_snoc many pre n st
      have hst := fun h => runN_stop (many := many) (a := st) (pre := pre) (n := n) (suf := suf) (by rw [← hxs]; exact HSR.out) h
      rw [← hxs] at hst
      obtain ⟨a, ha⟩ : ∃ a, runN many st pre = a := ⟨_, rfl⟩
      rw [ha] at q2 hge hsn hst
      have HSN := Lib.hid hsn
      have HST := Lib.hid hst
      have c8 : W.cell? ⟨w1.heap.size, 0, none⟩ = some (.int .i64 a) := q2.cell 0 rfl
      have f8 := q2.frozen 0
      clear hsn hst ha hxs
      by_cases hna : n < a
      · have hsn : runN many st (pre ++ [n]) = a := by rw [HSN.out, if_neg (by omega)]
        have HS := Lib.hid hsn
        clear hsn
        gi_wp2_with fail
        exact ⟨KeepsRec.refl W, q1, by rw [HS.out]; exact q2, q3, q4, q5⟩
      · by_cases hmn : many ≤ n - a
        · have hsn := HST.out hmn
          have HS := Lib.hid hsn
          clear hsn
          gi_wp2_with fail
          exact ⟨KeepsRec.refl W, rfl, q1, by rw [HS.out]; exact q2, q5⟩
        · have hsn : runN many st (pre ++ [n]) = n + 1 := by rw [HSN.out, if_pos (by omega)]
          have HS := Lib.hid hsn
          clear hsn
          gi_wp2_with fail
          exact ⟨(KeepsRec.refl W).setCell _ _, q1.setOther _ _ (by dsimp only; omega), by rw [HS.out]; exact q2.set 0 _, q3.setOther _ _ (by dsimp only; omega), q4.setO _ _ (fun b off e => by have := had b off e; dsimp only; omega), q5.setCell (p := ⟨w1.heap.size, 0, none⟩) (by dsimp only; omega) _⟩
    case hdone =>
      rintro D9 W hD ⟨q1, q2, q3, q4, q5⟩ hK
      have c5 : W.cell? ⟨w.heap.size, 0, none⟩ = some (.int .i64 many) := q1.cell 0 rfl
      have hge := runN_ge many l st
      obtain ⟨a, ha⟩ : ∃ a, runN many st l = a := ⟨_, rfl⟩
      rw [ha] at q2 hge HNV
      clear ha
      have c8 : W.cell? ⟨w1.heap.size, 0, none⟩ = some (.int .i64 a) := q2.cell 0 rfl
      have hDl := (Array.getElem?_eq_some_iff.1 hK).1
      by_cases h7 : 65536 - many < a
      · have hv : nxV D f many = 0 := by unfold nxV; rw [HNV.out, if_pos h7]; rfl
        have hb : nxB D f many = false := by unfold nxB; rw [HNV.out, if_pos h7]; rfl
        have HV := Lib.hid hv
        have HB := Lib.hid hb
        clear hv hb
        go_wp2_with fail
        exact postM_ret hK (results_tmp2 rfl _ _ _) ⟨by rw [HV.out, HB.out]; rfl, below_putObj q5 (by omega) _ hDl⟩
      · have hv : nxV D f many = a := by unfold nxV; rw [HNV.out, if_neg h7]; omega
        have hb : nxB D f many = true := by unfold nxB; rw [HNV.out, if_neg h7]; exact decide_eq_true (by omega)
        have HV := Lib.hid hv
        have HB := Lib.hid hb
        clear hv hb
        go_wp2_with fail
        exact postM_ret hK (results_tmp2 rfl _ _ _) ⟨by rw [HV.out, HB.out]; rfl, below_putObj q5 (by omega) _ hDl⟩
    case hstop =>
      rintro D9 c W hD ⟨rfl, q1, q2, q5⟩ hK
      have c5 : W.cell? ⟨w.heap.size, 0, none⟩ = some (.int .i64 many) := q1.cell 0 rfl
      have hge := runN_ge many l st
      obtain ⟨a, ha⟩ : ∃ a, runN many st l = a := ⟨_, rfl⟩
      rw [ha] at q2 hge HNV
      clear ha
      have c8 : W.cell? ⟨w1.heap.size, 0, none⟩ = some (.int .i64 a) := q2.cell 0 rfl
      have hDl := (Array.getElem?_eq_some_iff.1 hK).1
      by_cases h7 : 65536 - many < a
      · have hv : nxV D f many = 0 := by unfold nxV; rw [HNV.out, if_pos h7]; rfl
        have hb : nxB D f many = false := by unfold nxB; rw [HNV.out, if_pos h7]; rfl
        have HV := Lib.hid hv
        have HB := Lib.hid hb
        clear hv hb
        go_wp2_with fail
        exact postM_ret hK (results_tmp2 rfl _ _ _) ⟨by rw [HV.out, HB.out]; rfl, below_putObj q5 (by omega) _ hDl⟩
      · have hv : nxV D f many = a := by unfold nxV; rw [HNV.out, if_neg h7]; omega
        have hb : nxB D f many = true := by unfold nxB; rw [HNV.out, if_neg h7]; exact decide_eq_true (by omega)
        have HV := Lib.hid hv
        have HB := Lib.hid hb
        clear hv hb
        go_wp2_with fail
        exact postM_ret hK (results_tmp2 rfl _ _ _) ⟨by rw [HV.out, HB.out]; rfl, below_putObj q5 (by omega) _ hDl⟩
end Go.Proofs.Ytchepkihlnpfeaa
