/-
  Stream: the words from 0 on, mixed. Conditions: the bounds of the kinds; no more than 2^62 words.
-/
import Derived.Test.YtpklmjdcplpgeaaMixQ
namespace Go.Proofs.Ytpklmjdcplpgeaa
open Go.RowKit
attribute [local go_sem] Oper.semAt_some
set_option maxHeartbeats 400000

def streamI (key many : Int) : List Int := (List.range many.toNat).map fun (n : Nat) => mixI key n
theorem streamI_len (key many : Int) : (streamI key many).length = many.toNat := by simp [streamI]
theorem streamI_get (key many : Int) (k : Nat) (h : k < (streamI key many).length) : (streamI key many)[k] = mixI key k := by simp [streamI]
theorem Stream_calls (key many : Int) (w : World) : Calls Try.prog 29 #[.int .u64 key, .int .i64 many] w fun e w' =>
    e = .returned (.func (.func 33) #[] #[.pointer (some ⟨w.heap.size + 1, 0, none⟩), .pointer (some ⟨w.heap.size, 0, none⟩)]) ∧ w' = (w.alloc (.cells #[.int .u64 key] 23)).alloc (.cells #[.int .i64 many] 3) := by
  go_enter Try.func29, Try.ntmps29
  go_wp2
  go_ret
  exact ⟨rfl, rfl⟩
theorem Stream_iter (key many : Int) (hm : many ≤ 4611686018427387904) (bm bk : Nat) :
    IterK Try.prog 33 #[.pointer (some ⟨bm, 0, none⟩), .pointer (some ⟨bk, 0, none⟩)] (fun k : Int => #[.int .u64 k]) (streamI key many)
      (fun W => W.cell? ⟨bm, 0, none⟩ = some (.int .i64 many) ∧ W.cell? ⟨bk, 0, none⟩ = some (.int .u64 key)) := by
  intro l J Jx W hJ hJx hA hY h0
  refine calls_in Try.func33 rfl ?_; simp only [Try.ntmps33, List.size_toArray, List.length_cons, List.length_nil, Nat.reduceAdd, Nat.reduceSub, Array.replicate_succ, Array.replicate_zero, List.push_toArray, List.append_toArray, List.nil_append, List.cons_append]
  refine wpIn_scope_straight ?_
  gi_wp2
  refine wpIn_label ?_
  gi_wp2
  gi_loopw [4] (fun i wr => ∃ k : Nat, k ≤ many.toNat ∧ i = .int .i64 k ∧ J ((streamI key many).take k) wr ∧ W.heap.size ≤ wr.heap.size) (fun i _ => many.toNat - (intOf i).toNat)
  case atStart => exact ⟨0, by omega, rfl, by simpa using h0, Nat.le_refl _⟩
  case round =>
    obtain ⟨k, hk, rfl, hJk, hsz⟩ := hrel
    obtain ⟨hc1, hc2⟩ := hA _ _ hJk
    by_cases hlt : (k : Int) < many
    · have hl : k < (streamI key many).length := by rw [streamI_len]; omega
      have hsp := Lib.hid (split_at _ k hl)
      have htk := Lib.hid (take_next _ k hl)
      have i0 : (0 : Int) ≤ k := by omega
      gi_wp2_with fail
      refine by_calls (Mix_ok _ _ _) ?_; rintro e w1 ⟨rfl, hb⟩
      have hJ1 := hJ _ _ _ hJk (Keeps.of_below hb hsz (Nat.le_refl _))
      have hz1 := hb.size
      obtain ⟨fn, tmps, assign, body, hy, hR⟩ := hY _ _ _ w1 hsp.out hJ1 (by omega)
      rw [streamI_get] at hy
      clear hY
      gi_wp2_with fail
      refine (hR _).mono ?_; rintro e W3 (⟨rfl, hJ3, hs3⟩ | ⟨rfl, hJx3, hs3⟩)
      · gi_wp2
        go_roundw
        case rel => exact ⟨k + 1, by omega, by go_num, by rw [htk.out]; exact hJ3, by omega⟩
        case measure => simp [intOf]; omega
      · gi_wp2
        rw [Exit.noGoto_normal]
        go_end0
        exact ⟨⟨_, rfl⟩, .inr hJx3⟩
    · gi_wp2
      go_end0
      exact ⟨⟨_, rfl⟩, .inl (by rw [List.take_of_length_le (by rw [streamI_len]; omega)] at hJk; exact hJk)⟩
theorem info64 : ElemInfo Try.prog 23 (.int .u64 0) 1 8 := elemInfo_of (by kernel_rfl) rfl (by decide)
/-- The helper 'stream': the first words, at most so many. -/
theorem stream_ok (key many most : Int) (hm : many ≤ 300) (h1 : 1 ≤ most) (h3 : most ≤ 300) (w : World) : Calls Try.prog 20 #[.int .u64 key, .int .i64 many, .int .i64 most] w fun e w' =>
    ∃ v, e = .returned v ∧ w'.ownsRow w.heap.size 23 1 v ((streamI key many).take most.toNat).length (intVals .u64 ((streamI key many).take most.toNat)) ∧ Below w.heap.size w w' := by
  have hfn := fun (fn : Fn) (x y : Array Value) (w : World) => run_eql_func_nil (P := Try.prog) Try.underlying60 fn x y w
  refine calls_of_wp_marks Try.func20 rfl ?_; simp only [Try.ntmps20, List.size_toArray, List.length_cons, List.length_nil, Nat.reduceAdd, Nat.reduceSub, Array.replicate_succ, Array.replicate_zero, List.push_toArray, List.append_toArray, List.nil_append, List.cons_append]
  go_wp2_with fail
  refine (Stream_calls _ _ _).mono ?_; rintro e w1 ⟨rfl, rfl⟩
  go_wp2_with fail
  refine (Stream_calls _ _ _).mono ?_; rintro e w2 ⟨rfl, rfl⟩
  go_wp2_with fail
  obtain ⟨W0, hW0⟩ : ∃ W0, W0 = (((((w.alloc (.cells #[.int .i64 most] 3)).alloc (.cells #[.slice none 0 0] 36)).alloc (.cells #[.int .u64 key] 23)).alloc (.cells #[.int .i64 many] 3)).alloc (.cells #[.int .u64 key] 23)).alloc (.cells #[.int .i64 many] 3) := ⟨_, rfl⟩
  rw [← hW0]
  have hs0 : W0.heap.size = w.heap.size + 6 := by rw [hW0]; simp
  have b0 : Blk W0 w.heap.size #[.int .i64 most] 3 := by rw [hW0]; exact (((((Blk.new w _ _).alloc _).alloc _).alloc _).alloc _).alloc _
  have b1 : Blk W0 (w.heap.size + 1) #[.slice none 0 0] 36 := by rw [hW0]; exact ((((Blk.newAt _ _ _ (by simp)).alloc _).alloc _).alloc _).alloc _
  have b4 : Blk W0 (w.heap.size + 1 + 1 + 1 + 1) #[.int .u64 key] 23 := by rw [hW0]; exact (Blk.newAt _ _ _ (by simp)).alloc _
  have b5 : Blk W0 (w.heap.size + 1 + 1 + 1 + 1 + 1) #[.int .i64 many] 3 := by rw [hW0]; exact Blk.newAt _ _ _ (by simp)
  have hw0 : Below w.heap.size w W0 := by rw [hW0]; exact ((((((Below.refl _ w).alloc (Nat.le_refl _) _).alloc (by simp) _).alloc (by simp; omega) _).alloc (by simp; omega) _).alloc (by simp; omega) _).alloc (by simp; omega) _
  clear hW0 hfn
  refine wp_range1 rfl (enters_of Try.func33 (by kernel_rfl) rfl) (Stream_iter key many (by omega) (w.heap.size + 1 + 1 + 1 + 1 + 1) (w.heap.size + 1 + 1 + 1 + 1)) (fun _ => rfl)
    (fun pre W => ∃ v, Blk W (w.heap.size + 1) #[v] 36 ∧ W.ownsRow (w.heap.size + 6) 23 1 v pre.length (intVals .u64 pre) ∧ (pre.length : Int) < most ∧ Blk W w.heap.size #[.int .i64 most] 3 ∧ Blk W (w.heap.size + 1 + 1 + 1 + 1) #[.int .u64 key] 23 ∧ Blk W (w.heap.size + 1 + 1 + 1 + 1 + 1) #[.int .i64 many] 3 ∧ Below w.heap.size w W ∧ w.heap.size + 6 ≤ W.heap.size)
    (fun c W => c = .exit 0 ∧ ∃ v pre suf, streamI key many = pre ++ suf ∧ (pre.length : Int) = most ∧ Blk W (w.heap.size + 1) #[v] 36 ∧ W.ownsRow (w.heap.size + 6) 23 1 v pre.length (intVals .u64 pre) ∧ Below w.heap.size w W ∧ w.heap.size + 6 ≤ W.heap.size) ?a1 ?ha ?hI ?hIx ?hA ?h0 ?hbody ?hdone ?hstop
  case ha => intro m l x W K hK; gi_wp2; exact hK
  case hI => rintro pre X Y ⟨v, h1, h2, h3, h4, h5, h6, h7, h8⟩ hk; exact ⟨v, h1.keeps hk, owns_keeps h2 hk, h3, h4.keeps hk, h5.keeps hk, h6.keeps hk, h7.keeps hk (by omega), Nat.le_trans h8 hk.size⟩
  case hIx => rintro c X Y ⟨hc, v, pre, suf, h1, h2, h3, h4, h5, h6⟩ hk; exact ⟨hc, v, pre, suf, h1, h2, h3.keeps hk, owns_keeps h4 hk, h5.keeps hk (by omega), Nat.le_trans h6 hk.size⟩
  case hA => rintro pre W ⟨v, h1, h2, h3, h4, h5, h6, h7, h8⟩; exact ⟨h6.cell 0 rfl, h5.cell 0 rfl⟩
  case h0 => exact ⟨_, b1, World.ownsRow_nil _ _ _ _, by simp; omega, b0, b4, b5, hw0, by omega⟩
  case hbody =>
    rintro m l pre x suf W hxs hl hrec ⟨v, h1, h2, h3, h4, h5, h6, h7, h8⟩
    have hpl : pre.length ≤ 300 := by have := congrArg List.length hxs; rw [streamI_len] at this; simp at this; omega
    have c1 : W.cell? ⟨w.heap.size + 1, 0, none⟩ = some v := h1.cell 0 rfl
    gi_wp2_with (gi_at_builtin; refine wpListIn_append_row rfl _ _ 36 rfl (w.heap.size + 6) Try.underlying36 info64 pre.length (intVals .u64 pre) rfl ?c1 (W.heap.size + 1) 1 [.int .u64 x] rfl ?c2 ?c3 ?c4 ?c5 ?c6 ?c7 ?_)
    case c1 => exact h2.alloc _
    case c2 => exact RowAt.lit W #[.int .u64 x] 23 1 _ (by omega)
    case c3 => rfl
    case c4 => intro u hu; simp at hu; subst hu; rfl
    case c5 => unfold maxLen; omega
    case c6 => omega
    case c7 => simp; omega
    intro v' W' ho hg
    have hr' : KeepsRec W W' := ((KeepsRec.refl W).alloc _).appended (h2.alloc _) hg
    have hb' : Below w.heap.size w W' := (h7.alloc (by omega) _).appended (h2.alloc _) hg (by omega) (by simp; omega)
    have g1 := (h1.alloc _).appended (h2.alloc _) hg (by omega)
    have g4 := (h4.alloc _).appended (h2.alloc _) hg (by omega)
    have g5 := (h5.alloc _).appended (h2.alloc _) hg (by omega)
    have g6 := (h6.alloc _).appended (h2.alloc _) hg (by omega)
    have hz' : w.heap.size + 6 ≤ W'.heap.size := by have := hg.size; simp at this; omega
    clear hg c1
    obtain ⟨g, cp, rfl⟩ := ownsRow_succ ho
    have f1 := g1.frozen 0
    have c1 : W'.cell? ⟨w.heap.size + 1, 0, none⟩ = some v := g1.cell 0 rfl
    have c4 : W'.cell? ⟨w.heap.size, 0, none⟩ = some (.int .i64 most) := g4.cell 0 rfl
    gi_wp2
    · have ht : most ≤ (pre.length : Int) + 1 := by assumption
      refine ⟨hr'.setCell _ _, rfl, _, pre ++ [x], suf, by rw [hxs]; simp, by simp; omega, g1.set 0 _, ?_, hb'.setCell (p := ⟨w.heap.size + 1, 0, none⟩) (by simp) _, by simpa using hz'⟩
      have := ownsRow_setCell_below ho (a := ⟨w.heap.size + 1, 0, none⟩) (by simp) (.slice (some ⟨g, 0, none⟩) (pre.length + 1) cp)
      simpa [intVals] using this
    · have ht : (pre.length : Int) + 1 < most := by assumption
      refine ⟨hr'.setCell _ _, _, g1.set 0 _, ?_, by simp; omega, g4.setOther _ _ (by simp), g5.setOther _ _ (by simp; omega), g6.setOther _ _ (by simp; omega), hb'.setCell (p := ⟨w.heap.size + 1, 0, none⟩) (by simp) _, by simpa using hz'⟩
      have := ownsRow_setCell_below ho (a := ⟨w.heap.size + 1, 0, none⟩) (by simp) (.slice (some ⟨g, 0, none⟩) (pre.length + 1) cp)
      simpa [intVals] using this
  case hdone =>
    rintro D W hD ⟨v, h1, h2, h3, h4, h5, h6, h7, h8⟩ hK
    have c1 : W.cell? ⟨w.heap.size + 1, 0, none⟩ = some v := h1.cell 0 rfl
    go_wp2_with fail
    have htk : (streamI key many).take most.toNat = streamI key many := List.take_of_length_le (by omega)
    refine postM_ret hK (results_tmp rfl _ _ _) ⟨v, rfl, ?_, below_putObj h7 (by omega) _ (Array.getElem?_eq_some_iff.1 hK).1⟩
    rw [htk]
    exact owns_weaken (ownsRow_putObj h2 _ hK rfl) (by omega)
  case hstop =>
    rintro D c W hD ⟨rfl, v, pre, suf, h1, h2, h3, h4, h5, h6⟩ hK
    have c1 : W.cell? ⟨w.heap.size + 1, 0, none⟩ = some v := h3.cell 0 rfl
    go_wp2_with fail
    have htk : (streamI key many).take most.toNat = pre := by rw [h1, List.take_append_of_le_length (by omega), List.take_of_length_le (by omega)]
    refine postM_ret hK (results_tmp rfl _ _ _) ⟨v, rfl, ?_, below_putObj h5 (by omega) _ (Array.getElem?_eq_some_iff.1 hK).1⟩
    rw [htk]
    exact owns_weaken (ownsRow_putObj h4 _ hK rfl) (by omega)
end Go.Proofs.Ytpklmjdcplpgeaa
