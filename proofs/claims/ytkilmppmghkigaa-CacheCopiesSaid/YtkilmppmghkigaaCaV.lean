/-
  Package pinfoldlaw18: all. Conditions: On's answers are known; few slots, each from 0 to 255, none twice.
-/
import Derived.Test.YtkilmppmghkigaaCaU
namespace Go.Proofs.Ytkilmppmghkigaa
open Go.RowKit
attribute [local go_sem] Oper.semAt_some
set_option maxHeartbeats 4000000
set_option maxRecDepth 8000

/-- What lies at each place, once pairs have been laid. -/
def outL (pre : List (Int × Int)) : Nat → Int := pre.foldl (fun f x => fun i => if (i : Int) = x.1 then x.2 else f i) (fun _ => -1)
theorem outL_nil : outL [] = fun _ => -1 := rfl
theorem outL_snoc (pre : List (Int × Int)) (x : Int × Int) (i : Nat) : outL (pre ++ [x]) i = if (i : Int) = x.1 then x.2 else outL pre i := by simp [outL]
def OutAt (f : Nat → Int) (cs : Array Value) : Prop := cs.size = 256 ∧ ∀ i, i < 256 → cs[i]? = some (.int .i64 (f i))
theorem OutAt.put {pre : List (Int × Int)} {cs : Array Value} (h : OutAt (outL pre) cs) (n : Nat) (hn : n < 256) (t : Int) : OutAt (outL (pre ++ [((n : Int), t)])) (cs.setIfInBounds n (.int .i64 t)) := by
  refine ⟨by simpa using h.1, fun i hi => ?_⟩
  rw [outL_snoc]
  by_cases e : i = n
  · subst e
    rw [Array.getElem?_setIfInBounds_self_of_lt (by rw [h.1]; exact hi), if_pos rfl]
  · rw [Array.getElem?_setIfInBounds_ne (Ne.symm e), h.2 i hi, if_neg (by simp; omega)]
theorem OutAt.list {f : Nat → Int} {cs : Array Value} (h : OutAt f cs) : cs.toList = intVals .i64 ((List.range 256).map f) := by
  refine List.ext_getElem? fun i => ?_
  by_cases hi : i < 256
  · rw [Array.getElem?_toList, h.2 i hi]
    simp [intVals, hi]
  · rw [List.getElem?_eq_none (by simp [h.1]; omega), List.getElem?_eq_none (by simp [intVals]; omega)]
theorem owns_blk {W : World} {base g n : Nat} {e : TypeId} {xs : List Value} (h : W.ownsRow base e 1 (.slice (some ⟨g, 0, none⟩) n n) n xs) : Blk W g xs.toArray e := by
  obtain ⟨_, hx⟩ := h
  rcases hx with ⟨h1, _⟩ | ⟨g', cap, cur, hv, _, hg, _, _, hsz, htk⟩
  · cases h1
  · simp only [Value.slice.injEq, Option.some.injEq, Addr.mk.injEq, true_and, and_true] at hv
    obtain ⟨rfl, rfl⟩ := hv
    rw [Nat.mul_one] at hsz htk
    rw [List.take_of_length_le (by simp [hsz])] at htk
    rw [← htk]
    exact hg
theorem blk_owns {W : World} {base g n : Nat} {e : TypeId} {cs : Array Value} (h : Blk W g cs e) (hb : base ≤ g) (hs : cs.size = n) (hn : n ≤ maxLen) : W.ownsRow base e 1 (.slice (some ⟨g, 0, none⟩) n n) n cs.toList :=
  ⟨by simp [hs], .inr ⟨g, n, cs, rfl, hb, h, Nat.le_refl _, hn, by omega, List.take_of_length_le (by simp [hs])⟩⟩
theorem wf_i64 {n : Int} (h0 : 0 ≤ n) (h1 : n ≤ 9223372036854775807) : (Lit.int .i64 n).wf = true := by
  show (decide (IntKind.i64.min ≤ n) && decide (n ≤ IntKind.i64.max)) = true
  rw [show IntKind.i64.min = -9223372036854775808 from rfl, show IntKind.i64.max = 9223372036854775807 from rfl, Bool.and_eq_true]
  exact ⟨decide_eq_true (by omega), decide_eq_true (by omega)⟩
theorem allL_len (m : List (Int × Int)) : (allL m).length = m.length := by simp [allL, srt, encP]
theorem allL_key {m : List (Int × Int)} {x : Int × Int} (h : x ∈ allL m) : ∃ y ∈ m, y.1 = x.1 := by
  unfold allL srt encP at h
  obtain ⟨k, hk, rfl⟩ := List.mem_map.1 h
  have := List.mem_mergeSort.1 hk
  simpa using this
theorem all_ok {w : World} {p : Option Addr} {c : Int} {l : Nat → List Int} (hO : Ons w p c l) (hnd : ((pTo l 4).map (·.1)).Nodup) (hfew : ∀ t, t < 4 → (l t).length < 1000000) (hr : ∀ x ∈ pTo l 4, 0 ≤ x.1 ∧ x.1 < 256) (hlen : (pTo l 4).length ≤ 1000) (most : Int) (hm : ((pTo l 4).length : Int) < most) (hm2 : most ≤ 1000000) :
    Calls Try.prog 43 #[.pointer p, .int .i64 c, .int .i64 most] w fun e w' =>
      ∃ v, e = .returned v ∧ w'.ownsRow w.heap.size 3 1 v 256 (intVals .i64 ((List.range 256).map (outL (allL (pTo l 4))))) ∧ Below w.heap.size w w' := by
  have hfn := fun (fn : Fn) (x y : Array Value) (w : World) => run_eql_func_nil (P := Try.prog) Try.underlying53 fn x y w
  have HFN := Lib.hid hfn
  obtain ⟨ii, hii, hiz, his, hib, _⟩ := info64
  have hm1 : (1 : Int) ≤ most := by omega
  clear hfn
  refine calls_of_wp_marks Try.func43 rfl ?_; simp only [Try.ntmps43, List.size_toArray, List.length_cons, List.length_nil, Nat.reduceAdd, Nat.reduceSub, Array.replicate_succ, Array.replicate_zero, List.push_toArray, List.append_toArray, List.nil_append, List.cons_append]
  go_wp2_with (at_make; refine wpList_make_full _ rfl _ _ 35 rfl (w.heap.size + 2) 3 ii (.int .i64 0) 1 Try.underlying35 hii hiz his .i64 .i64 256 256 256 rfl rfl rfl rfl (by rw [hib]; decide) (by decide) (by simp) ?_)
  intro W1 ho1 hg1
  obtain ⟨W0, hW0⟩ : ∃ W0, W0 = (w.alloc (.cells #[.int .i64 most] 3)).alloc (.cells #[.slice none 0 0] 35) := ⟨_, rfl⟩
  rw [← hW0] at hg1
  have hs0 : W0.heap.size = w.heap.size + 1 + 1 := by rw [hW0]; simp
  have b0 : Blk W0 w.heap.size #[.int .i64 most] 3 := by rw [hW0]; exact (Blk.new w _ _).alloc _
  have b1 : Blk W0 (w.heap.size + 1) #[.slice none 0 0] 35 := by rw [hW0]; exact Blk.newAt _ _ _ (by simp)
  have k0 : Below w.heap.size w W0 := by rw [hW0]; exact ((Below.refl _ w).alloc (Nat.le_refl _) _).alloc (by simp) _
  clear hW0
  have bg := owns_blk ho1
  have z1 : w.heap.size + 1 + 1 < W1.heap.size := bg.lt
  have j1 : Below W0.heap.size W0 W1 := (Below.refl _ W0).grown hg1 (Nat.le_refl _) (fun k e => by cases e)
  have k1 := k0.trans (j1.mono (by omega))
  replace b0 := b0.below j1 b0.lt
  replace b1 := b1.below j1 b1.lt
  have hcs0 : (madeCells #[Value.int IntKind.i64 0] (256 * 1)).toList.toArray.size = 256 := by simp [madeCells]
  have hst : ∃ cs, Blk W1 (w.heap.size + 1 + 1) cs 3 ∧ cs.size = 256 := ⟨_, bg, by have := ho1.1; simpa using this⟩
  obtain ⟨cs0, bg0, hcs⟩ := hst
  clear ho1 bg hcs0 j1 k0 hg1 hs0
  go_wp2_with fail
  obtain ⟨W2, hW2⟩ : ∃ W2, W2 = W1.alloc (.cells #[.slice (some ⟨w.heap.size + 1 + 1, 0, none⟩) 256 256] 35) := ⟨_, rfl⟩
  rw [← hW2]
  have z2 : W2.heap.size = W1.heap.size + 1 := by rw [hW2]; simp
  have k2 : Below w.heap.size w W2 := by rw [hW2]; exact k1.alloc (by omega) _
  replace b0 : Blk W2 w.heap.size #[.int .i64 most] 3 := by rw [hW2]; exact b0.alloc _
  replace b1 : Blk W2 (w.heap.size + 1) #[.slice none 0 0] 35 := by rw [hW2]; exact b1.alloc _
  have b2 : Blk W2 (w.heap.size + 1 + 1) cs0 3 := by rw [hW2]; exact bg0.alloc _
  have b3 : Blk W2 W1.heap.size #[.slice (some ⟨w.heap.size + 1 + 1, 0, none⟩) 256 256] 35 := by rw [hW2]; exact Blk.new _ _ _
  obtain ⟨ob, hob⟩ : ∃ ob, W1.heap.size = ob := ⟨_, rfl⟩
  rw [hob] at b3 z1 z2 ⊢
  clear hW2 k1 bg0 hob
  go_loopw [8] (fun i wr => ∃ k : Nat, k ≤ 256 ∧ i = .int .i64 k ∧ Below w.heap.size w wr ∧ wr.heap.size = ob + 1 ∧ Blk wr w.heap.size #[.int .i64 most] 3 ∧ Blk wr (w.heap.size + 1) #[.slice none 0 0] 35 ∧ Blk wr ob #[.slice (some ⟨w.heap.size + 1 + 1, 0, none⟩) 256 256] 35 ∧ ∃ cs, Blk wr (w.heap.size + 1 + 1) cs 3 ∧ cs.size = 256 ∧ ∀ j, j < k → cs[j]? = some (.int .i64 (-1))) (fun i _ => 256 - (intOf i).toNat)
  case atStart => exact ⟨0, by omega, rfl, k2, z2, b0, b1, b3, cs0, b2, hcs, fun j hj => by omega⟩
  case round =>
    obtain ⟨k, hk, rfl, kr, zr, r0, r1, r3, cs, r2, hcz, hcj⟩ := hrel
    clear k2 z2 b0 b1 b3 b2
    have c3 : wr.cell? ⟨ob, 0, none⟩ = some (.slice (some ⟨w.heap.size + 1 + 1, 0, none⟩) 256 256) := r3.cell 0 rfl
    by_cases hlt : k < 256
    · have j0 : (0 : Int) ≤ k := by omega
      have j1 : (k : Int) < 256 := by omega
      have ck : wr.cell? ⟨w.heap.size + 1 + 1, k, none⟩ = cs[k]? := by
        rw [Array.getElem?_eq_getElem (by omega)]; exact r2.cell k (Array.getElem?_eq_getElem (by omega))
      rw [Array.getElem?_eq_getElem (by omega)] at ck
      have fk := r2.frozen k
      have e2 := r2.set k (.int .i64 (-1))
      have e0 := r0.setOther ⟨w.heap.size + 1 + 1, k, none⟩ (.int .i64 (-1)) (by show w.heap.size ≠ w.heap.size + 1 + 1; omega)
      have e1 := r1.setOther ⟨w.heap.size + 1 + 1, k, none⟩ (.int .i64 (-1)) (by show w.heap.size + 1 ≠ w.heap.size + 1 + 1; omega)
      have e3 := r3.setOther ⟨w.heap.size + 1 + 1, k, none⟩ (.int .i64 (-1)) (by show ob ≠ w.heap.size + 1 + 1; omega)
      have ke := kr.setCell (p := ⟨w.heap.size + 1 + 1, k, none⟩) (by show w.heap.size ≤ w.heap.size + 1 + 1; omega) (.int .i64 (-1))
      have HCJ := Lib.hid hcj
      clear r0 r1 r2 r3 kr hcj
      go_wp2_with fail
      refine ⟨⟨k + 1, by omega, by go_num, ke, by simpa using zr, e0, e1, e3, _, e2, by simpa using hcz, fun j hj => ?_⟩, by simp [intOf]; omega⟩
      by_cases e : j = k
      · subst e; rw [Array.getElem?_setIfInBounds_self_of_lt (by omega)]
      · rw [Array.getElem?_setIfInBounds_ne (Ne.symm e)]; exact HCJ.out j (by omega)
    · obtain rfl : k = 256 := by omega
      have hOut : OutAt (outL []) cs := ⟨hcz, hcj⟩
      clear hcj
      go_wp2_with fail
      obtain ⟨W3, hW3⟩ : ∃ W3, W3 = wr.alloc (.cells #[.int .i64 0] 3) := ⟨_, rfl⟩
      rw [← hW3]
      have z3 : W3.heap.size = ob + 1 + 1 := by rw [hW3]; simp [zr]
      have k3 : Below w.heap.size w W3 := by rw [hW3]; exact kr.alloc (by omega) _
      replace r0 : Blk W3 w.heap.size #[.int .i64 most] 3 := by rw [hW3]; exact r0.alloc _
      replace r1 : Blk W3 (w.heap.size + 1) #[.slice none 0 0] 35 := by rw [hW3]; exact r1.alloc _
      replace r2 : Blk W3 (w.heap.size + 1 + 1) cs 3 := by rw [hW3]; exact r2.alloc _
      replace r3 : Blk W3 ob #[.slice (some ⟨w.heap.size + 1 + 1, 0, none⟩) 256 256] 35 := by rw [hW3]; exact r3.alloc _
      have r4 : Blk W3 (ob + 1) #[.int .i64 0] 3 := by rw [hW3]; exact Blk.newAt _ _ _ zr.symm
      clear hW3 kr c3
      refine (All_calls (w := W3) (fun t ht W k => hO t ht W (k3.trans (k.mono k3.size))) hnd hfew).mono ?_; rintro e W4 ⟨s4, m4, rfl, _, _, _, _, k4⟩
      have hz4 := k4.size
      replace r0 := r0.below k4 r0.lt
      replace r1 := r1.below k4 r1.lt
      replace r2 := r2.below k4 r2.lt
      replace r3 := r3.below k4 r3.lt
      replace r4 := r4.below k4 r4.lt
      have k5 := k3.trans (k4.mono k3.size)
      have hfn := HFN.out
      clear k4 k3
      go_wp2_with fail
      clear hfn
      refine (All_calls (w := W4) (fun t ht W k => hO t ht W (k5.trans (k.mono k5.size))) hnd hfew).mono ?_; rintro e W5 ⟨s, mb, rfl, ls, lm, hS, hM, k6⟩
      have hz6 := k6.size
      replace r0 := r0.below k6 r0.lt
      replace r1 := r1.below k6 r1.lt
      replace r2 := r2.below k6 r2.lt
      replace r3 := r3.below k6 r3.lt
      replace r4 := r4.below k6 r4.lt
      have k7 := k5.trans (k6.mono k5.size)
      clear k5 k6
      go_wp2_with fail
      have hsl := hS.lt
      have hml := hM.lt
      refine wp_rangeS1 rfl (enters_of Try.func46 (by kernel_rfl) rfl) (all_iterC s mb (pTo l 4) (by omega) (fun x hx => wf_i64 (by have := hr x hx; omega) (by have := hr x hx; omega))) (fun _ => rfl)
        (fun hi pre W => (∃ cs, Blk W (w.heap.size + 1 + 1) cs 3 ∧ OutAt (outL pre) cs) ∧ Blk W w.heap.size #[.int .i64 most] 3 ∧ Blk W (w.heap.size + 1) #[.slice none 0 0] 35 ∧ Blk W ob #[.slice (some ⟨w.heap.size + 1 + 1, 0, none⟩) 256 256] 35 ∧ Blk W (ob + 1) #[.int .i64 pre.length] 3 ∧ Blk W s #[.map (some mb)] 83 ∧ MapI W mb (encP (pTo l 4)) ∧ Below w.heap.size w W ∧ W5.heap.size ≤ W.heap.size)
        (fun _ _ => False) ?a1 ?ha ?hI ?hIx ?hA ?h0 ?hbody ?hdone ?hstop
      case ha => intro m l x W K hK; gi_wp2; exact hK
      case hI => rintro hi pre X Y ⟨⟨cs, h1, h2⟩, h3, h4, h5, h6, h7, h8, h9, h10⟩ hk; exact ⟨⟨cs, h1.keeps hk, h2⟩, h3.keeps hk, h4.keeps hk, h5.keeps hk, h6.keeps hk, h7.keeps hk, h8.keeps hk, h9.keeps hk (by omega), Nat.le_trans h10 hk.size⟩
      case hIx => rintro c X Y h hk; exact h
      case hA => rintro hi pre W ⟨_, _, _, _, _, h7, h8, _⟩; exact ⟨h7.cell 0 rfl, h8⟩
      case h0 => intro hi hh; exact ⟨⟨cs, r2, hOut⟩, r0, r1, r3, r4, hS, hM, k7, Nat.le_refl _⟩
      case hbody =>
        rintro m lp hi pre ⟨xi, xt⟩ suf W hxs hl hrec hhi hhW ⟨⟨cs, h1, h2⟩, h3, h4, h5, h6, h7, h8, h9, h10⟩
        obtain ⟨y, hy, hye⟩ := allL_key (m := pTo l 4) (x := (xi, xt)) (by rw [hxs]; simp)
        have hyr := hr y hy
        rw [hye] at hyr
        dsimp only at hyr
        obtain ⟨xn, rfl⟩ : ∃ n : Nat, xi = n := ⟨xi.toNat, by omega⟩
        have hpl : pre.length + 1 ≤ (pTo l 4).length := by have := congrArg List.length hxs; rw [allL_len] at this; simp at this; omega
        have p0 : (pre.length : Int) + 1 < most := by omega
        have x0 : (0 : Int) ≤ xn := by omega
        have x1 : (xn : Int) < 256 := by omega
        have d0 : decide ((xn : Int) < 0) = false := decide_eq_false (by omega)
        have d1 : decide ((255 : Int) < xn) = false := decide_eq_false (by omega)
        have ck : W.cell? ⟨w.heap.size + 1 + 1, xn, none⟩ = some (.int .i64 (outL pre xn)) := h1.cell xn (h2.2 xn (by omega))
        have fk := h1.frozen xn
        have c3 : W.cell? ⟨ob, 0, none⟩ = some (.slice (some ⟨w.heap.size + 1 + 1, 0, none⟩) 256 256) := h5.cell 0 rfl
        have c4 : W.cell? ⟨ob + 1, 0, none⟩ = some (.int .i64 pre.length) := h6.cell 0 rfl
        have f4 := h6.frozen 0
        have c0 : W.cell? ⟨w.heap.size, 0, none⟩ = some (.int .i64 most) := h3.cell 0 rfl
        have hp1 := h2.put xn (by omega) xt
        have g1 := (h1.set xn (.int .i64 xt)).setOther ⟨ob + 1, 0, none⟩ (.int .i64 ((pre.length : Int) + 1)) (by show w.heap.size + 1 + 1 ≠ ob + 1; omega)
        have g3 := (h3.setOther ⟨w.heap.size + 1 + 1, xn, none⟩ (.int .i64 xt) (by dsimp only; omega)).setOther ⟨ob + 1, 0, none⟩ (.int .i64 ((pre.length : Int) + 1)) (by show w.heap.size ≠ ob + 1; omega)
        have g4 := (h4.setOther ⟨w.heap.size + 1 + 1, xn, none⟩ (.int .i64 xt) (by dsimp only; omega)).setOther ⟨ob + 1, 0, none⟩ (.int .i64 ((pre.length : Int) + 1)) (by show w.heap.size + 1 ≠ ob + 1; omega)
        have g5 := (h5.setOther ⟨w.heap.size + 1 + 1, xn, none⟩ (.int .i64 xt) (by dsimp only; omega)).setOther ⟨ob + 1, 0, none⟩ (.int .i64 ((pre.length : Int) + 1)) (by show ob ≠ ob + 1; omega)
        have g6 := (h6.setOther ⟨w.heap.size + 1 + 1, xn, none⟩ (.int .i64 xt) (by dsimp only; omega)).set 0 (.int .i64 ((pre.length : Int) + 1))
        have g7 := (h7.setOther ⟨w.heap.size + 1 + 1, xn, none⟩ (.int .i64 xt) (by dsimp only; omega)).setOther ⟨ob + 1, 0, none⟩ (.int .i64 ((pre.length : Int) + 1)) (by show s ≠ ob + 1; omega)
        have g8 := (h8.setCell ⟨w.heap.size + 1 + 1, xn, none⟩ (.int .i64 xt) (by dsimp only; omega)).setCell ⟨ob + 1, 0, none⟩ (.int .i64 ((pre.length : Int) + 1)) (by show mb ≠ ob + 1; omega)
        have g9 := (h9.setCell (p := ⟨w.heap.size + 1 + 1, xn, none⟩) (by dsimp only; omega) (.int .i64 xt)).setCell (p := ⟨ob + 1, 0, none⟩) (by dsimp only; omega) (.int .i64 ((pre.length : Int) + 1))
        have hsm : Sm W5.heap.size hi W ((W.setCell ⟨w.heap.size + 1 + 1, xn, none⟩ (.int .i64 xt)).setCell ⟨ob + 1, 0, none⟩ (.int .i64 ((pre.length : Int) + 1))) := ((Sm.refl _ _ W).setCell _ (Or.inr (by dsimp only; omega)) _).setCell _ (Or.inr (by dsimp only; omega)) _
        have HX := Lib.hid hxs
        clear h1 h2 h3 h4 h5 h6 h7 h8 h9 hxs hye hy
        gi_wp2_with fail
        exact ⟨hsm, ⟨_, g1, hp1⟩, g3, g4, g5, by simpa using g6, g7, g8, g9, by simpa using h10⟩
      case hdone =>
        rintro D W hi hD ⟨⟨cs, h1, h2⟩, h3, h4, h5, h6, h7, h8, h9, h10⟩ hK
        have c3 : W.cell? ⟨ob, 0, none⟩ = some (.slice (some ⟨w.heap.size + 1 + 1, 0, none⟩) 256 256) := h5.cell 0 rfl
        have c1 : W.cell? ⟨w.heap.size + 1, 0, none⟩ = some (.slice none 0 0) := h4.cell 0 rfl
        have f1 := h4.frozen 0
        go_wp2_with fail
        have hDn : D ≠ w.heap.size + 1 := by intro e; rw [e, h4] at hK; cases hK
        have hDm : D ≠ w.heap.size + 1 + 1 := by intro e; rw [e, h1] at hK; cases hK
        have hK2 : (W.setCell ⟨w.heap.size + 1, 0, none⟩ (.slice (some ⟨w.heap.size + 1 + 1, 0, none⟩) 256 256)).heap[D]? = some (.deferred (some [])) := (Below.heap_setCell W ⟨w.heap.size + 1, 0, none⟩ _ D hDn).trans hK
        have g4 := h4.set 0 (.slice (some ⟨w.heap.size + 1 + 1, 0, none⟩) 256 256)
        have g1 := h1.setOther ⟨w.heap.size + 1, 0, none⟩ (.slice (some ⟨w.heap.size + 1 + 1, 0, none⟩) 256 256) (by dsimp only; omega)
        have g9 := h9.setCell (p := ⟨w.heap.size + 1, 0, none⟩) (by dsimp only; omega) (.slice (some ⟨w.heap.size + 1 + 1, 0, none⟩) 256 256)
        have hDl := (Array.getElem?_eq_some_iff.1 hK2).1
        have u4 : Blk ((W.setCell ⟨w.heap.size + 1, 0, none⟩ (.slice (some ⟨w.heap.size + 1 + 1, 0, none⟩) 256 256)).putObj D (.deferred none)) (w.heap.size + 1) _ _ := (World.putObj_heap_other (Ne.symm hDn)).trans g4
        have u1 : Blk ((W.setCell ⟨w.heap.size + 1, 0, none⟩ (.slice (some ⟨w.heap.size + 1 + 1, 0, none⟩) 256 256)).putObj D (.deferred none)) (w.heap.size + 1 + 1) cs 3 := (World.putObj_heap_other (Ne.symm hDm)).trans g1
        have c4 := u4.cell 0 rfl
        refine postM_ret hK2 (v := .slice (some ⟨w.heap.size + 1 + 1, 0, none⟩) 256 256) (by
          simp [results, asAddr]
          simp [go_sem, c4]) ⟨_, rfl, ?_, below_putObj g9 (by omega) _ hDl⟩
        rw [← h2.list]
        exact blk_owns u1 (by omega) h2.1 (by decide)
      case hstop => rintro D c W hD h; exact h.elim
end Go.Proofs.Ytkilmppmghkigaa
