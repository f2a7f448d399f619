/-
 Package window: Of.
-/
import Derived.Test.YtlpchcdalfkfcaaGreatBWinD
import Derived.Scope
import Derived.Test.YtlpchcdalfkfcaaGreatBPgA
import Derived.Test.YtlpchcdalfkfcaaGreatBVmQ
import Derived.Test.YtlpchcdalfkfcaaGreatBWinA
namespace Go.Proofs.YtlpchcdalfkfcaaGreat
open Go.RowKit
attribute [local go_sem] Oper.semAt_some
set_option maxHeartbeats 1000000

/-- The same behind a range: the deferred calls' block is spent, the result's cells are told. -/
theorem post_blk4D {P : Program} {F : Fence} {n : Nat} {fn : Func} {R : Ending → World → Prop} {tmps : Array Value} {D : Nat} {W : World} {v : Value} {b : Nat} {x0 x1 x2 x3 : Value} {t : TypeId} {v0 v1 v2 v3 : Value}
  (hB : Blk W b #[x0, x1, x2, x3] t) (_ : b < D) (hK : W.heap[D]? = some (.deferred (some [])))
  (h : ∀ W', Blk W' b #[v0, v1, v2, v3] t → W'.cell? ⟨b, 0, none⟩ = some v0 → W'.cell? ⟨b, 1, none⟩ = some v1 → W'.cell? ⟨b, 2, none⟩ = some v2 → W'.cell? ⟨b, 3, none⟩ = some v3 → (results fn tmps).run P W' = .ok v W')
  (hR : R (.returned v) (((((W.setCell ⟨b, 0, none⟩ v0).setCell ⟨b, 1, none⟩ v1).setCell ⟨b, 2, none⟩ v2).setCell ⟨b, 3, none⟩ v3).putObj D (.deferred none))) :
  bodyPostM F n P fn R .ret { tmps := tmps, defers := [{ target := .collected D, args := #[] }] } ((((W.setCell ⟨b, 0, none⟩ v0).setCell ⟨b, 1, none⟩ v1).setCell ⟨b, 2, none⟩ v2).setCell ⟨b, 3, none⟩ v3) := by
 have hB4 := set4 hB v0 v1 v2 v3
 have hK4 := (((((KeepsRec.refl W).setCell ⟨b, 0, none⟩ v0).setCell ⟨b, 1, none⟩ v1).setCell ⟨b, 2, none⟩ v2).setCell ⟨b, 3, none⟩ v3).same D _ hK rfl
 have hB5 : Blk (((((W.setCell ⟨b, 0, none⟩ v0).setCell ⟨b, 1, none⟩ v1).setCell ⟨b, 2, none⟩ v2).setCell ⟨b, 3, none⟩ v3).putObj D (.deferred none)) b #[v0, v1, v2, v3] t := hB4.keeps (Keeps.putObj (B := D) _ (Nat.le_refl _) hK4 rfl)
 exact postM_ret hK4 (h _ hB5 (hB5.cell 0 rfl) (hB5.cell 1 rfl) (hB5.cell 2 rfl) (hB5.cell 3 rfl)) hR
theorem slotsI_split {pre suf : List Int} {x : Int} (h : slotsI = pre ++ x :: suf) : pre.length < 4 ∧ x = pre.length := by
 have h1 : pre.length < slotsI.length := by rw [h]; simp
 refine ⟨h1, ?_⟩
 have h2 := slotsI_get pre.length h1
 rw [List.getElem_of_eq h] at h2
 simpa using h2
theorem Of_okW (page : Int) (hp : inI 65536 page = true) (w : World) : Calls Tryz.prog 36 #[.int .i64 page] w fun e w' => e = .returned (.tuple #[ofV page, .int .i64 0]) ∧ Below w.heap.size w w' := by
 obtain ⟨w0, hw0⟩ : ∃ w0, (w.alloc (Obj.cells #[Value.int .i64 page] 3)).alloc (Obj.cells #[Value.int .i64 0, Value.int .i64 0, Value.int .i64 0, Value.int .i64 0] 85) = w0 := ⟨_, rfl⟩
 have hz0 : w0.heap.size = w.heap.size + 2 := by rw [← hw0]; simp
 have hY : Blk w0 (w.heap.size + 1) #[Value.int .i64 0, Value.int .i64 0, Value.int .i64 0, Value.int .i64 0] 85 := by rw [← hw0]; exact Blk.newAt _ _ _ (by simp)
 have hw : Below w.heap.size w w0 := by rw [← hw0]; exact ((Below.refl _ w).alloc (Nat.le_refl _) _).alloc (by simp) _
 have hX : Blk w0 w.heap.size #[Value.int .i64 page] 3 := by rw [← hw0]; exact (Blk.new w _ _).alloc _
 have c0 : w0.cell? ⟨w.heap.size, 0, none⟩ = some (.int .i64 page) := hX.cell 0 rfl
 refine calls_of_wp_marks Tryz.func36 rfl ?_; simp only [Tryz.ntmps36, List.size_toArray, List.length_cons, List.length_nil, Nat.reduceAdd, Nat.reduceSub, Array.replicate_succ, Array.replicate_zero, List.push_toArray, List.append_toArray, List.nil_append, List.cons_append]
 go_wp2_with fail
 refine wp_scope_straight ?_
 clear hw0
 have hl := lit1 w0 page 3
 rw [hz0] at hl
 go_wp2_with fail
 refine (fits_ok 65536 page _ _ hl).mono ?_; rintro e w1 ⟨rfl, hb⟩
 clear hl
 rw [hp]
 have hY1 := (hY.alloc (Obj.cells #[Value.int .i64 page] 3)).below hb (by simp; omega)
 have hX1 := (hX.alloc (Obj.cells #[Value.int .i64 page] 3)).below hb (by simp; omega)
 have hb1 := (hw.alloc (by omega) (Obj.cells #[Value.int .i64 page] 3)).trans (hb.mono (by simp; omega))
 have hz1 : w.heap.size + 3 ≤ w1.heap.size := by have := hb.size; simp at this; omega
 clear hY hX hw hb c0 hz0
 go_wp2_with fail
 refine wp_label ?_
 go_wp2_with fail
 refine (places_calls _).mono ?_; rintro e w1' ⟨rfl, rfl⟩
 go_wp2_with fail
 refine wp_rangeB rfl (enters_of Tryz.func135 (by kernel_rfl) rfl) places_iter (fun _ => rfl)
  (fun pre W => (∀ j : Nat, j < pre.length → firstK j page 0 4 = none) ∧ Blk W w.heap.size #[.int .i64 page] 3 ∧ Blk W (w.heap.size + 1) #[.int .i64 0, .int .i64 0, .int .i64 0, .int .i64 0] 85 ∧ Below w.heap.size w W ∧ w.heap.size + 3 ≤ W.heap.size)
  (fun c W => c = .exit 0 ∧ ∃ s i : Nat, s < 4 ∧ firstK s page 0 4 = some i ∧ (∀ j : Nat, j < s → firstK j page 0 4 = none) ∧ Blk W (w.heap.size + 1) #[.int .i64 (i + 1), .int .i64 s, .int .i64 (clI i s page), .int .i64 (plI i s page)] 85 ∧ Below w.heap.size w W)
  ?a1 (fun pre x b W => Blk W b #[.int .i64 x] 119 ∧ w.heap.size + 3 ≤ b ∧ (∀ j : Nat, j < pre.length → firstK j page 0 4 = none) ∧ Blk W w.heap.size #[.int .i64 page] 3 ∧ Blk W (w.heap.size + 1) #[.int .i64 0, .int .i64 0, .int .i64 0, .int .i64 0] 85 ∧ Below w.heap.size w W) ?hI ?hIx ?hMid ?hA ?h0 ?hassign ?hbody ?hdone ?hstop
 case hassign =>
  rintro m l pre x suf W K hxs ⟨h1, h2, h3, h4, h5⟩ hlt hK
  gi_wp2
  have hM := hK W.heap.size _ ((KeepsRec.refl W).alloc _) ⟨Blk.new W #[.int .i64 x] 119, h5, h1, h2.alloc _, h3.alloc _, h4.alloc (by omega) _⟩
  generalize W.heap.size = b at hM ⊢
  exact hM
 case hI => rintro pre X Y ⟨h1, h2, h3, h4, h5⟩ hk; exact ⟨h1, h2.keeps hk, h3.keeps hk, h4.keeps hk (by omega), Nat.le_trans h5 hk.size⟩
 case hIx => rintro c X Y ⟨hc, s, i, h1, h2, h3, h4, h5⟩ hk; exact ⟨hc, s, i, h1, h2, h3, h4.keeps hk, h5.keeps hk (by omega)⟩
 case hMid => rintro pre x b X Y ⟨h0, h1, h2, h3, h4, h5⟩ hk; exact ⟨h0.keeps hk, h1, h2, h3.keeps hk, h4.keeps hk, h5.keeps hk (by omega)⟩
 case hA => exact fun _ _ _ => trivial
 case h0 => exact ⟨fun j hj => absurd hj (by simp), hX1, hY1, hb1, hz1⟩
 case hbody =>
  rintro m l pre x suf b W hxs hl hrec ⟨hB, hbz, hno, hX, hY, hbw⟩
  obtain ⟨hpl, rfl⟩ := slotsI_split hxs
  generalize hs : pre.length = s at *
  have hsl : slotI s = true := by simp [slotI]; omega
  have lB := hB.lt
  gi_wp2_with fail
  refine ((kinds_calls _).inR l).mono ?_; rintro e w' ⟨rfl, rfl⟩
  have hk := Blk.new W kindCells 133
  have hB' := hB.alloc (.cells kindCells 133)
  have hX' := hX.alloc (.cells kindCells 133)
  have hY' := hY.alloc (.cells kindCells 133)
  have hbw' := hbw.alloc (by omega) (.cells kindCells 133)
  have hr' := (KeepsRec.refl W).alloc (.cells kindCells 133)
  have hz' : (W.alloc (.cells kindCells 133)).heap.size = W.heap.size + 1 := by simp
  generalize W.alloc (.cells kindCells 133) = W1 at *
  have hf := first_okW s page b w.heap.size W.heap.size hsl hp W1 (hB'.cell 0 rfl) (hX'.cell 0 rfl) hk
  gi_wp2_with fail
  refine (hf.inR l).mono ?_; rintro e W2 ⟨rfl, hb2⟩
  have hX2 := hX'.below hb2 hX'.lt
  have hY2 := hY'.below hb2 hY'.lt
  have hbw2 := hbw'.trans (hb2.mono (by omega))
  have hz2 := hb2.size
  have hr2 := hr'.trans (KeepsRec.of_below hb2 (Nat.le_refl _))
  clear hk hB' hX' hY' hbw' hr' hf hb2 hB hX hY hbw hrec
  have hz3 : w.heap.size + 3 ≤ W2.heap.size := by omega
  clear hz' hz2
  unfold firstV
  cases hfk : firstK s page 0 4 with
  | none =>
   dsimp only [siteV]
   gi_wp2_with fail
   refine ⟨hr2.alloc _, ?_, hX2.alloc _, hY2.alloc _, hbw2.alloc (by omega) _, by simp; omega⟩
   intro j hj
   rw [List.length_append, hs] at hj
   by_cases e : j = s
   ·subst e; exact hfk
   ·exact hno j (by simp at hj; omega)
  | some i =>
   dsimp only [siteV]
   generalize hc : clI i s page = c' at *
   generalize hpl : plI i s page = p' at *
   have hY3 := hY2.alloc (.cells #[.int .i64 (i + 1), .int .i64 s, .int .i64 c', .int .i64 p'] 85)
   have hbw3 := hbw2.alloc (by omega) (.cells #[.int .i64 (i + 1), .int .i64 s, .int .i64 c', .int .i64 p'] 85)
   have hr3 := hr2.alloc (.cells #[.int .i64 (i + 1), .int .i64 s, .int .i64 c', .int .i64 p'] 85)
   obtain ⟨b0, b1, b2, b3⟩ := cells4 hY3
   have f0 := hY3.frozen 0
   have f1 := hY3.frozen 1
   have f2 := hY3.frozen 2
   have f3 := hY3.frozen 3
   have HBF := Lib.hid (set4 hY3 (.int .i64 (i + 1)) (.int .i64 s) (.int .i64 c') (.int .i64 p'))
   have HbF := Lib.hid (below4 (b := w.heap.size + 1) hbw3 (by omega) (.int .i64 (i + 1)) (.int .i64 s) (.int .i64 c') (.int .i64 p'))
   have HrF := Lib.hid ((((hr3.setCell ⟨w.heap.size + 1, 0, none⟩ (.int .i64 (i + 1))).setCell ⟨w.heap.size + 1, 1, none⟩ (.int .i64 s)).setCell ⟨w.heap.size + 1, 2, none⟩ (.int .i64 c')).setCell ⟨w.heap.size + 1, 3, none⟩ (.int .i64 p'))
   clear hY3 hbw3 hr3
   gi_wp2_with fail
   exact ⟨HrF.out, rfl, s, i, by assumption, hfk, hno, by rw [hc, hpl]; exact HBF.out, HbF.out⟩
 case hdone =>
  rintro D W hD ⟨hno, hX, hY, hbw, hz⟩ hK
  obtain ⟨b0, b1, b2, b3⟩ := cells4 hY
  have f0 := hY.frozen 0
  have f1 := hY.frozen 1
  have f2 := hY.frozen 2
  have f3 := hY.frozen 3
  go_wp2_with fail
  rw [Exit.noGoto_ret]
  have hbW := below4 (b := w.heap.size + 1) hbw (by omega) (.int .i64 0) (.int .i64 0) (.int .i64 0) (.int .i64 0)
  refine post_blk4D (v := .tuple #[siteV 0 0 0 0, .int .i64 0]) hY (by omega) hK ?_ ⟨?_, below_putObj hbW (by omega) _ (by have := (Array.getElem?_eq_some_iff.1 hK).1; simpa using this)⟩
  ·intro W' _ d0 d1 d2 d3
   simp [results, Tryz.results36, go_sem, siteV, d0, d1, d2, d3]
  ·unfold ofV
   rw [ofK_miss page 4 0 fun j _ hj => hno j hj]
 case hstop =>
  rintro D c W hD ⟨rfl, s, i, hs4, hfk, hno, hY, hbw⟩ hK
  obtain ⟨b0, b1, b2, b3⟩ := cells4 hY
  have f0 := hY.frozen 0
  have f1 := hY.frozen 1
  have f2 := hY.frozen 2
  have f3 := hY.frozen 3
  have hzb := hY.lt
  have hDb : w.heap.size + 1 < D := by omega
  generalize hc : clI i s page = c' at *
  generalize hpl : plI i s page = p' at *
  go_wp2_with fail
  rw [Exit.noGoto_ret]
  have hbW := below4 (b := w.heap.size + 1) hbw (by omega) (.int .i64 (i + 1)) (.int .i64 s) (.int .i64 c') (.int .i64 p')
  refine post_blk4D (v := .tuple #[siteV (i + 1) s c' p', .int .i64 0]) hY hDb hK ?_ ⟨?_, below_putObj hbW (by omega) _ (by have := (Array.getElem?_eq_some_iff.1 hK).1; simpa using this)⟩
  ·intro W' _ d0 d1 d2 d3
   simp [results, Tryz.results36, go_sem, siteV, d0, d1, d2, d3]
  ·unfold ofV
   rw [ofK_hit page 4 0 s i (by omega) (by omega) hfk fun j _ hj => hno j hj, hc, hpl]
end Go.Proofs.YtlpchcdalfkfcaaGreat

/-
 Package meta: the questions of a spot; a slot's address. No condition.
-/
namespace Go.Proofs.YtlpchcdalfkfcaaGreat
open Go.RowKit
attribute [local go_sem] Oper.semAt_some
set_option maxHeartbeats 2000000
set_option maxRecDepth 8000

theorem ask_info : (Tryz.prog.info? 70).map (·.size) = some 2 := by kernel_rfl
theorem run_loadA {w : World} {g : Nat} {cs : Array Value} {t : TypeId} (hB : Blk w g cs t) (hs : cs.size = 2) : (loadVar 70 ⟨g, 0, none⟩).run Tryz.prog w = .ok (.agg cs) w :=
 run_loadVar_row w g t _ cs (0, 0) _ hB Tryz.underlying70 rfl (by rw [hs]; exact ask_info)
theorem ret_a1 {fn : Func} {R : Ending → World → Prop} {a : Act} {w : World} {p : Tmp} (h : fn.results = #[.cell p 70]) (g : Nat) {cs : Array Value} {t : TypeId} (hp : a.tmps.getD p undef = .pointer (some ⟨g, 0, none⟩))
  (hB : Blk w g cs t) (hs : cs.size = 2) (hd : a.defers = []) (hR : R (.returned (.agg cs)) w) : bodyPost Tryz.prog fn R .ret a w := by
 refine bodyPost_ret (v := .agg cs) ?_ hd hR
 have hp' : a.tmps[p]?.getD undef = .pointer (some ⟨g, 0, none⟩) := by simpa using hp
 simp [results, h, hp', asAddr, run_loadA hB hs]
theorem mwho_calls (m : Value) (t : Int) (w : World) : Calls Tryz.prog 25 #[.agg #[m, .int .i64 t]] w fun e w' => ∃ p, e = .returned (.agg #[.func (.func 62) #[] #[.pointer (some ⟨p, 0, none⟩)], .int .i64 2]) ∧
  Blk w' p #[m, .int .i64 t] 72 ∧ Below w.heap.size w w' := by
 go_enter Tryz.func25, Tryz.ntmps25
 go_wp2_with fail
 exact bodyPost_ret (v := .agg #[.func (.func 62) #[] #[.pointer (some ⟨w.heap.size, 0, none⟩)], .int .i64 2]) (by simp [results, Tryz.results25, go_sem]) rfl
  ⟨_, rfl, (Blk.new w _ _).alloc _, ((Below.refl _ w).alloc (Nat.le_refl _) _).alloc (by simp) _⟩
theorem mwho1_calls {m : Value} {t : Int} {p : Nat} {w : World} (h : Blk w p #[m, .int .i64 t] 72) : Calls Tryz.prog 62 #[.pointer (some ⟨p, 0, none⟩)] w fun e w' => e = .returned (.bool (!inB 3 t)) ∧ Below w.heap.size w w' := by
 have c1 : w.cell? ⟨p, 1, none⟩ = some (.int .i64 t) := h.cell 1 rfl
 clear h
 go_enter Tryz.func62, Tryz.ntmps62
 go_wp2_with fail
 refine (mfits_one 3 t w).mono ?_; rintro e w1 ⟨rfl, k⟩
 go_wp2_with fail
 go_ret
 exact ⟨rfl, k⟩
theorem mclass_calls (c : Int) (w : World) : Calls Tryz.prog 26 #[.int .i64 c] w fun e w' => ∃ p, e = .returned (.agg #[.func (.func 63) #[] #[.pointer (some ⟨p, 0, none⟩)], .int .i64 2]) ∧
  Blk w' p #[.int .i64 c] 3 ∧ Below w.heap.size w w' := by
 go_enter Tryz.func26, Tryz.ntmps26
 go_wp2_with fail
 exact bodyPost_ret (v := .agg #[.func (.func 63) #[] #[.pointer (some ⟨w.heap.size, 0, none⟩)], .int .i64 2]) (by simp [results, Tryz.results26, go_sem]) rfl
  ⟨_, rfl, (Blk.new w _ _).alloc _, ((Below.refl _ w).alloc (Nat.le_refl _) _).alloc (by simp) _⟩
theorem mclass1_calls {c : Int} {p : Nat} {w : World} (h : Blk w p #[.int .i64 c] 3) : Calls Tryz.prog 63 #[.pointer (some ⟨p, 0, none⟩)] w fun e w' => e = .returned (.bool (!inB 7 c)) ∧ Below w.heap.size w w' := by
 have c1 : w.cell? ⟨p, 0, none⟩ = some (.int .i64 c) := h.cell 0 rfl
 clear h
 go_enter Tryz.func63, Tryz.ntmps63
 go_wp2_with fail
 refine (mfits_one 7 c w).mono ?_; rintro e w1 ⟨rfl, k⟩
 go_wp2_with fail
 go_ret
 exact ⟨rfl, k⟩
theorem mindex_calls (c i : Int) (w : World) : Calls Tryz.prog 27 #[.int .i64 c, .int .i64 i] w fun e w' => ∃ p q, e = .returned (.agg #[.func (.func 65) #[] #[.pointer (some ⟨p, 0, none⟩), .pointer (some ⟨q, 0, none⟩)], .int .i64 4]) ∧
  Blk w' p #[.int .i64 (cntO c)] 3 ∧ Blk w' q #[.int .i64 i] 3 ∧ Below w.heap.size w w' := by
 go_enter Tryz.func27, Tryz.ntmps27
 obtain ⟨w0, hw0⟩ : ∃ w0, (w.alloc (.cells #[.int .i64 i] 3)).alloc (.cells #[.nilFunc, .int .i64 0] 70) = w0 := ⟨_, rfl⟩
 have hQ : Blk w0 w.heap.size #[.int .i64 i] 3 := by rw [← hw0]; exact (Blk.new w _ _).alloc _
 have hA : Blk w0 (w.heap.size + 1) #[.nilFunc, .int .i64 0] 70 := by rw [← hw0]; exact Blk.newAt _ _ _ (by simp)
 have k0 : Below w.heap.size w w0 := by rw [← hw0]; exact ((Below.refl _ w).alloc (Nat.le_refl _) _).alloc (by simp) _
 go_wp2_with fail
 clear hw0
 refine (Count_ok c _).mono ?_; rintro e w1 ⟨rfl, k1⟩
 have hQ1 := hQ.below k1 hQ.lt
 have hA1 := hA.below k1 hA.lt
 have kk := k0.trans (k1.mono k0.size)
 have a0 : w1.cell? ⟨w.heap.size + 1, 0, none⟩ = some .nilFunc := hA1.cell 0 rfl
 have a1 : w1.cell? ⟨w.heap.size + 1, 1, none⟩ = some (.int .i64 0) := hA1.cell 1 rfl
 have f0 := hA1.frozen 0
 have f1 := hA1.frozen 1
 have z1 := hA1.lt
 go_wp2_with fail
 have hE := ((hA1.set 0 (.func (.func 65) #[] #[.pointer (some ⟨w1.heap.size, 0, none⟩), .pointer (some ⟨w.heap.size, 0, none⟩)])).set 1 (.int .i64 4)).alloc (.cells #[.int .i64 (cntO c)] 3)
 refine ret_a1 Tryz.results27 (w.heap.size + 1) (by rfl) hE rfl rfl ⟨w1.heap.size, w.heap.size, rfl, ?_, ?_, ?_⟩
 ·exact Blk.newAt _ _ _ (by simp)
 ·exact ((hQ1.setOther _ _ (by simp)).setOther _ _ (by simp)).alloc _
 ·exact ((kk.setCell (by simp) _).setCell (by simp) _).alloc (by simp; omega) _
theorem mindex1_calls {n i : Int} {p q : Nat} {w : World} (hn : 0 ≤ n) (hn2 : n ≤ 1000) (h : Blk w p #[.int .i64 n] 3) (h' : Blk w q #[.int .i64 i] 3) : Calls Tryz.prog 65 #[.pointer (some ⟨p, 0, none⟩), .pointer (some ⟨q, 0, none⟩)] w fun e w' => e = .returned (.bool (!inB (n - 1) i)) ∧ Below w.heap.size w w' := by
 have c1 : w.cell? ⟨p, 0, none⟩ = some (.int .i64 n) := h.cell 0 rfl
 have c2 : w.cell? ⟨q, 0, none⟩ = some (.int .i64 i) := h'.cell 0 rfl
 clear h h'
 go_enter Tryz.func65, Tryz.ntmps65
 go_wp2_with fail
 refine (mfits_one (n - 1) i w).mono ?_; rintro e w1 ⟨rfl, k⟩
 go_wp2_with fail
 go_ret
 exact ⟨rfl, k⟩
def atAsks (pw pc pn pi : Nat) (s c i : Int) : List AskP :=
 [⟨62, #[], #[.pointer (some ⟨pw, 0, none⟩)], 2, !inB 3 s⟩, ⟨63, #[], #[.pointer (some ⟨pc, 0, none⟩)], 2, !inB 7 c⟩, ⟨65, #[], #[.pointer (some ⟨pn, 0, none⟩), .pointer (some ⟨pi, 0, none⟩)], 4, !inB (cntO c - 1) i⟩]
theorem atAsks_eq (pw pc pn pi : Nat) (s c i : Int) : firstErrP (atAsks pw pc pn pi s c i) = spE s c i := by
 simp only [firstErrP, atAsks, Bool.not_eq_true']
 by_cases h1 : 0 ≤ s ∧ s < 4
 ·have e1 : inB 3 s = true := inB_iff.2 (by omega)
  by_cases h2 : 0 ≤ c ∧ c < 8
  ·have e2 : inB 7 c = true := inB_iff.2 (by omega)
   have e3 : inS s c = true := inS_iff.2 ⟨h1, h2⟩
   have e4 : cntO c = cntIM c := by unfold cntO; rw [if_pos (inC_iff.2 h2)]
   unfold spE
   by_cases h3 : 0 ≤ i ∧ i < cntIM c
   ·rw [e1, e2, e3, e4, show inB (cntIM c - 1) i = true from inB_iff.2 (by omega), decide_eq_true h3]
    rfl
   ·rw [e1, e2, e3, e4, show inB (cntIM c - 1) i = false by cases h : inB (cntIM c - 1) i; rfl; exact absurd (inB_iff.1 h) (by omega), decide_eq_false h3]
    rfl
  ·have e2 : inB 7 c = false := by cases h : inB 7 c; rfl; exact absurd (inB_iff.1 h) (by omega)
   have e3 : inS s c = false := by cases h : inS s c; rfl; exact absurd (inS_iff.1 h).2 h2
   unfold spE
   rw [e1, e2, e3]
   rfl
 ·have e1 : inB 3 s = false := by cases h : inB 3 s; rfl; exact absurd (inB_iff.1 h) (by omega)
  have e3 : inS s c = false := by cases h : inS s c; rfl; exact absurd (inS_iff.1 h).1 h1
  unfold spE
  rw [e1, e3]
  rfl
theorem cntO_bd (c : Int) : 0 ≤ cntO c ∧ cntO c ≤ 1000 := by
 unfold cntO
 split
 ·next h =>
  obtain ⟨h0, h1⟩ := inC_iff.1 h
  rcases cls8 h0 h1 with rfl | rfl | rfl | rfl | rfl | rfl | rfl | rfl <;> decide
 ·omega
theorem at_answers {W : World} {pw pc pn pi : Nat} {s c i : Int} {m : Value} (hW : Blk W pw #[m, .int .i64 s] 72) (hC : Blk W pc #[.int .i64 c] 3) (hN : Blk W pn #[.int .i64 (cntO c)] 3) (hI : Blk W pi #[.int .i64 i] 3) : AnswersP W (atAsks pw pc pn pi s c i) := by
 constructor
 ·intro i h args W
  match i, h with
  | 0, _ => exact enters_of Tryz.func62 (by kernel_rfl) rfl args W
  | 1, _ => exact enters_of Tryz.func63 (by kernel_rfl) rfl args W
  | 2, _ => exact enters_of Tryz.func65 (by kernel_rfl) rfl args W
 ·intro j hj X _ kx
  match j, hj with
  | 0, _ => exact mwho1_calls (hW.below kx hW.lt)
  | 1, _ => exact mclass1_calls (hC.below kx hC.lt)
  | 2, _ => exact mindex1_calls (cntO_bd c).1 (cntO_bd c).2 (hN.below kx hN.lt) (hI.below kx hI.lt)
end Go.Proofs.YtlpchcdalfkfcaaGreat

