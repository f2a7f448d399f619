/-
  Package pinfoldref07: New, Reserve, with. Conditions: few frames.
-/
import Derived.Test.YtfmkjckckekliaaFrDa
namespace Go.Proofs.Ytfmkjckckekliaa
open Go.RowKit
attribute [local go_sem] Oper.semAt_some
set_option maxHeartbeats 1000000
set_option maxRecDepth 8000

theorem ret_p1 {fn : Func} {R : Ending → World → Prop} {a : Act} {w : World} {p : Tmp} (h : fn.results = #[.cell p 54]) (g : Nat) {cs : Array Value} {t : TypeId} (hp : a.tmps.getD p undef = .pointer (some ⟨g, 0, none⟩))
    (hB : Blk w g cs t) (hs : cs.size = 65) (hd : a.defers = []) (hR : R (.returned (.agg cs)) w) : bodyPost Try.prog fn R .ret a w := by
  refine bodyPost_ret (v := .agg cs) ?_ hd hR
  have hp' : a.tmps[p]?.getD undef = .pointer (some ⟨g, 0, none⟩) := by simpa using hp
  simp [results, h, hp', asAddr, run_loadVarB ty65 hB hs]
theorem ret_p2 {fn : Func} {R : Ending → World → Prop} {a : Act} {w : World} {p u : Tmp} (h : fn.results = #[.cell p 54, .tmp u]) (g : Nat) {cs : Array Value} {t : TypeId} (hp : a.tmps.getD p undef = .pointer (some ⟨g, 0, none⟩))
    (hB : Blk w g cs t) (hs : cs.size = 65) (hd : a.defers = []) (hR : R (.returned (.tuple #[.agg cs, a.tmps.getD u undef])) w) : bodyPost Try.prog fn R .ret a w := by
  refine bodyPost_ret (v := .tuple #[.agg cs, a.tmps.getD u undef]) ?_ hd hR
  have hp' : a.tmps[p]?.getD undef = .pointer (some ⟨g, 0, none⟩) := by simpa using hp
  simp [results, h, hp', asAddr, run_loadVarB ty65 hB hs]
theorem ret_p3 {fn : Func} {R : Ending → World → Prop} {a : Act} {w : World} {p u v : Tmp} (h : fn.results = #[.cell p 54, .tmp u, .tmp v]) (g : Nat) {cs : Array Value} {t : TypeId} (hp : a.tmps.getD p undef = .pointer (some ⟨g, 0, none⟩))
    (hB : Blk w g cs t) (hs : cs.size = 65) (hd : a.defers = []) (hR : R (.returned (.tuple #[.agg cs, a.tmps.getD u undef, a.tmps.getD v undef])) w) : bodyPost Try.prog fn R .ret a w := by
  refine bodyPost_ret (v := .tuple #[.agg cs, a.tmps.getD u undef, a.tmps.getD v undef]) ?_ hd hR
  have hp' : a.tmps[p]?.getD undef = .pointer (some ⟨g, 0, none⟩) := by simpa using hp
  simp [results, h, hp', asAddr, run_loadVarB ty65 hB hs]
def zeros64 : List Int := List.replicate 64 0
theorem zero_pool : Try.zeroCells54 = poolV (.slice none 0 0) zeros64 := by kernel_rfl
/-! ### with -/
theorem frV_set (L : List Df) (k : Nat) (x : Df) (h : k < L.length) : frV (L.set k x) = ((frV L).set (k * 2) (.int .i64 x.1)).set (k * 2 + 1) (.string (strOfNums x.2)) := by
  induction L generalizing k with
  | nil => simp at h
  | cons a r ih =>
    cases k with
    | zero => rfl
    | succ k =>
      rw [List.set_cons_succ, frV_cons, frV_cons, ih k (by simpa using h), show (k + 1) * 2 = k * 2 + 2 by omega, show k * 2 + 2 + 1 = (k * 2 + 1) + 2 by omega]
      rfl
/-- The walk stops behind the store: the new world is a name. -/
theorem wpList_storeG {P : Program} {ops : Array Oper} {rest : List Oper} {o : Oper} {a : Act} {w : World} {Q : Exit → Act → World → Prop} {t : TypeId} {n : Nat} (ht : RowTy P t n) (hgd : o.guard = none) (x y : Operand) (ho : o.op = .store t x y)
    (g off : Nat) (cs : Array Value) (hx : a.eval x = .pointer (some ⟨g, off, none⟩)) (hy : a.eval y = .agg cs) (hB : w.there g off n) (hs : cs.size = n) (h1 : cs.all (·.oneCell') = true)
    (h : ∀ w', Hid (w.setCells g off cs.toList = w') → wpList P ops Q rest (a.put o.dst undef) w') : wpList P ops Q (o :: rest) a w := wpList_storeM ht hgd x y ho g off cs hx hy hB hs h1 (h _ (Lib.hid rfl))
theorem wpList_storeBG {P : Program} {ops : Array Oper} {rest : List Oper} {o : Oper} {a : Act} {w : World} {Q : Exit → Act → World → Prop} {t : TypeId} {n : Nat} (ht : RowTy P t n) (hgd : o.guard = none) (x y : Operand) (ho : o.op = .store t x y)
    (g : Nat) (cs : Array Value) (hx : a.eval x = .pointer (some ⟨g, 0, none⟩)) (hy : a.eval y = .agg cs) {old : Array Value} {t' : TypeId} (hB : Blk w g old t') (hold : old.size = n) (hs : cs.size = n) (h1 : cs.all (·.oneCell') = true)
    (h : ∀ w', Hid (w.setCells g 0 cs.toList = w') → wpList P ops Q rest (a.put o.dst undef) w') : wpList P ops Q (o :: rest) a w := wpList_storeB ht hgd x y ho g cs hx hy hB hold hs h1 (h _ (Lib.hid rfl))
theorem ty2f : RowTy Try.prog 93 2 := rowTy_of Try.underlying93 rfl (by kernel_rfl)
theorem frOne (x : Df) : (#[Value.int .i64 x.1, Value.string (strOfNums x.2)] : Array Value).all (·.oneCell') = true := by simp [Value.oneCell']
theorem owns_setN {W : World} {base g n cap k size : Nat} {e : TypeId} {xs : List Value} (h : W.ownsRow base e size (.slice (some ⟨g, 0, none⟩) n cap) n xs) (v : Value) :
    W.frozen? ⟨g, k, none⟩ = false ∧ (W.setCell ⟨g, k, none⟩ v).ownsRow base e size (.slice (some ⟨g, 0, none⟩) n cap) n (xs.set k v) := by
  obtain ⟨hn, hx⟩ := h
  rcases hx with ⟨h1, _⟩ | ⟨g', cap', cur, e1, hlo, hgb, hnc, hcm, hcs, htk⟩
  · cases h1
  · simp only [Value.slice.injEq, Option.some.injEq, Addr.mk.injEq, true_and, and_true] at e1
    obtain ⟨rfl, rfl⟩ := e1
    have hgb' : Blk W g cur e := hgb
    refine ⟨hgb'.frozen k, by simpa using hn, .inr ⟨g, cap, cur.setIfInBounds k v, by simp, hlo, hgb'.set k _, hnc, hcm, by simpa using hcs, ?_⟩⟩
    rw [Array.toList_setIfInBounds, List.take_set, htk]
theorem owns_frame {W : World} {base g cap k : Nat} {e : TypeId} {L : List Df} (h : W.ownsRow base e 2 (.slice (some ⟨g, 0, none⟩) L.length cap) L.length (frV L)) (hk : k < L.length) (x : Df) :
    W.there g (k * 2) 2 ∧ (W.setCells g (k * 2) [.int .i64 x.1, .string (strOfNums x.2)]).ownsRow base e 2 (.slice (some ⟨g, 0, none⟩) L.length cap) L.length (frV (L.set k x)) := by
  refine ⟨fun j hj => ⟨?_, (owns_setN (k := k * 2 + j) h undef).1⟩, ?_⟩
  · have hlt : k * 2 + j < (frV L).length := by rw [frV_len]; omega
    rw [World.ownsRow.cellAt h (k * 2 + j) (by omega), List.getElem?_eq_getElem hlt]; rfl
  · have h1 := (owns_setN (k := k * 2) h (.int .i64 x.1)).2
    have h2 := (owns_setN (k := k * 2 + 1) h1 (.string (strOfNums x.2))).2
    rw [← frV_set L k x hk] at h2
    exact h2
theorem owns_setCellsL {W : World} {base g size n : Nat} {e : TypeId} {v : Value} {xs : List Value} (h : W.ownsRow base e size v n xs) (hg : g < base) (vs : List Value) (o : Nat) : (W.setCells g o vs).ownsRow base e size v n xs := by
  induction vs generalizing W o with
  | nil => exact h
  | cons u vs ih => exact ih (ownsRow_setCell_below h (a := ⟨g, o, none⟩) hg u) (o + 1)
theorem rWith_ok (v : Value) {V : List Int} (L : List Df) (B : Nat) (k : Nat) (x : Df) (w : World) (hB : B ≤ w.heap.size) (hl : L.length < 1000000) (hk : k < L.length) (hV : V.length = 64) (hv : RowAt B w v L.length (frV L)) :
    Calls Try.prog 65 #[.agg (poolV v V), .int .i64 k, .agg #[.int .i64 x.1, .string (strOfNums x.2)]] w fun e w' =>
      ∃ v', e = .returned (.agg (poolV v' V)) ∧ w'.ownsRow w.heap.size 93 2 v' (L.set k x).length (frV (L.set k x)) ∧ Below w.heap.size w w' := by
  obtain ⟨a1, c1, rfl, _⟩ := hv.len
  obtain ⟨w0, hw0⟩ : ∃ w0, ((w.alloc (.cells (poolV (.slice a1 L.length c1) V) 54)).alloc (.cells #[.int .i64 x.1, .string (strOfNums x.2)] 93)).alloc (.cells Try.zeroCells54 54) = w0 := ⟨_, rfl⟩
  have k0 : Below w.heap.size w w0 := by rw [← hw0]; exact (((Below.refl _ w).alloc (Nat.le_refl _) _).alloc (by simp) _).alloc (by simp; omega) _
  have hT : Blk w0 w.heap.size (poolV (.slice a1 L.length c1) V) 54 := by rw [← hw0]; exact ((Blk.new w _ _).alloc _).alloc _
  have hF : Blk w0 (w.heap.size + 1) #[.int .i64 x.1, .string (strOfNums x.2)] 93 := by rw [← hw0]; exact (Blk.newAt _ _ _ (by simp)).alloc _
  have hO : Blk w0 (w.heap.size + 1 + 1) (poolV (.slice none 0 0) zeros64) 54 := by rw [← hw0, ← zero_pool]; exact Blk.newAt _ _ _ (by simp)
  have hz : w0.heap.size = w.heap.size + 1 + 1 + 1 := by rw [← hw0]; simp
  have hrow := hv.below k0 hB
  have HVL := Lib.hid hV
  have HFL := Lib.hid (frV_len L)
  obtain ⟨s, hs⟩ : ∃ s, w.heap.size = s := ⟨_, rfl⟩
  have HS := Lib.hid hs
  rw [hs] at k0 hT hF hO hz hB
  have c0 : w0.cell? ⟨s, 0, none⟩ = some (.slice a1 L.length c1) := hT.cell 0 (poolV_zero _ _)
  have f0 : w0.cell? ⟨s + 1, 0, none⟩ = some (.int .i64 x.1) := hF.cell 0 rfl
  have f1 : w0.cell? ⟨s + 1, 1, none⟩ = some (.string (strOfNums x.2)) := hF.cell 1 rfl
  have HZ := Lib.hid hz
  have ls := hT.lt
  clear hv hV hz
  go_enter Try.func65, Try.ntmps65
  go_wp2_with (at_builtin; refine wpList_append_row rfl _ _ 51 rfl w0.heap.size Try.underlying51 infoFr 0 [] rfl ?c1 B L.length (frV L) rfl ?c2 ?c3 ?c4 ?c5 ?c6 ?c7 ?_)
  case c1 => exact World.ownsRow_made w0 #[] 0 (Nat.le_refl _) (by decide) rfl
  case c2 => exact hrow.below ((Below.refl _ w0).alloc (Nat.le_refl _) _) (by omega)
  case c3 => exact HFL.out
  case c4 => exact frV_one _
  case c5 => unfold maxLen; omega
  case c6 => omega
  case c7 => simp
  intro v1 w1 ho1 hg1
  have hb1 : Below w0.heap.size w0 w1 := ((Below.refl _ w0).alloc (Nat.le_refl _) _).grown hg1 (by simp) (fun k e => by cases e; exact Nat.le_refl _)
  clear hg1 hw0 hs
  obtain ⟨g, cap', rfl, hgb, hgl⟩ := World.ownsRow.form ho1 (by omega)
  have hz := HZ.out
  rw [hz] at hb1 hgb ho1
  have hT1 := hT.below hb1 (by omega)
  have hF1 := hF.below hb1 (by omega)
  have hO1 := hO.below hb1 (by omega)
  have k1 : Below s w w1 := k0.trans (hb1.mono (by omega))
  have hlL : (L.set k x).length = L.length := List.length_set
  have HLL := Lib.hid hlL
  clear hT hF hO hb1 c0 f0 f1 hrow hlL k0
  have f0 : w1.cell? ⟨s + 1, 0, none⟩ = some (.int .i64 x.1) := hF1.cell 0 rfl
  have f1 : w1.cell? ⟨s + 1, 1, none⟩ = some (.string (strOfNums x.2)) := hF1.cell 1 rfl
  have i0 : (0 : Int) ≤ k := by omega
  have i1 : (k : Int) < L.length := by omega
  obtain ⟨hth, ho2⟩ := owns_frame ho1 hk x
  have HO2 := Lib.hid ho2
  have HTH := Lib.hid hth
  clear ho1 ho2 hth
  go_wp2_with (refine wpList_storeG ty2f rfl _ _ rfl g (k * 2) #[.int .i64 x.1, .string (strOfNums x.2)] rfl rfl HTH.out rfl (frOne x) ?_)
  intro w2 hw2
  have hgs : s + 1 + 1 + 1 ≤ g := hgb
  have hT2 := hT1.setCellsO [.int .i64 x.1, .string (strOfNums x.2)] (k * 2) (show s ≠ g by omega)
  have hO2 := hO1.setCellsO [.int .i64 x.1, .string (strOfNums x.2)] (k * 2) (show s + 1 + 1 ≠ g by omega)
  have k2 := bel_setCells k1 (show s ≤ g by omega) [.int .i64 x.1, .string (strOfNums x.2)] (k * 2)
  have ho3 := HO2.out
  rw [show w1.setCells g (k * 2) [.int .i64 x.1, .string (strOfNums x.2)] = w2 from hw2.out] at hT2 hO2 k2 ho3
  have HO3 := Lib.hid ho3
  clear hw2 HO2 HTH hT1 hO1 k1 ho3 f0 f1 hF1
  have c0 : w2.cell? ⟨s, 0, none⟩ = some (.slice a1 L.length c1) := hT2.cell 0 (poolV_zero _ _)
  have fz := hT2.frozen 0
  have hT3 := hT2.set 0 (.slice (some ⟨g, 0, none⟩) L.length cap')
  rw [poolV_setL] at hT3
  have HT3 := Lib.hid hT3
  have HO2 := Lib.hid (hO2.setOther ⟨s, 0, none⟩ (.slice (some ⟨g, 0, none⟩) L.length cap') (show s + 1 + 1 ≠ s by omega))
  have HK2 := Lib.hid (k2.setCell (p := ⟨s, 0, none⟩) (Nat.le_refl _) (.slice (some ⟨g, 0, none⟩) L.length cap'))
  have ho4 := ownsRow_setCell_below HO3.out (a := ⟨s, 0, none⟩) (by dsimp only; omega) (.slice (some ⟨g, 0, none⟩) L.length cap')
  have HO4 := Lib.hid ho4
  clear hT2 hT3 hO2 k2 ho4 HO3
  go_wp2_with (first | refine wpList_loadB ty65 rfl _ rfl s rfl HT3.out (poolV_size _ HVL.out) ?_ | refine wpList_storeBG ty65 rfl _ _ rfl (s + 1 + 1) (poolV (.slice (some ⟨g, 0, none⟩) L.length cap') V) rfl rfl HO2.out (poolV_size _ rfl) (poolV_size _ HVL.out) (poolV_one rfl V) ?_)
  intro w3 hw3
  have hO5 := HO2.out.whole (poolV (.slice (some ⟨g, 0, none⟩) L.length cap') V) ((poolV_size _ HVL.out).trans (poolV_size _ rfl).symm)
  have k5 := bel_setCells HK2.out (show s ≤ s + 1 + 1 by omega) (poolV (.slice (some ⟨g, 0, none⟩) L.length cap') V).toList 0
  have ho5 := owns_setCellsL HO4.out (show s + 1 + 1 < s + 1 + 1 + 1 by omega) (poolV (.slice (some ⟨g, 0, none⟩) L.length cap') V).toList 0
  rw [show (w2.setCell ⟨s, 0, none⟩ (.slice (some ⟨g, 0, none⟩) L.length cap')).setCells (s + 1 + 1) 0 (poolV (.slice (some ⟨g, 0, none⟩) L.length cap') V).toList = w3 from hw3.out] at hO5 k5 ho5
  have HO5 := Lib.hid (owns_weaken ho5 (show s ≤ s + 1 + 1 + 1 by omega))
  clear hw3 HO2 HO4 HK2 HT3 c0 fz ho5
  go_wp2_with fail
  refine ret_p1 rfl (s + 1 + 1) rfl hO5 (poolV_size _ HVL.out) rfl ?_
  refine ⟨_, rfl, ?_, by rw [HS.out]; exact k5⟩
  rw [HS.out, HLL.out]
  exact HO5.out
end Go.Proofs.Ytfmkjckckekliaa
