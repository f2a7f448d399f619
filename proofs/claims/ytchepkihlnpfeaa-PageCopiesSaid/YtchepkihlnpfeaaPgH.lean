/-
  Package page: All. Conditions: a table, its rows in order.
-/
import Derived.Test.YtchepkihlnpfeaaPgG
import Derived.Stop.RegionWithIn
namespace Go.Proofs.Ytchepkihlnpfeaa
open Go.RowKit
attribute [local go_sem] Oper.semAt_some
set_option maxHeartbeats 4000000
set_option maxRecDepth 8000

/-- A copy that All goes over, or none. -/
def CpV (B : Nat) (W : World) (p : Option Addr) (D : Tb) : Prop := (p = none ∧ D = []) ∨ ∃ c m, p = some ⟨c, 0, none⟩ ∧ TblAt W c m D ∧ B ≤ c ∧ B ≤ m
theorem CpV.keeps {B n : Nat} {W W' : World} {p : Option Addr} {D : Tb} (h : CpV B W p D) (k : Keeps n W W') : CpV B W' p D := by
  rcases h with h | ⟨c, m, h1, h2, h3, h4⟩
  · exact .inl h
  · exact .inr ⟨c, m, h1, ⟨h2.blk.keeps k, h2.mp.keeps k⟩, h3, h4⟩
theorem CpV.step {B : Nat} {W W' : World} {p : Option Addr} {D : Tb} (h : CpV B W p D) (k : Below W.heap.size W W') : CpV B W' p D := by
  rcases h with h | ⟨c, m, h1, h2, h3, h4⟩
  · exact .inl h
  · exact .inr ⟨c, m, h1, h2.step k, h3, h4⟩
theorem CpV.mono {B B' : Nat} {W : World} {p : Option Addr} {D : Tb} (h : CpV B W p D) (hb : B' ≤ B) : CpV B' W p D := by
  rcases h with h | ⟨c, m, h1, h2, h3, h4⟩
  · exact .inl h
  · exact .inr ⟨c, m, h1, h2, by omega, by omega⟩
/-- What All has laid. -/
structure AllV (B : Nat) (W : World) (gc go : Nat) (p : Option Addr) (D : Tb) (o : Int) : Prop where
  box : Blk W gc #[.pointer p] 24
  own : Blk W go #[.int .i64 o] 3
  tb : CpV B W p D
  lo : B ≤ gc ∧ B ≤ go
theorem AllV.keeps {B n : Nat} {W W' : World} {gc go : Nat} {p : Option Addr} {D : Tb} {o : Int} (h : AllV B W gc go p D o) (k : Keeps n W W') : AllV B W' gc go p D o := ⟨h.box.keeps k, h.own.keeps k, h.tb.keeps k, h.lo⟩
theorem AllV.step {B : Nat} {W W' : World} {gc go : Nat} {p : Option Addr} {D : Tb} {o : Int} (h : AllV B W gc go p D o) (k : Below W.heap.size W W') : AllV B W' gc go p D o := ⟨h.box.below k h.box.lt, h.own.below k h.own.lt, h.tb.step k, h.lo⟩
/-- A table, or none. -/
def TbV (W : World) (p : Option Addr) (D : Tb) : Prop := (NoTb W p ∧ D = []) ∨ ∃ b m, p = some ⟨b, 0, none⟩ ∧ TblAt W b m D
theorem TbV.step {W W' : World} {p : Option Addr} {D : Tb} (h : TbV W p D) (k : Below W.heap.size W W') : TbV W' p D := by
  rcases h with ⟨h1, h2⟩ | ⟨b, m, h1, h2⟩
  · exact .inl ⟨h1.step k, h2⟩
  · exact .inr ⟨b, m, h1, h2.step k⟩
theorem TblAt.v {W : World} {b m : Nat} {D : Tb} (h : TblAt W b m D) : TbV W (some ⟨b, 0, none⟩) D := .inr ⟨b, m, rfl, h⟩
theorem All_ok {w : World} {p : Option Addr} {D : Tb} (h : TbV w p D) (o : Int) : Calls Try.prog 18 #[.pointer p, .int .i64 o] w fun e w' =>
    ∃ gc go q, e = .returned (.func (.func 46) #[] #[.pointer (some ⟨gc, 0, none⟩), .pointer (some ⟨go, 0, none⟩)]) ∧ AllV w.heap.size w' gc go q D o ∧ Below w.heap.size w w' := by
  obtain ⟨w0, hw0⟩ : ∃ w0, w.alloc (.cells #[.int .i64 o] 3) = w0 := ⟨_, rfl⟩
  have hO : Blk w0 w.heap.size #[.int .i64 o] 3 := by rw [← hw0]; exact Blk.new w _ _
  have k0 : Below w.heap.size w w0 := by rw [← hw0]; exact (Below.refl _ w).alloc (Nat.le_refl _) _
  have h0 := h.step k0
  have z0 := k0.size
  have HC : Calls Try.prog 17 #[.pointer p] w0 fun e w' => ∃ q, e = .returned (.pointer q) ∧ CpV w0.heap.size w' q D ∧ Below w0.heap.size w0 w' := by
    rcases h0 with ⟨h1, rfl⟩ | ⟨b, m, rfl, h2⟩
    · refine (Copy_none h1).mono ?_; rintro e w1 ⟨rfl, k⟩
      exact ⟨none, rfl, .inl ⟨rfl, rfl⟩, k⟩
    · refine (Copy_ok h2).mono ?_; rintro e w1 ⟨c, mc, rfl, hC, l1, l2, k⟩
      exact ⟨_, rfl, .inr ⟨c, mc, rfl, hC, l1, l2⟩, k⟩
  go_enter Try.func18, Try.ntmps18
  go_wp2_with fail
  clear hw0
  refine HC.mono ?_; rintro e w1 ⟨q, rfl, hC, k1⟩
  have hO1 := hO.below k1 hO.lt
  have kk := k0.trans (k1.mono z0)
  have z1 := k1.size
  go_wp2_with fail
  go_ret
  exact ⟨_, _, _, rfl, ⟨Blk.newAt _ _ _ (by simp), hO1.alloc _, (hC.step ((Below.refl _ w1).alloc (Nat.le_refl _) _)).mono z0, by omega, Nat.le_refl _⟩, kk.alloc (by omega) _⟩
/-! ### What comes -/
def ofR (D : Tb) (o : Int) : Tb := D.filter fun x => x.2.o == o
theorem keys_split {D : Tb} {pre suf : List Int} {n : Int} (h : D.map (·.1) = pre ++ n :: suf) : ∃ (hk : pre.length < D.length), D[pre.length].1 = n := by
  have h1 : pre.length < (D.map (·.1)).length := by rw [h]; simp
  refine ⟨by simpa using h1, ?_⟩
  have h2 : (D.map (·.1))[pre.length] = n := by rw [List.getElem_of_eq h]; simp
  simpa using h2
theorem of_succ (D : Tb) (o : Int) (k : Nat) (hk : k < D.length) : ofR (D.take (k + 1)) o = if D[k].2.o = o then ofR (D.take k) o ++ [D[k]] else ofR (D.take k) o := by
  unfold ofR
  rw [List.take_succ_eq_append_getElem hk, List.filter_append]
  by_cases e : D[k].2.o = o
  · rw [if_pos e]; simp [e]
  · rw [if_neg e]; simp [e]
theorem of_split (D : Tb) (o : Int) (k : Nat) (hk : k < D.length) (e : D[k].2.o = o) : ∃ suf, ofR D o = ofR (D.take k) o ++ D[k] :: suf := by
  refine ⟨ofR (D.drop (k + 1)) o, ?_⟩
  unfold ofR
  conv => lhs; rw [split_at D k hk]
  rw [List.filter_append, List.filter_cons, if_pos (by simpa using e)]
theorem RowAt.sm {B n cap lo hi : Nat} {W W' : World} {ad : Option Addr} {xs : List Value} (h : RowAt B W (.slice ad n cap) n xs) (k : Sm lo hi W W') (hb : ∀ b off, ad = some ⟨b, off, none⟩ → lo ≤ b) (hB : B ≤ hi) : RowAt B W' (.slice ad n cap) n xs := by
  obtain ⟨a', c, e, h1, h2⟩ := h
  simp only [Value.slice.injEq, true_and] at e
  obtain ⟨rfl, rfl⟩ := e
  refine ⟨_, _, rfl, h1, h2.imp id ?_⟩
  rintro ⟨b, off, e, hlt, hc⟩
  exact ⟨b, off, e, hlt, fun i hi => (World.cell?_of_block (a := ⟨b, off + i, none⟩) (k.2 b (hb b off e) (by omega))).trans (hc i hi)⟩
theorem All_iter (gc go : Nat) (p : Option Addr) (D : Tb) (o : Int) (hg : Good D) (hl : D.length ≤ 100000) :
    IterS Try.prog 46 #[.pointer (some ⟨gc, 0, none⟩), .pointer (some ⟨go, 0, none⟩)] (fun x : Int × Ent => #[.int .i64 x.1, .agg #[.int .i64 x.2.o, .int .i64 x.2.m, .int .i64 x.2.f]]) (ofR D o)
      (fun W => W.cell? ⟨gc, 0, none⟩ = some (.pointer p) ∧ W.cell? ⟨go, 0, none⟩ = some (.int .i64 o) ∧ CpV 0 W p D) := by
  intro L J Jx W hJ hJx hA hY h0
  have h00 := h0 W.heap.size (Nat.le_refl _)
  obtain ⟨c0, c1, hC0⟩ := hA _ _ _ h00
  have l0 := World.block_lt_of_cell? W _ c0
  have l1 := World.block_lt_of_cell? W _ c1
  have HA := Lib.hid hA
  have HY := Lib.hid hY
  have H0 := Lib.hid h0
  clear hA hY h0 h00
  obtain ⟨wa, hwa⟩ : ∃ wa, W.alloc (.cells #[.func (.yield L) #[] #[]] 95) = wa := ⟨_, rfl⟩
  have hza : wa.heap.size = W.heap.size + 1 := by rw [← hwa]; simp
  have hka : Keeps W.heap.size W wa := by rw [← hwa]; exact (Keeps.refl _ W).alloc (Nat.le_refl _) _
  have bY : Blk wa W.heap.size #[.func (.yield L) #[] #[]] 95 := by rw [← hwa]; exact Blk.new W _ _
  have c0a := hka.cell c0
  have c1a := hka.cell c1
  have hCa := hC0.keeps hka
  refine calls_of_wp_marks Try.func46 rfl ?_; simp only [Try.ntmps46, List.size_toArray, List.length_cons, List.length_nil, Nat.reduceAdd, Nat.reduceSub, Array.replicate_succ, Array.replicate_zero, List.push_toArray, List.append_toArray, List.nil_append, List.cons_append]
  go_wp2_with fail
  clear hwa c0 c1 hC0
  rcases hCa with ⟨rfl, rfl⟩ | ⟨c, m, rfl, hT, _, _⟩
  · refine (none_no (.inl rfl)).mono ?_; rintro e w1 ⟨rfl, k1⟩
    have hk1 := hka.trans (Keeps.of_below k1 (by omega) (Nat.le_refl _))
    go_wp2_with fail
    exact postM_ret0 (results_none rfl _ _ _) ⟨⟨_, rfl⟩, .inl ⟨W.heap.size, Nat.le_refl _, hJ _ _ _ _ (H0.out _ (Nat.le_refl _)) hk1⟩⟩
  · refine (none_live hT).mono ?_; rintro e w1 ⟨rfl, k1⟩
    have hk1 := hka.trans (Keeps.of_below k1 (by omega) (Nat.le_refl _))
    have c01 := (Keeps.of_below (B := 0) k1 (by omega) (Nat.le_refl _)).cell c0a
    have hT1 := hT.step k1
    have bY1 := bY.below k1 bY.lt
    have z1 := k1.size
    clear k1 hT bY c0a c1a hka
    go_wp2_with fail
    refine (pages_calls hT1 hg (by omega)).mono ?_; rintro e w2 ⟨g, ad, cap, rfl, hK2, hg2, had, k2⟩
    have hk2 := hk1.trans (Keeps.of_below k2 (by omega) (Nat.le_refl _))
    have bY2 := bY1.below k2 bY1.lt
    have z2 := k2.size
    have hgl := hK2.box.lt
    have hyl := bY2.lt
    have hlk : (D.map (·.1)).length < 1000000 := by rw [List.length_map]; omega
    have HG := Lib.hid hg
    have HT := Lib.hid (show D.take D.length = D from List.take_length)
    obtain ⟨l, hl9⟩ : ∃ l, D.map (·.1) = l := ⟨_, rfl⟩
    have HL9 := Lib.hid hl9
    have hll : l.length = D.length := by rw [← hl9]; simp
    have HLL := Lib.hid hll
    rw [hl9] at hK2 hlk
    clear k2 hk1 c01 hT1 bY1 hl9 hg hll
    go_wp2_with fail
    refine wp_rangeS1 rfl (enters_of Try.func59 (by kernel_rfl) rfl) (values_iter ad cap l hlk w2.heap.size g).toS (fun _ => rfl)
      (fun hi pre X => W.heap.size ≤ hi ∧ J hi (ofR (D.take pre.length) o) X ∧ Blk X W.heap.size #[.func (.yield L) #[] #[]] 95 ∧ Blk X g #[.slice ad l.length cap] 99 ∧ RowAt w2.heap.size X (.slice ad l.length cap) l.length (intVals .i64 l))
      (fun c X => c = .ret ∧ Jx () X) ?a1 ?hassign ?hI ?hIx ?hA ?h0 ?hbody ?hdone ?hstop
    case hassign => intro m l x W K hK; gi_wp2; exact hK
    case hI => rintro hi pre X Y ⟨q0, q1, q2, q3, q4⟩ hk; exact ⟨q0, hJ _ _ _ _ q1 (hk.mono (by omega)), q2.keeps hk, q3.keeps hk, q4.keeps hk⟩
    case hIx => rintro c X Y ⟨h1, h2⟩ hk; exact ⟨h1, hJx _ _ _ h2 (hk.mono (by omega))⟩
    case hA => rintro hi pre X ⟨q0, q1, q2, q3, q4⟩; exact ⟨q3.cell 0 rfl, q4⟩
    case h0 => intro hi hh; exact ⟨by omega, hJ _ _ _ _ (H0.out hi (by omega)) hk2, bY2, hK2.box, hK2.row⟩
    case hdone =>
      rintro D9 X hi hD ⟨q0, q1, q2, q3, q4⟩ hK
      rw [HLL.out, HT.out] at q1
      go_wp2_with fail
      exact postM_end hK (results_none rfl _ _ _) ⟨⟨_, rfl⟩, .inl ⟨hi, q0, hJ _ _ _ _ q1 (Keeps.putObj _ (by omega) hK rfl)⟩⟩
    case hstop =>
      rintro D9 c X hD ⟨rfl, h1⟩ hK
      go_wp2_with fail
      exact postM_ret hK (results_none rfl _ _ _) ⟨⟨_, rfl⟩, .inr (hJx _ _ _ h1 (Keeps.putObj _ (by omega) hK rfl))⟩
    case hbody =>
      rintro m9 lp hi pre n suf X hxs hlp hrec hhi hhX ⟨q0, q1, q2, q3, q4⟩
      obtain ⟨d0, d1, dC⟩ := HA.out _ _ _ q1
      rcases dC with ⟨e, _⟩ | ⟨c9, m9, e, hTX, _, _⟩
      · cases e
      obtain rfl : c9 = c := by simp only [Option.some.injEq, Addr.mk.injEq, and_true] at e; exact e.symm
      obtain ⟨hkD, hkn⟩ := keys_split (HL9.out.trans hxs)
      have hmem : D[pre.length] ∈ D := List.getElem_mem hkD
      have hgt : getE D n = D[pre.length].2 := by rw [← hkn]; unfold getE; rw [getR_some HG.out.srt.nodup hmem]; rfl
      have hst := of_succ D o pre.length hkD
      have hps := of_split D o pre.length hkD
      have hsn : (pre ++ [n]).length = pre.length + 1 := by simp
      have HSN := Lib.hid hsn
      obtain ⟨x, hx⟩ : ∃ x, D[pre.length] = x := ⟨_, rfl⟩
      rw [hx] at hkn hgt hst hps
      have hlk := (hTX.look n).1
      rw [hgt] at hlk
      obtain ⟨xk, xo, xm, xf⟩ := x
      dsimp only at hkn hlk hst hps
      subst hkn
      obtain ⟨X1, hX1⟩ : ∃ X1, X.alloc (.cells #[.int .i64 xo, .int .i64 xm, .int .i64 xf] 31) = X1 := ⟨_, rfl⟩
      have kX : Below X.heap.size X X1 := by rw [← hX1]; exact (Below.refl _ X).alloc (Nat.le_refl _) _
      have hXb : Blk X1 X.heap.size #[.int .i64 xo, .int .i64 xm, .int .i64 xf] 31 := by rw [← hX1]; exact Blk.new X _ _
      have kK : Keeps hi X X1 := .of_below kX hhX (Nat.le_refl _)
      have q11 := hJ _ _ _ _ q1 (kK.mono (by omega))
      have q21 := q2.keeps kK
      have q31 := q3.keeps kK
      have q41 := q4.keeps kK
      have cY := q21.cell 0 rfl
      have cO := kK.cell d1
      have cT := hTX.cell
      have x0 : X1.cell? ⟨X.heap.size, 0, none⟩ = some (.int .i64 xo) := hXb.cell 0 rfl
      have x1 : X1.cell? ⟨X.heap.size, 1, none⟩ = some (.int .i64 xm) := hXb.cell 1 rfl
      have x2 : X1.cell? ⟨X.heap.size, 2, none⟩ = some (.int .i64 xf) := hXb.cell 2 rfl
      have hsz := kX.size
      have hsm1 : Sm w2.heap.size hi X X1 := Sm.of_below kX hhX
      have hsm0 : Sm W.heap.size hi X X1 := Sm.of_below kX hhX
      clear hx hgt hxs hmem hsn d1 q1 hTX hkD
      by_cases hxo : xo = o
      · subst hxo
        rw [if_pos rfl] at hst
        obtain ⟨suf', hsp⟩ := hps rfl
        have HST := Lib.hid hst
        obtain ⟨fn, tmps, assign, body, hy, hR⟩ := HY.out hi _ _ _ X1 hsp q11 (by omega) (by omega)
        dsimp only at hy
        clear hst hsp hps
        gi_wp2_with fail
        refine (RoundIn_inR lp (hR _)).mono ?_
        rintro e w3 ⟨hSm, ⟨rfl, hJ3⟩ | ⟨rfl, hJx3⟩⟩
        · have hS9 := hsm0.trans hSm
          have bY3 := (hSm.2 W.heap.size (by omega) (by omega)).trans q21
          have bG3 := (hSm.2 g (by omega) (by omega)).trans q31
          have bR3 := q41.sm hSm (fun b off e => by have := had b off e; omega) (by omega)
          gi_wp2_with fail
          exact ⟨⟨hS9.1, fun k h1 h2 => hS9.2 k (by omega) (by omega)⟩, q0, by rw [HSN.out, HST.out]; exact hJ3, bY3, bG3, bR3⟩
        · have hS9 := hsm0.trans hSm
          gi_wp2_with fail
          exact ⟨⟨hS9.1, fun k h1 h2 => hS9.2 k (by omega) (by omega)⟩, rfl, hJx3⟩
      · rw [if_neg hxo] at hst
        have hx' : (xo == o) = false := by simpa using hxo
        have HST := Lib.hid hst
        clear hst hps
        gi_wp2_with fail
        exact ⟨hsm1, by rw [HSN.out, HST.out]; exact q11, q21, q31, q41⟩
end Go.Proofs.Ytchepkihlnpfeaa
