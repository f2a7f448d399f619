/-
  Package desk: All and its iterator. No condition.
-/
import Derived.Test.YtchknegenaoliaaDeO
namespace Go.Proofs.Ytchknegenaoliaa
open Go.RowKit
attribute [local go_sem] Oper.semAt_some
set_option maxHeartbeats 1000000
set_option maxRecDepth 4000

theorem dkV_rng {P : List Ten} (h : P.length = 4) (m : Option Nat) {W : World} {b : Nat} (hB : Blk W b (dkV P m) 73) : W.rangeAt b 0 (tensV P) := by
  refine hB.rng 0 _ fun j hj => ?_
  unfold dkV
  rw [Nat.zero_add, List.getElem?_toArray, List.getElem?_append_left hj]
theorem All_live {w : World} {b m : Nat} {P : List Ten} {T : Thr} (hD : DkAt w b m P T) : Calls Try.prog 22 #[.pointer (some ⟨b, 0, none⟩)] w fun e w' => ∃ x, e = .returned (.func (.func 43) #[] #[.pointer (some ⟨x, 0, none⟩)]) ∧ Blk w' x (tensV P).toArray 71 ∧ w.heap.size ≤ x ∧ Below w.heap.size w w' := by
  obtain ⟨w0, hw0⟩ : ∃ w0, w.alloc (.cells (tensV [zT, zT, zT, zT]).toArray 71) = w0 := ⟨_, rfl⟩
  have hX : Blk w0 w.heap.size (tensV [zT, zT, zT, zT]).toArray 71 := by rw [← hw0]; exact Blk.new w _ _
  have k0 : Below w.heap.size w w0 := by rw [← hw0]; exact (Below.refl _ w).alloc (Nat.le_refl _) _
  have h0 := hD.step k0
  have hw0' : w.alloc (.cells #[.int .i64 0, .bool false, .int .i64 0, .int .i64 0, .int .i64 0, .bool false, .int .i64 0, .int .i64 0, .int .i64 0, .bool false, .int .i64 0, .int .i64 0, .int .i64 0, .bool false, .int .i64 0, .int .i64 0] 71) = w0 := hw0
  clear hw0
  go_enter Try.func22, Try.ntmps22
  go_wp2_with fail
  clear hw0'
  refine (none_live h0).mono ?_; rintro e w1 ⟨rfl, k1⟩
  have h1 := h0.step k1
  have hX1 := hX.below k1 hX.lt
  have kk := k0.trans (k1.mono k0.size)
  have hsz : (tensV P).length = 16 := tensV_len h1.len
  have HS := Lib.hid hsz
  have hs2 : (tensV P).toArray.size = 16 := by rw [List.size_toArray, hsz]
  have HS2 := Lib.hid hs2
  clear hsz hs2
  go_wp2_with (first | refine wpList_loadM ty71 rfl _ rfl b 0 rfl (tensV P) (dkV_rng h1.len _ h1.blk) HS.out ?_ | refine wpList_storeB ty71 rfl _ _ rfl w.heap.size (tensV P).toArray rfl rfl hX1 rfl HS2.out (tensV_one P) ?_)
  go_ret
  exact ⟨_, rfl, hX1.whole _ (HS2.out.trans rfl), Nat.le_refl _, bel_setCells kk (Nat.le_refl _) _ _⟩
theorem All_no {w : World} {p : Option Addr} (h : NoDk w p) : Calls Try.prog 22 #[.pointer p] w fun e w' => ∃ x, e = .returned (.func (.func 43) #[] #[.pointer (some ⟨x, 0, none⟩)]) ∧ Blk w' x (tensV [zT, zT, zT, zT]).toArray 71 ∧ w.heap.size ≤ x ∧ Below w.heap.size w w' := by
  obtain ⟨w0, hw0⟩ : ∃ w0, w.alloc (.cells (tensV [zT, zT, zT, zT]).toArray 71) = w0 := ⟨_, rfl⟩
  have hX : Blk w0 w.heap.size (tensV [zT, zT, zT, zT]).toArray 71 := by rw [← hw0]; exact Blk.new w _ _
  have k0 : Below w.heap.size w w0 := by rw [← hw0]; exact (Below.refl _ w).alloc (Nat.le_refl _) _
  have h0 := h.step k0
  have hw0' : w.alloc (.cells #[.int .i64 0, .bool false, .int .i64 0, .int .i64 0, .int .i64 0, .bool false, .int .i64 0, .int .i64 0, .int .i64 0, .bool false, .int .i64 0, .int .i64 0, .int .i64 0, .bool false, .int .i64 0, .int .i64 0] 71) = w0 := hw0
  clear hw0
  go_enter Try.func22, Try.ntmps22
  go_wp2_with fail
  clear hw0'
  refine (none_no h0).mono ?_; rintro e w1 ⟨rfl, k1⟩
  have hX1 := hX.below k1 hX.lt
  go_wp2_with fail
  go_ret
  exact ⟨_, rfl, hX1, Nat.le_refl _, k0.trans (k1.mono k0.size)⟩
theorem All_iter {P : List Ten} (hl : P.length = 4) (x : Nat) :
    IterS Try.prog 43 #[.pointer (some ⟨x, 0, none⟩)] (fun h : Hnd => #[.agg #[.int .i64 h.s, .int .i64 h.g]]) (tenL P) (fun W => Blk W x (tensV P).toArray 71) := by
  intro L J Jx W hJ hJx hA hY h0
  have h00 := h0 W.heap.size (Nat.le_refl _)
  have hx0 := hA _ _ _ h00
  have l0 := hx0.lt
  have HA := Lib.hid hA
  have HY := Lib.hid hY
  have H0 := Lib.hid h0
  clear hA hY h0 h00
  refine calls_of_wp_marks Try.func43 rfl ?_; simp only [Try.ntmps43, List.size_toArray, List.length_cons, List.length_nil, Nat.reduceAdd, Nat.reduceSub, Array.replicate_succ, Array.replicate_zero, List.push_toArray, List.append_toArray, List.nil_append, List.cons_append]
  go_wp2_with fail
  obtain ⟨wa, hwa⟩ : ∃ wa, W.alloc (.cells #[.func (.yield L) #[] #[]] 83) = wa := ⟨_, rfl⟩
  rw [hwa]
  have hza : wa.heap.size = W.heap.size + 1 := by rw [← hwa]; simp
  have hka : Keeps W.heap.size W wa := by rw [← hwa]; exact (Keeps.refl _ W).alloc (Nat.le_refl _) _
  have bY : Blk wa W.heap.size #[.func (.yield L) #[] #[]] 83 := by rw [← hwa]; exact Blk.new W _ _
  have hxa := hx0.keeps hka
  clear hwa hx0
  refine wp_scope_straight ?_
  go_wp2_with fail
  refine wp_label ?_
  go_wp2_with fail
  refine (sAll_calls _ _ _ _).mono ?_; rintro e w' ⟨rfl, rfl⟩
  go_wp2_with fail
  obtain ⟨wc, hwc⟩ : ∃ wc, wa.alloc (.cells #[.slice (some ⟨x, 0, none⟩) 4 4] 97) = wc := ⟨_, rfl⟩
  rw [hwc]
  have hzc : wc.heap.size = W.heap.size + 2 := by rw [← hwc]; simp [hza]
  have hkc : Keeps W.heap.size W wc := by rw [← hwc]; exact hka.alloc (by omega) _
  have bYc : Blk wc W.heap.size #[.func (.yield L) #[] #[]] 83 := by rw [← hwc]; exact bY.alloc _
  have bSc : Blk wc (W.heap.size + 1) #[.slice (some ⟨x, 0, none⟩) 4 4] 97 := by rw [← hwc]; exact Blk.newAt _ _ _ hza.symm
  clear hwc bY hka hza hxa
  refine wp_rangeSA rfl (enters_of Try.func55 (by kernel_rfl) rfl) (sAll_iter hl x (W.heap.size + 1)).toS (fun _ => rfl)
    (fun hi pre X => W.heap.size ≤ hi ∧ J hi (tenTo P pre.length) X ∧ Blk X W.heap.size #[.func (.yield L) #[] #[]] 83 ∧ Blk X (W.heap.size + 1) #[.slice (some ⟨x, 0, none⟩) 4 4] 97)
    (fun c X => c = .exit 0 ∧ Jx () X) ?a1 (fun k => #[.int .i64 (tenD P k).g, .bool (tenD P k).t, .int .i64 (tenD P k).q, .int .i64 (tenD P k).f]) 69 ?hassign ?hI ?hIx ?hA ?h0 ?hbody ?hdone ?hstop
  case hassign =>
    intro m l k W b K hb hK
    gi_wp2
    exact hK
  case hI => rintro hi pre X Y ⟨q0, q1, q2, q3⟩ hk; exact ⟨q0, hJ _ _ _ _ q1 (hk.mono (by omega)), q2.keeps hk, q3.keeps hk⟩
  case hIx => rintro c X Y ⟨h1, h2⟩ hk; exact ⟨h1, hJx _ _ _ h2 (hk.mono (by omega))⟩
  case hA => rintro hi pre X ⟨q0, q1, q2, q3⟩; exact ⟨q3.cell 0 rfl, HA.out _ _ _ q1⟩
  case h0 => intro hi hh; exact ⟨by omega, hJ _ _ _ _ (H0.out hi (by omega)) hkc, bYc, bSc⟩
  case hdone =>
    rintro D9 X hi hD ⟨q0, q1, q2, q3⟩ hK
    rw [List.length_range] at q1
    go_wp2_with fail
    rw [Exit.noGoto_normal]
    exact postM_end hK (results_none rfl _ _ _) ⟨⟨_, rfl⟩, .inl ⟨hi, q0, hJ _ _ _ _ q1 (Keeps.putObj _ (by omega) hK rfl)⟩⟩
  case hstop =>
    rintro D9 c X hD ⟨rfl, h1⟩ hK
    go_wp2_with fail
    rw [Exit.noGoto_normal]
    exact postM_end hK (results_none rfl _ _ _) ⟨⟨_, rfl⟩, .inr (hJx _ _ _ h1 (Keeps.putObj _ (by omega) hK rfl))⟩
  case hbody =>
    rintro m9 lp hi pre c suf X g hxs hlp hrec hhi hhX hgb hX ⟨q0, q1, q2, q3⟩
    obtain ⟨rfl, hlt⟩ := range_split hxs
    have cY := q2.cell 0 rfl
    generalize hcq : pre.length = k at *
    have hnx : (pre ++ [k]).length = k + 1 := by simp [hcq]
    have HNX := Lib.hid hnx
    have hst : tenTo P (k + 1) = if (tenD P k).t = true then tenTo P k ++ [⟨k, (tenD P k).g⟩] else tenTo P k := rfl
    have hps := ten_split P k hlt
    generalize tenD P k = y at hst hps hX
    have x0 : X.cell? ⟨g, 0, none⟩ = some (.int .i64 y.g) := hX.cell 0 rfl
    have x1 : X.cell? ⟨g, 1, none⟩ = some (.bool y.t) := hX.cell 1 rfl
    obtain ⟨yg, yt, yq, yf⟩ := y
    dsimp only at x0 x1 hst hps
    have hsm0 : Sm W.heap.size hi X X := Sm.refl _ _ _
    clear hnx hcq hxs hX
    cases yt with
    | true =>
      rw [if_pos rfl] at hst
      obtain ⟨suf', hsp⟩ := hps rfl
      have HST := Lib.hid hst
      obtain ⟨fn, tmps, assign, body, hy, hR⟩ := HY.out hi _ _ _ X hsp q1 (by omega) (by omega)
      dsimp only at hy
      clear hst hsp hps
      gi_wp2_with fail
      refine (RoundIn_inR lp (hR _)).mono ?_
      rintro e w3 ⟨hSm, ⟨rfl, hJ3⟩ | ⟨rfl, hJx3⟩⟩
      · have bY3 := (hSm.2 W.heap.size (by omega) (by omega)).trans q2
        have bG3 := (hSm.2 (W.heap.size + 1) (by omega) (by omega)).trans q3
        gi_wp2_with fail
        exact ⟨⟨hSm.1, fun k h1 h2 => hSm.2 k (by omega) (by omega)⟩, q0, by rw [HNX.out, HST.out]; exact hJ3, bY3, bG3⟩
      · gi_wp2_with fail
        exact ⟨⟨hSm.1, fun k h1 h2 => hSm.2 k (by omega) (by omega)⟩, rfl, hJx3⟩
    | false =>
      rw [if_neg (by decide)] at hst
      have HST := Lib.hid hst
      clear hst hps
      gi_wp2_with fail
      exact ⟨⟨hsm0.1, fun k h1 h2 => hsm0.2 k (by omega) (by omega)⟩, q0, by rw [HNX.out, HST.out]; exact q1, q2, q3⟩
end Go.Proofs.Ytchknegenaoliaa
