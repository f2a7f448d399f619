/-
  Package cache: found, Has. Conditions: rows of fewer than a million.
-/
import Derived.Test.YtkilmppmghkigaaCaF
namespace Go.Proofs.Ytkilmppmghkigaa
open Go.RowKit
attribute [local go_sem] Oper.semAt_some
set_option maxHeartbeats 4000000
set_option maxRecDepth 4000

/-- Whose shelf a slot of a class is on. -/
def hasT (L : Nat → List Int) (c : Nat) (x : Int) : Option Nat := (List.range 4).find? fun t => decide (x ∈ L (t * 8 + c))
theorem hasT_at {L : Nat → List Int} {c : Nat} {x : Int} {pre suf : List Nat} {t : Nat} (hxs : List.range 4 = pre ++ t :: suf) (hno : ∀ j ∈ pre, x ∉ L (j * 8 + c)) (hx : x ∈ L (t * 8 + c)) : hasT L c x = some t := by
  unfold hasT
  rw [hxs, List.find?_append, List.find?_eq_none.2 (fun j hj => by simpa using hno j hj)]
  simp [hx]
theorem hasT_no {L : Nat → List Int} {c : Nat} {x : Int} (hno : ∀ j ∈ List.range 4, x ∉ L (j * 8 + c)) : hasT L c x = none :=
  List.find?_eq_none.2 fun j hj => by simpa using hno j hj
theorem Blk.row_keeps {B : Nat} {W W' : World} (h : Keeps B W W') : Keeps B W W' := h
theorem found_calls {w : World} {s p pc px c : Nat} {x : Int} {A : Nat → Option Addr} {C : Nat → Nat} {L : Nat → List Int} (hL : ∀ i, (L i).length < 1000000) (hB : Blk w s (shCells A C fun j => (L j).length).toArray 63) (hr : ∀ i, i < 32 → RowAt w.heap.size w (.slice (A i) (L i).length (C i)) (L i).length (intVals .i64 (L i)))
    (h8 : c < 8) (hp : w.cell? ⟨p, 0, none⟩ = some (.slice (some ⟨s, 0, none⟩) 4 4)) (hc : w.cell? ⟨pc, 0, none⟩ = some (.int .i64 c)) (hx : w.cell? ⟨px, 0, none⟩ = some (.int .i64 x)) :
    Calls Try.prog 49 #[.func (.func 59) #[] #[.pointer (some ⟨p, 0, none⟩)], .func (.func 51) #[] #[.pointer (some ⟨pc, 0, none⟩), .pointer (some ⟨px, 0, none⟩)]] w fun e w' =>
      e = .returned (.tuple #[.int .i64 ((hasT L c x).getD 0), .bool (hasT L c x).isSome]) ∧ Below w.heap.size w w' := by
  have eS : ∀ args W, (callFunc 51 args).run Try.prog W = .ok (.enter 51 args) W := enters_of Try.func51 (by kernel_rfl) rfl
  have HC : ∀ (k : Nat), k < 4 → ∀ W, Below w.heap.size w W → Calls Try.prog 51 #[.agg (arrV A C (fun j => (L j).length) k), .pointer (some ⟨pc, 0, none⟩), .pointer (some ⟨px, 0, none⟩)] W fun e w' => e = .returned (.bool (decide (x ∈ L (k * 8 + c)))) ∧ Below W.heap.size W w' := fun k hk W kW =>
    has1_calls hL (fun i hi => ((hr i hi).below kW (Nat.le_refl _)).mono kW.size) k hk pc px c x h8 ((kW.cell (p := ⟨pc, 0, none⟩) (World.block_lt_of_cell? w _ hc)).trans hc) ((kW.cell (p := ⟨px, 0, none⟩) (World.block_lt_of_cell? w _ hx)).trans hx)
  have HCC := Lib.hid HC
  have HA : ∀ W, Below w.heap.size w W → W.cell? ⟨p, 0, none⟩ = some (.slice (some ⟨s, 0, none⟩) 4 4) ∧ Blk W s (shCells A C fun j => (L j).length).toArray 63 := fun W kW =>
    ⟨(kW.cell (p := ⟨p, 0, none⟩) (World.block_lt_of_cell? w _ hp)).trans hp, hB.below kW hB.lt⟩
  have HAA := Lib.hid HA
  clear HC HA hr hL
  refine calls_of_wp_marks Try.func49 rfl ?_; simp only [Try.ntmps49, List.size_toArray, List.length_cons, List.length_nil, Nat.reduceAdd, Nat.reduceSub, Array.replicate_succ, Array.replicate_zero, List.push_toArray, List.append_toArray, List.nil_append, List.cons_append]
  go_wp2_with fail
  obtain ⟨W0, hW0⟩ : ∃ W0, W0 = ((w.alloc (.cells #[.func (.func 51) #[] #[.pointer (some ⟨pc, 0, none⟩), .pointer (some ⟨px, 0, none⟩)]] 95)).alloc (.cells #[.int .i64 0] 3)).alloc (.cells #[.bool false] 4) := ⟨_, rfl⟩
  rw [← hW0]
  have hs0 : W0.heap.size = w.heap.size + 3 := by rw [hW0]; simp
  have b0 : Blk W0 w.heap.size #[.func (.func 51) #[] #[.pointer (some ⟨pc, 0, none⟩), .pointer (some ⟨px, 0, none⟩)]] 95 := by rw [hW0]; exact ((Blk.new w _ _).alloc _).alloc _
  have b1 : Blk W0 (w.heap.size + 1) #[.int .i64 0] 3 := by rw [hW0]; exact (Blk.newAt _ _ _ (by simp)).alloc _
  have b2 : Blk W0 (w.heap.size + 1 + 1) #[.bool false] 4 := by rw [hW0]; exact Blk.newAt _ _ _ (by simp)
  have k0 : Below w.heap.size w W0 := by rw [hW0]; exact (((Below.refl _ w).alloc (Nat.le_refl _) _).alloc (by simp) _).alloc (by simp; omega) _
  clear hW0 hp hc hx hB
  refine wp_rangeB rfl (enters_of Try.func59 (by kernel_rfl) rfl) (all_iter p s A C fun j => (L j).length) (fun _ => rfl)
    (fun pre W => (∀ j ∈ pre, x ∉ L (j * 8 + c)) ∧ Blk W w.heap.size #[.func (.func 51) #[] #[.pointer (some ⟨pc, 0, none⟩), .pointer (some ⟨px, 0, none⟩)]] 95 ∧ Blk W (w.heap.size + 1) #[.int .i64 0] 3 ∧ Blk W (w.heap.size + 1 + 1) #[.bool false] 4 ∧ Below w.heap.size w W ∧ w.heap.size + 3 ≤ W.heap.size)
    (fun cd W => cd = .ret ∧ ∃ t, hasT L c x = some t ∧ Blk W (w.heap.size + 1) #[.int .i64 (t : Nat)] 3 ∧ Blk W (w.heap.size + 1 + 1) #[.bool true] 4 ∧ Below w.heap.size w W ∧ w.heap.size + 3 ≤ W.heap.size)
    ?a1 (fun pre k b W => Blk W b (arrV A C (fun j => (L j).length) k) 42 ∧ w.heap.size + 3 ≤ b ∧ (∀ j ∈ pre, x ∉ L (j * 8 + c)) ∧ Blk W w.heap.size #[.func (.func 51) #[] #[.pointer (some ⟨pc, 0, none⟩), .pointer (some ⟨px, 0, none⟩)]] 95 ∧ Blk W (w.heap.size + 1) #[.int .i64 0] 3 ∧ Blk W (w.heap.size + 1 + 1) #[.bool false] 4 ∧ Below w.heap.size w W ∧ w.heap.size + 3 ≤ W.heap.size)
    ?hI ?hIx ?hMid ?hA ?h0 ?hassign ?hbody ?hdone ?hstop
  case hI => rintro pre X Y ⟨h0, h1, h2, h3, h4, h5⟩ hk; exact ⟨h0, h1.keeps hk, h2.keeps hk, h3.keeps hk, h4.keeps hk (by omega), Nat.le_trans h5 hk.size⟩
  case hIx => rintro cd X Y ⟨hc, t, h1, h2, h3, h4, h5⟩ hk; exact ⟨hc, t, h1, h2.keeps hk, h3.keeps hk, h4.keeps hk (by omega), Nat.le_trans h5 hk.size⟩
  case hMid => rintro pre k b X Y ⟨hb, hbl, h0, h1, h2, h3, h4, h5⟩ hk; exact ⟨hb.keeps hk, hbl, h0, h1.keeps hk, h2.keeps hk, h3.keeps hk, h4.keeps hk (by omega), Nat.le_trans h5 hk.size⟩
  case hA => rintro pre W ⟨h0, h1, h2, h3, h4, h5⟩; exact HAA.out W h4
  case h0 => exact ⟨fun j hj => absurd hj (by simp), b0, b1, b2, k0, by omega⟩
  case hassign =>
    rintro m l pre k suf W K hxs ⟨h0, h1, h2, h3, h4, h5⟩ hlt hK
    have hM := hK W.heap.size _ ((KeepsRec.refl W).alloc _) ⟨Blk.new W (arrV A C (fun j => (L j).length) k) 42, h5, h0, h1.alloc _, h2.alloc _, h3.alloc _, h4.alloc (by omega) _, by simp; omega⟩
    unfold arrV at hM ⊢
    gi_wp2
    generalize W.heap.size = b at hM ⊢
    exact hM
  case hbody =>
    rintro m l pre k suf b W hxs hl hrec ⟨hb, hbl, h0, h1, h2, h3, h4, h5⟩
    have hk4 : k < 4 := by
      have : k ∈ List.range 4 := by rw [hxs]; simp
      simpa using this
    have hcall := HCC.out k hk4 W h4
    have c0 : W.cell? ⟨w.heap.size, 0, none⟩ = some (.func (.func 51) #[] #[.pointer (some ⟨pc, 0, none⟩), .pointer (some ⟨px, 0, none⟩)]) := h1.cell 0 rfl
    have q : ∀ j, j < 8 → W.cell? ⟨b, j, none⟩ = some (.slice (A (k * 8 + j)) (L (k * 8 + j)).length (C (k * 8 + j))) := fun j hj => hb.cell j (arrV_get A C (fun j => (L j).length) k j hj)
    have q0 : W.cell? ⟨b, 0, none⟩ = some (.slice (A (k * 8)) (L (k * 8)).length (C (k * 8))) := q 0 (by omega)
    have q1 := q 1 (by omega)
    have q2 := q 2 (by omega)
    have q3 := q 3 (by omega)
    have q4 := q 4 (by omega)
    have q5 := q 5 (by omega)
    have q6 := q 6 (by omega)
    have q7 := q 7 (by omega)
    by_cases hm : x ∈ L (k * 8 + c)
    · rw [decide_eq_true hm] at hcall
      have HCK := Lib.hid hcall
      have hT := Lib.hid (hasT_at hxs h0 hm)
      clear q hcall hm
      gi_wp2_with fail
      refine (HCK.out.inR l).mono ?_; rintro e W1 ⟨rfl, j1⟩
      have g1 := h2.below j1 h2.lt
      have g2 := h3.below j1 h3.lt
      have z1 := j1.size
      have c1 : W1.cell? ⟨w.heap.size + 1, 0, none⟩ = some (.int .i64 0) := g1.cell 0 rfl
      have f1 := g1.frozen 0
      have c2 : W1.cell? ⟨w.heap.size + 1 + 1, 0, none⟩ = some (.bool false) := g2.cell 0 rfl
      have f2 := g2.frozen 0
      have j2 := h4.trans (j1.mono h4.size)
      gi_wp2_with fail
      exact ⟨((KeepsRec.of_below j1 (Nat.le_refl _)).setCell _ _).setCell _ _, rfl, k, hT.out, (g1.set 0 _).setOther _ _ (by simp), (g2.setOther _ _ (by simp)).set 0 _, (j2.setCell (p := ⟨w.heap.size + 1, 0, none⟩) (by simp) _).setCell (p := ⟨w.heap.size + 1 + 1, 0, none⟩) (by simp; omega) _, by simp; omega⟩
    · rw [decide_eq_false hm] at hcall
      have HCK := Lib.hid hcall
      have HM := Lib.hid hm
      clear q hcall hm
      gi_wp2_with fail
      refine (HCK.out.inR l).mono ?_; rintro e W1 ⟨rfl, j1⟩
      have z1 := j1.size
      gi_wp2_with fail
      refine ⟨KeepsRec.of_below j1 (Nat.le_refl _), fun j hj => ?_, h1.below j1 h1.lt, h2.below j1 h2.lt, h3.below j1 h3.lt, h4.trans (j1.mono h4.size), by omega⟩
      rcases List.mem_append.1 hj with hj | hj
      · exact h0 j hj
      · obtain rfl := List.mem_singleton.1 hj
        exact HM.out
  case hdone =>
    rintro D W hD ⟨h0, h1, h2, h3, h4, h5⟩ hK
    have hno := hasT_no h0
    have c1 : W.cell? ⟨w.heap.size + 1, 0, none⟩ = some (.int .i64 0) := h2.cell 0 rfl
    have f1 := h2.frozen 0
    have c2 : W.cell? ⟨w.heap.size + 1 + 1, 0, none⟩ = some (.bool false) := h3.cell 0 rfl
    have f2 := h3.frozen 0
    have HN := Lib.hid hno
    clear hno
    go_wp2_with fail
    have g1 := ((h2.set 0 (.int .i64 0)).setOther ⟨w.heap.size + 1 + 1, 0, none⟩ (.bool false) (by simp)).putObj (.deferred none) (show w.heap.size + 1 ≠ D by omega)
    have g2 := ((h3.setOther ⟨w.heap.size + 1, 0, none⟩ (.int .i64 0) (by simp)).set 0 (.bool false)).putObj (.deferred none) (show w.heap.size + 1 + 1 ≠ D by omega)
    have t1 := g1.cell 0 (v := .int .i64 0) rfl
    have t2 := g2.cell 0 (v := .bool false) rfl
    have hKf : ((W.setCell ⟨w.heap.size + 1, 0, none⟩ (.int .i64 0)).setCell ⟨w.heap.size + 1 + 1, 0, none⟩ (.bool false)).heap[D]? = some (.deferred (some [])) := (Below.heap_setCell _ _ _ D (by dsimp only; omega)).trans ((Below.heap_setCell W _ _ D (by dsimp only; omega)).trans hK)
    refine postM_ret (v := .tuple #[.int .i64 0, .bool false]) hKf (by simp [results, Try.results49, go_sem, t1, t2]) ⟨by rw [HN.out]; rfl, ?_⟩
    exact below_putObj ((h4.setCell (p := ⟨w.heap.size + 1, 0, none⟩) (by simp) _).setCell (p := ⟨w.heap.size + 1 + 1, 0, none⟩) (by simp; omega) _) (by omega) _ (Array.getElem?_eq_some_iff.1 hKf).1
  case hstop =>
    rintro D cd W hD ⟨rfl, t, h1, h2, h3, h4, h5⟩ hK
    have c1 : W.cell? ⟨w.heap.size + 1, 0, none⟩ = some (.int .i64 t) := h2.cell 0 rfl
    have c2 : W.cell? ⟨w.heap.size + 1 + 1, 0, none⟩ = some (.bool true) := h3.cell 0 rfl
    have HN := Lib.hid h1
    clear h1
    go_wp2_with fail
    have g1 := h2.putObj (.deferred none) (show w.heap.size + 1 ≠ D by omega)
    have g2 := h3.putObj (.deferred none) (show w.heap.size + 1 + 1 ≠ D by omega)
    have t1 := g1.cell 0 (v := .int .i64 t) rfl
    have t2 := g2.cell 0 (v := .bool true) rfl
    refine postM_ret (v := .tuple #[.int .i64 t, .bool true]) hK (by simp [results, Try.results49, go_sem, t1, t2]) ⟨by rw [HN.out]; rfl, ?_⟩
    exact below_putObj h4 (by omega) _ (Array.getElem?_eq_some_iff.1 hK).1
end Go.Proofs.Ytkilmppmghkigaa
