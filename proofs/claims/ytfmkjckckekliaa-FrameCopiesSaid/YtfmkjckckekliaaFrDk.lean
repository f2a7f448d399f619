/-
  Package pinfoldlaw07: what act lays; its first case. Conditions: a pool whose books are in order, the document's beside it.
-/
import Derived.Test.YtfmkjckckekliaaFrDj
namespace Go.Proofs.Ytfmkjckckekliaa
open Go.RowKit
attribute [local go_sem] Oper.semAt_some
set_option maxHeartbeats 1000000
set_option maxRecDepth 8000

theorem RowAt.chgm {B n c : Nat} {W W' : World} {v : Value} {xs : List Value} {m : List (Int × Value)} (h : RowAt B W v n xs) (hm : MapI W c m) (k : Chg c W W') : RowAt B W' v n xs := by
  obtain ⟨a, cp, e, h1, h2⟩ := h
  refine ⟨a, cp, e, h1, ?_⟩
  by_cases hx : xs = []
  · exact .inl hx
  · rcases h2 with h2 | ⟨b, off, e2, hb, hc⟩
    · exact absurd h2 hx
    · refine .inr ⟨b, off, e2, hb, fun i hi => ?_⟩
      have h3 := hc i hi
      rw [List.getElem?_eq_getElem hi] at h3 ⊢
      have hl := World.block_lt_of_cell? W _ h3
      have hne : b ≠ c := by
        rintro rfl
        obtain ⟨es, cl, h4, _⟩ := hm
        simp [World.cell?, h4] at h3
      exact (World.cell?_of_block (a := ⟨b, off + i, none⟩) (k.block b hl hne)).trans h3
/-- Of what was there, nothing turns but two blocks. -/
structure Chg2 (c d : Nat) (W W' : World) : Prop where
  os : W'.os = W.os
  tape : W'.tape = W.tape
  output : W'.output = W.output
  size : W.heap.size ≤ W'.heap.size
  block : ∀ k, k < W.heap.size → k ≠ c → k ≠ d → W'.heap[k]? = W.heap[k]?
theorem Chg.l {c : Nat} {W W' : World} (h : Chg c W W') (d : Nat) : Chg2 c d W W' := ⟨h.os, h.tape, h.output, h.size, fun i hi hc _ => h.block i hi hc⟩
theorem Chg.r {c : Nat} {W W' : World} (h : Chg c W W') (d : Nat) : Chg2 d c W W' := ⟨h.os, h.tape, h.output, h.size, fun i hi _ hc => h.block i hi hc⟩
theorem Chg2.trans {c d : Nat} {X Y Z : World} (h : Chg2 c d X Y) (k : Chg2 c d Y Z) : Chg2 c d X Z :=
  ⟨k.os.trans h.os, k.tape.trans h.tape, k.output.trans h.output, Nat.le_trans h.size k.size, fun i hi h1 h2 => (k.block i (Nat.lt_of_lt_of_le hi h.size) h1 h2).trans (h.block i hi h1 h2)⟩
theorem Chg2.of_below {c d : Nat} {W W' : World} (h : Below W.heap.size W W') : Chg2 c d W W' := (Chg.of_below (c := c) h).l d
theorem heap_setCells {g i : Nat} (hne : i ≠ g) : ∀ (vs : List Value) (o : Nat) (W : World), (W.setCells g o vs).heap[i]? = W.heap[i]?
  | [], _, _ => rfl
  | v :: vs, o, W => (heap_setCells hne vs (o + 1) (W.setCell ⟨g, o, none⟩ v)).trans (Below.heap_setCell W ⟨g, o, none⟩ v i (by dsimp only; omega))
/-- Rows of frames bear strings; the box of a pool bears none. -/
theorem RowAt.setPool {B n g : Nat} {W : World} {v : Value} {E : List Df} {a9 : Option Addr} {n9 c9 : Nat} {V9 : List Int} {t : TypeId} (h : RowAt B W v n (frV E)) (hb : Blk W g (poolV (.slice a9 n9 c9) V9) t) (vs : List Value) (o : Nat) : RowAt B (W.setCells g o vs) v n (frV E) := by
  obtain ⟨a, c, e, h1, h2⟩ := h
  refine ⟨a, c, e, h1, ?_⟩
  by_cases hx : frV E = []
  · exact .inl hx
  · rcases h2 with h2 | ⟨b, off, e2, hlt, hc⟩
    · exact absurd h2 hx
    · have hne : b ≠ g := by
        rintro rfl
        have hE : 0 < E.length := by
          rcases Nat.eq_zero_or_pos E.length with h0 | h0
          · exact absurd (by rw [List.eq_nil_of_length_eq_zero h0]; rfl) hx
          · exact h0
        have h3 := hc 1 (by rw [frV_len]; omega)
        rw [show (frV E)[1]? = some (.string (strOfNums E[0].2)) from by have := (frV_get E 0 hE).2; simpa using this] at h3
        unfold Blk at hb
        simp only [World.cell?, hb] at h3
        have h4 : (poolV (.slice a9 n9 c9) V9)[off + 1]? = (V9.map fun n => Value.int .i64 n)[off]? := by unfold poolV; rw [List.getElem?_toArray, List.getElem?_cons_succ]
        simp only [h4, List.getElem?_map] at h3
        cases hq : V9[off]? <;> rw [hq] at h3 <;> cases h3
      exact .inr ⟨b, off, e2, hlt, fun i hi => (World.cell?_of_block (a := ⟨b, off + i, none⟩) (heap_setCells hne vs o W)).trans (hc i hi)⟩
/-- A pool and the document's beside it. -/
structure Pl (w0 W : World) (b bf br : Nat) (many : Int) (F : List Fr) (R : List (Int × Int)) (v : Value) : Prop where
  live : Live w0 W b bf br many F R
  g : Good many F R
  r : RowAt W.heap.size W v (docL many.toNat F).length (frV (docL many.toNat F))
/-- What act leaves. -/
structure ActE (w0 W W' : World) (b bf br : Nat) (many : Int) (F : List Fr) (R : List (Int × Int)) (b' bf' br' : Nat) (F' : List Fr) (R' : List (Int × Int)) (v' : Value) : Prop where
  p : Pl w0 W' b' bf' br' many F' R' v'
  c : Chg2 bf br W W'
  n : (b' = b ∧ bf' = bf ∧ br' = br) ∨ (W.heap.size ≤ b' ∧ W.heap.size ≤ bf' ∧ W.heap.size ≤ br')
  i : Inv F R → Inv F' R'
/-- What act has laid. -/
structure AcI (w0 w wr : World) (b bf br s : Nat) (many : Int) (F : List Fr) (R : List (Int × Int)) (v : Value) (V : List Int) (L : List Df) (x : ActV) (u : Value) : Prop where
  live : Live w0 wr b bf br many F R
  t : Blk wr s (poolV v V) 54
  ax : Blk wr (s + 1) #[.int .i64 x.what, .int .i64 x.who, .int .i64 x.n, .int .i64 x.at_, x.v] 38
  r : Blk wr (s + 1 + 1) (poolV (.slice none 0 0) zeros64) 54
  row : RowAt s wr v L.length (frV L)
  bx : RowAt s wr x.v x.bs.length (intVals .u8 x.bs)
  own : wr.ownsRow (s + 1 + 1 + 1) 5 1 u x.bs.length (intVals .u8 x.bs)
  c : Chg2 bf br w wr
  ws : w.heap.size = s
  sz : s + 3 ≤ wr.heap.size
  lt : b < s ∧ bf < s ∧ br < s
section
variable {w0 w wr w' : World} {b bf br s : Nat} {many : Int} {F F' : List Fr} {R R' : List (Int × Int)} {v u : Value} {V : List Int} {L : List Df} {x : ActV}
theorem AcI.step (h : AcI w0 w wr b bf br s many F R v V L x u) (k : Below wr.heap.size wr w') : AcI w0 w w' b bf br s many F R v V L x u := by
  have hz := h.sz
  exact ⟨h.live.step k, h.t.below k h.t.lt, h.ax.below k h.ax.lt, h.r.below k h.r.lt, h.row.below k (by omega), h.bx.below k (by omega), owns_below h.own k (by omega), h.c.trans (.of_below k), h.ws, Nat.le_trans hz k.size, h.lt⟩
theorem AcI.frames (h : AcI w0 w wr b bf br s many F R v V L x u) (hp : PoolAt w' b bf br many F' R) (k : Chg bf wr w') : AcI w0 w w' b bf br s many F' R v V L x u := by
  have hz := h.sz
  obtain ⟨l1, l2, l3⟩ := h.lt
  exact ⟨h.live.frames hp k, k.blk h.t (by omega), k.blk h.ax (by omega), k.blk h.r (by omega), h.row.chgm h.live.pool.fr k, h.bx.chgm h.live.pool.fr k, k.owns h.own (by omega), h.c.trans (k.l br), h.ws, Nat.le_trans hz k.size, h.lt⟩
theorem AcI.owners (h : AcI w0 w wr b bf br s many F R v V L x u) (hp : PoolAt w' b bf br many F R') (k : Chg br wr w') : AcI w0 w w' b bf br s many F R' v V L x u := by
  have hz := h.sz
  obtain ⟨l1, l2, l3⟩ := h.lt
  exact ⟨h.live.owners hp k, k.blk h.t (by omega), k.blk h.ax (by omega), k.blk h.r (by omega), h.row.chgm h.live.pool.re k, h.bx.chgm h.live.pool.re k, k.owns h.own (by omega), h.c.trans (k.r bf), h.ws, Nat.le_trans hz k.size, h.lt⟩
/-- The end: the document's pool lies in the result's box. -/
theorem AcI.fin (h : AcI w0 w wr b bf br s many F R v V L x u) (g : Good many F R) {B : Nat} {v2 : Value} {V2 : List Int} (hB : B ≤ wr.heap.size) (hr : RowAt B wr v2 (docL many.toNat F).length (frV (docL many.toNat F))) (hV2 : V2.length = 64) (hw : Hid (wr.setCells (s + 1 + 1) 0 (poolV v2 V2).toList = w')) :
    Blk w' (s + 1 + 1) (poolV v2 V2) 54 ∧ Pl w0 w' b bf br many F R v2 ∧ Chg2 bf br w w' := by
  have e := hw.out
  obtain ⟨l1, l2, l3⟩ := h.lt
  have h1 := h.r.whole (poolV v2 V2) ((poolV_size _ hV2).trans (poolV_size _ rfl).symm)
  have hb := bel_setCells (Below.refl s wr) (show s ≤ s + 1 + 1 by omega) (poolV v2 V2).toList 0
  have h2 := hr.setPool h.r (poolV v2 V2).toList 0
  have hc : Chg2 bf br w (wr.setCells (s + 1 + 1) 0 (poolV v2 V2).toList) :=
    ⟨hb.os.trans h.c.os, hb.tape.trans h.c.tape, hb.output.trans h.c.output, Nat.le_trans h.c.size hb.size, fun i hi n1 n2 => (hb.block i (by have := h.ws; omega)).trans (h.c.block i hi n1 n2)⟩
  rw [e] at h1 hb h2 hc
  have hlv : Live w0 w' b bf br many F R := ⟨h.live.pool.below hb l1 l2 l3, h.live.bel.trans (hb.mono (by have := h.ws; have := h.live.lf; omega)), h.live.lf, h.live.lr⟩
  exact ⟨h1, ⟨hlv, g, h2.mono (Nat.le_trans hB hb.size)⟩, hc⟩
end
end Go.Proofs.Ytfmkjckckekliaa
