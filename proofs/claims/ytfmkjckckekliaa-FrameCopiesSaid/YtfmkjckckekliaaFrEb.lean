/-
  Package pinfoldlaw07: FrameCopies, what it leans on. Conditions: books in order.
-/
import Derived.Test.YtfmkjckckekliaaFrEa
import Derived.Deep.DeepCutAuto
namespace Go.Proofs.Ytfmkjckckekliaa
open Go.RowKit
attribute [local go_sem] Oper.semAt_some
set_option maxHeartbeats 2000000
set_option maxRecDepth 8000

/-- The cells of two calls by value. -/
structure TwA (b d : Nat) (x y : ActV) (many : Int) (Y : World) : Prop where
  c0 : Y.cell? ⟨b, 0, none⟩ = some (.int .i64 x.what)
  c1 : Y.cell? ⟨b, 1, none⟩ = some (.int .i64 x.who)
  c2 : Y.cell? ⟨b, 2, none⟩ = some (.int .i64 x.n)
  c3 : Y.cell? ⟨b, 3, none⟩ = some (.int .i64 x.at_)
  c4 : Y.cell? ⟨b, 4, none⟩ = some x.v
  c5 : Y.cell? ⟨b, 5, none⟩ = some (.int .i64 y.what)
  c6 : Y.cell? ⟨b, 6, none⟩ = some (.int .i64 y.who)
  c7 : Y.cell? ⟨b, 7, none⟩ = some (.int .i64 y.n)
  c8 : Y.cell? ⟨b, 8, none⟩ = some (.int .i64 y.at_)
  c9 : Y.cell? ⟨b, 9, none⟩ = some y.v
  m : Y.cell? ⟨d, 0, none⟩ = some (.int .i64 many)
def two10 (x y : ActV) : Array Value := #[.int .i64 x.what, .int .i64 x.who, .int .i64 x.n, .int .i64 x.at_, x.v, .int .i64 y.what, .int .i64 y.who, .int .i64 y.n, .int .i64 y.at_, y.v]
theorem TwA.of {W : World} {b d : Nat} {x y : ActV} {many : Int} (h : Blk W b (two10 x y) 63) (k : Blk W d #[.int .i64 many] 3) : TwA b d x y many W :=
  ⟨h.cell 0 rfl, h.cell 1 rfl, h.cell 2 rfl, h.cell 3 rfl, h.cell 4 rfl, h.cell 5 rfl, h.cell 6 rfl, h.cell 7 rfl, h.cell 8 rfl, h.cell 9 rfl, k.cell 0 rfl⟩
def badC (l : List ActV) (x y : ActV) (many : Int) : Bool := !(fewI (l ++ [x, y]) 32) || (decide (many < 1) || decide (9 < many))
def twoL (x y : ActV) : List Value := [.int .i64 x.what, .int .i64 x.who, .int .i64 x.n, .int .i64 x.at_, x.v, .int .i64 y.what, .int .i64 y.who, .int .i64 y.n, .int .i64 y.at_, y.v]
theorem actCs_two (l : List ActV) (x y : ActV) : actCs l ++ twoL x y = actCs (l ++ [x, y]) := by rw [actCs_append]; rfl
theorem rowOf2 {x y : ActV} {W : World} {g : Nat} (h : Blk W g (two10 x y) 38) : RowAt W.heap.size W (.slice (some ⟨g, 0, none⟩) 2 2) 2 (twoL x y) :=
  ⟨_, 2, rfl, ⟨Nat.le_refl _, fun h => by cases h⟩, .inr ⟨g, 0, rfl, h.lt, fun i hi => by
    have h' : i < 10 := by simpa [twoL] using hi
    rw [Nat.zero_add]
    have e : (two10 x y)[i]? = (twoL x y)[i]? := by simp [two10, twoL]
    rw [← e]
    exact (h.cell i (Array.getElem?_eq_getElem (by simpa [two10] using h'))).trans (by rw [Array.getElem?_eq_getElem (by simpa [two10] using h')])⟩⟩
theorem acts_owned {W : World} {base n : Nat} {v : Value} {l : List ActV} (h : W.ownsRow base 38 5 v n (actCs l)) (hn : n = l.length) (hr : ∀ x ∈ l, RowAt W.heap.size W x.v x.bs.length (intVals .u8 x.bs)) (hby : ∀ x ∈ l, ∀ y ∈ x.bs, 0 ≤ y ∧ y < 256) :
    ActsAt W.heap.size W v l := by
  have h1 := RowAt.of_owns h (Nat.le_refl _)
  obtain ⟨a, c, rfl, _⟩ := h1.len
  refine acts_of h1 hn ?_ hr hby
  rcases h.2 with ⟨e, _⟩ | ⟨g, cap, cur, e, _, _, _, hcm, _⟩
  · simp only [Value.slice.injEq] at e; rw [e.2.2]; simp
  · simp only [Value.slice.injEq] at e; rw [e.2.2]; exact hcm
theorem dAt_bytes {F : List Fr} {R : List (Int × Int)} (h : Inv F R) (k : Int) : bytesOk (dAt F k) := by
  intro y hy
  unfold dAt at hy
  split at hy
  · unfold bytesF at hy
    cases hf : F.find? fun x => x.1 == k with
    | none => rw [hf] at hy; simp [zeros256] at hy; omega
    | some x => rw [hf] at hy; exact h.1 x (List.mem_of_find?_eq_some hf) y hy
  · cases hy
theorem docL_bytes {n : Nat} {F : List Fr} {R : List (Int × Int)} (h : Inv F R) : ∀ x ∈ docL n F, bytesOk x := by
  intro x hx
  obtain ⟨i, _, rfl⟩ := List.mem_map.1 hx
  exact dAt_bytes h _
theorem Same_doc {w : World} {b bf br c cf cr : Nat} {many : Int} {F G : List Fr} {R S : List (Int × Int)} (h : PoolAt w b bf br many F R) (k : PoolAt w c cf cr many G S) (g : Good many F R) (g2 : Good many G S) (i : Inv F R) (i2 : Inv G S) :
    Calls Try.prog 23 #[.pointer (some ⟨b, 0, none⟩), .pointer (some ⟨c, 0, none⟩)] w fun e w' => e = .returned (.bool (decide (docL many.toNat F = docL many.toNat G ∧ docR R = docR S))) ∧ Below w.heap.size w w' := by
  refine (Same_ll h k g g2).mono ?_
  rintro e w' ⟨r, rfl, hr, kk⟩
  refine ⟨?_, kk⟩
  rw [samF_doc g g2, samR_doc g g2 i.2 i2.2] at hr
  congr 2
  rw [Bool.eq_iff_iff, decide_eq_true_iff]
  exact hr
theorem rSame_doc {w : World} {v u : Value} {n : Nat} {F G : List Fr} {R S : List (Int × Int)} (i : Inv F R) (i2 : Inv G S) (hn : n < 1000000) {B : Nat} (hB : B ≤ w.heap.size) (hv : RowAt B w v (docL n F).length (frV (docL n F))) (hu : RowAt B w u (docL n G).length (frV (docL n G))) :
    Calls Try.prog 26 #[.agg (poolV v (docR R)), .agg (poolV u (docR S))] w fun e w' => e = .returned (.bool (decide (docL n F = docL n G ∧ docR R = docR S))) ∧ Below w.heap.size w w' := by
  refine (rSame_ok v u (docL n F) (docL n G) _ _ rfl rfl B w hB (by rw [docL_len]; exact hn) (docR_len R) (docR_len S) (docL_bytes i) (docL_bytes i2) hv hu).mono ?_
  rintro e w' ⟨r, rfl, hr, kk⟩
  refine ⟨?_, kk⟩
  congr 2
  rw [Bool.eq_iff_iff, decide_eq_true_iff]
  exact hr
theorem MapI.chg2 {c d x : Nat} {W W' : World} {m : List (Int × Value)} (h : MapI W x m) (k : Chg2 c d W W') (h1 : x ≠ c) (h2 : x ≠ d) : MapI W' x m := h.of_block (k.block x h.lt h1 h2)
theorem PoolAt.chg2 {c d b bf br : Nat} {many : Int} {F : List Fr} {R : List (Int × Int)} {W W' : World} (h : PoolAt W b bf br many F R) (k : Chg2 c d W W') (h1 : b ≠ c ∧ b ≠ d) (h2 : bf ≠ c ∧ bf ≠ d) (h3 : br ≠ c ∧ br ≠ d) : PoolAt W' b bf br many F R :=
  ⟨k.blk h.blk h1.1 h1.2, h.fr.chg2 k h2.1 h2.2, h.re.chg2 k h3.1 h3.2, h.ne⟩
theorem RowAt.chg2 {B n c d : Nat} {W W' : World} {v : Value} {xs : List Value} {m m2 : List (Int × Value)} (h : RowAt B W v n xs) (hm : MapI W c m) (hm2 : MapI W d m2) (k : Chg2 c d W W') : RowAt B W' v n xs := by
  obtain ⟨a, cp, e, h1, h2⟩ := h
  refine ⟨a, cp, e, h1, ?_⟩
  by_cases hx : xs = []
  · exact .inl hx
  · rcases h2 with h2 | ⟨b, off, e2, hb, hc⟩
    · exact absurd h2 hx
    · refine .inr ⟨b, off, e2, hb, fun i hi => ?_⟩
      have h3 := hc i hi
      rw [List.getElem?_eq_getElem hi] at h3 ⊢
      have hl := World.block_lt_of_cell? W _ h3
      have hne : b ≠ c := by
        rintro rfl
        obtain ⟨es, cl, h4, _⟩ := hm
        simp [World.cell?, h4] at h3
      have hne2 : b ≠ d := by
        rintro rfl
        obtain ⟨es, cl, h4, _⟩ := hm2
        simp [World.cell?, h4] at h3
      exact (World.cell?_of_block (a := ⟨b, off + i, none⟩) (k.block b hl hne hne2)).trans h3
/-- What stands when both calls are done. -/
structure Cp (w W : World) (b1 f1 r1 b2 f2 r2 : Nat) (F1 F2 F : List Fr) (R1 R2 R : List (Int × Int)) (v1 v2 v : Value) (g o1 o2 s bc : Nat) : Prop where
  a : Pl w W b1 f1 r1 8 F1 R1 v1
  ia : Inv F1 R1
  b : Pl w W b2 f2 r2 8 F2 R2 v2
  ib : Inv F2 R2
  r : RowAt W.heap.size W v (docL (8 : Int).toNat F).length (frV (docL (8 : Int).toNat F))
  x : Blk W g (poolV v (docR R)) 54
  xa : Blk W o1 (poolV v1 (docR R1)) 54
  xb : Blk W o2 (poolV v2 (docR R2)) 54
  s : Blk W s #[.map (some bc)] 72
  m : MapI W bc (encF F)
theorem Cp.step {w W W' : World} {b1 f1 r1 b2 f2 r2 : Nat} {F1 F2 F : List Fr} {R1 R2 R : List (Int × Int)} {v1 v2 v : Value} {g o1 o2 s bc : Nat} (h : Cp w W b1 f1 r1 b2 f2 r2 F1 F2 F R1 R2 R v1 v2 v g o1 o2 s bc) (k : Below W.heap.size W W') : Cp w W' b1 f1 r1 b2 f2 r2 F1 F2 F R1 R2 R v1 v2 v g o1 o2 s bc :=
  ⟨h.a.step k, h.ia, h.b.step k, h.ib, (h.r.below k (Nat.le_refl _)).mono k.size, h.x.below k h.x.lt, h.xa.below k h.xa.lt, h.xb.below k h.xb.lt, h.s.below k h.s.lt, h.m.below k h.m.lt⟩
theorem rowsV_take : ∀ (D : List (Int × Int)) (k : Nat), (rowsV D).take (k * 2) = rowsV (D.take k)
  | D, 0 => by simp [rowsV]
  | [], k + 1 => by simp [rowsV]
  | x :: D, k + 1 => by
    have h1 : rowsV (x :: D) = .int .i64 x.1 :: .int .i64 x.2 :: rowsV D := rfl
    have h2 : rowsV (x :: D.take k) = .int .i64 x.1 :: .int .i64 x.2 :: rowsV (D.take k) := rfl
    rw [h1, List.take_succ_cons, h2, show (k + 1) * 2 = k * 2 + 1 + 1 by omega, List.take_succ_cons, List.take_succ_cons, rowsV_take D k]
structure PlyC (ba off : Nat) (x : ActV) (Y : World) : Prop where
  c0 : Y.cell? ⟨ba, off, none⟩ = some (.int .i64 x.what)
  c1 : Y.cell? ⟨ba, off + 1, none⟩ = some (.int .i64 x.who)
  c2 : Y.cell? ⟨ba, off + 2, none⟩ = some (.int .i64 x.n)
  c3 : Y.cell? ⟨ba, off + 3, none⟩ = some (.int .i64 x.at_)
  c4 : Y.cell? ⟨ba, off + 4, none⟩ = some x.v
theorem PlyC.mk' {B ba off : Nat} {x : ActV} {Y : World} (h : ActAt B Y ba off x) : PlyC ba off x Y := ⟨h.c0, h.c1, h.c2, h.c3, h.c4⟩
structure FiS (lb d : Nat) (v : Value) (many : Int) (Y : World) : Prop where
  a : Y.cell? ⟨lb, 0, none⟩ = some v
  b : Y.cell? ⟨d, 0, none⟩ = some (.int .i64 many)
structure CoS (o1 o2 : Nat) (R1 R2 : Array Value) (Y : World) : Prop where
  a : Blk Y o1 R1 54
  b : Blk Y o2 R2 54
end Go.Proofs.Ytfmkjckckekliaa
