/-
  The frame of a law's statement: from a walk that ends in 'true' and turns nothing that lay before the call, to the row. No condition.
-/
import Derived.Test.YtlpchcdalfkfcaaGreatRows
import Derived.Test.YtlpchcdalfkfcaaGreatBCore
import Derived.ProofKit
import Derived.OpenShut
import Derived.JoinedCond
import Derived.Lib.SmallJoins
import Derived.Test.YtlpchcdalfkfcaaGreatBCoreS
import Derived.Deep.Slices
import Derived.Test.YtlpchcdalfkfcaaGreatBFrT
namespace Go.Proofs.YtlpchcdalfkfcaaGreat
open Go.ChangeShapes Go.WideShapes Go.ChangeAt Go.RowKit

theorem trodAll_below {H : Type} {enc : TypeId × Value → H} {P : Program} (hl : laidOutB P = true) {W W' : World} (hb : Below W.heap.size W W') : ∀ {ts : List TypeId} {vs : List Value} {ds : List (DataW H)} {ps : List MemPlace},
    ts.all (fun t => P.readableRec t && decide (t < P.types.size)) = true → DataW.TrodAll enc P W 0 (fun _ => true) true ts vs ds ps → (∀ x ∈ ps, x.block < W.heap.size) →
    DataW.TrodAll enc P W' 0 (fun b => decide (b < W.heap.size)) true ts vs ds ps
  | [], [], [], _, _, h, _ => h
  | t :: ts, v :: vs, d :: ds, ps, ht, h, hlt => by
    obtain ⟨p, q, h1, h2, rfl⟩ := h
    simp only [List.all_cons, Bool.and_eq_true, decide_eq_true_eq] at ht
    exact ⟨p, q, Below.trod hl ht.1.1 ht.1.2 h1 hb (fun x hx => hlt x (List.mem_append_left _ hx)), trodAll_below hl hb (by simpa using ht.2) h2 (fun x hx => hlt x (List.mem_append_right _ hx)), rfl⟩
  | [], _ :: _, _, _, _, h, _ => h.elim
  | [], [], _ :: _, _, _, h, _ => h.elim
  | _ :: _, [], _, _, _, h, _ => h.elim
  | _ :: _, _ :: _, [], _, _, h, _ => h.elim

theorem law_post {H : Type} {enc : TypeId × Value → H} {P : Program} {f : Func} {s : ChangeSpec} {W W' : World} {args : Array Value} {ds : List (DataW H)} {before p : List MemPlace} {tb : TypeId}
    (hl : laidOutB P = true) (hps : f.params.toList.all (fun t => P.readableRec t && decide (t < P.types.size)) = true) (hres : f.resultTypes = #[tb]) (hb : P.underlying tb = some .bool)
    (hsr : (s.fn H ds).results = [.lit (.bool true)]) (hsa : (s.fn H ds).args = ds) (hsx : (s.fn H ds).vars = []) (hsv : s.vars = [])
    (hW : DataW.Whole enc P f.params.toList s.vars false W args.toList ds [] before) (hA : DataW.TrodAll enc P W 0 (fun _ => true) true f.params.toList args.toList ds p) (hp : ∀ x ∈ p, x.block < W.heap.size) (hbelow : Below W.heap.size W W') :
    s.post enc P f false true false false W args (.bool true) W' := by
  refine ⟨ds, [], before, [], p, [], hW, ?_, ?_, ?_, hbelow.frame _, fun h => by cases h⟩
  · rw [List.append_nil, hsr, hres]
    exact trodAll_cons_mk (shut_bool hb _) trodAll_mk0
  · rw [List.append_nil, hsa]
    exact trodAll_below hl hbelow hps hA hp
  · rw [List.append_nil, hsx, hsv]; rfl

theorem u64_bd {n : Int} (h : (Lit.int .u64 n).wf = true) : 0 ≤ n ∧ n < 18446744073709551616 := by
  have : 0 ≤ n ∧ n ≤ 18446744073709551615 := by simpa [Lit.wf, IntKind.min, IntKind.max, IntKind.signed, IntKind.bits] using h
  omega
theorem u32_bd {n : Int} (h : (Lit.int .u32 n).wf = true) : 0 ≤ n ∧ n < 4294967296 := by
  have : 0 ≤ n ∧ n ≤ 4294967295 := by simpa [Lit.wf, IntKind.min, IntKind.max, IntKind.signed, IntKind.bits] using h
  omega
theorem u8_bd {n : Int} (h : (Lit.int .u8 n).wf = true) : 0 ≤ n ∧ n < 256 := by
  have : 0 ≤ n ∧ n ≤ 255 := by simpa [Lit.wf, IntKind.min, IntKind.max, IntKind.signed, IntKind.bits] using h
  omega
theorem i64_bd {n : Int} (h : (Lit.int .i64 n).wf = true) : -9223372036854775808 ≤ n ∧ n ≤ 9223372036854775807 := by
  simpa [Lit.wf, IntKind.min, IntKind.max, IntKind.signed, IntKind.bits] using h
/-- A slice of integers that came in. -/
theorem open_rowT {H : Type} {enc : TypeId × Value → H} {P : Program} {W : World} {base' fuel : Nat} {spare : Nat → Bool} {held : Bool} {t e : TypeId} {k : IntKind} {v : Value} {x : DataW H × List MemPlace} (ht : P.underlying t = some (.slice e)) (he : P.underlying e = some (.int k)) (hc : P.cellsOf e = 1)
    (hf : DataW.trod enc P W base' spare held fuel t [v] = some x) :
    ∃ l : List Int, RowAt W.heap.size W v l.length (intVals k l) ∧ (∀ x ∈ l, (Lit.int k x).wf = true) ∧ l.length ≤ maxLen := by
  rcases open_ints ht he hc hf with ⟨hcs, hx⟩ | ⟨a, len, cap, zs, hcs, _, hl, hm, hz, hx, hcell, hwz⟩
  · simp only [List.cons.injEq, and_true] at hcs
    subst hcs
    exact ⟨[], RowAt.nil _ _, by simp, by simp⟩
  · simp only [List.cons.injEq, and_true] at hcs
    subst hcs
    have hlen : len ≤ zs.length := by rw [hz]; split <;> omega
    have htl : (zs.take len).length = len := by simp; omega
    refine ⟨zs.take len, ?_, fun x hx => hwz x (List.mem_of_mem_take hx), by omega⟩
    rw [htl]
    refine ⟨_, cap, rfl, ⟨hl, fun h => by cases h⟩, ?_⟩
    by_cases h0 : len = 0
    · left; subst h0; rfl
    · right
      have hc0 := hcell 0 (by omega)
      obtain ⟨b, off, spot⟩ := a
      have hsp : spot = none := by
        cases spot with
        | none => rfl
        | some s => simp [World.cell?, Addr.add] at hc0; split at hc0 <;> simp at hc0
      subst hsp
      obtain ⟨o, ho, _⟩ := cells_of_cell hc0
      have hb : b < W.heap.size := by simpa [Addr.add] using (Array.getElem?_eq_some_iff.1 ho).1
      refine ⟨b, off, rfl, hb, fun i hi => ?_⟩
      rw [intVals_len, htl] at hi
      have h1 := hcell i (by omega)
      rw [intVals_get _ _ _ (by omega), List.getElem_take]
      have h2 : zs.getD i 0 = zs[i]'(by omega) := by simp [List.getD, List.getElem?_eq_getElem (show i < zs.length by omega)]
      rw [h2] at h1
      by_cases e0 : i = 0
      · subst e0; simpa [Addr.add] using h1
      · simpa [Addr.add, e0] using h1
theorem open_row {H : Type} {enc : TypeId × Value → H} {P : Program} {W : World} {base base' : Nat} {spare : Nat → Bool} {held : Bool} {t e : TypeId} {k : IntKind} {v : Value} {d : DataW H} {p : List MemPlace} (ht : P.underlying t = some (.slice e)) (he : P.underlying e = some (.int k)) (hc : P.cellsOf e = 1)
    (hv : Value.okWide P W .any base t v) (h : DataW.Trod enc P W base' spare held t v d p) :
    ∃ l : List Int, RowAt W.heap.size W v l.length (intVals k l) ∧ (∀ x ∈ l, (Lit.int k x).wf = true) ∧ l.length ≤ maxLen := by
  obtain ⟨a0, len, cap, rfl⟩ := okWide_slice ht hv
  obtain ⟨fuel, hf⟩ := h
  exact open_rowT ht he hc hf
/-- An array of two, by value. -/
theorem open_array2 {H : Type} {enc : TypeId × Value → H} {P : Program} {W : World} {base base' : Nat} {spare : Nat → Bool} {held : Bool} {t e : TypeId} {v : Value} {d : DataW H} {p : List MemPlace} (ht : P.underlying t = some (.array 2 e)) (hct : P.cellsOf t = 2) (hce : P.cellsOf e = 1)
    (hv : Value.okWide P W .any base t v) (h : DataW.Trod enc P W base' spare held t v d p) :
    ∃ (v0 v1 : Value) (y0 y1 : DataW H × List MemPlace) (m : Nat), v = .agg #[v0, v1] ∧ DataW.trod enc P W base' spare held m e [v0] = some y0 ∧ DataW.trod enc P W base' spare held m e [v1] = some y1 := by
  simp only [Value.okWide, ht] at hv
  obtain ⟨cs, rfl, hsz, _⟩ := hv
  obtain ⟨c0, c1, rfl⟩ := Joins.array2 (hsz.trans hct)
  obtain ⟨fuel, hf⟩ := h
  obtain ⟨xs, m, _, _, _, hl, hxs⟩ := DataW.trod_array ht hf
  have h0 := hxs 0 (by omega)
  have h1 := hxs 1 (by omega)
  rw [hce] at h0 h1
  exact ⟨c0, c1, xs[0], xs[1], m, rfl, by simpa [Value.cells, hl] using h0, by simpa [Value.cells, hl] using h1⟩
end Go.Proofs.YtlpchcdalfkfcaaGreat

/-
  Package pinfoldlaw07: calls in memory; few. No condition.
-/
namespace Go.Proofs.YtlpchcdalfkfcaaGreat
open Go.ChangeShapes Go.WideShapes Go.ChangeAt Go.RowKit
attribute [local go_sem] Oper.semAt_some
set_option maxHeartbeats 4000000
set_option maxRecDepth 4000

theorem list_of {α : Type} {p : Nat → α → Prop} : ∀ (n : Nat), (∀ i, i < n → ∃ a, p i a) → ∃ l : List α, l.length = n ∧ ∀ i (h : i < l.length), p i l[i]
  | 0, _ => ⟨[], rfl, fun i h => absurd h (by simp)⟩
  | n + 1, h => by
    obtain ⟨l, hl, hp⟩ := list_of n fun i hi => h i (by omega)
    obtain ⟨a, ha⟩ := h n (by omega)
    refine ⟨l ++ [a], by simp [hl], fun i hi => ?_⟩
    by_cases e : i < l.length
    · rw [List.getElem_append_left e]; exact hp i e
    · obtain rfl : i = l.length := by simp at hi; omega
      rw [List.getElem_concat_length rfl, hl]; exact ha
/-- A call, as it lies in memory. -/
structure ActV where
  what : Int
  who : Int
  n : Int
  at_ : Int
  v : Value
  bs : List Int
structure ActAt (B : Nat) (W : World) (b off : Nat) (a : ActV) : Prop where
  c0 : W.cell? ⟨b, off, none⟩ = some (.int .i64 a.what)
  c1 : W.cell? ⟨b, off + 1, none⟩ = some (.int .i64 a.who)
  c2 : W.cell? ⟨b, off + 2, none⟩ = some (.int .i64 a.n)
  c3 : W.cell? ⟨b, off + 3, none⟩ = some (.int .i64 a.at_)
  c4 : W.cell? ⟨b, off + 4, none⟩ = some a.v
  row : RowAt B W a.v a.bs.length (intVals .u8 a.bs)
  lt : b < B
  bw : ∀ y ∈ a.bs, 0 ≤ y ∧ y < 256
theorem ActAt.below {B m : Nat} {W W' : World} {b off : Nat} {a : ActV} (h : ActAt B W b off a) (hb : Below m W W') (hm : B ≤ m) : ActAt B W' b off a := by
  have hl := h.lt
  exact ⟨(hb.cell (p := ⟨b, off, none⟩) (by dsimp only; omega)).trans h.c0, (hb.cell (p := ⟨b, off + 1, none⟩) (by dsimp only; omega)).trans h.c1, (hb.cell (p := ⟨b, off + 2, none⟩) (by dsimp only; omega)).trans h.c2, (hb.cell (p := ⟨b, off + 3, none⟩) (by dsimp only; omega)).trans h.c3, (hb.cell (p := ⟨b, off + 4, none⟩) (by dsimp only; omega)).trans h.c4, h.row.below hb hm, hl, h.bw⟩
def ActsAt (B : Nat) (W : World) (v : Value) (l : List ActV) : Prop :=
  ∃ a cap, v = .slice a l.length cap ∧ l.length ≤ cap ∧ cap ≤ maxLen ∧ (l = [] ∨ ∃ b off, a = some ⟨b, off, none⟩ ∧ ∀ i (h : i < l.length), ActAt B W b (off + i * 5) l[i])
theorem ActsAt.below {B m : Nat} {W W' : World} {v : Value} {l : List ActV} (h : ActsAt B W v l) (hb : Below m W W') (hm : B ≤ m) : ActsAt B W' v l := by
  obtain ⟨a, cap, h1, h2, h4, h3⟩ := h
  refine ⟨a, cap, h1, h2, h4, h3.imp id ?_⟩
  rintro ⟨b, off, e, hc⟩
  exact ⟨b, off, e, fun i hi => (hc i hi).below hb hm⟩
theorem spot_none' {W : World} {a : Addr} {v : Value} (hc : W.cell? (a.add 0) = some v) : a.spot = none ∧ a.block < W.heap.size := by
  obtain ⟨b, off, spot⟩ := a
  have hsp : spot = none := by
    cases spot with
    | none => rfl
    | some s => simp [World.cell?, Addr.add] at hc; split at hc <;> simp at hc
  subst hsp
  exact ⟨rfl, by simpa [Addr.add] using World.block_lt_of_cell? W _ hc⟩
def fewI (l : List ActV) (most : Int) : Bool := decide (∀ a ∈ l, (a.bs.length : Int) ≤ 300) && decide ((l.length : Int) ≤ most)
end Go.Proofs.YtlpchcdalfkfcaaGreat

/-
  Package pinfoldlaw07: FrameHolds' pool and map, call by call. Conditions: a pool whose books are in order.
-/
namespace Go.Proofs.YtlpchcdalfkfcaaGreat
open Go.RowKit
attribute [local go_sem] Oper.semAt_some
set_option maxHeartbeats 4000000
set_option maxRecDepth 4000

/-- Whose the frames are, as the statement notes it. -/
def encO (F : List Fr) : List (Int × Value) := F.map fun x => (x.1, .int .i64 x.2.1)
theorem hasA_encO (F : List Fr) (k : Int) : hasA (encO F) k = inF F k := by simp [hasA, encO, inF, Function.comp_def]
theorem getA_encO (F : List Fr) (k : Int) : getA (encO F) k = (F.find? fun x => x.1 == k).map fun x => .int .i64 x.2.1 := by
  unfold getA encO
  rw [List.find?_map]
  simp [Function.comp_def]
theorem delA_encO (F : List Fr) (k : Int) : delA (encO F) k = encO (delF F k) := by
  unfold delA encO delF
  rw [List.filter_map]
  rfl
theorem setA_encO (F : List Fr) (k o : Int) (bs : List Int) (h : inF F k = false) : setA (encO F) k (.int .i64 o) = encO (F ++ [(k, o, bs)]) := by
  unfold setA
  rw [hasA_encO, h]
  simp [encO]
theorem encO_put (F : List Fr) (fr at_ : Int) (xs : List Int) : encO (putF F fr at_ xs) = encO F := by
  unfold encO putF
  rw [List.map_map]
  refine List.map_congr_left fun x _ => ?_
  simp only [Function.comp_apply]
  split <;> rfl
theorem allL_find {F : List Fr} {x : Int × Int} (h : x ∈ allL F) : inF F x.1 = true ∧ getA (encO F) x.1 = some (.int .i64 x.2) := by
  obtain ⟨k, hk, rfl⟩ := List.mem_map.1 h
  have hk' : k ∈ (encF F).map (·.1) := (List.mergeSort_perm _ _).mem_iff.1 hk
  obtain ⟨p, hp, rfl⟩ := List.mem_map.1 hk'
  obtain ⟨y, hy, rfl⟩ := List.mem_map.1 hp
  refine ⟨List.any_eq_true.2 ⟨y, hy, by simp⟩, ?_⟩
  rw [getA_encO]
  dsimp only
  unfold ownF
  cases hq : F.find? fun x => x.1 == y.1 with
  | none => exact absurd (by simp) (List.find?_eq_none.1 hq y hy)
  | some z => rfl
theorem rowsV_get (l : List (Int × Int)) (k : Nat) (h : k < l.length) : (rowsV l)[k * 2]? = some (.int .i64 l[k].1) ∧ (rowsV l)[k * 2 + 1]? = some (.int .i64 l[k].2) := by
  induction l generalizing k with
  | nil => simp at h
  | cons a r ih =>
    have hr : rowsV (a :: r) = .int .i64 a.1 :: .int .i64 a.2 :: rowsV r := by simp [rowsV]
    rw [hr]
    cases k with
    | zero => simp
    | succ k =>
      have := ih k (by simpa using h)
      rw [show (k + 1) * 2 = k * 2 + 2 by omega]
      simpa using this
theorem read_new {F : List Fr} {t who : Int} (h0 : 0 ≤ t) (h1 : t < 10) (h2 : inF F t = false) : redErr 10 (F ++ [(t, who, zeros256)]) t 0 256 = 0 ∧ redL 10 (F ++ [(t, who, zeros256)]) t 0 256 = zeros256 := by
  have e1 : offI 10 t = false := by simp [offI]; omega
  have e2 : badI 0 256 = false := by decide
  have e3 : inF (F ++ [(t, who, zeros256)]) t = true := by simp [inF]
  have e4 : redErr 10 (F ++ [(t, who, zeros256)]) t 0 256 = 0 := by simp [redErr, thrErr, e1, e2, e3]
  refine ⟨e4, ?_⟩
  have hn : F.find? (fun x => x.1 == t) = none := by
    refine List.find?_eq_none.2 fun x hx e => ?_
    have : inF F t = true := List.any_eq_true.2 ⟨x, hx, e⟩
    rw [h2] at this; cases this
  unfold redL bytesF
  rw [if_pos e4, List.find?_append, hn]
  simp
  exact List.take_of_length_le (by simp [zeros256])
theorem wf_i64 {n : Int} (h0 : 0 ≤ n) (h1 : n ≤ 9223372036854775807) : (Lit.int .i64 n).wf = true := by
  show (decide (IntKind.i64.min ≤ n) && decide (n ≤ IntKind.i64.max)) = true
  rw [show IntKind.i64.min = -9223372036854775808 from rfl, show IntKind.i64.max = 9223372036854775807 from rfl, Bool.and_eq_true]
  exact ⟨decide_eq_true (by omega), decide_eq_true (by omega)⟩
theorem MapI.len {P : Program} {W : World} {b : Nat} {m : List (Int × Value)} {t kt et : TypeId} (h : MapI W b m) (ht : P.underlying t = some (.map kt et)) (ty : TypeId) : (Builtin.len_ #[t] ty #[.map (some b)]).run P W = .ok (.int .i64 m.length) W := by
  obtain ⟨es, clock, hb, hs, he⟩ := h
  have hsz : es.size = m.length := by simpa using congrArg List.length he
  simp [Builtin.len_, run_underlying ht, MapKept.run_getObj_map hb, goInt, hsz]
/-- What stands while the new frame is looked at. -/
structure NewS (cv : Value) (S : ByteArray) (Y : World) : Prop where
  cv : (convert 44 9 cv).run Tryz.prog Y = .ok (.string S) Y
/-- How things stand between two calls. -/
structure Stands (w W : World) (b bf br bw : Nat) (F : List Fr) (R : List (Int × Int)) : Prop where
  live : Live w W b bf br 10 F R
  good : Good 10 F R
  map : MapI W bw (encO F)
  lw : w.heap.size ≤ bw
  n0 : bw ≠ b
  n1 : bw ≠ bf
  n2 : bw ≠ br
theorem Stands.step {w W W' : World} {b bf br bw : Nat} {F : List Fr} {R : List (Int × Int)} (h : Stands w W b bf br bw F R) (k : Below W.heap.size W W') : Stands w W' b bf br bw F R :=
  ⟨h.live.step k, h.good, h.map.below k h.map.lt, h.lw, h.n0, h.n1, h.n2⟩
theorem Stands.frames {w W W' : World} {b bf br bw : Nat} {F F' : List Fr} {R : List (Int × Int)} (h : Stands w W b bf br bw F R) (g : Good 10 F' R) (hp : PoolAt W' b bf br 10 F' R) (k : Chg bf W W') (e : encO F' = encO F) : Stands w W' b bf br bw F' R :=
  ⟨h.live.frames hp k, g, by rw [e]; exact k.map h.map h.n1, h.lw, h.n0, h.n1, h.n2⟩
theorem Stands.reserve {w W : World} {b bf br bw : Nat} {F : List Fr} {R : List (Int × Int)} (h : Stands w W b bf br bw F R) (who n : Int) :
    Calls Tryz.prog 81 #[.pointer (some ⟨b, 0, none⟩), .int .i64 who, .int .i64 n] W fun e W' => ∃ er R', e = .returned (.int .i64 er) ∧ Stands w W' b bf br bw F R' := by
  refine (Reserve_ok h.live.pool h.good.snd who n).mono ?_
  rintro e W' ⟨rfl, hp, hc⟩
  exact ⟨_, _, rfl, h.live.owners hp hc, h.good.reserve who n, hc.map h.map h.n2, h.lw, h.n0, h.n1, h.n2⟩
theorem Stands.write {w W : World} {b bf br bw : Nat} {F : List Fr} {R : List (Int × Int)} (h : Stands w W b bf br bw F R) (fr at_ : Int) {v : Value} {n : Nat} (xs : List Int) (hv : RowAt W.heap.size W v n (intVals .u8 xs)) (hn : n = xs.length) :
    Calls Tryz.prog 101 #[.pointer (some ⟨b, 0, none⟩), .int .i64 fr, .int .i64 at_, v] W fun e W' => ∃ er F', e = .returned (.int .i64 er) ∧ Stands w W' b bf br bw F' R := by
  refine (Write_ok h.live.pool h.good.snd.b256 fr at_ xs hv hn).mono ?_
  rintro e W' ⟨rfl, hp, hc⟩
  refine ⟨_, _, rfl, h.frames (h.good.write fr at_ xs) hp hc ?_⟩
  unfold wrtAfter
  split
  · exact encO_put _ _ _ _
  · rfl
theorem map_turn {w W W' : World} {b bf br bw : Nat} {F F' : List Fr} {R : List (Int × Int)} (L : Live w W b bf br 10 F R) (k : Turn bw W W') (lw : w.heap.size ≤ bw) (n0 : bw ≠ b) (n1 : bw ≠ bf) (n2 : bw ≠ br) : Live w W' b bf br 10 F R :=
  ⟨⟨(k.block b (Ne.symm n0)).trans L.pool.blk, L.pool.fr.turn k (Ne.symm n1), L.pool.re.turn k (Ne.symm n2), L.pool.ne⟩, L.bel.trans (k.below lw), L.lf, L.lr⟩
end Go.Proofs.YtlpchcdalfkfcaaGreat
