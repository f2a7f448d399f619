/-
  Groundwork: of what was there, nothing turns but one block. No condition.
-/
import Derived.Test.YtlpchcdalfkfcaaGreatBMaps
import Derived.Test.YtlpchcdalfkfcaaGreatBFrB
namespace Go.Proofs.YtlpchcdalfkfcaaGreat
open Go.RowKit
variable {P : Program}

/-- Of what was there, nothing turns but block c. -/
structure Chg (c : Nat) (W W' : World) : Prop where
  os : W'.os = W.os
  tape : W'.tape = W.tape
  output : W'.output = W.output
  size : W.heap.size ≤ W'.heap.size
  block : ∀ k, k < W.heap.size → k ≠ c → W'.heap[k]? = W.heap[k]?
theorem Chg.refl (c : Nat) (W : World) : Chg c W W := ⟨rfl, rfl, rfl, Nat.le_refl _, fun _ _ _ => rfl⟩
theorem Chg.of_below {c : Nat} {W W' : World} (h : Below W.heap.size W W') : Chg c W W' := ⟨h.os, h.tape, h.output, h.size, fun k hk _ => h.block k hk⟩
theorem Chg.of_turn {c : Nat} {W W' : World} (h : Turn c W W') : Chg c W W' := ⟨h.os, h.tape, h.output, Nat.le_of_eq h.size.symm, fun k _ hk => h.block k hk⟩
theorem Chg.trans {c : Nat} {X Y Z : World} (h : Chg c X Y) (k : Chg c Y Z) : Chg c X Z := ⟨k.os.trans h.os, k.tape.trans h.tape, k.output.trans h.output, Nat.le_trans h.size k.size, fun i hi hc => (k.block i (Nat.lt_of_lt_of_le hi h.size) hc).trans (h.block i hi hc)⟩
theorem Chg.below {c B : Nat} {W W' : World} (h : Chg c W W') (hB : B ≤ c) (hz : B ≤ W.heap.size) : Below B W W' := ⟨h.os, h.tape, h.output, h.size, fun k hk => h.block k (by omega) (by omega)⟩
theorem Chg.blk {c b : Nat} {W W' : World} {cs : Array Value} {t : TypeId} (h : Chg c W W') (hb : Blk W b cs t) (hne : b ≠ c) : Blk W' b cs t := (h.block b hb.lt hne).trans hb
theorem Chg.map {c b : Nat} {W W' : World} {m : List (Int × Value)} (h : Chg c W W') (hb : MapI W b m) (hne : b ≠ c) : MapI W' b m := hb.of_block (h.block b hb.lt hne)
theorem Chg.more {c n : Nat} {W X Y : World} (h : Chg c W X) (k : Below n X Y) (hn : W.heap.size ≤ n) : Chg c W Y := ⟨k.os.trans h.os, k.tape.trans h.tape, k.output.trans h.output, Nat.le_trans h.size k.size, fun i hi hc => (k.block i (by omega)).trans (h.block i hi hc)⟩
theorem Chg.set {c : Nat} {W X : World} (h : Chg c W X) (a : Addr) (v : Value) (hb : W.heap.size ≤ a.block) : Chg c W (X.setCell a v) := ⟨h.os, h.tape, h.output, by simpa using h.size, fun i hi hc => (Below.heap_setCell X a v i (by omega)).trans (h.block i hi hc)⟩
theorem Chg.setc {c : Nat} {W X : World} (h : Chg c W X) (a : Addr) (v : Value) (hb : a.block = c) : Chg c W (X.setCell a v) := ⟨h.os, h.tape, h.output, by simpa using h.size, fun i hi hc => (Below.heap_setCell X a v i (by omega)).trans (h.block i hi hc)⟩
theorem Chg.put {c D : Nat} {W X : World} (h : Chg c W X) (o : Obj) (hb : W.heap.size ≤ D) : Chg c W (X.putObj D o) := ⟨h.os, h.tape, h.output, by simpa using h.size, fun i hi hc => (World.putObj_heap_other (by omega)).trans (h.block i hi hc)⟩
theorem Chg.row {c B n : Nat} {W W' : World} {v : Value} {xs : List Value} (h : Chg c W W') (hr : RowAt B W v n xs) (hB : B ≤ c) (hz : B ≤ W.heap.size) : RowAt B W' v n xs := hr.below (h.below hB hz) (Nat.le_refl _)
theorem Chg.owns {c : Nat} {W W' : World} {base : Nat} {e : TypeId} {size : Nat} {v : Value} {n : Nat} {xs : List Value} (h : Chg c W W') (ho : W.ownsRow base e size v n xs) (hb : c < base) : W'.ownsRow base e size v n xs := by
  refine ⟨ho.1, ?_⟩
  rcases ho.2 with hn | ⟨g, cap, cur, rfl, hg1, hg, rest⟩
  · exact .inl hn
  · exact .inr ⟨g, cap, cur, rfl, hg1, (h.block g (Array.getElem?_eq_some_iff.1 hg).1 (by omega)).trans hg, rest⟩
theorem Chg.setCells {c : Nat} {W : World} : ∀ (vs : List Value) (o : Nat) {X : World}, Chg c W X → Chg c W (X.setCells c o vs)
  | [], _, _, h => h
  | v :: vs, o, _, h => Chg.setCells vs (o + 1) (h.setc ⟨c, o, none⟩ v rfl)
/-- A region that ends well, walked where a panic is nobody's end. -/
def onlyN (Q : Exit → Act → World → Prop) : Exit → Act → World → Prop
  | .normal, a, w => Q .normal a w
  | _, _, _ => False
@[go_sem] theorem onlyN_normal (Q : Exit → Act → World → Prop) (a : Act) (w : World) : onlyN Q .normal a w = Q .normal a w := rfl
theorem wp_onlyN {c : Code} {Q : Exit → Act → World → Prop} {a : Act} {w : World} (h : c.wp P (onlyN Q) a w) : c.wp P Q a w :=
  wp_mono h (fun e a w hq => by cases e <;> first | exact hq | exact hq.elim)
theorem MapI.keeps {B : Nat} {W W' : World} {b : Nat} {m : List (Int × Value)} (h : MapI W b m) (hk : Keeps B W W') : MapI W' b m := by
  obtain ⟨es, clock, h1, h2⟩ := h
  exact ⟨es, clock, hk.same _ _ h1 rfl, h2⟩
theorem Blk.turn {W W' : World} {b c : Nat} {cs : Array Value} {t : TypeId} (h : Blk W b cs t) (k : Turn c W W') (hne : b ≠ c) : Blk W' b cs t := (k.block b hne).trans h
theorem wp_append_rowO {o : Oper} {a : Act} {K : Act → World → Prop} {Q : Exit → Act → World → Prop} {w : World} (s x : Operand) (t : TypeId)
    (ho : o.op = .call { callee := .builtin .append, args := #[s, x], argTypes := #[t, t] }) (base : Nat) {e : TypeId} {z : Value} {size bytes : Nat} (ht : P.underlying t = some (.slice e)) (hE : ElemInfo P e z size bytes)
    {v : Value} (n : Nat) (xs : List Value) (hs : a.eval s = v) (hown : w.ownsRow base e size v n xs)
    (B : Nat) {ad : Addr} {cap : Nat} (m : Nat) (news : List Value) (hx : a.eval x = .slice (some ad) m cap) (hrow : RowAt B w (.slice (some ad) m cap) m news) (hl : news.length = m * size) (h1 : ∀ u ∈ news, u.oneCell' = true)
    (h63 : n + m ≤ maxLen) (hbytes : (n + m) * bytes ≤ 140737488355328) (hbase : base ≤ w.heap.size)
    (h : ∀ v' w', w'.ownsRow base e size v' (n + m) (xs ++ news) → w.grownBy w' v.ownBlock → K (a.put o.dst v') w') : o.wp P a w K Q := by
  obtain ⟨i, hi, hz, hsize, hby, hzs, hsz⟩ := hE
  refine wp_append_own w s x t ho base e i z size bytes ht hi hz hsize hby hzs hsz v n xs hs hown ad m cap news hx hl ?_ h1 h63 hbytes hbase (fun v' w' h2 h3 _ => h v' w' h2 h3)
  intro j u hu
  obtain ⟨a', cap', he, _, hc⟩ := hrow
  simp only [Value.slice.injEq] at he
  obtain ⟨he, _, _⟩ := he
  rcases hc with rfl | ⟨b, off, hab, hlt, hc⟩
  · simp at hu
  · rw [hab] at he
    cases he
    have hj : j < news.length := (List.getElem?_eq_some_iff.1 hu).1
    have := hc j hj
    rw [hu] at this
    show w.cell? (Addr.add ⟨b, off, none⟩ j) = some u
    by_cases e0 : j = 0
    · subst e0; simpa [Addr.add] using this
    · simpa [Addr.add, e0] using this
theorem RowAt.len {B n : Nat} {W : World} {v : Value} {xs : List Value} (h : RowAt B W v n xs) : ∃ a cap, v = .slice a n cap ∧ n ≤ cap := by
  obtain ⟨a, c, e, h, _⟩ := h
  exact ⟨a, c, e, h.1⟩
/-- Where a row lies behind an append: where it lay, or in the next block. -/
theorem append_where {w : World} (base : Nat) {t ty e : TypeId} {i : TypeInfo} {z : Value} {size bytes : Nat} (ht : P.underlying t = some (.slice e)) (hi : P.info? e = some i) (hz : i.zero = some z)
    (hsize : i.size = size) (hby : i.bytes = bytes) {v : Value} {n : Nat} {xs : List Value} (hown : w.ownsRow base e size v n xs)
    {a : Addr} {m c : Nat} {news : List Value} (hl : news.length = m * size) (hnews : ∀ j u, news[j]? = some u → w.cell? (a.add j) = some u) (h1 : ∀ u ∈ news, u.oneCell' = true) (h0 : 0 < m)
    (h63 : n + m ≤ maxLen) (hbytes : (n + m) * bytes ≤ 140737488355328) {v' : Value} {w' : World} (hr : (Builtin.append_ #[t, t] ty #[v, .slice (some a) m c]).run P w = .ok v' w') :
    v'.ownBlock = v.ownBlock ∨ v'.ownBlock = some w.heap.size := by
  subst hsize
  subst hby
  have hsmall : n + m ≤ 9223372036854775807 := by simp only [maxLen] at h63; omega
  rcases hown.2 with ⟨rfl, rfl⟩ | ⟨g, cap, cur, rfl, hbg, hg, hnc, hcm, hcs, htake⟩
  · have h2 := run_append_nil (P := P) w t ty e i z ht hi hz a m c news hl hnews h0 (by omega) (by have hb := hbytes; simp only [Nat.zero_add] at hb; omega)
    rw [hr] at h2
    cases h2
    exact .inr rfl
  · by_cases hroom : n + m ≤ cap
    · have hfit : n * i.size + news.length ≤ cur.size := by rw [hl, hcs, ← Nat.add_mul]; exact Nat.mul_le_mul_right _ hroom
      have h2 := run_append_room (P := P) w t ty e i ht hi g n cap cur hg a m c news hl hnews h1 hroom hfit
      rw [hr] at h2
      cases h2
      exact .inl rfl
    · have holds : ∀ j u, xs[j]? = some u → w.cell? ((⟨g, 0, none⟩ : Addr).add j) = some u := hown.cells (g := g) rfl
      have h2 := run_append_grow (P := P) w t ty e i z ht hi hz ⟨g, 0, none⟩ n cap xs hown.1 holds a m c news hl hnews (by omega) (by omega) (growslice_fits (by omega) hbytes)
      rw [hr] at h2
      cases h2
      exact .inr rfl
/-- append(s, x) of one element: as 'wpList_append_row', and where the row lies then. -/
theorem wpList_append_one {ops : Array Oper} {rest : List Oper} {o : Oper} {a : Act} {Q : Exit → Act → World → Prop} {w : World} (hgd : o.guard = none) (s x : Operand) (t : TypeId)
    (ho : o.op = .call { callee := .builtin .append, args := #[s, x], argTypes := #[t, t] }) (base : Nat) {e : TypeId} {z : Value} {size bytes : Nat} (ht : P.underlying t = some (.slice e)) (hE : ElemInfo P e z size bytes)
    {v : Value} (n : Nat) (xs : List Value) (hs : a.eval s = v) (hown : w.ownsRow base e size v n xs)
    (B : Nat) {ad : Addr} {cap : Nat} (news : List Value) (hx : a.eval x = .slice (some ad) 1 cap) (hrow : RowAt B w (.slice (some ad) 1 cap) 1 news) (hl : news.length = size) (h1 : ∀ u ∈ news, u.oneCell' = true)
    (h63 : n + 1 ≤ maxLen) (hbytes : (n + 1) * bytes ≤ 140737488355328) (hbase : base ≤ w.heap.size)
    (h : ∀ v' w', w'.ownsRow base e size v' (n + 1) (xs ++ news) → w.grownBy w' v.ownBlock → (v'.ownBlock = v.ownBlock ∨ v'.ownBlock = some w.heap.size) → wpList P ops Q rest (a.put o.dst v') w') : wpList P ops Q (o :: rest) a w := by
  obtain ⟨i, hi, hz, hsize, hby, hzs, hsz⟩ := hE
  have hnews : ∀ j u, news[j]? = some u → w.cell? (ad.add j) = some u := by
    intro j u hu
    obtain ⟨a', cap', he, _, hc⟩ := hrow
    simp only [Value.slice.injEq] at he
    obtain ⟨he, _, _⟩ := he
    rcases hc with rfl | ⟨b, off, hab, hlt, hc⟩
    · simp at hu
    · rw [hab] at he
      cases he
      have hj : j < news.length := (List.getElem?_eq_some_iff.1 hu).1
      have := hc j hj
      rw [hu] at this
      show w.cell? (Addr.add ⟨b, off, none⟩ j) = some u
      by_cases e0 : j = 0
      · subst e0; simpa [Addr.add] using this
      · simpa [Addr.add, e0] using this
  refine wpList_plain hgd fun _ hK => ?_
  obtain ⟨v', w', hr, h2, h3, h4⟩ := run_append_own (P := P) w base t o.type e i z size bytes ht hi hz hsize hby hzs hsz v n xs hown ad 1 cap news (by simpa using hl) hnews h1 h63 hbytes hbase
  have hw := append_where (P := P) base ht hi hz hsize hby hown (by simpa using hl) hnews h1 (by omega) h63 hbytes hr
  unfold Oper.wp execOp
  simp only [ho, resolve, invoke, builtin, Sem.run_bind, Sem.run_pure, Result.andThen_ok, List.map_toArray, List.map_cons, List.map_nil, hs, hx, hr]
  exact hK _ _ (h v' w' h2 h3 hw)
end Go.Proofs.YtlpchcdalfkfcaaGreat

/-
  Package frame: Reserve. Conditions: a pool whose books are in order.
-/
namespace Go.Proofs.YtlpchcdalfkfcaaGreat
open Go.RowKit
attribute [local go_sem] Oper.semAt_some
set_option maxHeartbeats 1000000
set_option maxRecDepth 4000

def resvI (R : List (Int × Int)) (who : Int) : Int := ((R.find? fun p => p.1 == who).map (·.2)).getD 0
theorem getA_encR (R : List (Int × Int)) (who : Int) : (getA (encRF R) who).getD (.int .i64 0) = .int .i64 (resvI R who) := by
  unfold getA encRF resvI
  induction R with
  | nil => rfl
  | cons x R ih =>
    by_cases e : x.1 = who
    · simp [List.find?_cons, e]
    · simpa [List.find?_cons, e] using ih
def setR (R : List (Int × Int)) (who n : Int) : List (Int × Int) := if R.any (fun p => p.1 == who) = true then R.map (fun p => if p.1 == who then (who, n) else p) else R ++ [(who, n)]
def delRF (R : List (Int × Int)) (who : Int) : List (Int × Int) := R.filter fun x => !(x.1 == who)
theorem setA_encR (R : List (Int × Int)) (who n : Int) : setA (encRF R) who (.int .i64 n) = encRF (setR R who n) := by
  have hh : hasA (encRF R) who = R.any (fun p => p.1 == who) := by simp [hasA, encRF, Function.comp_def]
  unfold setA setR
  rw [hh]
  split
  · simp only [encRF, List.map_map]
    refine List.map_congr_left fun x _ => ?_
    by_cases e : x.1 = who
    · simp [e]
    · simp [e]
  · simp [encRF]
theorem zero_int (w : World) : (zeroValue 3).run Tryz.prog w = .ok (.int .i64 0) w := by kernel_rfl
/-- What a question of Reserve looks at. -/
structure ResS (w0 : World) (pm pp pw b bf br : Nat) (n who many : Int) (F : List Fr) (R : List (Int × Int)) (Y : World) : Prop where
  bel : Below w0.heap.size w0 Y
  cm : Y.cell? ⟨pm, 0, none⟩ = some (.int .i64 n)
  cp : Y.cell? ⟨pp, 0, none⟩ = some (.pointer (some ⟨b, 0, none⟩))
  cw : Y.cell? ⟨pw, 0, none⟩ = some (.int .i64 who)
  c0 : Y.cell? ⟨b, 0, none⟩ = some (.map (some bf))
  c1 : Y.cell? ⟨b, 1, none⟩ = some (.map (some br))
  lk : (Instr.lookup 185 (.map (some br)) (.int .i64 who) false).run Tryz.prog Y = .ok (.int .i64 (resvI R who)) Y
theorem ResS.of {w0 Y : World} {pm pp pw b bf br : Nat} {n who many : Int} {F : List Fr} {R : List (Int × Int)} (hpo : PoolAt w0 b bf br many F R) (hm : w0.cell? ⟨pm, 0, none⟩ = some (.int .i64 n)) (hp : w0.cell? ⟨pp, 0, none⟩ = some (.pointer (some ⟨b, 0, none⟩)))
    (hw : w0.cell? ⟨pw, 0, none⟩ = some (.int .i64 who)) (h : Below w0.heap.size w0 Y) : ResS w0 pm pp pw b bf br n who many F R Y := by
  have hc := (hpo.step h).cells
  have hlk := ((hpo.step h).re.lookup (P := Tryz.prog) Tryz.underlying185 Tryz.underlying3 (zero_int Y) who).1
  rw [getA_encR] at hlk
  exact ⟨h, (h.cell (p := ⟨pm, 0, none⟩) (World.block_lt_of_cell? w0 _ hm)).trans hm, (h.cell (p := ⟨pp, 0, none⟩) (World.block_lt_of_cell? w0 _ hp)).trans hp, (h.cell (p := ⟨pw, 0, none⟩) (World.block_lt_of_cell? w0 _ hw)).trans hw, hc.1, hc.2.1, hlk⟩
theorem res1_calls (n : Int) (p : Nat) (w : World) (hp : w.cell? ⟨p, 0, none⟩ = some (.int .i64 n)) : Calls Tryz.prog 144 #[.pointer (some ⟨p, 0, none⟩)] w fun e w' => e = .returned (.bool (decide (n < 0))) ∧ Below w.heap.size w w' := by
  go_enter Tryz.func144, Tryz.ntmps144
  go_wp2_with fail
  go_ret
  exact ⟨rfl, Below.refl _ _⟩
theorem res2_calls {w : World} {pm pp pw b bf br : Nat} {n who many : Int} {F : List Fr} {R : List (Int × Int)} (hpo : PoolAt w b bf br many F R) (hs : Sound many F R) (hm : w.cell? ⟨pm, 0, none⟩ = some (.int .i64 n)) (hp : w.cell? ⟨pp, 0, none⟩ = some (.pointer (some ⟨b, 0, none⟩)))
    (hw : w.cell? ⟨pw, 0, none⟩ = some (.int .i64 who)) : Calls Tryz.prog 145 #[.pointer (some ⟨pm, 0, none⟩), .pointer (some ⟨pp, 0, none⟩), .pointer (some ⟨pw, 0, none⟩)] w fun e w' => e = .returned (.bool (decide (n < hasF F who))) ∧ Below w.heap.size w w' := by
  go_enter Tryz.func145, Tryz.ntmps145
  go_wp2_with fail
  refine wp_region_held_drew (S := ResS w pm pp pw b bf br n who many F R) (by kernel_rfl) (ResS.of hpo hm hp hw (Below.refl _ w).drew) (fun hHeld => ?_)
  refine wpAnyH_take (i := 0) (v := ?_) rfl (by kernel_rfl) (by kernel_rfl) (by kernel_rfl) (fun _ _ _ h => h) (Or.inl ⟨by rfl, ?_⟩) (by assumption) ?_
  rotate_left
  · (intro Y hSw; (try dsimp only at hSw); obtain ⟨hS0, hS1, hS2, hS3, hS4, hS5, hS6⟩ := hSw; go_simp; try with_reducible rfl)
  try simp only [Act.put, List.getElem_toArray, List.getElem_cons_zero, List.getElem_cons_succ, List.setIfInBounds_toArray, List.set_cons_zero, List.set_cons_succ]
  refine wpAnyH_take (i := 1) (v := ?_) rfl (by kernel_rfl) (by kernel_rfl) (by kernel_rfl) (fun _ _ _ h => h) (Or.inl ⟨by rfl, ?_⟩) (by assumption) ?_
  rotate_left
  · (intro Y hSw; (try dsimp only at hSw); obtain ⟨hS0, hS1, hS2, hS3, hS4, hS5, hS6⟩ := hSw; go_simp; try with_reducible rfl)
  try simp only [Act.put, List.getElem_toArray, List.getElem_cons_zero, List.getElem_cons_succ, List.setIfInBounds_toArray, List.set_cons_zero, List.set_cons_succ]
  refine wpAnyH_take (i := 2) (v := ?_) rfl (by kernel_rfl) (by kernel_rfl) (by kernel_rfl) (fun _ _ _ h => h) (Or.inl ⟨by rfl, ?_⟩) (by assumption) ?_
  rotate_left
  · (intro Y hSw; (try dsimp only at hSw); obtain ⟨hS0, hS1, hS2, hS3, hS4, hS5, hS6⟩ := hSw; go_simp; try with_reducible rfl)
  try simp only [Act.put, List.getElem_toArray, List.getElem_cons_zero, List.getElem_cons_succ, List.setIfInBounds_toArray, List.set_cons_zero, List.set_cons_succ]
  refine wpAnyH_ready (rs := [3]) (by kernel_rfl) (by simp) ?_
  refine AllReadyH.cons rfl (fun K hK => ?_) AllReadyH.nil
  go_simp
  refine (has_calls (hpo.step (Below.refl _ w).drew) hs who).mono ?_; rintro e w1 ⟨rfl, h1⟩
  have k1 := (Below.refl w.heap.size w).drew.trans (h1.mono (Nat.le_refl _))
  go_wp2_with fail
  refine hK.out _ _ (ResS.of hpo hm hp hw k1) (fun hHeld => ?_)
  clear hK K
  try simp only [Act.put, List.getElem_toArray, List.getElem_cons_zero, List.getElem_cons_succ, List.setIfInBounds_toArray, List.set_cons_zero, List.set_cons_succ]
  refine wpAnyH_take (i := 4) (v := ?_) rfl (by kernel_rfl) (by kernel_rfl) (by kernel_rfl) (fun _ _ _ h => h) (Or.inl ⟨by rfl, ?_⟩) (by assumption) ?_
  rotate_left
  · (intro Y hSw; (try dsimp only at hSw); obtain ⟨hS0, hS1, hS2, hS3, hS4, hS5, hS6⟩ := hSw; go_simp; try with_reducible rfl)
  try simp only [Act.put, List.getElem_toArray, List.getElem_cons_zero, List.getElem_cons_succ, List.setIfInBounds_toArray, List.set_cons_zero, List.set_cons_succ]
  refine wpAnyH_take (i := 5) (v := ?_) rfl (by kernel_rfl) (by kernel_rfl) (by kernel_rfl) (fun _ _ _ h => h) (Or.inl ⟨by rfl, ?_⟩) (by assumption) ?_
  rotate_left
  · (intro Y hSw; (try dsimp only at hSw); obtain ⟨hS0, hS1, hS2, hS3, hS4, hS5, hS6⟩ := hSw; go_simp; try with_reducible rfl)
  try simp only [Act.put, List.getElem_toArray, List.getElem_cons_zero, List.getElem_cons_succ, List.setIfInBounds_toArray, List.set_cons_zero, List.set_cons_succ]
  refine wpAnyH_done (by kernel_rfl) ?_ _
  go_wp2_with fail
  go_ret
  exact ⟨rfl, k1⟩
theorem res3_calls {w : World} {pm pp pw b bf br : Nat} {n who many : Int} {F : List Fr} {R : List (Int × Int)} (hpo : PoolAt w b bf br many F R) (hs : Sound many F R) (hrb : 0 ≤ resvI R who ∧ resvI R who ≤ sumR R) (hm : w.cell? ⟨pm, 0, none⟩ = some (.int .i64 n)) (hp : w.cell? ⟨pp, 0, none⟩ = some (.pointer (some ⟨b, 0, none⟩)))
    (hw : w.cell? ⟨pw, 0, none⟩ = some (.int .i64 who)) : Calls Tryz.prog 147 #[.pointer (some ⟨pm, 0, none⟩), .pointer (some ⟨pp, 0, none⟩), .pointer (some ⟨pw, 0, none⟩)] w fun e w' => e = .returned (.bool (decide (many - sumR R + resvI R who < n))) ∧ Below w.heap.size w w' := by
  have hrs : sumR R ≤ many := hs.rs
  have hm1 := hs.m1
  have hadd : IntKind.i64.wrap (many - sumR R + resvI R who) = many - sumR R + resvI R who := IntWalk.i64_in _ (by omega)
  go_enter Tryz.func147, Tryz.ntmps147
  go_wp2_with fail
  refine wp_region_held_drew (S := ResS w pm pp pw b bf br n who many F R) (by kernel_rfl) (ResS.of hpo hm hp hw (Below.refl _ w).drew) (fun hHeld => ?_)
  refine wpAnyH_take (i := 0) (v := ?_) rfl (by kernel_rfl) (by kernel_rfl) (by kernel_rfl) (fun _ _ _ h => h) (Or.inl ⟨by rfl, ?_⟩) (by assumption) ?_
  rotate_left
  · (intro Y hSw; (try dsimp only at hSw); obtain ⟨hS0, hS1, hS2, hS3, hS4, hS5, hS6⟩ := hSw; go_simp; try with_reducible rfl)
  try simp only [Act.put, List.getElem_toArray, List.getElem_cons_zero, List.getElem_cons_succ, List.setIfInBounds_toArray, List.set_cons_zero, List.set_cons_succ]
  refine wpAnyH_take (i := 1) (v := ?_) rfl (by kernel_rfl) (by kernel_rfl) (by kernel_rfl) (fun _ _ _ h => h) (Or.inl ⟨by rfl, ?_⟩) (by assumption) ?_
  rotate_left
  · (intro Y hSw; (try dsimp only at hSw); obtain ⟨hS0, hS1, hS2, hS3, hS4, hS5, hS6⟩ := hSw; go_simp; try with_reducible rfl)
  try simp only [Act.put, List.getElem_toArray, List.getElem_cons_zero, List.getElem_cons_succ, List.setIfInBounds_toArray, List.set_cons_zero, List.set_cons_succ]
  refine wpAnyH_take (i := 3) (v := ?_) rfl (by kernel_rfl) (by kernel_rfl) (by kernel_rfl) (fun _ _ _ h => h) (Or.inl ⟨by rfl, ?_⟩) (by assumption) ?_
  rotate_left
  · (intro Y hSw; (try dsimp only at hSw); obtain ⟨hS0, hS1, hS2, hS3, hS4, hS5, hS6⟩ := hSw; go_simp; try with_reducible rfl)
  try simp only [Act.put, List.getElem_toArray, List.getElem_cons_zero, List.getElem_cons_succ, List.setIfInBounds_toArray, List.set_cons_zero, List.set_cons_succ]
  refine wpAnyH_take (i := 4) (v := ?_) rfl (by kernel_rfl) (by kernel_rfl) (by kernel_rfl) (fun _ _ _ h => h) (Or.inl ⟨by rfl, ?_⟩) (by assumption) ?_
  rotate_left
  · (intro Y hSw; (try dsimp only at hSw); obtain ⟨hS0, hS1, hS2, hS3, hS4, hS5, hS6⟩ := hSw; go_simp; try with_reducible rfl)
  try simp only [Act.put, List.getElem_toArray, List.getElem_cons_zero, List.getElem_cons_succ, List.setIfInBounds_toArray, List.set_cons_zero, List.set_cons_succ]
  refine wpAnyH_take (i := 5) (v := ?_) rfl (by kernel_rfl) (by kernel_rfl) (by kernel_rfl) (fun _ _ _ h => h) (Or.inl ⟨by rfl, ?_⟩) (by assumption) ?_
  rotate_left
  · (intro Y hSw; (try dsimp only at hSw); obtain ⟨hS0, hS1, hS2, hS3, hS4, hS5, hS6⟩ := hSw; go_simp; try with_reducible rfl)
  try simp only [Act.put, List.getElem_toArray, List.getElem_cons_zero, List.getElem_cons_succ, List.setIfInBounds_toArray, List.set_cons_zero, List.set_cons_succ]
  refine wpAnyH_take (i := 6) (v := ?_) rfl (by kernel_rfl) (by kernel_rfl) (by kernel_rfl) (fun _ _ _ h => h) (Or.inl ⟨by rfl, ?_⟩) (by assumption) ?_
  rotate_left
  · (intro Y hSw; (try dsimp only at hSw); obtain ⟨hS0, hS1, hS2, hS3, hS4, hS5, hS6⟩ := hSw; go_simp; try with_reducible rfl)
  try simp only [Act.put, List.getElem_toArray, List.getElem_cons_zero, List.getElem_cons_succ, List.setIfInBounds_toArray, List.set_cons_zero, List.set_cons_succ]
  refine wpAnyH_take (i := 7) (v := ?_) rfl (by kernel_rfl) (by kernel_rfl) (by kernel_rfl) (fun _ _ _ h => h) (Or.inl ⟨by rfl, ?_⟩) (by assumption) ?_
  rotate_left
  · (intro Y hSw; (try dsimp only at hSw); obtain ⟨hS0, hS1, hS2, hS3, hS4, hS5, hS6⟩ := hSw; go_simp; try with_reducible rfl)
  try simp only [Act.put, List.getElem_toArray, List.getElem_cons_zero, List.getElem_cons_succ, List.setIfInBounds_toArray, List.set_cons_zero, List.set_cons_succ]
  refine wpAnyH_take (i := 8) (v := ?_) rfl (by kernel_rfl) (by kernel_rfl) (by kernel_rfl) (fun _ _ _ h => h) (Or.inl ⟨by rfl, ?_⟩) (by assumption) ?_
  rotate_left
  · (intro Y hSw; (try dsimp only at hSw); obtain ⟨hS0, hS1, hS2, hS3, hS4, hS5, hS6⟩ := hSw; go_simp; try with_reducible rfl)
  try simp only [Act.put, List.getElem_toArray, List.getElem_cons_zero, List.getElem_cons_succ, List.setIfInBounds_toArray, List.set_cons_zero, List.set_cons_succ]
  refine wpAnyH_take (i := 9) (v := ?_) rfl (by kernel_rfl) (by kernel_rfl) (by kernel_rfl) (fun _ _ _ h => h) (Or.inl ⟨by rfl, ?_⟩) (by assumption) ?_
  rotate_left
  · (intro Y hSw; (try dsimp only at hSw); obtain ⟨hS0, hS1, hS2, hS3, hS4, hS5, hS6⟩ := hSw; go_simp; try with_reducible rfl)
  try simp only [Act.put, List.getElem_toArray, List.getElem_cons_zero, List.getElem_cons_succ, List.setIfInBounds_toArray, List.set_cons_zero, List.set_cons_succ]
  refine wpAnyH_ready (rs := [2]) (by kernel_rfl) (by simp) ?_
  refine AllReadyH.cons rfl (fun K hK => ?_) AllReadyH.nil
  go_simp
  refine (Room_calls (hpo.step (Below.refl _ w).drew) hs).mono ?_; rintro e w1 ⟨rfl, h1⟩
  have k1 := (Below.refl w.heap.size w).drew.trans (h1.mono (Nat.le_refl _))
  go_wp2_with fail
  refine hK.out _ _ (ResS.of hpo hm hp hw k1) (fun hHeld => ?_)
  clear hK K
  try simp only [Act.put, List.getElem_toArray, List.getElem_cons_zero, List.getElem_cons_succ, List.setIfInBounds_toArray, List.set_cons_zero, List.set_cons_succ]
  refine wpAnyH_take (i := 10) (v := ?_) rfl (by kernel_rfl) (by kernel_rfl) (by kernel_rfl) (fun _ _ _ h => h) (Or.inl ⟨by rfl, ?_⟩) (by assumption) ?_
  rotate_left
  · (intro Y hSw; (try dsimp only at hSw); obtain ⟨hS0, hS1, hS2, hS3, hS4, hS5, hS6⟩ := hSw; go_simp; try with_reducible rfl)
  try simp only [Act.put, List.getElem_toArray, List.getElem_cons_zero, List.getElem_cons_succ, List.setIfInBounds_toArray, List.set_cons_zero, List.set_cons_succ]
  refine wpAnyH_take (i := 11) (v := ?_) rfl (by kernel_rfl) (by kernel_rfl) (by kernel_rfl) (fun _ _ _ h => h) (Or.inl ⟨by rfl, ?_⟩) (by assumption) ?_
  rotate_left
  · (intro Y hSw; (try dsimp only at hSw); obtain ⟨hS0, hS1, hS2, hS3, hS4, hS5, hS6⟩ := hSw; go_simp; try with_reducible rfl)
  try simp only [Act.put, List.getElem_toArray, List.getElem_cons_zero, List.getElem_cons_succ, List.setIfInBounds_toArray, List.set_cons_zero, List.set_cons_succ]
  refine wpAnyH_take (i := 12) (v := ?_) rfl (by kernel_rfl) (by kernel_rfl) (by kernel_rfl) (fun _ _ _ h => h) (Or.inl ⟨by rfl, ?_⟩) (by assumption) ?_
  rotate_left
  · (intro Y hSw; (try dsimp only at hSw); obtain ⟨hS0, hS1, hS2, hS3, hS4, hS5, hS6⟩ := hSw; go_simp; try with_reducible rfl)
  try simp only [Act.put, List.getElem_toArray, List.getElem_cons_zero, List.getElem_cons_succ, List.setIfInBounds_toArray, List.set_cons_zero, List.set_cons_succ]
  refine wpAnyH_done (by kernel_rfl) ?_ _
  go_wp2_with fail
  go_ret
  exact ⟨rfl, k1⟩
end Go.Proofs.YtlpchcdalfkfcaaGreat
