/-
  A map of rows with keys of the kind int, whatever order it holds them in. No condition.
-/
import Derived.Test.YtchknegenaoliaaSrt
namespace Go.Proofs.Ytchknegenaoliaa
open Go.RowKit Go.MapKept
variable {P : Program} {ρ : Type} {enc : ρ → Value}
/-- Block b is a map that holds just the rows D. -/
def MapP (enc : ρ → Value) (W : World) (b : Nat) (D : List (Int × ρ)) : Prop := ∃ l, l.Perm (encR enc D) ∧ MapI W b l
section
variable {W W' : World} {b : Nat} {D : List (Int × ρ)}
theorem MapP.lt (h : MapP enc W b D) : b < W.heap.size := by obtain ⟨l, _, h⟩ := h; exact h.lt
theorem MapP.of_block (h : MapP enc W b D) (hb : W'.heap[b]? = W.heap[b]?) : MapP enc W' b D := by obtain ⟨l, hp, h⟩ := h; exact ⟨l, hp, h.of_block hb⟩
theorem MapP.below {n : Nat} (h : MapP enc W b D) (hb : Below n W W') (hn : b < n) : MapP enc W' b D := h.of_block (hb.block b hn)
theorem MapP.step (h : MapP enc W b D) (hb : Below W.heap.size W W') : MapP enc W' b D := h.of_block (hb.block b h.lt)
theorem MapP.alloc (h : MapP enc W b D) (o : Obj) : MapP enc (W.alloc o) b D := h.of_block (Below.heap_alloc W o b h.lt)
theorem MapP.turn {c : Nat} (h : MapP enc W b D) (ht : Turn c W W') (hne : b ≠ c) : MapP enc W' b D := h.of_block (ht.block b hne)
theorem MapP.chg {c : Nat} (h : MapP enc W b D) (ht : Chg c W W') (hne : b ≠ c) : MapP enc W' b D := h.of_block (ht.block b h.lt hne)
theorem MapP.setCell (h : MapP enc W b D) (a : Addr) (v : Value) (hne : b ≠ a.block) : MapP enc (W.setCell a v) b D := h.of_block (Below.heap_setCell W a v b hne)
theorem MapP.drew (h : MapP enc W b D) : MapP enc W.drew b D := h
theorem MapP.keeps {B : Nat} (h : MapP enc W b D) (hk : Keeps B W W') : MapP enc W' b D := by obtain ⟨l, hp, h⟩ := h; exact ⟨l, hp, h.keeps hk⟩
theorem MapP.new (W : World) : MapP enc (W.alloc (.map #[] 0)) W.heap.size ([] : List (Int × ρ)) := ⟨[], List.Perm.refl _, MapI.new W⟩
theorem MapP.nodup (h : MapP enc W b D) : (D.map (·.1)).Nodup := by
  obtain ⟨l, hp, h⟩ := h
  exact (keys_perm hp).nodup_iff.1 h.nodup
theorem MapP.lookup {t kt et : TypeId} (h : MapP enc W b D) (ht : P.underlying t = some (.map kt et)) (hk : P.underlying kt = some (.int .i64)) {z : Value} (hz : (zeroValue et).run P W = .ok z W) (k : Int) :
    (Instr.lookup t (.map (some b)) (.int .i64 k) false).run P W = .ok (((getR D k).map enc).getD z) W ∧ (Instr.lookup t (.map (some b)) (.int .i64 k) true).run P W = .ok (.tuple #[((getR D k).map enc).getD z, .bool (hasR D k)]) W := by
  have hn := h.nodup
  obtain ⟨l, hp, h⟩ := h
  have := h.lookup (P := P) ht hk hz k
  rw [getA_perm hp hn, hasA_perm hp] at this
  exact this
theorem MapP.store {t kt et : TypeId} (h : MapP enc W b D) (ht : P.underlying t = some (.map kt et)) (hk : P.underlying kt = some (.int .i64)) (k : Int) (v : ρ) :
    ∃ W', (Instr.mapUpdate t (.map (some b)) (.int .i64 k) (enc v)).run P W = .ok () W' ∧ MapP enc W' b (putR D k v) ∧ Turn b W W' := by
  obtain ⟨l, hp, h⟩ := h
  obtain ⟨W', h1, h2, h3⟩ := h.store (P := P) ht hk k (enc v)
  exact ⟨W', h1, ⟨_, setA_perm hp k v, h2⟩, h3⟩
theorem MapP.drop {t kt et : TypeId} (h : MapP enc W b D) (ht : P.underlying t = some (.map kt et)) (hk : P.underlying kt = some (.int .i64)) (k : Int) (kt' ty : TypeId) :
    ∃ W', (Builtin.delete_ #[t, kt'] ty #[.map (some b), .int .i64 k]).run P W = .ok (.tuple #[]) W' ∧ MapP enc W' b (delR D k) ∧ Turn b W W' := by
  obtain ⟨l, hp, h⟩ := h
  obtain ⟨W', h1, h2, h3⟩ := h.drop (P := P) ht hk k kt' ty
  exact ⟨W', h1, ⟨_, delA_perm hp k, h2⟩, h3⟩
theorem MapP.len (h : MapP enc W b D) (t ty kt et : TypeId) (ht : P.underlying t = some (.map kt et)) : (Builtin.len_ #[t] ty #[.map (some b)]).run P W = .ok (.int .i64 D.length) W := by
  obtain ⟨l, hp, es, clock, hb, _, he⟩ := h
  have h1 : es.size = D.length := by
    have h2 : es.toList.length = l.length := by simpa using congrArg List.length he
    have h3 := hp.length_eq
    rw [encR_len] at h3
    simpa using h2.trans h3
  simp [Builtin.len_, run_underlying ht, MapKept.run_getObj_map hb, h1, goInt]
end
/-- Block r goes over block b's map: left is what has not come. -/
def RangeP (enc : ρ → Value) (W : World) (r b : Nat) (D left : List (Int × ρ)) : Prop := ∃ l ll, l.Perm (encR enc D) ∧ ll.Perm (encR enc left) ∧ RangeI W r b l ll
section
variable {W W' : World} {r b : Nat} {D left : List (Int × ρ)}
theorem RangeP.of_block (h : RangeP enc W r b D left) (hr : W'.heap[r]? = W.heap[r]?) (hb : W'.heap[b]? = W.heap[b]?) : RangeP enc W' r b D left := by
  obtain ⟨l, ll, h1, h2, h3⟩ := h; exact ⟨l, ll, h1, h2, h3.of_block hr hb⟩
theorem RangeP.lt (h : RangeP enc W r b D left) : r < W.heap.size ∧ b < W.heap.size := by obtain ⟨l, ll, h1, h2, h3⟩ := h; exact h3.lt
theorem RangeP.below {n : Nat} (h : RangeP enc W r b D left) (hb : Below n W W') (h1 : r < n) (h2 : b < n) : RangeP enc W' r b D left := h.of_block (hb.block r h1) (hb.block b h2)
theorem RangeP.step (h : RangeP enc W r b D left) (hb : Below W.heap.size W W') : RangeP enc W' r b D left := h.of_block (hb.block r h.lt.1) (hb.block b h.lt.2)
theorem MapP.range {t kt et : TypeId} (h : MapP enc W b D) (ht : P.underlying t = some (.map kt et)) :
    ∃ o, (Instr.range t (.map (some b))).run P W = .ok (.pointer (some ⟨W.heap.size, 0, none⟩)) (W.alloc o) ∧ RangeP enc (W.alloc o) W.heap.size b D D := by
  obtain ⟨l, hp, h⟩ := h
  obtain ⟨o, h1, h2⟩ := h.range (P := P) ht
  exact ⟨o, h1, l, l, hp, hp, h2⟩
theorem RangeP.count (h : RangeP enc W r b D left) : rangeN D.length r W = left.length := by
  obtain ⟨l, ll, h1, h2, h3⟩ := h
  have e1 := h1.length_eq
  have e2 := h2.length_eq
  rw [encR_len] at e1 e2
  rw [← e1, h3.count, e2]
theorem RangeP.next (h : RangeP enc W r b D left) (hne : r ≠ b) (ty : TypeId) :
    (left = [] ∧ (Instr.next (.pointer (some ⟨r, 0, none⟩)) false ty).run P W = .ok (.tuple #[.bool false]) W) ∨
    ∃ p ∈ left, ∃ W', (Instr.next (.pointer (some ⟨r, 0, none⟩)) false ty).run P W = .ok (.tuple #[.bool true, .int .i64 p.1, enc p.2]) W' ∧ RangeP enc W' r b D (delR left p.1) ∧ Turn r W W' ∧
      (Instr.entry (.pointer (some ⟨r, 0, none⟩))).run P W' = .ok (.tuple #[.int .i64 p.1, enc p.2]) W' := by
  obtain ⟨l, ll, h1, h2, h3⟩ := h
  rcases h3.next (P := P) hne ty with ⟨e, hr⟩ | ⟨q, hq, W', hr, hR, hT, he⟩
  · refine .inl ⟨?_, hr⟩
    have := h2.length_eq
    rw [e, encR_len] at this
    exact List.eq_nil_of_length_eq_zero this.symm
  · obtain ⟨p, hp, rfl⟩ := List.mem_map.1 (h2.mem_iff.1 hq)
    exact .inr ⟨p, hp, W', hr, ⟨l, _, h1, delA_perm h2 p.1, hR⟩, hT, he⟩
end
end Go.Proofs.Ytchknegenaoliaa
