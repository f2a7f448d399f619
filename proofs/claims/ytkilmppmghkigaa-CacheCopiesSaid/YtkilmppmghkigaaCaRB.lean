/-
  Groundwork: append of any row; values of 32 cells, loaded, stored, returned. No condition.
-/
import Derived.Test.YtkilmppmghkigaaCaRA
namespace Go.Proofs.Ytkilmppmghkigaa
open Go.RowKit
set_option maxHeartbeats 4000000
set_option maxRecDepth 8000

theorem wp_append_any {P : Program} {o : Oper} {a : Act} {K : Act → World → Prop} {Q : Exit → Act → World → Prop} {w : World} (s x : Operand) (t : TypeId)
    (ho : o.op = .call { callee := .builtin .append, args := #[s, x], argTypes := #[t, t] }) (base : Nat) {e : TypeId} {z : Value} {size bytes : Nat} (ht : P.underlying t = some (.slice e)) (hE : ElemInfo P e z size bytes)
    {v : Value} (n : Nat) (xs : List Value) (hs : a.eval s = v) (hown : w.ownsRow base e size v n xs)
    (B : Nat) {ad : Option Addr} {cap : Nat} (m : Nat) (news : List Value) (hx : a.eval x = .slice ad m cap) (hrow : RowAt B w (.slice ad m cap) m news) (hl : news.length = m * size) (h1 : ∀ u ∈ news, u.oneCell' = true)
    (h63 : n + m ≤ maxLen) (hbytes : (n + m) * bytes ≤ 140737488355328) (hbase : base ≤ w.heap.size)
    (h : ∀ v' w', w'.ownsRow base e size v' (n + m) (xs ++ news) → w.grownBy w' v.ownBlock → K (a.put o.dst v') w') : o.wp P a w K Q := by
  cases ad with
  | some ad => exact wp_append_rowO s x t ho base ht hE n xs hs hown B m news hx hrow hl h1 h63 hbytes hbase h
  | none =>
    obtain ⟨a', c', e', hc, _⟩ := hrow
    simp only [Value.slice.injEq] at e'
    obtain ⟨rfl, _, rfl⟩ := e'
    obtain ⟨rfl, rfl⟩ := hc.2 rfl
    obtain rfl : news = [] := List.eq_nil_of_length_eq_zero (by omega)
    obtain ⟨i, hi, hz, hsize, hby, hzs, hsz⟩ := hE
    have hrun := run_append_owned_none (P := P) (w := w) base t o.type e i size ht hi v n xs hown
    unfold Oper.wp
    simp [execOp, ho, resolve, invoke, builtin, hs, hx, hrun, Result.andThen]
    exact h v w (by simpa using hown) (World.grownBy.refl _ _)
theorem wpList_append_any {P : Program} {ops : Array Oper} {rest : List Oper} {o : Oper} {a : Act} {Q : Exit → Act → World → Prop} {w : World} (hgd : o.guard = none) (s x : Operand) (t : TypeId)
    (ho : o.op = .call { callee := .builtin .append, args := #[s, x], argTypes := #[t, t] }) (base : Nat) {e : TypeId} {z : Value} {size bytes : Nat} (ht : P.underlying t = some (.slice e)) (hE : ElemInfo P e z size bytes)
    {v : Value} (n : Nat) (xs : List Value) (hs : a.eval s = v) (hown : w.ownsRow base e size v n xs)
    (B : Nat) {ad : Option Addr} {cap : Nat} (m : Nat) (news : List Value) (hx : a.eval x = .slice ad m cap) (hrow : RowAt B w (.slice ad m cap) m news) (hl : news.length = m * size) (h1 : ∀ u ∈ news, u.oneCell' = true)
    (h63 : n + m ≤ maxLen) (hbytes : (n + m) * bytes ≤ 140737488355328) (hbase : base ≤ w.heap.size)
    (h : ∀ v' w', w'.ownsRow base e size v' (n + m) (xs ++ news) → w.grownBy w' v.ownBlock → wpList P ops Q rest (a.put o.dst v') w') : wpList P ops Q (o :: rest) a w :=
  wpList_plain hgd fun _ hK => wp_append_any s x t ho base ht hE n xs hs hown B m news hx hrow hl h1 h63 hbytes hbase (fun v' w' h1 h2 => hK _ _ (h v' w' h1 h2))
/-! ### Values of 32 cells -/
theorem Blk.setRow {W : World} {b : Nat} {cs : Array Value} {t : TypeId} (h : Blk W b cs t) (xs : Array Value) : Blk (W.setRow b xs) b xs t := setRow_heap W b cs xs t _ h
theorem Blk.setRowO {W : World} {b g : Nat} {cs : Array Value} {t : TypeId} (h : Blk W b cs t) (xs : Array Value) (hne : b ≠ g) : Blk (W.setRow g xs) b cs t := (setRow_other W g b xs hne).trans h
theorem bel_setRow {B g : Nat} {w0 w : World} (hb : Below B w0 w) (hBg : B ≤ g) (cs : Array Value) : Below B w0 (w.setRow g cs) := hb.trans ⟨rfl, rfl, rfl, by simp [World.setRow], fun k hk => setRow_other w g k cs (by omega)⟩
theorem Chg.setRow {c : Nat} {W X : World} (h : Chg c W X) (cs : Array Value) : Chg c W (X.setRow c cs) := ⟨h.os, h.tape, h.output, by rw [setRow_size]; exact h.size, fun i hi hc => (setRow_other X c i cs hc).trans (h.block i hi hc)⟩
theorem sh_info : (Try.prog.info? 44).map (·.size) = some 32 := by kernel_rfl
theorem wp_load32 {o : Oper} {a : Act} {w : World} {K : Act → World → Prop} {Q : Exit → Act → World → Prop} (x : Operand) (ho : o.op = .load 44 x)
    (g : Nat) (hx : a.eval x = .pointer (some ⟨g, 0, none⟩)) {cs : Array Value} (hB : Blk w g cs 44) (hs : cs.size = 32)
    (h : K (a.put o.dst (.agg cs)) w) : o.wp Try.prog a w K Q :=
  wp_load_row 44 x ho g hx _ cs (0, 0) _ hB Try.underlying44 rfl (by rw [hs]; exact sh_info) h
theorem wp_store32 {o : Oper} {a : Act} {w : World} {K : Act → World → Prop} {Q : Exit → Act → World → Prop} (x y : Operand) (ho : o.op = .store 44 x y)
    (g : Nat) (cs : Array Value) (hx : a.eval x = .pointer (some ⟨g, 0, none⟩)) (hy : a.eval y = .agg cs) {old : Array Value} {t : TypeId} (hB : Blk w g old t) (hold : old.size = 32) (hs : cs.size = 32) (h1 : cs.all (·.oneCell') = true)
    (h : K (a.put o.dst undef) (w.setRow g cs)) : o.wp Try.prog a w K Q :=
  wp_store_row 44 x y ho g cs hx hy t old hB (by rw [hs]; exact sh_info) (hold.trans hs.symm) h1 h
theorem wpList_load32 {ops : Array Oper} {rest : List Oper} {o : Oper} {a : Act} {w : World} {Q : Exit → Act → World → Prop} (hgd : o.guard = none) (x : Operand) (ho : o.op = .load 44 x)
    (g : Nat) (hx : a.eval x = .pointer (some ⟨g, 0, none⟩)) {cs : Array Value} (hB : Blk w g cs 44) (hs : cs.size = 32)
    (h : wpList Try.prog ops Q rest (a.put o.dst (.agg cs)) w) : wpList Try.prog ops Q (o :: rest) a w :=
  wpList_plain hgd fun _ hK => wp_load32 x ho g hx hB hs (hK _ _ h)
theorem wpList_store32 {ops : Array Oper} {rest : List Oper} {o : Oper} {a : Act} {w : World} {Q : Exit → Act → World → Prop} (hgd : o.guard = none) (x y : Operand) (ho : o.op = .store 44 x y)
    (g : Nat) (cs : Array Value) (hx : a.eval x = .pointer (some ⟨g, 0, none⟩)) (hy : a.eval y = .agg cs) {old : Array Value} {t : TypeId} (hB : Blk w g old t) (hold : old.size = 32) (hs : cs.size = 32) (h1 : cs.all (·.oneCell') = true)
    (h : wpList Try.prog ops Q rest (a.put o.dst undef) (w.setRow g cs)) : wpList Try.prog ops Q (o :: rest) a w :=
  wpList_plain hgd fun _ hK => wp_store32 x y ho g cs hx hy hB hold hs h1 (hK _ _ h)
theorem run_load32 {w : World} {g : Nat} {cs : Array Value} {t : TypeId} (hB : Blk w g cs t) (hs : cs.size = 32) : (loadVar 44 ⟨g, 0, none⟩).run Try.prog w = .ok (.agg cs) w :=
  run_loadVar_row w g t _ cs (0, 0) _ hB Try.underlying44 rfl (by rw [hs]; exact sh_info)
theorem ret_c2 {fn : Func} {R : Ending → World → Prop} {a : Act} {w : World} {p u : Tmp} (h : fn.results = #[.cell p 44, .tmp u]) (g : Nat) {cs : Array Value} {t : TypeId} (hp : a.tmps.getD p undef = .pointer (some ⟨g, 0, none⟩))
    (hB : Blk w g cs t) (hs : cs.size = 32) (hd : a.defers = []) (hR : R (.returned (.tuple #[.agg cs, a.tmps.getD u undef])) w) : bodyPost Try.prog fn R .ret a w := by
  refine bodyPost_ret (v := .tuple #[.agg cs, a.tmps.getD u undef]) ?_ hd hR
  have hp' : a.tmps[p]?.getD undef = .pointer (some ⟨g, 0, none⟩) := by simpa using hp
  simp [results, h, hp', asAddr, run_load32 hB hs]
theorem ret_c3 {fn : Func} {R : Ending → World → Prop} {a : Act} {w : World} {p u v : Tmp} (h : fn.results = #[.cell p 44, .tmp u, .tmp v]) (g : Nat) {cs : Array Value} {t : TypeId} (hp : a.tmps.getD p undef = .pointer (some ⟨g, 0, none⟩))
    (hB : Blk w g cs t) (hs : cs.size = 32) (hd : a.defers = []) (hR : R (.returned (.tuple #[.agg cs, a.tmps.getD u undef, a.tmps.getD v undef])) w) : bodyPost Try.prog fn R .ret a w := by
  refine bodyPost_ret (v := .tuple #[.agg cs, a.tmps.getD u undef, a.tmps.getD v undef]) ?_ hd hR
  have hp' : a.tmps[p]?.getD undef = .pointer (some ⟨g, 0, none⟩) := by simpa using hp
  simp [results, h, hp', asAddr, run_load32 hB hs]
end Go.Proofs.Ytkilmppmghkigaa
