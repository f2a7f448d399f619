/-
  The law's own 'parts', where the size is below 1; the parts together.
-/
import Derived.Test.YtalaaembfgapfaaWordL
namespace Go.Proofs.Ytalaaembfgapfaa
open Go.RowKit
attribute [local go_sem] Oper.semAt_some
set_option maxHeartbeats 1000000

theorem Parts_iter0 (s : Int) (hs : s < 1) (bb bs : Nat) :
    IterR Try.prog 38 #[.pointer (some ⟨bs, 0, none⟩), .pointer (some ⟨bb, 0, none⟩)] 0 none (fun _ (_ : Nat) _ _ _ => False) [] (fun W => W.cell? ⟨bs, 0, none⟩ = some (.int .i64 s)) := by
  intro L J Jx W hJ hJx hO hOx hA hY h0
  have c0 := hA _ _ h0
  have hJa := hJ _ _ _ h0 ((Keeps.refl _ W).alloc (Nat.le_refl _) (.cells #[.func (.yield L) #[] #[]] 68))
  have c1 := hA _ _ hJa
  clear hO hOx hA hY
  refine calls_of_wp_marks Try.func38 rfl ?_; simp only [Try.ntmps38, List.size_toArray, List.length_cons, List.length_nil, Nat.reduceAdd, Nat.reduceSub, Array.replicate_succ, Array.replicate_zero, List.push_toArray, List.append_toArray, List.nil_append, List.cons_append]
  go_wp2_with fail
  refine wp_scope_straight ?_
  go_wp2_with fail
  rw [Exit.noGoto_ret]
  exact postM_ret0 (results_none rfl _ _ _) ⟨⟨_, rfl⟩, .inl hJa⟩
theorem parts0_ok (ad : Option Addr) (n cap : Nat) (s : Int) (hs : s < 1) (many : Int) (w : World) :
    Calls Try.prog 23 #[.slice ad n cap, .int .i64 s, .int .i64 many] w fun e w' => e = .returned (.slice none 0 0) ∧ Below w.heap.size w w' := by
  have hfn := fun (fn : Fn) (x y : Array Value) (w : World) => run_eql_func_nil (P := Try.prog) Try.underlying61 fn x y w
  refine calls_of_wp_marks Try.func23 rfl ?_; simp only [Try.ntmps23, List.size_toArray, List.length_cons, List.length_nil, Nat.reduceAdd, Nat.reduceSub, Array.replicate_succ, Array.replicate_zero, List.push_toArray, List.append_toArray, List.nil_append, List.cons_append]
  go_wp2_with fail
  refine (Parts_calls _ _ _ _ _).mono ?_; rintro e w1 ⟨rfl, rfl⟩
  go_wp2_with fail
  refine (Parts_calls _ _ _ _ _).mono ?_; rintro e w2 ⟨rfl, rfl⟩
  go_wp2_with fail
  obtain ⟨W0, hW0⟩ : ∃ W0, W0 = (((((w.alloc (.cells #[.int .i64 many] 3)).alloc (.cells #[.slice none 0 0] 44)).alloc (.cells #[.slice ad n cap] 23)).alloc (.cells #[.int .i64 s] 3)).alloc (.cells #[.slice ad n cap] 23)).alloc (.cells #[.int .i64 s] 3) := ⟨_, rfl⟩
  rw [← hW0]
  have hs0 : W0.heap.size = w.heap.size + 6 := by rw [hW0]; simp
  have b1 : Blk W0 (w.heap.size + 1) #[.slice none 0 0] 44 := by rw [hW0]; exact ((((Blk.newAt _ _ _ (by simp)).alloc _).alloc _).alloc _).alloc _
  have b5 : Blk W0 (w.heap.size + 1 + 1 + 1 + 1 + 1) #[.int .i64 s] 3 := by rw [hW0]; exact Blk.newAt _ _ _ (by simp)
  have hw0 : Below w.heap.size w W0 := by rw [hW0]; exact ((((((Below.refl _ w).alloc (Nat.le_refl _) _).alloc (by simp) _).alloc (by simp; omega) _).alloc (by simp; omega) _).alloc (by simp; omega) _).alloc (by simp; omega) _
  clear hW0 hfn
  refine wp_rangeR2 rfl (enters_of Try.func38 (by kernel_rfl) rfl) (Parts_iter0 s hs (w.heap.size + 1 + 1 + 1 + 1) (w.heap.size + 1 + 1 + 1 + 1 + 1)) (fun _ _ _ _ _ h => h.elim)
    (fun _ X => Blk X (w.heap.size + 1) #[.slice none 0 0] 44 ∧ Blk X (w.heap.size + 1 + 1 + 1 + 1 + 1) #[.int .i64 s] 3 ∧ Below w.heap.size w X)
    (fun _ _ => False) (fun _ _ => { tmps := #[], defers := [] }) ?hassign ?hI ?hIx ?hE ?hO ?hOx ?hA ?h0 ?hbody ?hdone ?hstop
  case hassign => exact fun _ _ _ _ _ _ _ _ h => h.elim
  case hI => rintro pre X Y ⟨h1, h2, h3⟩ hk; exact ⟨h1.keeps hk, h2.keeps hk, h3.keeps hk (by omega)⟩
  case hIx => exact stab_false _
  case hE => exact fun _ _ _ _ _ _ h _ => h
  case hO => rintro o ho; cases ho
  case hOx => rintro o ho; cases ho
  case hA => exact fun _ _ h => h.2.1.cell 0 rfl
  case h0 => exact ⟨b1, b5, hw0⟩
  case hbody => exact fun _ _ _ _ _ _ _ _ _ _ _ _ _ _ _ _ _ h => h.elim
  case hstop => exact fun _ _ _ _ h => h.elim
  case hdone =>
    rintro D X hD ⟨h1, h2, h3⟩ hK
    have c1 : X.cell? ⟨w.heap.size + 1, 0, none⟩ = some (.slice none 0 0) := h1.cell 0 rfl
    go_wp2_with fail
    exact postM_ret hK (results_tmp rfl _ _ _) ⟨rfl, below_putObj h3 (by omega) _ (Array.getElem?_eq_some_iff.1 hK).1⟩
/-- The parts together are the bytes. -/
theorem flat_take (l : List Int) (s : Nat) : ∀ k, ((List.range k).map (partI l s)).flatten = l.take (k * s) := by
  intro k
  induction k with
  | zero => simp
  | succ k ih =>
    rw [List.range_succ, List.map_append, List.flatten_append, ih]
    simp only [List.map_cons, List.map_nil, List.flatten_cons, List.flatten_nil, List.append_nil, partI]
    rw [Nat.succ_mul, List.take_add]
theorem parts_flat (l : List Int) (s : Nat) (hs : 1 ≤ s) : ((List.range (nch l.length s)).map (partI l s)).flatten = l := by
  rw [flat_take, List.take_of_length_le]
  exact nch_ge hs (by omega)
end Go.Proofs.Ytalaaembfgapfaa
