/-
  Package pinfoldlaw07: all of no pool, none. No condition.
-/
import Derived.Test.YtfmkjckckekliaaFrDr
namespace Go.Proofs.Ytfmkjckckekliaa
open Go.RowKit
attribute [local go_sem] Oper.semAt_some
set_option maxHeartbeats 4000000
set_option maxRecDepth 8000

theorem All_none {w : World} {p : Option Addr} (hN : NoP w p) :
    Calls Try.prog 25 #[.pointer p] w fun e w' => e = .returned (.func (.func 54) #[] #[]) ∧ Below w.heap.size w w' := by
  go_enter Try.func25, Try.ntmps25
  go_wp2_with fail
  refine (none_no hN).mono ?_; rintro e w1 ⟨rfl, h1⟩
  go_wp2_with fail
  go_ret
  exact ⟨rfl, h1⟩
theorem nil_iter : IterS Try.prog 54 #[] (fun x : Int × Int => #[.int .i64 x.1, .int .i64 x.2]) [] (fun _ => True) := by
  intro l J Jx W _ _ _ _ h0
  show Calls Try.prog 54 #[.func (.yield l) #[] #[]] W _
  go_enter Try.func54, Try.ntmps54
  go_wp2_with fail
  exact bodyPost_end (v := .tuple #[]) (by simp [results, Try.results54]) rfl ⟨⟨_, rfl⟩, .inl ⟨_, Nat.le_refl _, h0 _ (Nat.le_refl _)⟩⟩
theorem all_none {w : World} {p : Option Addr} (hN : NoP w p) (most : Int) :
    Calls Try.prog 18 #[.pointer p, .int .i64 most] w fun e w' => e = .returned (.slice none 0 0) ∧ Below w.heap.size w w' := by
  have hfn := fun (fn : Fn) (x y : Array Value) (w : World) => run_eql_func_nil (P := Try.prog) Try.underlying66 fn x y w
  refine calls_of_wp_marks Try.func18 rfl ?_; simp only [Try.ntmps18, List.size_toArray, List.length_cons, List.length_nil, Nat.reduceAdd, Nat.reduceSub, Array.replicate_succ, Array.replicate_zero, List.push_toArray, List.append_toArray, List.nil_append, List.cons_append]
  go_wp2_with fail
  obtain ⟨W0, hW0⟩ : ∃ W0, W0 = (w.alloc (.cells #[.int .i64 most] 3)).alloc (.cells #[.slice none 0 0] 46) := ⟨_, rfl⟩
  rw [← hW0]
  have b1 : Blk W0 (w.heap.size + 1) #[.slice none 0 0] 46 := by rw [hW0]; exact Blk.newAt _ _ _ (by simp)
  have k0 : Below w.heap.size w W0 := by rw [hW0]; exact ((Below.refl _ w).alloc (Nat.le_refl _) _).alloc (by simp) _
  have hN0 := hN.step k0
  clear hW0
  refine (All_none hN0).mono ?_; rintro e W1 ⟨rfl, j1⟩
  have k1 := k0.trans (j1.mono k0.size)
  replace b1 := b1.below j1 b1.lt
  have hN1 := hN0.step j1
  clear j1 hN0 k0
  go_wp2_with fail
  refine (All_none hN1).mono ?_; rintro e W2 ⟨rfl, j2⟩
  have k2 := k1.trans (j2.mono k1.size)
  replace b1 := b1.below j2 b1.lt
  clear j2 hN1 k1 hfn
  go_wp2_with fail
  refine wp_rangeS1 rfl (enters_of Try.func54 (by kernel_rfl) rfl) nil_iter (fun _ => rfl)
    (fun hi pre W => Blk W (w.heap.size + 1) #[.slice none 0 0] 46 ∧ Below w.heap.size w W ∧ W2.heap.size ≤ W.heap.size) (fun _ _ => False) ?a1 ?ha ?hI ?hIx ?hA ?h0 ?hbody ?hdone ?hstop
  case ha => intro m l x W K hK; gi_wp2; exact hK
  case hI => rintro hi pre X Y ⟨h1, h2, h3⟩ hk; exact ⟨h1.keeps hk, h2.keeps hk (by have := k2.size; omega), Nat.le_trans h3 hk.size⟩
  case hIx => rintro c X Y h hk; exact h
  case hA => intros; trivial
  case h0 => intro hi hh; exact ⟨b1, k2, Nat.le_refl _⟩
  case hbody => intro m l hi pre x suf W hxs; simp at hxs
  case hdone =>
    rintro D W hi hD ⟨h1, h2, h3⟩ hK
    have c1 : W.cell? ⟨w.heap.size + 1, 0, none⟩ = some (.slice none 0 0) := h1.cell 0 rfl
    go_wp2_with fail
    exact postM_ret hK (results_tmp rfl _ _ _) ⟨rfl, below_putObj h2 (by have := k2.size; omega) _ (Array.getElem?_eq_some_iff.1 hK).1⟩
  case hstop =>
    rintro D c W hD h hK
    exact h.elim
/-- What none has laid. -/
structure NoI (w wr : World) (p : Option Addr) : Prop where
  n : NoP wr p
  k : Below w.heap.size w wr
theorem NoI.step {w wr w' : World} {p : Option Addr} (h : NoI w wr p) (k : Below wr.heap.size wr w') : NoI w w' p := ⟨h.n.step k, h.k.trans (k.mono h.k.size)⟩
theorem none_ok (z : Bool) (w : World) : Calls Try.prog 20 #[.bool z] w fun e w' => e = .returned (.bool true) ∧ Below w.heap.size w w' := by
  cases z
  · have HN : NoI w w none := ⟨.inl rfl, Below.refl _ _⟩
    go_enter Try.func20, Try.ntmps20
    go_wp2_with fail
    refine (Take_none HN.n 1).mono ?_; rintro e w1 ⟨rfl, j1⟩
    replace HN := HN.step j1
    clear j1
    go_wp2_with fail
    refine (Read_none HN.n 0 0 0).mono ?_; rintro e w2 ⟨rfl, j1⟩
    replace HN := HN.step j1
    clear j1
    go_wp2_with fail
    refine (Owner_none HN.n 0).mono ?_; rintro e w3 ⟨rfl, j1⟩
    replace HN := HN.step j1
    clear j1
    go_wp2_with fail
    refine (Reserved_none HN.n 1).mono ?_; rintro e w4 ⟨rfl, j1⟩
    replace HN := HN.step j1
    clear j1
    go_wp2_with fail
    refine (num_calls _ _).mono ?_; rintro e _ ⟨rfl, rfl⟩
    go_wp2_with fail
    refine (num_calls _ _).mono ?_; rintro e _ ⟨rfl, rfl⟩
    go_wp2_with fail
    refine (Room_none HN.n).mono ?_; rintro e w5 ⟨rfl, j1⟩
    replace HN := HN.step j1
    clear j1
    go_wp2_with fail
    refine (Reserve_none HN.n 1 0).mono ?_; rintro e w6 ⟨rfl, j1⟩
    replace HN := HN.step j1
    clear j1
    go_wp2_with fail
    refine (num_calls _ _).mono ?_; rintro e _ ⟨rfl, rfl⟩
    go_wp2_with fail
    refine (Give_none HN.n 0).mono ?_; rintro e w7 ⟨rfl, j1⟩
    replace HN := HN.step j1
    clear j1
    go_wp2_with fail
    refine (num_calls _ _).mono ?_; rintro e _ ⟨rfl, rfl⟩
    go_wp2_with fail
    refine (Write_none HN.n 0 0).mono ?_; rintro e w8 ⟨rfl, j1⟩
    replace HN := HN.step j1
    clear j1
    go_wp2_with fail
    refine (num_calls _ _).mono ?_; rintro e _ ⟨rfl, rfl⟩
    go_wp2_with fail
    refine (all_none HN.n 9).mono ?_; rintro e w9 ⟨rfl, j1⟩
    replace HN := HN.step j1
    clear j1
    go_wp2_with fail
    refine (Copy_none HN.n).mono ?_; rintro e wa ⟨rfl, j1⟩
    replace HN := HN.step j1
    clear j1
    go_wp2_with fail
    refine (Same_nn HN.n (.inl rfl)).mono ?_; rintro e wb ⟨rfl, j1⟩
    replace HN := HN.step j1
    clear j1
    go_wp2_with fail
    go_ret
    exact ⟨rfl, HN.k⟩
  · obtain ⟨w0, hw0⟩ : ∃ w0, w.alloc (.cells #[.map none, .map none, .int .i64 0] 76) = w0 := ⟨_, rfl⟩
    have HN : NoI w w0 (some ⟨w.heap.size, 0, none⟩) := ⟨.inr ⟨_, rfl, by rw [← hw0]; exact Blk.new _ _ _⟩, by rw [← hw0]; exact (Below.refl _ w).alloc (Nat.le_refl _) _⟩
    go_enter Try.func20, Try.ntmps20
    go_wp2_with fail
    clear hw0
    refine (Take_none HN.n 1).mono ?_; rintro e w1 ⟨rfl, j1⟩
    replace HN := HN.step j1
    clear j1
    go_wp2_with fail
    refine (Read_none HN.n 0 0 0).mono ?_; rintro e w2 ⟨rfl, j1⟩
    replace HN := HN.step j1
    clear j1
    go_wp2_with fail
    refine (Owner_none HN.n 0).mono ?_; rintro e w3 ⟨rfl, j1⟩
    replace HN := HN.step j1
    clear j1
    go_wp2_with fail
    refine (Reserved_none HN.n 1).mono ?_; rintro e w4 ⟨rfl, j1⟩
    replace HN := HN.step j1
    clear j1
    go_wp2_with fail
    refine (num_calls _ _).mono ?_; rintro e _ ⟨rfl, rfl⟩
    go_wp2_with fail
    refine (num_calls _ _).mono ?_; rintro e _ ⟨rfl, rfl⟩
    go_wp2_with fail
    refine (Room_none HN.n).mono ?_; rintro e w5 ⟨rfl, j1⟩
    replace HN := HN.step j1
    clear j1
    go_wp2_with fail
    refine (Reserve_none HN.n 1 0).mono ?_; rintro e w6 ⟨rfl, j1⟩
    replace HN := HN.step j1
    clear j1
    go_wp2_with fail
    refine (num_calls _ _).mono ?_; rintro e _ ⟨rfl, rfl⟩
    go_wp2_with fail
    refine (Give_none HN.n 0).mono ?_; rintro e w7 ⟨rfl, j1⟩
    replace HN := HN.step j1
    clear j1
    go_wp2_with fail
    refine (num_calls _ _).mono ?_; rintro e _ ⟨rfl, rfl⟩
    go_wp2_with fail
    refine (Write_none HN.n 0 0).mono ?_; rintro e w8 ⟨rfl, j1⟩
    replace HN := HN.step j1
    clear j1
    go_wp2_with fail
    refine (num_calls _ _).mono ?_; rintro e _ ⟨rfl, rfl⟩
    go_wp2_with fail
    refine (all_none HN.n 9).mono ?_; rintro e w9 ⟨rfl, j1⟩
    replace HN := HN.step j1
    clear j1
    go_wp2_with fail
    refine (Copy_none HN.n).mono ?_; rintro e wa ⟨rfl, j1⟩
    replace HN := HN.step j1
    clear j1
    go_wp2_with fail
    refine (Same_nn HN.n (.inl rfl)).mono ?_; rintro e wb ⟨rfl, j1⟩
    replace HN := HN.step j1
    clear j1
    go_wp2_with fail
    go_ret
    exact ⟨rfl, HN.k⟩
end Go.Proofs.Ytfmkjckckekliaa
