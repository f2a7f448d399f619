/-
  Mix and Undo: what each returns. No condition but the bounds of the arguments' kinds.
-/
import Derived.Test.YtackenlfnecanaaMixB
namespace Go.Proofs.Ytackenlfnecanaa
open Go.RowKit
attribute [local go_sem] Oper.semAt_some
set_option maxHeartbeats 400000
set_option maxRecDepth 4000

def stepI (h : Int × Int) (k : Int) : Int × Int := (h.2, bits BinOp.xor IntKind.u32 h.1 (stirI h.2 k))
def mixedI (key n : Int) (l : List Int) : Int × Int := l.foldl stepI (n / 4294967296 % 4294967296, n % 4294967296)
theorem mixedI_snoc (key n : Int) (l : List Int) (k : Int) : mixedI key n (l ++ [k]) = stepI (mixedI key n l) k := by simp [mixedI]
theorem bits32_bd (op : BinOp) (a b : Int) : 0 ≤ bits op .u32 a b ∧ bits op .u32 a b < 4294967296 := ⟨bits_lo_u32 op a b, by have := bits_hi_u32 op a b; omega⟩
theorem mixed_bd (key n : Int) (l : List Int) : 0 ≤ (mixedI key n l).1 ∧ (mixedI key n l).1 < 4294967296 ∧ 0 ≤ (mixedI key n l).2 ∧ (mixedI key n l).2 < 4294967296 := by
  have gen : ∀ (l : List Int) (p : Int × Int), (0 ≤ p.1 ∧ p.1 < 4294967296 ∧ 0 ≤ p.2 ∧ p.2 < 4294967296) → 0 ≤ (l.foldl stepI p).1 ∧ (l.foldl stepI p).1 < 4294967296 ∧ 0 ≤ (l.foldl stepI p).2 ∧ (l.foldl stepI p).2 < 4294967296 := by
    intro l
    induction l with
    | nil => exact fun p h => h
    | cons k l ih => exact fun p h => ih (stepI p k) ⟨h.2.2.1, h.2.2.2, (bits32_bd BinOp.xor p.1 (stirI p.2 k)).1, (bits32_bd BinOp.xor p.1 (stirI p.2 k)).2⟩
  exact gen l _ ⟨by dsimp only; omega, by dsimp only; omega, by dsimp only; omega, by dsimp only; omega⟩
theorem Mix_calls (key n : Int) (w : World) : Calls Try.prog 36 #[.int .u64 key, .int .u64 n] w fun e w' =>
    e = .returned (.int .u64 (joinedI (mixedI key n (numsI key false)).1 (mixedI key n (numsI key false)).2)) ∧ Below w.heap.size w w' := by
  refine calls_of_wp_marks Try.func36 rfl ?_; simp only [Try.ntmps36, List.size_toArray, List.length_cons, List.length_nil, Nat.reduceAdd, Nat.reduceSub, Array.replicate_succ, Array.replicate_zero, List.push_toArray, List.append_toArray, List.nil_append, List.cons_append]
  go_wp2_with fail
  refine (split_calls _ _).mono ?_; rintro e w1 ⟨rfl, hb1⟩
  have hz1 := hb1.size
  go_wp2_with fail
  refine (numbers_calls _ _ _).mono ?_; rintro e w2 ⟨rfl, rfl⟩
  go_wp2_with fail
  refine wp_range1 rfl (enters_of Try.func58 (by kernel_rfl) rfl) (numbers_iter key false _ _) (fun _ => rfl)
    (fun pre W => Blk W w1.heap.size #[.int .u32 (mixedI key n pre).1, .int .u32 (mixedI key n pre).2] 83 ∧ Blk W (w1.heap.size + 1) #[.int .u64 key] 89 ∧ Blk W (w1.heap.size + 1 + 1) #[.bool false] 4 ∧ Below w.heap.size w W)
    (fun _ _ => False) ?a1 ?ha ?hI ?hIx ?hA ?h0 ?hbody ?hdone ?hstop
  case ha => intro m l x W K hK; gi_wp2; exact hK
  case hI => rintro pre X Y ⟨h1, h2, h3, h4⟩ hk; exact ⟨h1.keeps hk, h2.keeps hk, h3.keeps hk, h4.keeps hk (by simp; omega)⟩
  case hIx => exact stab_false _
  case hA => rintro pre W ⟨h1, h2, h3, h4⟩; exact ⟨h3.cell 0 rfl, h2.cell 0 rfl⟩
  case h0 =>
    refine ⟨((Blk.new w1 _ _).alloc _).alloc _, (Blk.newAt _ _ _ (by simp)).alloc _, Blk.newAt _ _ _ (by simp), ?_⟩
    exact ((hb1.alloc hz1 _).alloc (by simp; omega) _).alloc (by simp; omega) _
  case hbody =>
    rintro m l pre x suf W hxs hl hrec ⟨h1, h2, h3, h4⟩
    have c0 : W.cell? ⟨w1.heap.size, 0, none⟩ = some (.int .u32 _) := h1.cell 0 rfl
    have c1 : W.cell? ⟨w1.heap.size, 1, none⟩ = some (.int .u32 _) := h1.cell 1 rfl
    have f0 := h1.frozen 0
    have f1 := h1.frozen 1
    gi_wp2
    refine wpInR_still_tail 10 (by kernel_rfl) (by kernel_rfl) ?hq (by kernel_rfl) ?_
    case hq => exact fun _ _ h => h
    simp only [List.take_succ_cons, List.take_zero, List.drop_succ_cons, List.drop_zero]
    repeat still_step
    still_call ((stir_calls _ _ _).mono fun _ _ h => ⟨h.1, h.2.symm⟩)
    repeat still_step
    refine wpStill_nil ?_
    go_wp2
    refine ⟨(((KeepsRec.refl W).setCell _ _).setCell _ _).drew, ?_⟩
    dsimp only
    rw [mixedI_snoc]
    exact ⟨((h1.set 0 _).set 1 _).drew, ((h2.setOther _ _ (by simp)).setOther _ _ (by simp)).drew, ((h3.setOther _ _ (by simp; omega)).setOther _ _ (by simp; omega)).drew, ((h4.setCell (p := ⟨w1.heap.size, 0, none⟩) hz1 _).setCell (p := ⟨w1.heap.size, 1, none⟩) hz1 _).drew⟩
  case hdone =>
    rintro D W hD ⟨h1, h2, h3, h4⟩ hK
    have c0 : W.cell? ⟨w1.heap.size, 0, none⟩ = some (.int .u32 _) := h1.cell 0 rfl
    have c1 : W.cell? ⟨w1.heap.size, 1, none⟩ = some (.int .u32 _) := h1.cell 1 rfl
    go_wp2_with fail
    refine (joined_calls _ _ (mixed_bd _ _ _).1 (mixed_bd _ _ _).2.1 (mixed_bd _ _ _).2.2.1 (mixed_bd _ _ _).2.2.2 _).mono ?_; rintro e w2 ⟨rfl, hb2⟩
    have hz2 := hb2.size
    have hK2 := (hb2.block D (Array.getElem?_eq_some_iff.1 hK).1).trans hK
    go_wp2_with fail
    refine postM_ret hK2 (results_tmp rfl _ _ _) ⟨rfl, ?_⟩
    have := h4.size
    exact below_putObj (h4.trans (hb2.mono this)) (by simp at hD; omega) _ (Array.getElem?_eq_some_iff.1 hK2).1
  case hstop => exact fun _ _ _ _ h => h.elim
def backI (h : Int × Int) (k : Int) : Int × Int := (bits BinOp.xor IntKind.u32 h.2 (stirI h.1 k), h.1)
def undoneI (key n : Int) (l : List Int) : Int × Int := l.foldl backI (n / 4294967296 % 4294967296, n % 4294967296)
theorem undoneI_snoc (key n : Int) (l : List Int) (k : Int) : undoneI key n (l ++ [k]) = backI (undoneI key n l) k := by simp [undoneI]
theorem undone_bd (key n : Int) (l : List Int) : 0 ≤ (undoneI key n l).1 ∧ (undoneI key n l).1 < 4294967296 ∧ 0 ≤ (undoneI key n l).2 ∧ (undoneI key n l).2 < 4294967296 := by
  have gen : ∀ (l : List Int) (p : Int × Int), (0 ≤ p.1 ∧ p.1 < 4294967296 ∧ 0 ≤ p.2 ∧ p.2 < 4294967296) → 0 ≤ (l.foldl backI p).1 ∧ (l.foldl backI p).1 < 4294967296 ∧ 0 ≤ (l.foldl backI p).2 ∧ (l.foldl backI p).2 < 4294967296 := by
    intro l
    induction l with
    | nil => exact fun p h => h
    | cons k l ih => exact fun p h => ih (backI p k) ⟨(bits32_bd BinOp.xor p.2 (stirI p.1 k)).1, (bits32_bd BinOp.xor p.2 (stirI p.1 k)).2, h.1, h.2.1⟩
  exact gen l _ ⟨by dsimp only; omega, by dsimp only; omega, by dsimp only; omega, by dsimp only; omega⟩
theorem Undo_calls (key n : Int) (w : World) : Calls Try.prog 26 #[.int .u64 key, .int .u64 n] w fun e w' =>
    e = .returned (.int .u64 (joinedI (undoneI key n (numsI key true)).1 (undoneI key n (numsI key true)).2)) ∧ Below w.heap.size w w' := by
  refine calls_of_wp_marks Try.func26 rfl ?_; simp only [Try.ntmps26, List.size_toArray, List.length_cons, List.length_nil, Nat.reduceAdd, Nat.reduceSub, Array.replicate_succ, Array.replicate_zero, List.push_toArray, List.append_toArray, List.nil_append, List.cons_append]
  go_wp2_with fail
  refine (split_calls _ _).mono ?_; rintro e w1 ⟨rfl, hb1⟩
  have hz1 := hb1.size
  go_wp2_with fail
  refine (numbers_calls _ _ _).mono ?_; rintro e w2 ⟨rfl, rfl⟩
  go_wp2_with fail
  refine wp_range1 rfl (enters_of Try.func58 (by kernel_rfl) rfl) (numbers_iter key true _ _) (fun _ => rfl)
    (fun pre W => Blk W w1.heap.size #[.int .u32 (undoneI key n pre).1, .int .u32 (undoneI key n pre).2] 83 ∧ Blk W (w1.heap.size + 1) #[.int .u64 key] 89 ∧ Blk W (w1.heap.size + 1 + 1) #[.bool true] 4 ∧ Below w.heap.size w W)
    (fun _ _ => False) ?a1 ?ha ?hI ?hIx ?hA ?h0 ?hbody ?hdone ?hstop
  case ha => intro m l x W K hK; gi_wp2; exact hK
  case hI => rintro pre X Y ⟨h1, h2, h3, h4⟩ hk; exact ⟨h1.keeps hk, h2.keeps hk, h3.keeps hk, h4.keeps hk (by simp; omega)⟩
  case hIx => exact stab_false _
  case hA => rintro pre W ⟨h1, h2, h3, h4⟩; exact ⟨h3.cell 0 rfl, h2.cell 0 rfl⟩
  case h0 =>
    refine ⟨((Blk.new w1 _ _).alloc _).alloc _, (Blk.newAt _ _ _ (by simp)).alloc _, Blk.newAt _ _ _ (by simp), ?_⟩
    exact ((hb1.alloc hz1 _).alloc (by simp; omega) _).alloc (by simp; omega) _
  case hbody =>
    rintro m l pre x suf W hxs hl hrec ⟨h1, h2, h3, h4⟩
    have c0 : W.cell? ⟨w1.heap.size, 0, none⟩ = some (.int .u32 _) := h1.cell 0 rfl
    have c1 : W.cell? ⟨w1.heap.size, 1, none⟩ = some (.int .u32 _) := h1.cell 1 rfl
    have f0 := h1.frozen 0
    have f1 := h1.frozen 1
    gi_wp2
    refine wpInR_still_tail 10 (by kernel_rfl) (by kernel_rfl) ?hq (by kernel_rfl) ?_
    case hq => exact fun _ _ h => h
    simp only [List.take_succ_cons, List.take_zero, List.drop_succ_cons, List.drop_zero]
    repeat still_step
    still_call ((stir_calls _ _ _).mono fun _ _ h => ⟨h.1, h.2.symm⟩)
    repeat still_step
    refine wpStill_nil ?_
    go_wp2
    refine ⟨(((KeepsRec.refl W).setCell _ _).setCell _ _).drew, ?_⟩
    dsimp only
    rw [undoneI_snoc]
    exact ⟨((h1.set 0 _).set 1 _).drew, ((h2.setOther _ _ (by simp)).setOther _ _ (by simp)).drew, ((h3.setOther _ _ (by simp; omega)).setOther _ _ (by simp; omega)).drew, ((h4.setCell (p := ⟨w1.heap.size, 0, none⟩) hz1 _).setCell (p := ⟨w1.heap.size, 1, none⟩) hz1 _).drew⟩
  case hdone =>
    rintro D W hD ⟨h1, h2, h3, h4⟩ hK
    have c0 : W.cell? ⟨w1.heap.size, 0, none⟩ = some (.int .u32 _) := h1.cell 0 rfl
    have c1 : W.cell? ⟨w1.heap.size, 1, none⟩ = some (.int .u32 _) := h1.cell 1 rfl
    go_wp2_with fail
    refine (joined_calls _ _ (undone_bd _ _ _).1 (undone_bd _ _ _).2.1 (undone_bd _ _ _).2.2.1 (undone_bd _ _ _).2.2.2 _).mono ?_; rintro e w2 ⟨rfl, hb2⟩
    have hz2 := hb2.size
    have hK2 := (hb2.block D (Array.getElem?_eq_some_iff.1 hK).1).trans hK
    go_wp2_with fail
    refine postM_ret hK2 (results_tmp rfl _ _ _) ⟨rfl, ?_⟩
    have := h4.size
    exact below_putObj (h4.trans (hb2.mono this)) (by simp at hD; omega) _ (Array.getElem?_eq_some_iff.1 hK2).1
  case hstop => exact fun _ _ _ _ h => h.elim
end Go.Proofs.Ytackenlfnecanaa
