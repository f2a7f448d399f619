/-
  Package pinfoldlaw07: rows, same; the rows of the document are those of all. Conditions: few frames.
-/
import Derived.Test.YtfmkjckckekliaaFrDh
namespace Go.Proofs.Ytfmkjckckekliaa
open Go.RowKit
attribute [local go_sem] Oper.semAt_some
set_option maxHeartbeats 1000000
set_option maxRecDepth 8000

def rowsK (L : List Df) : Nat → List (Int × Int)
  | 0 => []
  | k + 1 => rowsK L k ++ (if 0 ≤ (L.getD k (0, [])).1 then [((k : Int), (L.getD k (0, [])).1)] else [])
theorem rowsK_len (L : List Df) : ∀ k, (rowsK L k).length ≤ k
  | 0 => Nat.le_refl _
  | k + 1 => by
    have := rowsK_len L k
    rw [rowsK, List.length_append]
    split <;> simp <;> omega
theorem rows_ok (v : Value) (V : List Int) (L : List Df) (B : Nat) (w : World) (hB : B ≤ w.heap.size) (hl : L.length < 1000000) (hv : RowAt B w v L.length (frV L)) :
    Calls Try.prog 27 #[.agg (poolV v V)] w fun e w' => ∃ v', e = .returned v' ∧ w'.ownsRow w.heap.size 49 2 v' (rowsK L L.length).length (rowsV (rowsK L L.length)) ∧ Below w.heap.size w w' := by
  obtain ⟨a1, c1, rfl, _⟩ := hv.len
  obtain ⟨w0, hw0⟩ : ∃ w0, w.alloc (.cells (poolV (.slice a1 L.length c1) V) 54) = w0 := ⟨_, rfl⟩
  have hX : Blk w0 w.heap.size (poolV (.slice a1 L.length c1) V) 54 := by rw [← hw0]; exact Blk.new w _ _
  have k0 : Below w.heap.size w w0 := by rw [← hw0]; exact (Below.refl _ w).alloc (Nat.le_refl _) _
  have z0 : w0.heap.size = w.heap.size + 1 := by rw [← hw0]; simp
  have H1 := Lib.hid (hv.below k0 hB)
  have hown0 : w0.ownsRow (w.heap.size + 1) 49 2 (.slice none 0 0) 0 [] := ⟨rfl, .inl ⟨rfl, rfl⟩⟩
  clear hv
  go_enter Try.func27, Try.ntmps27
  go_wp2_with fail
  clear hw0
  obtain ⟨s, hs⟩ : ∃ s, w.heap.size = s := ⟨_, rfl⟩
  rw [hs] at z0 hX k0 hB hown0 ⊢
  go_loopw [3, 4] (fun v i wr => ∃ k : Nat, k ≤ L.length ∧ i = .int .i64 k ∧ wr.ownsRow (s + 1) 49 2 v (rowsK L k).length (rowsV (rowsK L k)) ∧ Below (s + 1) w0 wr) (fun _ i _ => L.length - (intOf i).toNat)
  case atStart => exact ⟨0, by omega, rfl, hown0, Below.refl _ _⟩
  case round =>
    obtain ⟨k, hk, rfl, hown, hb⟩ := hrel
    clear hown0
    have cb : wr.cell? ⟨s, 0, none⟩ = some (.slice a1 L.length c1) := (hX.below hb (by omega)).cell 0 (poolV_zero _ _)
    by_cases hlt : k < L.length
    · obtain ⟨b1, o1, rfl, _, q⟩ := (H1.out.below (hb.mono (Nat.le_succ s)) hB).getf k hlt
      have q0 := q.c0
      have i0 : (0 : Int) ≤ k := by omega
      have i1 : (k : Int) < L.length := by omega
      have hst : rowsK L (k + 1) = rowsK L k ++ (if 0 ≤ (L.getD k (0, [])).1 then [((k : Int), (L.getD k (0, [])).1)] else []) := rfl
      rw [getD_at L k hlt] at hst
      have hlen := rowsK_len L k
      obtain ⟨y, hy⟩ : ∃ y, L[k].1 = y := ⟨_, rfl⟩
      rw [hy] at q0 hst
      clear hy q
      have ls := (hX.below hb (by omega)).lt
      by_cases hx : 0 ≤ y
      · rw [if_pos hx] at hst
        have HST := Lib.hid hst
        generalize rowsK L k = ys at hown hlen HST
        clear hst
        have ha1 := owns_below hown ((Below.refl _ wr).alloc (Nat.le_refl _) (.cells #[.int .i64 k, .int .i64 y] 49)) (Nat.le_refl _)
        have hzY := hb.size
        go_wp2_with (at_builtin; refine wpList_append_row rfl _ _ 46 rfl (s + 1) Try.underlying46 infoRow ys.length (rowsV ys) rfl ha1 (wr.heap.size + 1) 1 [.int .i64 k, .int .i64 y] rfl (RowAt.lit wr #[.int .i64 k, .int .i64 y] 49 1 _ (by omega)) rfl ?c4 ?c5 ?c6 ?c7 ?_)
        case c4 => intro u hu; simp at hu; rcases hu with rfl | rfl <;> rfl
        case c5 => unfold maxLen; omega
        case c6 => omega
        case c7 => simp; omega
        intro v2 w2 ho2 hg2
        have k2 := (hb.alloc (by omega) (.cells #[.int .i64 k, .int .i64 y] 49)).appended ha1 hg2 (Nat.le_refl _) (by simp; omega)
        clear ha1 hg2 hown
        go_wp2_with fail
        exact ⟨⟨k + 1, by omega, by go_num, by rw [HST.out, List.length_append, rowsV_snoc]; exact ho2, k2⟩, by simp [intOf]; omega⟩
      · rw [if_neg hx, List.append_nil] at hst
        have HST := Lib.hid hst
        have HO := Lib.hid hown
        clear hst hown
        go_wp2_with fail
        exact ⟨⟨k + 1, by omega, by go_num, by rw [HST.out]; exact HO.out, hb⟩, by simp [intOf]; omega⟩
    · obtain rfl : k = L.length := by omega
      have HO := Lib.hid (owns_weaken hown (Nat.le_succ s))
      have hb9 := k0.trans (hb.mono (Nat.le_succ s))
      obtain ⟨a2, c2, rfl, _⟩ := (RowAt.of_owns hown (Nat.le_refl _)).len
      clear hown
      go_wp2_with fail
      go_ret
      exact ⟨_, rfl, by rw [hs]; exact HO.out, by rw [hs]; exact hb9⟩
structure SmP (b1 o1 b2 o2 : Nat) (x : Int × Int) (Y : World) : Prop where
  p0 : Y.cell? ⟨b1, o1, none⟩ = some (.int .i64 x.1)
  p1 : Y.cell? ⟨b1, o1 + 1, none⟩ = some (.int .i64 x.2)
  q0 : Y.cell? ⟨b2, o2, none⟩ = some (.int .i64 x.1)
  q1 : Y.cell? ⟨b2, o2 + 1, none⟩ = some (.int .i64 x.2)
theorem RowAt.getp {B : Nat} {w : World} {ad : Option Addr} {cap n : Nat} {l : List (Int × Int)} (h : RowAt B w (.slice ad n cap) n (rowsV l)) (k : Nat) (hk : k < l.length) :
    ∃ b off, ad = some ⟨b, off, none⟩ ∧ b < B ∧ w.cell? ⟨b, off + k * 2, none⟩ = some (.int .i64 l[k].1) ∧ w.cell? ⟨b, off + k * 2 + 1, none⟩ = some (.int .i64 l[k].2) := by
  obtain ⟨a, c, e, _, h⟩ := h
  simp only [Value.slice.injEq, true_and] at e
  obtain ⟨rfl, rfl⟩ := e
  have hn := rowsV_len l
  rcases h with h | ⟨b, off, rfl, hlt, hc⟩
  · rw [h] at hn; simp at hn; omega
  · obtain ⟨g0, g1⟩ := rowsV_get l k hk
    refine ⟨b, off, rfl, hlt, ?_, ?_⟩
    · rw [hc _ (by omega), g0]
    · rw [Nat.add_assoc, hc _ (by omega), g1]
theorem same_ok (v u : Value) (L : List (Int × Int)) (n : Nat) (hn : n = L.length) (B : Nat) (w : World) (hB : B ≤ w.heap.size) (hl : n < 1000000) (hv : RowAt B w v n (rowsV L)) (hu : RowAt B w u n (rowsV L)) :
    Calls Try.prog 28 #[v, u] w fun e w' => e = .returned (.bool true) ∧ Below w.heap.size w w' := by
  have H1 := Lib.hid hv
  have H2 := Lib.hid hu
  obtain ⟨a1, c1, rfl, _⟩ := hv.len
  obtain ⟨a2, c2, rfl, _⟩ := hu.len
  have HN := Lib.hid hn
  clear hv hu hn
  go_enter Try.func28, Try.ntmps28
  go_wp2_with fail
  go_loopw [5] (fun i wr => ∃ c : Nat, c ≤ n ∧ i = .int .i64 c ∧ Below w.heap.size w wr) (fun i _ => n - (intOf i).toNat)
  case atStart => exact ⟨0, by omega, rfl, Below.refl _ _⟩
  case round =>
    obtain ⟨c, hc, rfl, k0⟩ := hrel
    by_cases hlt : c < n
    · have hlt' : c < L.length := by rw [← HN.out]; exact hlt
      obtain ⟨b1, o1, rfl, _, p0, p1⟩ := (H1.out.below k0 hB).getp c hlt'
      obtain ⟨b2, o2, rfl, _, q0, q1⟩ := (H2.out.below k0 hB).getp c hlt'
      have i0 : (0 : Int) ≤ c := by omega
      have i1 : (c : Int) < n := by omega
      generalize L[c] = x at p0 p1 q0 q1
      have hst : SmP b1 (o1 + c * 2) b2 (o2 + c * 2) x wr.drew := ⟨p0, p1, q0, q1⟩
      clear hlt' p0 p1 q0 q1
      go_wp2_with fail
      refine wp_onlyN ?_
      refine wp_region_held_drew (S := SmP b1 (o1 + c * 2) b2 (o2 + c * 2) x) (by kernel_rfl) hst (fun hHeld => ?_)
      refine wpAnyH_take (i := 0) (v := ?_) rfl (by kernel_rfl) (by kernel_rfl) (by kernel_rfl) (fun _ _ _ h => h) (Or.inl ⟨by rfl, ?_⟩) (by assumption) ?_
      rotate_left
      · (intro Y hSw; (try dsimp only at hSw); obtain ⟨hS0, hS1, hS2, hS3⟩ := hSw; go_simp; try with_reducible rfl)
      try simp only [Act.put, List.getElem_toArray, List.getElem_cons_zero, List.getElem_cons_succ, List.setIfInBounds_toArray, List.set_cons_zero, List.set_cons_succ]
      refine wpAnyH_take (i := 1) (v := ?_) rfl (by kernel_rfl) (by kernel_rfl) (by kernel_rfl) (fun _ _ _ h => h) (Or.inl ⟨by rfl, ?_⟩) (by assumption) ?_
      rotate_left
      · (intro Y hSw; (try dsimp only at hSw); obtain ⟨hS0, hS1, hS2, hS3⟩ := hSw; go_simp; try with_reducible rfl)
      try simp only [Act.put, List.getElem_toArray, List.getElem_cons_zero, List.getElem_cons_succ, List.setIfInBounds_toArray, List.set_cons_zero, List.set_cons_succ]
      refine wpAnyH_take (i := 2) (v := ?_) rfl (by kernel_rfl) (by kernel_rfl) (by kernel_rfl) (fun _ _ _ h => h) (Or.inl ⟨by rfl, ?_⟩) (by assumption) ?_
      rotate_left
      · (intro Y hSw; (try dsimp only at hSw); obtain ⟨hS0, hS1, hS2, hS3⟩ := hSw; go_simp; try with_reducible rfl)
      try simp only [Act.put, List.getElem_toArray, List.getElem_cons_zero, List.getElem_cons_succ, List.setIfInBounds_toArray, List.set_cons_zero, List.set_cons_succ]
      refine wpAnyH_take (i := 3) (v := ?_) rfl (by kernel_rfl) (by kernel_rfl) (by kernel_rfl) (fun _ _ _ h => h) (Or.inl ⟨by rfl, ?_⟩) (by assumption) ?_
      rotate_left
      · (intro Y hSw; (try dsimp only at hSw); obtain ⟨hS0, hS1, hS2, hS3⟩ := hSw; go_simp; try with_reducible rfl)
      try simp only [Act.put, List.getElem_toArray, List.getElem_cons_zero, List.getElem_cons_succ, List.setIfInBounds_toArray, List.set_cons_zero, List.set_cons_succ]
      refine wpAnyH_take (i := 4) (v := ?_) rfl (by kernel_rfl) (by kernel_rfl) (by kernel_rfl) (fun _ _ _ h => h) (Or.inl ⟨by rfl, ?_⟩) (by assumption) ?_
      rotate_left
      · (intro Y hSw; (try dsimp only at hSw); obtain ⟨hS0, hS1, hS2, hS3⟩ := hSw; go_simp; try with_reducible rfl)
      try simp only [Act.put, List.getElem_toArray, List.getElem_cons_zero, List.getElem_cons_succ, List.setIfInBounds_toArray, List.set_cons_zero, List.set_cons_succ]
      refine wpAnyH_take (i := 5) (v := ?_) rfl (by kernel_rfl) (by kernel_rfl) (by kernel_rfl) (fun _ _ _ h => h) (Or.inl ⟨by rfl, ?_⟩) (by assumption) ?_
      rotate_left
      · (intro Y hSw; (try dsimp only at hSw); obtain ⟨hS0, hS1, hS2, hS3⟩ := hSw; go_simp; try with_reducible rfl)
      try simp only [Act.put, List.getElem_toArray, List.getElem_cons_zero, List.getElem_cons_succ, List.setIfInBounds_toArray, List.set_cons_zero, List.set_cons_succ]
      refine wpAnyH_take (i := 6) (v := ?_) rfl (by kernel_rfl) (by kernel_rfl) (by kernel_rfl) (fun _ _ _ h => h) (Or.inl ⟨by rfl, ?_⟩) (by assumption) ?_
      rotate_left
      · (intro Y hSw; (try dsimp only at hSw); obtain ⟨hS0, hS1, hS2, hS3⟩ := hSw; go_simp; try with_reducible rfl)
      try simp only [Act.put, List.getElem_toArray, List.getElem_cons_zero, List.getElem_cons_succ, List.setIfInBounds_toArray, List.set_cons_zero, List.set_cons_succ]
      refine wpAnyH_take (i := 7) (v := ?_) rfl (by kernel_rfl) (by kernel_rfl) (by kernel_rfl) (fun _ _ _ h => h) (Or.inl ⟨by rfl, ?_⟩) (by assumption) ?_
      rotate_left
      · (intro Y hSw; (try dsimp only at hSw); obtain ⟨hS0, hS1, hS2, hS3⟩ := hSw; go_simp; try with_reducible rfl)
      try simp only [Act.put, List.getElem_toArray, List.getElem_cons_zero, List.getElem_cons_succ, List.setIfInBounds_toArray, List.set_cons_zero, List.set_cons_succ]
      refine wpAnyH_take (i := 8) (v := ?_) rfl (by kernel_rfl) (by kernel_rfl) (by kernel_rfl) (fun _ _ _ h => h) (Or.inl ⟨by rfl, ?_⟩) (by assumption) ?_
      rotate_left
      · (intro Y hSw; (try dsimp only at hSw); obtain ⟨hS0, hS1, hS2, hS3⟩ := hSw; go_simp; try with_reducible rfl)
      try simp only [Act.put, List.getElem_toArray, List.getElem_cons_zero, List.getElem_cons_succ, List.setIfInBounds_toArray, List.set_cons_zero, List.set_cons_succ]
      refine wpAnyH_done (by kernel_rfl) ?_ _
      rw [onlyN_normal]
      go_wp2_with fail
      exact ⟨⟨c + 1, by omega, by go_num, k0.drew⟩, by simp [intOf]; omega⟩
    · obtain rfl : c = n := by omega
      go_wp2_with fail
      go_ret
      exact ⟨rfl, k0⟩
/-! ### The rows of the document are those of all -/
theorem freeK_in (F : List Fr) (k : Nat) : ((List.range (k + 1)).map fun (n : Nat) => (n : Int)).filter (fun j => inF F j) = ((List.range k).map fun (n : Nat) => (n : Int)).filter (fun j => inF F j) ++ (if inF F k = true then [(k : Int)] else []) := by
  rw [List.range_succ, List.map_append, List.filter_append]
  congr 1
  cases h : inF F k <;> simp [h]
theorem rowsK_doc {many : Int} {F : List Fr} {R : List (Int × Int)} (g : Good many F R) : ∀ k : Nat, k ≤ many.toNat → rowsK (docL many.toNat F) k = (((List.range k).map fun (n : Nat) => (n : Int)).filter (fun j => inF F j)).map fun j => (j, ownF F j)
  | 0, _ => rfl
  | k + 1, h => by
    have ih := rowsK_doc g k (by omega)
    rw [rowsK, ih, freeK_in, List.map_append]
    congr 1
    have hk : k < (docL many.toNat F).length := by rw [docL_len]; omega
    rw [getD_at _ k hk, docL_get]
    cases hi : inF F k
    · rw [if_neg (by rw [show ¬ (0 ≤ (dAt F k).1) ↔ (dAt F k).1 < 0 by omega, g.dAt_neg]; exact hi), if_neg (by decide)]; rfl
    · have : ¬ (dAt F k).1 < 0 := fun e => by rw [(g.dAt_neg k).1 e] at hi; cases hi
      rw [if_pos (by omega), if_pos rfl]
      unfold dAt
      rw [if_pos hi]
      rfl
theorem rows_all {many : Int} {F : List Fr} {R : List (Int × Int)} (g : Good many F R) : rowsK (docL many.toNat F) (docL many.toNat F).length = allL F := by
  rw [docL_len, rowsK_doc g _ (Nat.le_refl _)]
  unfold allL
  congr 1
  have hp := List.mergeSort_perm ((encF F).map (·.1)) leI
  have hs : (srt (encF F)).Pairwise (fun a b => leI a b = true) := List.pairwise_mergeSort (fun a b c h1 h2 => by simp [leI] at h1 h2 ⊢; omega) (fun a b => by simp [leI]; omega) _
  have hr : (((List.range many.toNat).map fun (n : Nat) => (n : Int)).filter (fun j => inF F j)).Pairwise (fun a b => leI a b = true) := by
    refine List.Pairwise.filter _ ?_
    rw [List.pairwise_map]
    exact List.pairwise_lt_range.imp fun h => by simp [leI]; omega
  have hnd : (((List.range many.toNat).map fun (n : Nat) => (n : Int)).filter (fun j => inF F j)).Nodup := by
    unfold List.Nodup
    refine List.Pairwise.filter _ ?_
    rw [List.pairwise_map]
    exact List.pairwise_lt_range.imp fun h => by omega
  refine List.Perm.eq_of_pairwise (le := fun a b => leI a b = true) (fun a b _ _ h1 h2 => by simp [leI] at h1 h2; omega) hr hs ?_
  have hnk : ((encF F).map (·.1)).Nodup := by rw [encF_keys]; exact g.nd
  refine List.Perm.trans ?_ hp.symm
  refine (List.perm_ext_iff_of_nodup hnd hnk).2 fun a => ?_
  rw [encF_keys, List.mem_filter, List.mem_map]
  constructor
  · rintro ⟨_, h⟩
    obtain ⟨x, hx, e⟩ := List.any_eq_true.1 h
    exact List.mem_map.2 ⟨x, hx, by simpa using e⟩
  · intro h
    obtain ⟨x, hx, rfl⟩ := List.mem_map.1 h
    have hb := g.inb x hx
    have hm := g.snd.m0
    exact ⟨⟨x.1.toNat, List.mem_range.2 (by omega), by omega⟩, List.any_eq_true.2 ⟨x, hx, by simp⟩⟩
end Go.Proofs.Ytfmkjckckekliaa
