/-
  Package desk: keys, Threads. Conditions: a desk whose threads are few and in order.
-/
import Derived.Test.YtchknegenaoliaaDeK
import Derived.Test.YtchknegenaoliaaDeL
import Derived.Test.YtchknegenaoliaaSub2
import Derived.Deep.AppendLies
namespace Go.Proofs.Ytchknegenaoliaa
open Go.RowKit
attribute [local go_sem] Oper.semAt_some
set_option maxHeartbeats 1000000
set_option maxRecDepth 4000

theorem info64 : ElemInfo Try.prog 3 (.int .i64 0) 1 8 := elemInfo_of (by kernel_rfl) rfl (by decide)
theorem RowAt.geti {B : Nat} {w : World} {ad : Option Addr} {cap n : Nat} {l : List Int} (h : RowAt B w (.slice ad n cap) n (intVals .i64 l)) (k : Nat) (hk : k < l.length) : ∃ b off, ad = some ⟨b, off, none⟩ ∧ b < B ∧ w.cell? ⟨b, off + k, none⟩ = some (.int .i64 l[k]) := by
  obtain ⟨a, c, e, _, h⟩ := h
  simp only [Value.slice.injEq, true_and] at e
  obtain ⟨rfl, rfl⟩ := e
  rcases h with h | ⟨b, off, rfl, hlt, hc⟩
  · simp [intVals] at h; subst h; simp at hk
  · refine ⟨b, off, rfl, hlt, ?_⟩
    rw [hc k (by rw [intVals_len]; exact hk), intVals_get _ _ _ hk]
theorem wf_i64 {n : Int} (h0 : -9223372036854775808 ≤ n) (h1 : n ≤ 9223372036854775807) : (Lit.int .i64 n).wf = true := by
  show (decide (IntKind.i64.min ≤ n) && decide (n ≤ IntKind.i64.max)) = true
  rw [show IntKind.i64.min = -9223372036854775808 from rfl, show IntKind.i64.max = 9223372036854775807 from rfl, Bool.and_eq_true]
  exact ⟨decide_eq_true (by omega), decide_eq_true (by omega)⟩
theorem thr_lenA : ∀ (T : Thr) (a : Int), SrtR T → (∀ x ∈ T, a ≤ x.1 ∧ x.1 ≤ 3) → T.length ≤ (4 - a).toNat
  | [], _, _, _ => Nat.zero_le _
  | x :: r, a, hs, hk => by
    have h1 := List.pairwise_cons.1 hs
    have hx := hk x List.mem_cons_self
    have := thr_lenA r (x.1 + 1) h1.2 fun y hy => ⟨h1.1 y hy, (hk y (List.mem_cons_of_mem _ hy)).2⟩
    simp only [List.length_cons]
    omega
theorem thr_len {T : Thr} (hs : SrtR T) (hk : ∀ x ∈ T, 0 ≤ x.1 ∧ x.1 ≤ 3) : T.length ≤ 4 := thr_lenA T 0 hs hk
theorem threads1_calls (x h : Hnd) (g : Nat) (w : World) (hB : Blk w g #[.int .i64 h.s, .int .i64 h.g] 28) :
    Calls Try.prog 33 #[.agg #[.int .i64 x.s, .int .i64 x.g], .pointer (some ⟨g, 0, none⟩)] w fun e w' => e = .returned (.bool (decide (x = h))) ∧ Below w.heap.size w w' := by
  obtain ⟨w0, hw0⟩ : ∃ w0, w.alloc (.cells #[.int .i64 x.s, .int .i64 x.g] 28) = w0 := ⟨_, rfl⟩
  have k0 : Below w.heap.size w w0 := by rw [← hw0]; exact (Below.refl _ w).alloc (Nat.le_refl _) _
  have hX : Blk w0 w.heap.size #[.int .i64 x.s, .int .i64 x.g] 28 := by rw [← hw0]; exact Blk.new w _ _
  have h0 := hB.below k0 hB.lt
  obtain ⟨xs, xg⟩ := x
  obtain ⟨s, gg⟩ := h
  dsimp only at hX h0 hw0 ⊢
  have x0 : w0.cell? ⟨w.heap.size, 0, none⟩ = some (.int .i64 xs) := hX.cell 0 rfl
  have x1 : w0.cell? ⟨w.heap.size, 1, none⟩ = some (.int .i64 xg) := hX.cell 1 rfl
  have y0 : w0.cell? ⟨g, 0, none⟩ = some (.int .i64 s) := h0.cell 0 rfl
  have y1 : w0.cell? ⟨g, 1, none⟩ = some (.int .i64 gg) := h0.cell 1 rfl
  by_cases e0 : xs = s
  · subst e0
    by_cases e1 : xg = gg
    · subst e1
      go_enter Try.func33, Try.ntmps33
      go_wp2_with fail
      go_ret
      exact ⟨by first | rfl | (rw [decide_eq_true rfl]; rfl), k0⟩
    · have hd : decide ((⟨xs, xg⟩ : Hnd) = ⟨xs, gg⟩) = false := decide_eq_false fun e => e1 (congrArg Hnd.g e)
      go_enter Try.func33, Try.ntmps33
      go_wp2_with fail
      go_ret
      exact ⟨by first | rfl | (rw [hd]; rfl), k0⟩
  · have hd : decide ((⟨xs, xg⟩ : Hnd) = ⟨s, gg⟩) = false := decide_eq_false fun e => e0 (congrArg Hnd.s e)
    go_enter Try.func33, Try.ntmps33
    go_wp2_with fail
    go_ret
    exact ⟨by first | rfl | (rw [hd]; rfl), k0⟩
theorem ofH_succ (T : Thr) (h : Hnd) (k : Nat) (hk : k < T.length) : ofH (T.take (k + 1)) h = if T[k].2 = h then ofH (T.take k) h ++ [T[k]] else ofH (T.take k) h := by
  unfold ofH
  rw [take_next _ _ hk, List.filter_append]
  by_cases e : T[k].2 = h
  · rw [if_pos e, List.filter_cons, if_pos (by simpa using e)]; rfl
  · rw [if_neg e, List.filter_cons, if_neg (by simpa using e)]; simp
def keyV (T : Thr) : List Value := intVals .i64 (T.map (·.1))
theorem keyV_snoc (T : Thr) (x : Int × Hnd) : keyV (T ++ [x]) = keyV T ++ [.int .i64 x.1] := by simp [keyV, intVals]
theorem keys_ok {w : World} {mb g : Nat} {T : Thr} {h : Hnd} (hM : MapP encH w mb T) (hs : SrtR T) (hk : ∀ x ∈ T, 0 ≤ x.1 ∧ x.1 ≤ 3) (hB : Blk w g #[.int .i64 h.s, .int .i64 h.g] 28) :
    Calls Try.prog 32 #[.map (some mb), .func (.func 33) #[] #[.pointer (some ⟨g, 0, none⟩)]] w fun e w' => ∃ v, e = .returned v ∧ w'.ownsRow w.heap.size 3 1 v (ofH T h).length (keyV (ofH T h)) ∧ Below w.heap.size w w' := by
  have hl := thr_len hs hk
  go_enter Try.func32, Try.ntmps32
  go_wp2_with fail
  refine (keys_calls _ _).mono ?_; rintro e _ ⟨rfl, rfl⟩
  have k1 : Below w.heap.size w (w.alloc (.cells #[.map (some mb)] 67)) := (Below.refl _ w).alloc (Nat.le_refl _) _
  have hX := Blk.new w #[.map (some mb)] 67
  have h1 := hM.step k1
  have b1 := hB.below k1 hB.lt
  generalize w.alloc (.cells #[.map (some mb)] 67) = w1 at k1 hX h1 b1 ⊢
  have hwf : ∀ p ∈ T, (Lit.int .i64 p.1).wf = true := fun p hp => wf_i64 (by have := hk p hp; omega) (by have := hk p hp; omega)
  go_wp2_with fail
  refine (sorted_calls (hX.cell 0 rfl) h1 hs hwf (by omega)).mono ?_; rintro e w2 ⟨v, rfl, ho, k2⟩
  have hrow : RowAt w2.heap.size w2 v T.length (intVals .i64 (T.map (·.1))) := RowAt.of_owns ho (Nat.le_refl _)
  obtain ⟨ad, cap, rfl, _⟩ := hrow.len
  have kk := k1.trans (k2.mono k1.size)
  have h2 := h1.step k2
  have b2 := b1.below k2 b1.lt
  have HR := Lib.hid hrow
  have HS := Lib.hid hs
  have z2 := kk.size
  clear ho k2 hX k1 h1 b1 hrow hwf hM hB hs
  go_wp2_with fail
  have hown0 : w2.ownsRow w2.heap.size 3 1 (.slice none 0 0) 0 [] := ⟨rfl, .inl ⟨rfl, rfl⟩⟩
  obtain ⟨s, hs9⟩ : ∃ s, w2.heap.size = s := ⟨_, rfl⟩
  have HS9 := Lib.hid hs9
  rw [hs9] at hown0 HR z2
  have b2l := b2.lt
  have h2l := h2.lt
  rw [hs9] at b2l h2l
  clear hs9
  go_loopw [4, 11] (fun v i wr => ∃ k : Nat, k ≤ T.length ∧ i = .int .i64 k ∧ wr.ownsRow s 3 1 v (ofH (T.take k) h).length (keyV (ofH (T.take k) h)) ∧ Below s w2 wr ∧ s ≤ wr.heap.size) (fun _ i _ => T.length - (intOf i).toNat)
  case atStart => exact ⟨0, by omega, rfl, hown0, Below.refl _ _, by rw [HS9.out]; exact Nat.le_refl _⟩
  case round =>
    obtain ⟨k, hk9, rfl, hown, hb, hzr⟩ := hrel
    clear hown0
    by_cases hlt : k < T.length
    · obtain ⟨b1, o1, rfl, _, q⟩ := (HR.out.below hb (Nat.le_refl _)).geti k (by simpa using hlt)
      rw [List.getElem_map] at q
      have i0 : (0 : Int) ≤ k := by omega
      have i1 : (k : Int) < T.length := by omega
      have hlk := (((h2.below hb h2l).lookup (P := Try.prog) Try.underlying67 Try.underlying3 (zero_hnd wr) T[k].1)).1
      have hbb := b2.below hb b2l
      have hst := ofH_succ T h k hlt
      have hlen : (ofH (T.take k) h).length ≤ 4 := by
        have := List.length_filter_le (fun x : Int × Hnd => decide (x.2 = h)) (T.take k)
        rw [List.length_take] at this
        unfold ofH; omega
      rw [getR_some HS.out.nodup (List.getElem_mem hlt)] at hlk
      obtain ⟨⟨xk, x⟩, hx⟩ : ∃ y, T[k] = y := ⟨_, rfl⟩
      rw [hx] at q hst hlk
      dsimp only at q hst hlk
      have hlk' : (Instr.lookup 67 (.map (some mb)) (.int .i64 xk) false).run Try.prog wr = .ok (.agg #[.int .i64 x.s, .int .i64 x.g]) wr := hlk
      clear hx hlk
      go_wp2_with fail
      refine (threads1_calls x h g wr hbb).mono ?_; rintro e w3 ⟨rfl, k3⟩
      have hb3 := hb.trans (k3.mono hzr)
      have hz3 : s ≤ w3.heap.size := Nat.le_trans hzr k3.size
      have hown3 := owns_below hown k3 (Nat.le_refl _)
      clear hlk' hbb q hown k3
      by_cases he : x = h
      · rw [if_pos he] at hst
        rw [decide_eq_true he]
        have HST := Lib.hid hst
        generalize ofH (T.take k) h = ys at hown3 hlen HST
        clear hst he
        have ha1 := owns_below hown3 ((Below.refl _ w3).alloc (Nat.le_refl _) (.cells #[.int .i64 xk] 3)) (Nat.le_refl _)
        go_wp2_with (at_builtin; refine wpList_append_row rfl _ _ 35 rfl s Try.underlying35 info64 ys.length (keyV ys) rfl ha1 (w3.heap.size + 1) 1 [.int .i64 xk] rfl (RowAt.lit w3 #[.int .i64 xk] 3 1 _ (by omega)) rfl ?c4 ?c5 ?c6 ?c7 ?_)
        case c4 => first | exact rfl | (intro u hu; simp at hu; subst hu; rfl)
        case c5 => unfold maxLen; omega
        case c6 => omega
        case c7 => first | omega | (simp; omega)
        intro v2 w4 ho2 hg2
        have k4 := (hb3.alloc (by omega) (.cells #[.int .i64 xk] 3)).appended ha1 hg2 (Nat.le_refl _) (by simp; omega)
        have hz4 : s ≤ w4.heap.size := by have := hg2.size; simp at this; omega
        clear ha1 hg2 hown3
        go_wp2_with fail
        exact ⟨⟨k + 1, by omega, by go_num, by rw [HST.out, List.length_append, keyV_snoc]; exact ho2, k4, hz4⟩, by simp [intOf]; omega⟩
      · rw [if_neg he] at hst
        rw [decide_eq_false he]
        have HST := Lib.hid hst
        have HO := Lib.hid hown3
        clear hst hown3 he
        go_wp2_with fail
        exact ⟨⟨k + 1, by omega, by go_num, by rw [HST.out]; exact HO.out, hb3, hz3⟩, by simp [intOf]; omega⟩
    · obtain rfl : k = T.length := by omega
      rw [List.take_length] at hown
      have HO := Lib.hid (owns_weaken hown z2)
      have hb9 := kk.trans (hb.mono z2)
      obtain ⟨a2, c2, rfl, _⟩ := (RowAt.of_owns hown (Nat.le_refl _)).len
      clear hown
      go_wp2_with fail
      go_ret
      exact ⟨_, rfl, HO.out, hb9⟩
end Go.Proofs.Ytchknegenaoliaa
