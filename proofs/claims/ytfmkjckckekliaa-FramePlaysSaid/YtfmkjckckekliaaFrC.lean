/-
  Package frame: how many frames an owner has. Conditions: a map of frames; at most a million.
-/
import Derived.Test.YtfmkjckckekliaaFrB
namespace Go.Proofs.Ytfmkjckckekliaa
open Go.RowKit
attribute [local go_sem] Oper.semAt_some
set_option maxHeartbeats 1000000
set_option maxRecDepth 4000

theorem counted_ok {w : World} {bf : Nat} {F : List Fr} (who : Int) (p : Nat) (hlen : F.length ≤ 1000000) (h256 : ∀ x ∈ F, x.2.2.length = 256) (hF : MapI w bf (encF F)) (hp : w.cell? ⟨p, 0, none⟩ = some (.int .i64 who)) :
    Calls Try.prog 59 #[.map (some bf), .func (.func 60) #[] #[.pointer (some ⟨p, 0, none⟩)]] w fun e w' => e = .returned (.int .i64 (hasF F who)) ∧ Below w.heap.size w w' := by
  obtain ⟨o, hrun, hR⟩ := hF.range (P := Try.prog) Try.underlying72
  go_enter Try.func59, Try.ntmps59
  go_wp2_with fail
  have hb0 : Below w.heap.size w (w.alloc o) := (Below.refl _ w).alloc (Nat.le_refl _) _
  generalize w.alloc o = w0 at hR hb0 ⊢
  clear hrun
  go_loopw [4] (fun c wr => ∃ left : List Fr, c = .int .i64 ((hasF F who : Int) - hasF left who) ∧ (∀ x ∈ left, x ∈ F) ∧ hasF left who ≤ hasF F who ∧ (left.map (·.1)).Nodup ∧ RangeI wr w.heap.size bf (encF F) (encF left) ∧ Below w.heap.size w wr) (fun _ wr => rangeN (encF F).length w.heap.size wr)
  case atStart => exact ⟨F, by simp, fun _ h => h, Nat.le_refl _, by have := hF.nodup; simpa [encF, Function.comp_def] using this, hR, hb0⟩
  case round =>
    obtain ⟨left, rfl, hsub, hle, hnd, hRr, hb⟩ := hrel
    have hz := hb.size
    have hbl := hRr.lt
    have hbf := hF.lt
    rcases hRr.next (P := Try.prog) (by omega) 0 with ⟨hl, hrun⟩ | ⟨q, hq, wn, hrun, hRn, hTn, hent⟩
    · have hl' : left = [] := by simpa [encF] using hl
      subst hl'
      go_wp2_with fail
      go_ret
      exact ⟨by simp [hasF], hb⟩
    · obtain ⟨x, hx, rfl⟩ := List.mem_map.1 hq
      dsimp only at hrun hRn hent
      have h25 := h256 x (hsub x hx)
      have hsz := takenA_size x.2.1 x.2.2 h25
      have hfill := fill_taken wn x.2.1 x.2.2 h25
      have hpl := World.block_lt_of_cell? w _ hp
      have hbn : Below w.heap.size w wn := hb.trans (hTn.below (Nat.le_refl _))
      have hb2 := hbn.alloc hbn.size (.cells (takenA x.2.1 x.2.2) 89)
      have hp2 : (wn.alloc (.cells (takenA x.2.1 x.2.2) 89)).cell? ⟨p, 0, none⟩ = some (.int .i64 who) := (hb2.cell (p := ⟨p, 0, none⟩) hpl).trans hp
      have hcnt := cnt_del (fun y : Fr => y.2.1 == who) left x hnd hx
      have hcall := has1_calls x.2.1 who x.2.2 p _ hp2
      have hRr2 := hRn.below ((Below.refl _ wn).alloc (Nat.le_refl _) (.cells (takenA x.2.1 x.2.2) 89)) hRn.lt.1 hRn.lt.2
      rw [delA_encF] at hRn hRr2
      have hnd2 : ((left.filter fun y => !(y.1 == x.1)).map (·.1)).Nodup := (List.filter_sublist.map _).nodup hnd
      have hsub2 : ∀ y ∈ (left.filter fun y => !(y.1 == x.1)), y ∈ F := fun y hy => hsub y (List.mem_filter.1 hy).1
      have hdec : (left.filter fun y => !(y.1 == x.1)).length < left.length := by
        have h8 := cnt_del (fun _ : Fr => true) left x hnd hx
        have h7 : ∀ l : List Fr, l.filter (fun _ => true) = l := fun l => List.filter_eq_self.2 fun _ _ => rfl
        rw [h7, h7, if_pos rfl] at h8
        have h9 : left.length = (left.filter fun (y : Fr) => !(y.1 == x.1)).length + 1 := h8
        omega
      have hm0 := hRr.count
      go_wp2_with fail
      refine wp_load_row 89 _ rfl wn.heap.size rfl 89 (takenA x.2.1 x.2.2) (0, 0) _ (World.alloc_heap_new wn _) Try.underlying89 rfl (by rw [hsz]; kernel_rfl) ?_
      cases hw9 : (x.2.1 == who)
      · rw [hw9] at hcall
        simp only [hw9, Bool.false_eq_true, if_false, Nat.add_zero] at hcnt
        go_wp2_with fail
        refine hcall.mono ?_; rintro e w1 ⟨rfl, h1⟩
        have hRr3 := hRr2.below h1 hRr2.lt.1 hRr2.lt.2
        have hm1 := hRr3.count
        go_wp2_with fail
        go_roundw
        case rel => exact ⟨_, by rw [show hasF left who = hasF (left.filter fun y => !(y.1 == x.1)) who from hcnt], hsub2, by rw [← show hasF left who = hasF (left.filter fun y => !(y.1 == x.1)) who from hcnt]; exact hle, hnd2, hRr3, hb2.trans (h1.mono hb2.size)⟩
        case measure => rw [hm0, hm1]; simpa [encF] using hdec
      · rw [hw9] at hcall
        simp only [hw9, if_true] at hcnt
        have hcnt' : hasF left who = hasF (left.filter fun y => !(y.1 == x.1)) who + 1 := hcnt
        have hlF : (hasF F who : Int) ≤ F.length := by have := List.length_filter_le (fun y : Fr => y.2.1 == who) F; unfold hasF; omega
        go_wp2_with fail
        refine hcall.mono ?_; rintro e w1 ⟨rfl, h1⟩
        have hRr3 := hRr2.below h1 hRr2.lt.1 hRr2.lt.2
        have hm1 := hRr3.count
        have hsum : IntKind.i64.wrap ((hasF F who : Int) - hasF left who + 1) = (hasF F who : Int) - hasF (left.filter fun y => !(y.1 == x.1)) who := by
          rw [IntWalk.i64_in _ (by omega)]; omega
        go_wp2_with fail
        go_roundw
        case rel => exact ⟨_, by first | rfl | (congr 1; omega) | (rw [hsum]), hsub2, by omega, hnd2, hRr3, hb2.trans (h1.mono hb2.size)⟩
        case measure => rw [hm0, hm1]; simpa [encF] using hdec
end Go.Proofs.Ytfmkjckckekliaa
