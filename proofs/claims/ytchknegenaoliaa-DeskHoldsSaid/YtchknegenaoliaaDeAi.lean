/-
  Package pinfoldlaw21: works; act, whichever call. Conditions: what stands at a desk.
-/
import Derived.Test.YtchknegenaoliaaDeAh
namespace Go.Proofs.Ytchknegenaoliaa
open Go.RowKit
attribute [local go_sem] Oper.semAt_some
set_option maxHeartbeats 2000000
set_option maxRecDepth 4000

def actP (P : List Ten) (T : Thr) (x : ActD) : List Ten := if x.a = 0 then creP P x.h.s x.q x.f else if x.a = 1 then desP P x.h else P
def actT (P : List Ten) (T : Thr) (x : ActD) : Thr := if x.a = 1 then desT P T x.h else if x.a = 2 then binT P T x.t x.h else if x.a = 3 then unbT T x.t else T
theorem Good.act {n : Int} {P : List Ten} {T : Thr} (h : Good n P T) (x : ActD) : Good (n + 1) (actP P T x) (actT P T x) := by
  unfold actP actT
  by_cases h0 : x.a = 0
  · rw [if_pos h0, if_neg (by omega), if_neg (by omega), if_neg (by omega)]; exact h.cre _ _ _
  · rw [if_neg h0]
    by_cases h1 : x.a = 1
    · rw [if_pos h1, if_pos h1]; exact (h.des _).up (by omega)
    · rw [if_neg h1, if_neg h1]
      by_cases h2 : x.a = 2
      · rw [if_pos h2]; exact (h.bin _ _).up (by omega)
      · rw [if_neg h2]
        by_cases h3 : x.a = 3
        · rw [if_pos h3]; exact (h.unb _).up (by omega)
        · rw [if_neg h3]; exact h.up (by omega)
theorem act_ok {w : World} {b m : Nat} {n : Int} {P : List Ten} {T : Thr} (hD : DkAt w b m P T) (hg : Good n P T) (hn : n ≤ 1000) (x : ActD) :
    Calls Try.prog 17 #[.pointer (some ⟨b, 0, none⟩), .agg (refV P (hsT T)), .agg (actC x)] w fun e w' => ∃ b' m', ActR w b m (actP P T x) (actT P T x) e w' b' m' ∧ ((b' = b ∧ m' = m) ∨ (w.heap.size ≤ b' ∧ w.heap.size ≤ m' ∧ Below w.heap.size w w')) := by
  by_cases h0 : x.a = 0
  · refine (act0_ok hD hg hn x h0).mono ?_; intro e w' h
    refine ⟨b, m, ?_, .inl ⟨rfl, rfl⟩⟩
    unfold actP actT
    rw [if_pos h0, if_neg (by omega), if_neg (by omega), if_neg (by omega)]; exact h
  · by_cases h1 : x.a = 1
    · refine (act1_ok hD hg x h1).mono ?_; intro e w' h
      refine ⟨b, m, ?_, .inl ⟨rfl, rfl⟩⟩
      unfold actP actT
      rw [if_neg h0, if_pos h1, if_pos h1]; exact h
    · by_cases h2 : x.a = 2
      · refine (act2_ok hD hg hn x h2).mono ?_; intro e w' h
        refine ⟨b, m, ?_, .inl ⟨rfl, rfl⟩⟩
        unfold actP actT
        rw [if_neg h0, if_neg h1, if_neg h1, if_pos h2]; exact h
      · by_cases h3 : x.a = 3
        · refine (act3_ok hD hg x h3).mono ?_; intro e w' h
          refine ⟨b, m, ?_, .inl ⟨rfl, rfl⟩⟩
          unfold actP actT
          rw [if_neg h0, if_neg h1, if_neg h1, if_neg h2, if_pos h3]; exact h
        · by_cases h4 : x.a = 4
          · refine (act4_ok hD hg x h4).mono ?_; intro e w' h
            refine ⟨b, m, ?_, .inl ⟨rfl, rfl⟩⟩
            unfold actP actT
            rw [if_neg h0, if_neg h1, if_neg h1, if_neg h2, if_neg h3]; exact h
          · refine (act5_ok hD hg x ⟨h0, h1, h2, h3, h4⟩).mono ?_; rintro e w' ⟨c, mc, h, hc, hm, hb⟩
            refine ⟨c, mc, ?_, .inr ⟨hc, hm, hb⟩⟩
            unfold actP actT
            rw [if_neg h0, if_neg h1, if_neg h1, if_neg h2, if_neg h3]; exact h
/-- A desk, and boxes of handles. -/
structure Wst (w W : World) (b m : Nat) (P : List Ten) (T : Thr) (L : List (Nat × Int × Int)) : Prop where
  t : DkAt W b m P T
  k : Below w.heap.size w W
  lob : w.heap.size ≤ b
  lom : w.heap.size ≤ m
  bx : ∀ x ∈ L, Blk W x.1 #[.int .i64 x.2.1, .int .i64 x.2.2] 28 ∧ x.1 ≠ b ∧ x.1 ≠ m
theorem Wst.step {w W W' : World} {b m : Nat} {P : List Ten} {T : Thr} {L : List (Nat × Int × Int)} (h : Wst w W b m P T L) (k : Below W.heap.size W W') : Wst w W' b m P T L :=
  ⟨h.t.step k, h.k.trans (k.mono h.k.size), h.lob, h.lom, fun x hx => ⟨(h.bx x hx).1.below k (h.bx x hx).1.lt, (h.bx x hx).2⟩⟩
theorem Wst.to {w W W' : World} {b m : Nat} {P Q : List Ten} {T U : Thr} {L : List (Nat × Int × Int)} (h : Wst w W b m P T L) (h1 : DkAt W' b m Q U) (k : Chg2 b m W W') : Wst w W' b m Q U L :=
  ⟨h1, h.k.trans (k.below h.lob h.lom h.k.size), h.lob, h.lom, fun x hx => ⟨k.blk (h.bx x hx).1 (h.bx x hx).2.1 (h.bx x hx).2.2, (h.bx x hx).2⟩⟩
theorem Wst.box {w W W' : World} {b m : Nat} {P : List Ten} {T : Thr} {L : List (Nat × Int × Int)} (h : Wst w W b m P T L) (s g : Int) (hW : W.alloc (.cells #[.int .i64 s, .int .i64 g] 28) = W') : Wst w W' b m P T ((W.heap.size, s, g) :: L) := by
  subst hW
  have h1 := h.step ((Below.refl W.heap.size W).alloc (Nat.le_refl _) (.cells #[.int .i64 s, .int .i64 g] 28))
  have hb := h.t.blk.lt
  have hm := h.t.mp.lt
  refine ⟨h1.t, h1.k, h1.lob, h1.lom, fun x hx => ?_⟩
  rcases List.mem_cons.1 hx with rfl | hx
  · exact ⟨Blk.new W _ _, by dsimp only; omega, by dsimp only; omega⟩
  · exact h1.bx x hx
theorem Wst.c {w W : World} {b m : Nat} {P : List Ten} {T : Thr} {L : List (Nat × Int × Int)} (h : Wst w W b m P T L) (g : Nat) (s t : Int) (hx : (g, s, t) ∈ L) : W.cell? ⟨g, 0, none⟩ = some (.int .i64 s) ∧ W.cell? ⟨g, 1, none⟩ = some (.int .i64 t) :=
  ⟨(h.bx _ hx).1.cell 0 rfl, (h.bx _ hx).1.cell 1 rfl⟩
def P0 : List Ten := [zT, zT, zT, zT]
def P1 : List Ten := [zT, ⟨1, true, 100, 9⟩, zT, zT]
def P2 : List Ten := [zT, ⟨1, false, 0, 0⟩, zT, zT]
def P3 : List Ten := [zT, ⟨2, true, 5, 5⟩, zT, zT]
def T1 : Thr := [(0, ⟨1, 1⟩)]
theorem gd0 : Good 0 P0 [] := Good.new
theorem gd1 : Good 1 P1 [] := by have := gd0.cre 1 100 9; rwa [show creP P0 1 100 9 = P1 from by decide] at this
theorem gd2 : Good 1 P1 T1 := by have := gd1.bin 0 ⟨1, 1⟩; rwa [show binT P1 [] 0 ⟨1, 1⟩ = T1 from by decide] at this
theorem gd3 : Good 1 P2 [] := by have := gd2.des ⟨1, 1⟩; rwa [show desP P1 ⟨1, 1⟩ = P2 from by decide, show desT P1 T1 ⟨1, 1⟩ = [] from by decide] at this
theorem gd4 : Good 2 P3 [] := by have := gd3.cre 1 5 5; rwa [show creP P2 1 5 5 = P3 from by decide] at this
end Go.Proofs.Ytchknegenaoliaa
