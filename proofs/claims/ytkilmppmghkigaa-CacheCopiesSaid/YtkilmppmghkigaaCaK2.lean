/-
  Package cache: Spill, and where what it tells lies. Conditions: shelves of fewer than a million.
-/
import Derived.Test.YtkilmppmghkigaaCaK
namespace Go.Proofs.Ytkilmppmghkigaa
open Go.RowKit
attribute [local go_sem] Oper.semAt_some
set_option maxHeartbeats 4000000
set_option maxRecDepth 4000

theorem Spill_ok2 {w : World} {s : Nat} {L : Nat → List Int} (hS : ShAt w s L) (hL : ∀ i, (L i).length < 1000000) (t c : Int) : Calls Try.prog 12 #[.pointer (some ⟨s, 0, none⟩), .int .i64 t, .int .i64 c] w fun e w' =>
    ∃ v, e = .returned (.tuple #[v, .int .i64 (shErr t c)]) ∧ w'.ownsRow w.heap.size 3 1 v (splL L t c).length (intVals .i64 (splL L t c)) ∧ ShAt w' s (splAfter L t c) ∧ Chg s w w' ∧ ∀ g, v.ownBlock = some g → Off g w' s := by
  by_cases h0 : shErr t c = 0
  · obtain ⟨⟨t0, t1⟩, c0, c1⟩ := shErr_zero h0
    obtain ⟨a, rfl⟩ : ∃ a : Nat, t = a := ⟨t.toNat, by omega⟩
    obtain ⟨b, rfl⟩ : ∃ b : Nat, c = b := ⟨c.toNat, by omega⟩
    have hslt := hS.lt
    obtain ⟨l, hl⟩ : ∃ l, L (a * 8 + b) = l := ⟨_, rfl⟩
    have hV : splL L a b = l.take 4 := by unfold splL; rw [if_pos h0, Int.toNat_natCast, Int.toNat_natCast, hl]
    have hA : splAfter L a b = upd L (a * 8 + b) (l.drop 4) := by unfold splAfter; rw [if_pos h0, Int.toNat_natCast, Int.toNat_natCast, hl]
    have hlen := hL (a * 8 + b)
    rw [hl] at hlen
    rw [hV, hA, h0]
    have H0 := Lib.hid h0
    clear hV hA h0
    go_enter Try.func12, Try.ntmps12
    go_wp2_with fail
    refine (shelf_calls hS a b).mono ?_; rintro e w1 ⟨rfl, k1⟩
    rw [H0.out]
    have hS1 := hS.step k1
    go_wp2_with fail
    refine (on_calls s a b (by omega) (by omega) w1).mono ?_; rintro e _ ⟨rfl, rfl⟩
    obtain ⟨v, q1, q2, hr⟩ := hS1.row (a * 8 + b) (by omega)
    rw [hl] at hr
    have HL := Lib.hid hl
    clear hl
    obtain ⟨sa, sc, rfl, hsc⟩ := hr.len
    by_cases h4 : l.length < 4
    · have h4' : (l.length : Int) < 4 := by omega
      have et : l.take 4 = l := List.take_of_length_le (by omega)
      have ed : l.drop 4 = [] := List.drop_of_length_le (by omega)
      have ET := Lib.hid et
      have ED := Lib.hid ed
      clear et ed h4
      go_wp2_with fail
      refine (clone_ok _ l w1.heap.size w1 (Nat.le_refl _) hlen hr).mono ?_; rintro e w2 ⟨v1, rfl, ho1, k2⟩
      have q3 : w2.cell? ⟨s, a * 8 + b, none⟩ = some (.slice sa l.length sc) := (k2.cell (p := ⟨s, a * 8 + b, none⟩) hS1.lt).trans q1
      have q4 : w2.frozen? ⟨s, a * 8 + b, none⟩ = false := (k2.frozen (p := ⟨s, a * 8 + b, none⟩) hS1.lt).trans q2
      by_cases hsc' : sc = l.length
      · subst hsc'
        go_wp2_with fail
        refine (clone_ok _ [] w2.heap.size w2 (Nat.le_refl _) (by simp) ⟨sa, 0, rfl, ⟨Nat.le_refl _, fun _ => ⟨rfl, rfl⟩⟩, .inl rfl⟩).mono ?_
        rintro e w3 ⟨v2, rfl, ho2, k3⟩
        obtain ⟨a2, n2, c2, rfl⟩ : ∃ a2 n2 c2, v2 = .slice a2 n2 c2 := by obtain ⟨a2, c2, h, _⟩ := (RowAt.of_owns ho2 (Nat.le_refl _)).len; exact ⟨_, _, _, h⟩
        have hS2 := hS1.step k2
        have hS3 := hS2.step k3
        have q5 : w3.cell? ⟨s, a * 8 + b, none⟩ = some _ := (k3.cell (p := ⟨s, a * 8 + b, none⟩) hS2.lt).trans q3
        have q6 : w3.frozen? ⟨s, a * 8 + b, none⟩ = false := (k3.frozen (p := ⟨s, a * 8 + b, none⟩) hS2.lt).trans q4
        have k23 := k2.trans (k3.mono k2.size)
        have how := ((Chg.refl s w3).setc ⟨s, a * 8 + b, none⟩ (.slice a2 n2 c2) rfl).owns (owns_below ho1 k3 (Nat.le_refl _)) hS1.lt
        have hset := hS3.set (a * 8 + b) (by omega) _ (RowAt.of_owns ho2 (Nat.le_refl _))
        have hoff : ∀ g, v1.ownBlock = some g → Off g (w3.setCell ⟨s, a * 8 + b, none⟩ (.slice a2 n2 c2)) s := fun g hg => by
          obtain ⟨g1, g2⟩ := owns_block ho1 g hg
          refine Off.set ((hS1.off g1).of (k23.block s hS1.lt)) _ ?_ (by rw [q5]; rfl)
          intro ad n c e hn
          simp only [Value.slice.injEq] at e
          obtain ⟨rfl, _⟩ := e
          have := (owns_block ho2 ad.block rfl).1
          omega
        have HOF := Lib.hid hoff
        have HH := Lib.hid how
        have HT := Lib.hid hset
        clear how hset ho2 ho1 hr hoff
        go_wp2_with fail
        go_ret2
        exact ⟨_, rfl, by rw [ET.out]; exact owns_weaken HH.out k1.size, by rw [ED.out]; exact HT.out, (Chg.of_below (k1.trans (k23.mono k1.size))).setc _ _ rfl, HOF.out⟩
      · obtain ⟨ad, rfl⟩ : ∃ ad, sa = some ad := by
          cases sa with
          | some ad => exact ⟨ad, rfl⟩
          | none => obtain ⟨_, _, e, h, _⟩ := hr; simp only [Value.slice.injEq] at e; obtain ⟨rfl, _, rfl⟩ := e; have := h.2 rfl; omega
        go_wp2_with fail
        refine (clone_ok _ [] w2.heap.size w2 (Nat.le_refl _) (by simp) ⟨_, _, rfl, ⟨Nat.zero_le _, fun h => by cases h⟩, .inl rfl⟩).mono ?_
        rintro e w3 ⟨v2, rfl, ho2, k3⟩
        obtain ⟨a2, n2, c2, rfl⟩ : ∃ a2 n2 c2, v2 = .slice a2 n2 c2 := by obtain ⟨a2, c2, h, _⟩ := (RowAt.of_owns ho2 (Nat.le_refl _)).len; exact ⟨_, _, _, h⟩
        have hS2 := hS1.step k2
        have hS3 := hS2.step k3
        have q5 : w3.cell? ⟨s, a * 8 + b, none⟩ = some _ := (k3.cell (p := ⟨s, a * 8 + b, none⟩) hS2.lt).trans q3
        have q6 : w3.frozen? ⟨s, a * 8 + b, none⟩ = false := (k3.frozen (p := ⟨s, a * 8 + b, none⟩) hS2.lt).trans q4
        have k23 := k2.trans (k3.mono k2.size)
        have how := ((Chg.refl s w3).setc ⟨s, a * 8 + b, none⟩ (.slice a2 n2 c2) rfl).owns (owns_below ho1 k3 (Nat.le_refl _)) hS1.lt
        have hset := hS3.set (a * 8 + b) (by omega) _ (RowAt.of_owns ho2 (Nat.le_refl _))
        have hoff : ∀ g, v1.ownBlock = some g → Off g (w3.setCell ⟨s, a * 8 + b, none⟩ (.slice a2 n2 c2)) s := fun g hg => by
          obtain ⟨g1, g2⟩ := owns_block ho1 g hg
          refine Off.set ((hS1.off g1).of (k23.block s hS1.lt)) _ ?_ (by rw [q5]; rfl)
          intro ad n c e hn
          simp only [Value.slice.injEq] at e
          obtain ⟨rfl, _⟩ := e
          have := (owns_block ho2 ad.block rfl).1
          omega
        have HOF := Lib.hid hoff
        have HH := Lib.hid how
        have HT := Lib.hid hset
        clear how hset ho2 ho1 hr hoff
        go_wp2_with fail
        go_ret2
        exact ⟨_, rfl, by rw [ET.out]; exact owns_weaken HH.out k1.size, by rw [ED.out]; exact HT.out, (Chg.of_below (k1.trans (k23.mono k1.size))).setc _ _ rfl, HOF.out⟩
    · obtain ⟨bb, off, rfl, hbb, _⟩ := hr.geti 3 (by omega)
      have h4' : (4 : Int) ≤ l.length := by omega
      rw [← List.take_append_drop 4 l] at hr
      have hl4 : (l.take 4).length = 4 := by rw [List.length_take]; omega
      have hr1 := hr
      rw [List.take_append_drop 4 l] at hr
      have hf := RowAt.front (cap' := sc) hr1 4 (by omega) hl4
      have HR1 := Lib.hid hr1
      clear hr1
      have HL4 := Lib.hid hl4
      have hld : (l.drop 4).length = l.length - 4 := List.length_drop
      have HLD := Lib.hid hld
      clear hl4 hld
      have hfr : RowAt w1.heap.size w1 (.slice (some ⟨bb, off, none⟩) 4 sc) (l.take 4).length (intVals .i64 (l.take 4)) := by rw [HL4.out]; exact hf
      clear hf
      go_wp2_with fail
      refine (clone_ok _ (l.take 4) w1.heap.size w1 (Nat.le_refl _) (by rw [HL4.out]; omega) hfr).mono ?_; rintro e w2 ⟨v1, rfl, ho1, k2⟩
      clear hfr
      have q3 : w2.cell? ⟨s, a * 8 + b, none⟩ = some (.slice (some ⟨bb, off, none⟩) l.length sc) := (k2.cell (p := ⟨s, a * 8 + b, none⟩) hS1.lt).trans q1
      have q4 : w2.frozen? ⟨s, a * 8 + b, none⟩ = false := (k2.frozen (p := ⟨s, a * 8 + b, none⟩) hS1.lt).trans q2
      have hr2 := HR1.out.below k2 (Nat.le_refl _)
      have HR2 := Lib.hid hr2
      clear hr2
      by_cases hsc' : sc = 4
      · have hsc9 : l.length = 4 := by subst hsc'; omega
        subst hsc'
        have hrr : RowAt w2.heap.size w2 (.slice (some ⟨bb, off, none⟩) 0 0) (l.drop 4).length (intVals .i64 (l.drop 4)) := by
          rw [show l.drop 4 = [] from List.drop_of_length_le (by omega)]
          exact ⟨_, 0, rfl, ⟨Nat.le_refl _, fun h => by cases h⟩, .inl rfl⟩
        have HRR := Lib.hid hrr
        clear hrr hsc9
        go_wp2_with fail
        refine (clone_ok _ (l.drop 4) w2.heap.size w2 (Nat.le_refl _) (by rw [HLD.out]; omega) HRR.out).mono ?_
        rintro e w3 ⟨v2, rfl, ho2, k3⟩
        obtain ⟨a2, n2, c2, rfl⟩ : ∃ a2 n2 c2, v2 = .slice a2 n2 c2 := by obtain ⟨a2, c2, h, _⟩ := (RowAt.of_owns ho2 (Nat.le_refl _)).len; exact ⟨_, _, _, h⟩
        have hS2 := hS1.step k2
        have hS3 := hS2.step k3
        have q5 : w3.cell? ⟨s, a * 8 + b, none⟩ = some _ := (k3.cell (p := ⟨s, a * 8 + b, none⟩) hS2.lt).trans q3
        have q6 : w3.frozen? ⟨s, a * 8 + b, none⟩ = false := (k3.frozen (p := ⟨s, a * 8 + b, none⟩) hS2.lt).trans q4
        have k23 := k2.trans (k3.mono k2.size)
        have how := ((Chg.refl s w3).setc ⟨s, a * 8 + b, none⟩ (.slice a2 n2 c2) rfl).owns (owns_below ho1 k3 (Nat.le_refl _)) hS1.lt
        have hset := hS3.set (a * 8 + b) (by omega) _ (RowAt.of_owns ho2 (Nat.le_refl _))
        have hoff : ∀ g, v1.ownBlock = some g → Off g (w3.setCell ⟨s, a * 8 + b, none⟩ (.slice a2 n2 c2)) s := fun g hg => by
          obtain ⟨g1, g2⟩ := owns_block ho1 g hg
          refine Off.set ((hS1.off g1).of (k23.block s hS1.lt)) _ ?_ (by rw [q5]; rfl)
          intro ad n c e hn
          simp only [Value.slice.injEq] at e
          obtain ⟨rfl, _⟩ := e
          have := (owns_block ho2 ad.block rfl).1
          omega
        have HOF := Lib.hid hoff
        have HH := Lib.hid how
        have HT := Lib.hid hset
        clear how hset ho2 ho1 hr hoff
        go_wp2_with fail
        go_ret2
        exact ⟨_, rfl, owns_weaken HH.out k1.size, HT.out, (Chg.of_below (k1.trans (k23.mono k1.size))).setc _ _ rfl, HOF.out⟩
      · have hrr : RowAt w2.heap.size w2 (.slice (some ⟨bb, off + 4, none⟩) (l.length - 4) (sc - 4)) (l.drop 4).length (intVals .i64 (l.drop 4)) := by
          rw [HLD.out]
          exact (HR2.out.rear (l.length - 4) 4 (by omega) HL4.out).mono k2.size
        have HRR := Lib.hid hrr
        clear hrr
        go_wp2_with fail
        refine (clone_ok _ (l.drop 4) w2.heap.size w2 (Nat.le_refl _) (by rw [HLD.out]; omega) HRR.out).mono ?_
        rintro e w3 ⟨v2, rfl, ho2, k3⟩
        obtain ⟨a2, n2, c2, rfl⟩ : ∃ a2 n2 c2, v2 = .slice a2 n2 c2 := by obtain ⟨a2, c2, h, _⟩ := (RowAt.of_owns ho2 (Nat.le_refl _)).len; exact ⟨_, _, _, h⟩
        have hS2 := hS1.step k2
        have hS3 := hS2.step k3
        have q5 : w3.cell? ⟨s, a * 8 + b, none⟩ = some _ := (k3.cell (p := ⟨s, a * 8 + b, none⟩) hS2.lt).trans q3
        have q6 : w3.frozen? ⟨s, a * 8 + b, none⟩ = false := (k3.frozen (p := ⟨s, a * 8 + b, none⟩) hS2.lt).trans q4
        have k23 := k2.trans (k3.mono k2.size)
        have how := ((Chg.refl s w3).setc ⟨s, a * 8 + b, none⟩ (.slice a2 n2 c2) rfl).owns (owns_below ho1 k3 (Nat.le_refl _)) hS1.lt
        have hset := hS3.set (a * 8 + b) (by omega) _ (RowAt.of_owns ho2 (Nat.le_refl _))
        have hoff : ∀ g, v1.ownBlock = some g → Off g (w3.setCell ⟨s, a * 8 + b, none⟩ (.slice a2 n2 c2)) s := fun g hg => by
          obtain ⟨g1, g2⟩ := owns_block ho1 g hg
          refine Off.set ((hS1.off g1).of (k23.block s hS1.lt)) _ ?_ (by rw [q5]; rfl)
          intro ad n c e hn
          simp only [Value.slice.injEq] at e
          obtain ⟨rfl, _⟩ := e
          have := (owns_block ho2 ad.block rfl).1
          omega
        have HOF := Lib.hid hoff
        have HH := Lib.hid how
        have HT := Lib.hid hset
        clear how hset ho2 ho1 hr hoff
        go_wp2_with fail
        go_ret2
        exact ⟨_, rfl, owns_weaken HH.out k1.size, HT.out, (Chg.of_below (k1.trans (k23.mono k1.size))).setc _ _ rfl, HOF.out⟩
  · have hV : splL L t c = [] := by unfold splL; rw [if_neg h0]
    have hA : splAfter L t c = L := by unfold splAfter; rw [if_neg h0]
    have h2 := shErr_two h0
    rw [hV, hA, h2]
    have H2 := Lib.hid h2
    clear hV hA h0 h2
    go_enter Try.func12, Try.ntmps12
    go_wp2_with fail
    refine (shelf_calls hS t c).mono ?_; rintro e w1 ⟨rfl, k1⟩
    rw [H2.out]
    go_wp2_with fail
    go_ret2
    exact ⟨_, rfl, ⟨rfl, .inl ⟨rfl, rfl⟩⟩, hS.step k1, .of_below k1, fun g hg => by cases hg⟩
end Go.Proofs.Ytkilmppmghkigaa
