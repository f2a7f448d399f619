/-
  Package pinfoldref10: Of.
-/
import Derived.Test.YtcgdipkmcgionaaWinP
namespace Go.Proofs.Ytcgdipkmcgionaa
open Go.RowKit
set_option maxHeartbeats 1000000

theorem cells4 {W : World} {b : Nat} {x0 x1 x2 x3 : Value} {t : TypeId} (h : Blk W b #[x0, x1, x2, x3] t) :
    W.cell? ⟨b, 0, none⟩ = some x0 ∧ W.cell? ⟨b, 1, none⟩ = some x1 ∧ W.cell? ⟨b, 2, none⟩ = some x2 ∧ W.cell? ⟨b, 3, none⟩ = some x3 := ⟨h.cell 0 rfl, h.cell 1 rfl, h.cell 2 rfl, h.cell 3 rfl⟩
theorem rOf_no (page : Int) (hp : inI 65536 page = false) (w : World) : Calls Try.prog 20 #[.int .i64 page] w fun e w' => e = .returned (.tuple #[siteV 0 0 0 0, .int .i64 4]) ∧ Below w.heap.size w w' := by
  have hp' : ¬ (0 ≤ page ∧ page < 65536) := by simpa [inI] using hp
  by_cases h : page < 0
  · have d : decide (page < 0) = true := by simpa using h
    go_enter Try.func20, Try.ntmps20
    go_wp2_with fail
    refine bodyPost_ret (v := .tuple #[siteV 0 0 0 0, .int .i64 4]) ?_ rfl ⟨rfl, (Below.refl _ w).alloc (Nat.le_refl _) _⟩
    simp [results, Try.results20, go_sem, siteV]
  · have d : decide (page < 0) = false := by simpa using h
    have d' : decide (65536 ≤ page) = true := by simp; try omega
    go_enter Try.func20, Try.ntmps20
    go_wp2_with fail
    refine bodyPost_ret (v := .tuple #[siteV 0 0 0 0, .int .i64 4]) ?_ rfl ⟨rfl, (Below.refl _ w).alloc (Nat.le_refl _) _⟩
    simp [results, Try.results20, go_sem, siteV]
/-- Below the region c of slot s, or behind its end. -/
def inRegion (page s c : Int) : Bool := decide (4096 * (s + 1) + 1 + 17 * c ≤ page ∧ page < 4096 * (s + 1) + 1 + 17 * c + 16)
theorem ok1_iff (s page : Int) : okI 1 s page = true ↔ ∃ c : Nat, c < 8 ∧ inRegion page s c = true := by
  simp only [okI, ok2, inRegion, decide_eq_true_eq]
  constructor
  · rintro ⟨h1, h2, h3⟩
    exact ⟨((page - 4096 * (s + 1) - 1) / 17).toNat, by omega, by omega⟩
  · rintro ⟨c, hc, h1, h2⟩
    have : (page - 4096 * (s + 1) - 1) / 17 = c := by omega
    omega
theorem rOf_ok (page : Int) (hp : inI 65536 page = true) (w : World) : Calls Try.prog 20 #[.int .i64 page] w fun e w' => e = .returned (.tuple #[ofV page, .int .i64 0]) ∧ Below w.heap.size w w' := by
  have hp' : 0 ≤ page ∧ page < 65536 := by simpa [inI] using hp
  obtain ⟨hp1, hp2⟩ := hp'
  have d : decide (page < 0) = false := by simp; try omega
  have d' : decide (65536 ≤ page) = false := by simp; try omega
  obtain ⟨w0, hw0⟩ : ∃ w0, w.alloc (Obj.cells #[Value.int .i64 0, Value.int .i64 0, Value.int .i64 0, Value.int .i64 0] 36) = w0 := ⟨_, rfl⟩
  have hB : Blk w0 w.heap.size #[Value.int .i64 0, Value.int .i64 0, Value.int .i64 0, Value.int .i64 0] 36 := by rw [← hw0]; exact Blk.new w _ _
  have hb : Below w.heap.size w w0 := by rw [← hw0]; exact (Below.refl _ w).alloc (Nat.le_refl _) _
  have hbs : ∀ v0 v1 v2 v3, Below w.heap.size w ((((w0.setCell ⟨w.heap.size, 0, none⟩ v0).setCell ⟨w.heap.size, 1, none⟩ v1).setCell ⟨w.heap.size, 2, none⟩ v2).setCell ⟨w.heap.size, 3, none⟩ v3) := fun v0 v1 v2 v3 =>
    (((hb.setCell (p := ⟨w.heap.size, 0, none⟩) (Nat.le_refl _) v0).setCell (p := ⟨w.heap.size, 1, none⟩) (Nat.le_refl _) v1).setCell (p := ⟨w.heap.size, 2, none⟩) (Nat.le_refl _) v2).setCell (p := ⟨w.heap.size, 3, none⟩) (Nat.le_refl _) v3
  have hBs : ∀ v0 v1 v2 v3, Blk ((((w0.setCell ⟨w.heap.size, 0, none⟩ v0).setCell ⟨w.heap.size, 1, none⟩ v1).setCell ⟨w.heap.size, 2, none⟩ v2).setCell ⟨w.heap.size, 3, none⟩ v3) w.heap.size #[v0, v1, v2, v3] 36 := fun v0 v1 v2 v3 => (((hB.set 0 v0).set 1 v1).set 2 v2).set 3 v3
  obtain ⟨c0, c1, c2, c3⟩ := cells4 hB
  have f0 := hB.frozen 0
  have f1 := hB.frozen 1
  have f2 := hB.frozen 2
  have f3 := hB.frozen 3
  go_enter Try.func20, Try.ntmps20
  go_wp2_with fail
  go_loopw [4] (fun i wr => ∃ k : Nat, k ≤ 4 ∧ i = .int .i64 k ∧ (∀ j : Nat, j < k → firstK j page 0 4 = none) ∧ w0 = wr) (fun i _ => 4 - (intOf i).toNat)
  case atStart => exact ⟨0, by omega, rfl, fun j hj => by omega, rfl⟩
  case round =>
    obtain ⟨k, hk, rfl, hn, rfl⟩ := hrel
    have HN := Lib.hid hn
    clear hn
    by_cases hlt : k < 4
    · have hs : slotI k = true := by simp [slotI]; omega
      have fin : ∀ (i : Nat), firstK k page 0 4 = some i → ofV page = siteV (i + 1) k (clI i k page) (plI i k page) := fun i h => ofK_hit page 4 0 k i (by omega) (by omega) h fun j _ hj => HN.out j hj
      have FIN := Lib.hid fin
      clear fin
      by_cases h0 : okI 0 k page = true
      · have hF := Lib.hid (FIN.out 0 (firstK_0 h0))
        have h0' : 0 ≤ page - (64 * (k : Int) + 1) ∧ page - (64 * (k : Int) + 1) < 48 := by simpa [okI, inI] using h0
        obtain ⟨g1, g2⟩ := h0'
        have e1 : decide (64 * (k : Int) + 1 ≤ page) = true := by simp; try omega
        have e2 : decide (page < 64 * (k : Int) + 1 + 48) = true := by simp; try omega
        go_wp2_with fail
        refine (rBook_calls k hs _).mono ?_; rintro e w' ⟨rfl, rfl⟩
        go_wp2_with fail
        refine (rBook_calls k hs _).mono ?_; rintro e w' ⟨rfl, rfl⟩
        go_wp2_with fail
        refine (rBook_calls k hs _).mono ?_; rintro e w' ⟨rfl, rfl⟩
        go_wp2_with fail
        have hbW := hbs (.int .i64 1) (.int .i64 (k : Int)) (.int .i64 0) (.int .i64 (page - (64 * (k : Int) + 1)))
        refine post_blk4 (hBs (.int .i64 1) (.int .i64 (k : Int)) (.int .i64 0) (.int .i64 (page - (64 * (k : Int) + 1)))) ?_
        intro W' hW q0 q1 q2 q3
        rw [← hW] at hbW
        refine bodyPost_ret (v := .tuple #[siteV 1 k 0 (page - (64 * (k : Int) + 1)), .int .i64 0]) ?_ rfl ⟨by rw [hF.out]; rfl, hbW⟩
        simp [results, Try.results20, go_sem, siteV, q0, q1, q2, q3]
      · have h0' : okI 0 k page = false := by simpa using h0
        clear h0
        have h0n : ¬ (0 ≤ page - (64 * (k : Int) + 1) ∧ page - (64 * (k : Int) + 1) < 48) := by simpa [okI, inI] using h0'
        have H0 := Lib.hid h0'
        clear h0'
        by_cases t1 : 64 * (k : Int) + 1 ≤ page
        · have e1 : decide (64 * (k : Int) + 1 ≤ page) = true := by simpa using t1
          have e2 : decide (page < 64 * (k : Int) + 1 + 48) = false := by simp; try omega
          go_wp2_with fail
          refine (rBook_calls k hs _).mono ?_; rintro e w' ⟨rfl, rfl⟩
          go_wp2_with fail
          refine (rBook_calls k hs _).mono ?_; rintro e w' ⟨rfl, rfl⟩
          go_wp2_with fail
          go_loopw [5] (fun i wr => ∃ q : Nat, q ≤ 8 ∧ i = .int .i64 q ∧ (∀ j : Nat, j < q → inRegion page k j = false) ∧ w0 = wr) (fun i _ => 8 - (intOf i).toNat)
          case atStart => exact ⟨0, by omega, rfl, (fun j hj => by omega), rfl⟩
          case round =>
            obtain ⟨q, hq, rfl, hm, rfl⟩ := hrel
            have HM := Lib.hid hm
            clear hm
            by_cases hq8 : q < 8
            · have hc : inI 8 q = true := by simp [inI]; omega
              by_cases t2 : 4096 * ((k : Int) + 1) + 1 + 17 * (q : Int) ≤ page
              · have e3 : decide (4096 * ((k : Int) + 1) + 1 + 17 * (q : Int) ≤ page) = true := by simpa using t2
                by_cases t3 : page < 4096 * ((k : Int) + 1) + 1 + 17 * (q : Int) + 16
                · have e4 : decide (page < 4096 * ((k : Int) + 1) + 1 + 17 * (q : Int) + 16) = true := by simpa using t3
                  have h1 : okI 1 k page = true := (ok1_iff _ _).2 ⟨q, hq8, by simp [inRegion]; omega⟩
                  have hF := Lib.hid (FIN.out 1 (firstK_1 H0.out h1))
                  have hcl := Lib.hid (show (page - 4096 * ((k : Int) + 1) - 1) / 17 = q by omega)
                  have hpl := Lib.hid (show (page - 4096 * ((k : Int) + 1) - 1) % 17 = page - (4096 * ((k : Int) + 1) + 1 + 17 * (q : Int)) by omega)
                  clear h1
                  go_wp2_with fail
                  refine (rRegion_calls k q hs hc _).mono ?_; rintro e w' ⟨rfl, rfl⟩
                  go_wp2_with fail
                  refine (rRegion_calls k q hs hc _).mono ?_; rintro e w' ⟨rfl, rfl⟩
                  go_wp2_with fail
                  refine (rRegion_calls k q hs hc _).mono ?_; rintro e w' ⟨rfl, rfl⟩
                  go_wp2_with fail
                  have hbW := hbs (.int .i64 2) (.int .i64 (k : Int)) (.int .i64 (q : Int)) (.int .i64 (page - (4096 * ((k : Int) + 1) + 1 + 17 * (q : Int))))
                  refine post_blk4 (hBs (.int .i64 2) (.int .i64 (k : Int)) (.int .i64 (q : Int)) (.int .i64 (page - (4096 * ((k : Int) + 1) + 1 + 17 * (q : Int))))) ?_
                  intro W' hW q0 q1 q2 q3
                  rw [← hW] at hbW
                  refine bodyPost_ret (v := .tuple #[siteV 2 k (q : Int) (page - (4096 * ((k : Int) + 1) + 1 + 17 * (q : Int))), .int .i64 0]) ?_ rfl ⟨by rw [hF.out]; simp only [clI, plI]; rw [hcl.out, hpl.out]; rfl, hbW⟩
                  simp [results, Try.results20, go_sem, siteV, q0, q1, q2, q3]
                · have e4 : decide (page < 4096 * ((k : Int) + 1) + 1 + 17 * (q : Int) + 16) = false := by simpa using t3
                  have HR := Lib.hid (show inRegion page k q = false by simp [inRegion]; omega)
                  go_wp2_with fail
                  refine (rRegion_calls k q hs hc _).mono ?_; rintro e w' ⟨rfl, rfl⟩
                  go_wp2_with fail
                  refine (rRegion_calls k q hs hc _).mono ?_; rintro e w' ⟨rfl, rfl⟩
                  go_wp2_with fail
                  go_roundw
                  case rel => exact ⟨q + 1, by omega, by go_num, (fun j hj => by rcases Nat.lt_or_ge j q with h | h; exact HM.out j h; rw [show j = q by omega]; exact HR.out), by trivial⟩
                  case measure => simp [intOf]; omega
              · have e3 : decide (4096 * ((k : Int) + 1) + 1 + 17 * (q : Int) ≤ page) = false := by simpa using t2
                have HR := Lib.hid (show inRegion page k q = false by simp [inRegion]; omega)
                go_wp2_with fail
                refine (rRegion_calls k q hs hc _).mono ?_; rintro e w' ⟨rfl, rfl⟩
                go_wp2_with fail
                go_roundw
                case rel => exact ⟨q + 1, by omega, by go_num, (fun j hj => by rcases Nat.lt_or_ge j q with h | h; exact HM.out j h; rw [show j = q by omega]; exact HR.out), by trivial⟩
                case measure => simp [intOf]; omega
            · obtain rfl : q = 8 := by omega
              have H1 := Lib.hid (show okI 1 k page = false by
                rcases hh : okI 1 k page with _ | _
                · rfl
                · obtain ⟨c, hc8, hc⟩ := (ok1_iff _ _).1 hh
                  rw [HM.out c (by omega)] at hc; cases hc)
              by_cases u1 : 256 ≤ page - 4096 * ((k : Int) + 1)
              · have e5 : decide (256 ≤ page - 4096 * ((k : Int) + 1)) = true := by simpa using u1
                by_cases u2 : page - 4096 * ((k : Int) + 1) < 4096
                · have e6 : decide (page - 4096 * ((k : Int) + 1) < 4096) = true := by simpa using u2
                  have h2 : okI 2 k page = true := by simp [okI]; try omega
                  have hF := Lib.hid (FIN.out 2 (firstK_2 H0.out H1.out h2))
                  clear h2
                  go_wp2_with fail
                  refine (rBase_calls k hs _).mono ?_; rintro e w' ⟨rfl, rfl⟩
                  go_wp2_with fail
                  have hbW := hbs (.int .i64 3) (.int .i64 (k : Int)) (.int .i64 0) (.int .i64 (page - 4096 * ((k : Int) + 1)))
                  refine post_blk4 (hBs (.int .i64 3) (.int .i64 (k : Int)) (.int .i64 0) (.int .i64 (page - 4096 * ((k : Int) + 1)))) ?_
                  intro W' hW q0 q1 q2 q3
                  rw [← hW] at hbW
                  refine bodyPost_ret (v := .tuple #[siteV 3 k 0 (page - 4096 * ((k : Int) + 1)), .int .i64 0]) ?_ rfl ⟨by rw [hF.out]; rfl, hbW⟩
                  simp [results, Try.results20, go_sem, siteV, q0, q1, q2, q3]
                · have e6 : decide (page - 4096 * ((k : Int) + 1) < 4096) = false := by simpa using u2
                  have e7 : decide (0 ≤ page - 4096 * ((k : Int) + 1)) = true := by simp; try omega
                  have e8 : decide (page - 4096 * ((k : Int) + 1) < 256) = false := by simp; try omega
                  have h2 : okI 2 k page = false := by simp [okI]; try omega
                  have h3 : okI 3 k page = false := by simp [okI, inI]; try omega
                  have hno := Lib.hid (firstK_n H0.out H1.out h2 h3)
                  clear h2 h3
                  go_wp2_with fail
                  refine (rBase_calls k hs _).mono ?_; rintro e w' ⟨rfl, rfl⟩
                  go_wp2_with fail
                  go_roundw
                  case rel => exact ⟨k + 1, by omega, by go_num, (fun j hj => by rcases Nat.lt_or_ge j k with h | h; exact HN.out j h; rw [show j = k by omega]; exact hno.out), by trivial⟩
                  case measure => simp [intOf]; omega
              · have e5 : decide (256 ≤ page - 4096 * ((k : Int) + 1)) = false := by simpa using u1
                have h2 : okI 2 k page = false := by simp [okI]; try omega
                by_cases u2 : 0 ≤ page - 4096 * ((k : Int) + 1)
                · have e6 : decide (0 ≤ page - 4096 * ((k : Int) + 1)) = true := by simpa using u2
                  have e7 : decide (page - 4096 * ((k : Int) + 1) < 256) = true := by simp; try omega
                  have h3 : okI 3 k page = true := by simp [okI, inI]; try omega
                  have hF := Lib.hid (FIN.out 3 (firstK_3 H0.out H1.out h2 h3))
                  clear h2 h3
                  go_wp2_with fail
                  refine (rBase_calls k hs _).mono ?_; rintro e w' ⟨rfl, rfl⟩
                  go_wp2_with fail
                  have hbW := hbs (.int .i64 4) (.int .i64 (k : Int)) (.int .i64 0) (.int .i64 (page - 4096 * ((k : Int) + 1)))
                  refine post_blk4 (hBs (.int .i64 4) (.int .i64 (k : Int)) (.int .i64 0) (.int .i64 (page - 4096 * ((k : Int) + 1)))) ?_
                  intro W' hW q0 q1 q2 q3
                  rw [← hW] at hbW
                  refine bodyPost_ret (v := .tuple #[siteV 4 k 0 (page - 4096 * ((k : Int) + 1)), .int .i64 0]) ?_ rfl ⟨by rw [hF.out]; rfl, hbW⟩
                  simp [results, Try.results20, go_sem, siteV, q0, q1, q2, q3]
                · have e6 : decide (0 ≤ page - 4096 * ((k : Int) + 1)) = false := by simpa using u2
                  have h3 : okI 3 k page = false := by simp [okI, inI]; try omega
                  have hno := Lib.hid (firstK_n H0.out H1.out h2 h3)
                  clear h2 h3
                  go_wp2_with fail
                  refine (rBase_calls k hs _).mono ?_; rintro e w' ⟨rfl, rfl⟩
                  go_wp2_with fail
                  go_roundw
                  case rel => exact ⟨k + 1, by omega, by go_num, (fun j hj => by rcases Nat.lt_or_ge j k with h | h; exact HN.out j h; rw [show j = k by omega]; exact hno.out), by trivial⟩
                  case measure => simp [intOf]; omega
        · have e1 : decide (64 * (k : Int) + 1 ≤ page) = false := by simpa using t1
          go_wp2_with fail
          refine (rBook_calls k hs _).mono ?_; rintro e w' ⟨rfl, rfl⟩
          go_wp2_with fail
          have hx : page < 4097 := by omega
          go_loopw [5] (fun i wr => ∃ q : Nat, q ≤ 8 ∧ i = .int .i64 q ∧ (∀ j : Nat, j < q → inRegion page k j = false) ∧ w0 = wr) (fun i _ => 8 - (intOf i).toNat)
          case atStart => exact ⟨0, by omega, rfl, (fun j hj => by omega), rfl⟩
          case round =>
            obtain ⟨q, hq, rfl, hm, rfl⟩ := hrel
            have HM := Lib.hid hm
            clear hm
            by_cases hq8 : q < 8
            · have hc : inI 8 q = true := by simp [inI]; omega
              have e3 : decide (4096 * ((k : Int) + 1) + 1 + 17 * (q : Int) ≤ page) = false := by simp; try omega
              have HR := Lib.hid (show inRegion page k q = false by simp [inRegion]; omega)
              go_wp2_with fail
              refine (rRegion_calls k q hs hc _).mono ?_; rintro e w' ⟨rfl, rfl⟩
              go_wp2_with fail
              go_roundw
              case rel => exact ⟨q + 1, by omega, by go_num, (fun j hj => by rcases Nat.lt_or_ge j q with h | h; exact HM.out j h; rw [show j = q by omega]; exact HR.out), by trivial⟩
              case measure => simp [intOf]; omega
            · obtain rfl : q = 8 := by omega
              have H1 := Lib.hid (show okI 1 k page = false by
                rcases hh : okI 1 k page with _ | _
                · rfl
                · obtain ⟨c, hc8, hc⟩ := (ok1_iff _ _).1 hh
                  rw [HM.out c (by omega)] at hc; cases hc)
              have e5 : decide (256 ≤ page - 4096 * ((k : Int) + 1)) = false := by simp; try omega
              have e6 : decide (0 ≤ page - 4096 * ((k : Int) + 1)) = false := by simp; try omega
              have h2 : okI 2 k page = false := by simp [okI]; try omega
              have h3 : okI 3 k page = false := by simp [okI, inI]; try omega
              have hno := Lib.hid (firstK_n H0.out H1.out h2 h3)
              clear h2 h3
              go_wp2_with fail
              refine (rBase_calls k hs _).mono ?_; rintro e w' ⟨rfl, rfl⟩
              go_wp2_with fail
              go_roundw
              case rel => exact ⟨k + 1, by omega, by go_num, (fun j hj => by rcases Nat.lt_or_ge j k with h | h; exact HN.out j h; rw [show j = k by omega]; exact hno.out), by trivial⟩
              case measure => simp [intOf]; omega
    · obtain rfl : k = 4 := by omega
      go_wp2_with fail
      have hF : ofV page = siteV 0 0 0 0 := ofK_miss page 4 0 fun j _ hj => HN.out j (by omega)
      have hbW := hbs (.int .i64 0) (.int .i64 0) (.int .i64 0) (.int .i64 0)
      refine post_blk4 (hBs (.int .i64 0) (.int .i64 0) (.int .i64 0) (.int .i64 0)) ?_
      intro W' hW q0 q1 q2 q3
      rw [← hW] at hbW
      refine bodyPost_ret (v := .tuple #[siteV 0 0 0 0, .int .i64 0]) ?_ rfl ⟨by rw [hF], hbW⟩
      simp [results, Try.results20, go_sem, siteV, q0, q1, q2, q3]
end Go.Proofs.Ytcgdipkmcgionaa
