/-
  Package window: the first kind that fits.
-/
import Derived.Test.YtcgdipkmcgionaaWinD
import Derived.Test.YtcgdipkmcgionaaWinP
import Derived.Laws.EntriesVeiled
namespace Go.Proofs.Ytcgdipkmcgionaa
open Go.RowKit
set_option maxHeartbeats 1000000

theorem ask (i : Nat) (s page : Int) (pb gb : Nat) (hs : slotI s = true) (hp : inI 65536 page = true) (w : World) (hpb : w.cell? ⟨pb, 0, none⟩ = some (.int .i64 s)) (hgb : w.cell? ⟨gb, 0, none⟩ = some (.int .i64 page)) :
    Calls Try.prog 32 #[.agg #[.int .i64 (i + 1), .func (.func (kindF i)) #[] #[]], .pointer (some ⟨pb, 0, none⟩), .pointer (some ⟨gb, 0, none⟩)] w (AskPost w (i + 1) s (okI i s page) (clI i s page) (plI i s page)) :=
  Of1_ok (kindF i) (i + 1) s page _ _ _ pb gb hs hp (k_enters i) (fun W => k_all i s page hs hp W) w hpb hgb
theorem first_ok (s page : Int) (pb gb kb : Nat) (hs : slotI s = true) (hp : inI 65536 page = true) (w : World) (hpb : w.cell? ⟨pb, 0, none⟩ = some (.int .i64 s)) (hgb : w.cell? ⟨gb, 0, none⟩ = some (.int .i64 page))
    (hkb : Blk w kb kindCells 62) :
    Calls Try.prog 30 #[.slice (some ⟨kb, 0, none⟩) 4 4, .func (.func 32) #[] #[.pointer (some ⟨pb, 0, none⟩), .pointer (some ⟨gb, 0, none⟩)]] w fun e w' => e = .returned (firstV s page) ∧ Below w.heap.size w w' := by
  have eg := enters_of (P := Try.prog) Try.func32 (by kernel_rfl) rfl
  have lpb := World.block_lt_of_cell? w _ hpb
  have lgb := World.block_lt_of_cell? w _ hgb
  have lkb := hkb.lt
  go_enter Try.func30, Try.ntmps30
  go_wp2_with fail
  go_loopw [5, 11] (fun _ i wr => ∃ k : Nat, k ≤ 4 ∧ i = .int .i64 k ∧ (∀ j, j < k → okI j s page = false) ∧ Below w.heap.size w wr ∧ w.heap.size < wr.heap.size ∧ ∃ x0 x1 x2 x3, Blk wr w.heap.size #[x0, x1, x2, x3] 36) (fun _ i _ => 4 - (intOf i).toNat)
  case atStart => exact ⟨0, by omega, rfl, fun j hj => by omega, (Below.refl _ w).alloc (Nat.le_refl _) _, by simp, _, _, _, _, Blk.new w _ _⟩
  case round =>
    obtain ⟨k, hk, rfl, hn, hb, hz, x0, x1, x2, x3, hB⟩ := hrel
    have HN := Lib.hid hn
    clear hn
    by_cases hlt : k < 4
    · have hkc := hkb.below hb lkb
      obtain ⟨q0, q1⟩ := kind_cells k hlt
      have c0 : wr.cell? ⟨kb, k * 2, none⟩ = some (.int .i64 (k + 1)) := by rw [Nat.mul_comm]; exact hkc.cell _ q0
      have c1 : wr.cell? ⟨kb, k * 2 + 1, none⟩ = some (.func (.func (kindF k)) #[] #[]) := by rw [Nat.mul_comm]; exact hkc.cell _ q1
      clear q0 q1
      have p0 : wr.cell? ⟨pb, 0, none⟩ = some (.int .i64 s) := (hb.cell (p := ⟨pb, 0, none⟩) lpb).trans hpb
      have p1 : wr.cell? ⟨gb, 0, none⟩ = some (.int .i64 page) := (hb.cell (p := ⟨gb, 0, none⟩) lgb).trans hgb
      have hask := fun W (h0 : W.cell? ⟨pb, 0, none⟩ = some (.int .i64 s)) (h1 : W.cell? ⟨gb, 0, none⟩ = some (.int .i64 page)) => ask k s page pb gb hs hp W h0 h1
      generalize kindF k = F at *
      have HA := Lib.hid hask
      clear hask
      have hbn := hb.alloc (Nat.le_of_lt hz) (.cells #[.int .i64 (k + 1), .func (.func F) #[] #[]] 62)
      have hBn := hB.alloc (.cells #[.int .i64 (k + 1), .func (.func F) #[] #[]] 62)
      have hzn : w.heap.size < (wr.alloc (.cells #[.int .i64 (k + 1), .func (.func F) #[] #[]] 62)).heap.size := by simp; omega
      have n0 : (wr.alloc (.cells #[.int .i64 (k + 1), .func (.func F) #[] #[]] 62)).cell? ⟨pb, 0, none⟩ = some (.int .i64 s) := (hbn.cell (p := ⟨pb, 0, none⟩) lpb).trans hpb
      have n1 : (wr.alloc (.cells #[.int .i64 (k + 1), .func (.func F) #[] #[]] 62)).cell? ⟨gb, 0, none⟩ = some (.int .i64 page) := (hbn.cell (p := ⟨gb, 0, none⟩) lgb).trans hgb
      have HC := Lib.hid (HA.out _ n0 n1)
      clear HA
      go_wp2_with fail
      refine (HC.out).mono ?_; rintro e w1 ⟨c', p', rfl, hcp, hb1⟩
      have hB1 := hBn.below hb1 hzn
      have hbw := hbn.trans (hb1.mono (Nat.le_of_lt hzn))
      have hz1 := hb1.size
      have hzw : w.heap.size < w1.heap.size := by omega
      clear c0 c1 n0 n1 p0 p1 hkc hB hBn hbn hb hb1 HC
      have b0 := hB1.cell 0 rfl
      have b1 := hB1.cell 1 rfl
      have b2 := hB1.cell 2 rfl
      have b3 := hB1.cell 3 rfl
      have f0 := hB1.frozen 0
      have f1 := hB1.frozen 1
      have f2 := hB1.frozen 2
      have f3 := hB1.frozen 3
      have HBF := Lib.hid (set4 hB1 (.int .i64 (k + 1)) (.int .i64 s) (.int .i64 c') (.int .i64 p'))
      have HbF := Lib.hid (below4 hbw (Nat.le_refl _) (.int .i64 (k + 1)) (.int .i64 s) (.int .i64 c') (.int .i64 p'))
      by_cases ho : okI k s page = true
      · rw [ho]
        obtain ⟨rfl, rfl⟩ := hcp ho
        have hF := Lib.hid (firstK_hit s page 4 0 k (by omega) (by omega) ho fun j _ hj => HN.out j hj)
        clear hcp ho
        go_wp2_with fail
        have hbW := below4 HbF.out (Nat.le_refl _) (.int .i64 (k + 1)) (.int .i64 s) (.int .i64 (clI k s page)) (.int .i64 (plI k s page))
        refine post_blk4 (set4 HBF.out (.int .i64 (k + 1)) (.int .i64 s) (.int .i64 (clI k s page)) (.int .i64 (plI k s page))) ?_
        intro W' hW d0 d1 d2 d3
        rw [← hW] at hbW
        refine bodyPost_ret (v := .tuple #[siteV (k + 1) s (clI k s page) (plI k s page), .bool true]) ?_ rfl ⟨by unfold firstV; rw [hF.out], hbW⟩
        simp [results, Try.results30, go_sem, siteV, d0, d1, d2, d3]
      · have ho' : okI k s page = false := by simpa using ho
        have HO := Lib.hid ho'
        rw [ho']
        clear hcp ho ho'
        go_wp2_with fail
        go_roundw
        case rel => exact ⟨k + 1, by omega, by go_num, (fun j hj => by rcases Nat.lt_or_ge j k with h | h; exact HN.out j h; rw [show j = k by omega]; exact HO.out), HbF.out, by simp; omega, _, _, _, _, HBF.out⟩
        case measure => simp [intOf]; omega
    · obtain rfl : k = 4 := by omega
      have hF : firstV s page = .tuple #[siteV 0 0 0 0, .bool false] := by unfold firstV; rw [firstK_miss s page 4 0 fun j _ hj => HN.out j (by omega)]
      have b0 := hB.cell 0 rfl
      have b1 := hB.cell 1 rfl
      have b2 := hB.cell 2 rfl
      have b3 := hB.cell 3 rfl
      have f0 := hB.frozen 0
      have f1 := hB.frozen 1
      have f2 := hB.frozen 2
      have f3 := hB.frozen 3
      have HBF := Lib.hid (set4 hB (.int .i64 0) (.int .i64 0) (.int .i64 0) (.int .i64 0))
      have HbF := Lib.hid (below4 hb (Nat.le_refl _) (.int .i64 0) (.int .i64 0) (.int .i64 0) (.int .i64 0))
      clear hB hb HN
      go_wp2_with fail
      have hbW := HbF.out.alloc (by simp; omega) (.cells #[.int .i64 0, .int .i64 0, .int .i64 0, .int .i64 0] 36)
      refine post_blk4 (HBF.out.alloc (.cells #[.int .i64 0, .int .i64 0, .int .i64 0, .int .i64 0] 36)) ?_
      intro W' hW d0 d1 d2 d3
      rw [← hW] at hbW
      refine bodyPost_ret (v := .tuple #[siteV 0 0 0 0, .bool false]) ?_ rfl ⟨by rw [hF], hbW⟩
      simp [results, Try.results30, go_sem, siteV, d0, d1, d2, d3]
end Go.Proofs.Ytcgdipkmcgionaa
