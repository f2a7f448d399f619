/-
  Package window: the first kind that fits.
-/
import Derived.Test.YtlpchcdalfkfcaaGreatBWinP
import Derived.Laws.EntriesVeiled
namespace Go.Proofs.YtlpchcdalfkfcaaGreat
open Go.RowKit
set_option maxHeartbeats 1000000

theorem ask (i : Nat) (s page : Int) (pb gb : Nat) (hs : slotI s = true) (hp : inI 65536 page = true) (w : World) (hpb : w.cell? ⟨pb, 0, none⟩ = some (.int .i64 s)) (hgb : w.cell? ⟨gb, 0, none⟩ = some (.int .i64 page)) :
    Calls Tryz.prog 76 #[.agg #[.int .i64 (i + 1), .func (.func (kindF i)) #[] #[]], .pointer (some ⟨pb, 0, none⟩), .pointer (some ⟨gb, 0, none⟩)] w (AskPost w (i + 1) s (okI i s page) (clI i s page) (plI i s page)) :=
  Of1_ok (kindF i) (i + 1) s page _ _ _ pb gb hs hp (k_enters i) (fun W => k_all i s page hs hp W) w hpb hgb
theorem first_okW (s page : Int) (pb gb kb : Nat) (hs : slotI s = true) (hp : inI 65536 page = true) (w : World) (hpb : w.cell? ⟨pb, 0, none⟩ = some (.int .i64 s)) (hgb : w.cell? ⟨gb, 0, none⟩ = some (.int .i64 page))
    (hkb : Blk w kb kindCells 133) :
    Calls Tryz.prog 74 #[.slice (some ⟨kb, 0, none⟩) 4 4, .func (.func 76) #[] #[.pointer (some ⟨pb, 0, none⟩), .pointer (some ⟨gb, 0, none⟩)]] w fun e w' => e = .returned (firstV s page) ∧ Below w.heap.size w w' := by
  have eg := enters_of (P := Tryz.prog) Tryz.func76 (by kernel_rfl) rfl
  have lpb := World.block_lt_of_cell? w _ hpb
  have lgb := World.block_lt_of_cell? w _ hgb
  have lkb := hkb.lt
  go_enter Tryz.func74, Tryz.ntmps74
  go_wp2_with fail
  go_loopw [5, 11] (fun _ i wr => ∃ k : Nat, k ≤ 4 ∧ i = .int .i64 k ∧ (∀ j, j < k → okI j s page = false) ∧ Below w.heap.size w wr ∧ w.heap.size < wr.heap.size ∧ ∃ x0 x1 x2 x3, Blk wr w.heap.size #[x0, x1, x2, x3] 85) (fun _ i _ => 4 - (intOf i).toNat)
  case atStart => exact ⟨0, by omega, rfl, fun j hj => by omega, (Below.refl _ w).alloc (Nat.le_refl _) _, by simp, _, _, _, _, Blk.new w _ _⟩
  case round =>
    obtain ⟨k, hk, rfl, hn, hb, hz, x0, x1, x2, x3, hB⟩ := hrel
    have HN := Lib.hid hn
    clear hn
    by_cases hlt : k < 4
    · have hkc := hkb.below hb lkb
      obtain ⟨q0, q1⟩ := kind_cells k hlt
      have c0 : wr.cell? ⟨kb, k * 2, none⟩ = some (.int .i64 (k + 1)) := by rw [Nat.mul_comm]; exact hkc.cell _ q0
      have c1 : wr.cell? ⟨kb, k * 2 + 1, none⟩ = some (.func (.func (kindF k)) #[] #[]) := by rw [Nat.mul_comm]; exact hkc.cell _ q1
      clear q0 q1
      have p0 : wr.cell? ⟨pb, 0, none⟩ = some (.int .i64 s) := (hb.cell (p := ⟨pb, 0, none⟩) lpb).trans hpb
      have p1 : wr.cell? ⟨gb, 0, none⟩ = some (.int .i64 page) := (hb.cell (p := ⟨gb, 0, none⟩) lgb).trans hgb
      have hask := fun W (h0 : W.cell? ⟨pb, 0, none⟩ = some (.int .i64 s)) (h1 : W.cell? ⟨gb, 0, none⟩ = some (.int .i64 page)) => ask k s page pb gb hs hp W h0 h1
      generalize kindF k = F at *
      have HA := Lib.hid hask
      clear hask
      have hbn := hb.alloc (Nat.le_of_lt hz) (.cells #[.int .i64 (k + 1), .func (.func F) #[] #[]] 133)
      have hBn := hB.alloc (.cells #[.int .i64 (k + 1), .func (.func F) #[] #[]] 133)
      have hzn : w.heap.size < (wr.alloc (.cells #[.int .i64 (k + 1), .func (.func F) #[] #[]] 133)).heap.size := by simp; omega
      have n0 : (wr.alloc (.cells #[.int .i64 (k + 1), .func (.func F) #[] #[]] 133)).cell? ⟨pb, 0, none⟩ = some (.int .i64 s) := (hbn.cell (p := ⟨pb, 0, none⟩) lpb).trans hpb
      have n1 : (wr.alloc (.cells #[.int .i64 (k + 1), .func (.func F) #[] #[]] 133)).cell? ⟨gb, 0, none⟩ = some (.int .i64 page) := (hbn.cell (p := ⟨gb, 0, none⟩) lgb).trans hgb
      have HC := Lib.hid (HA.out _ n0 n1)
      clear HA
      go_wp2_with fail
      refine (HC.out).mono ?_; rintro e w1 ⟨c', p', rfl, hcp, hb1⟩
      have hB1 := hBn.below hb1 hzn
      have hbw := hbn.trans (hb1.mono (Nat.le_of_lt hzn))
      have hz1 := hb1.size
      have hzw : w.heap.size < w1.heap.size := by omega
      clear c0 c1 n0 n1 p0 p1 hkc hB hBn hbn hb hb1 HC
      have b0 := hB1.cell 0 rfl
      have b1 := hB1.cell 1 rfl
      have b2 := hB1.cell 2 rfl
      have b3 := hB1.cell 3 rfl
      have f0 := hB1.frozen 0
      have f1 := hB1.frozen 1
      have f2 := hB1.frozen 2
      have f3 := hB1.frozen 3
      have HBF := Lib.hid (set4 hB1 (.int .i64 (k + 1)) (.int .i64 s) (.int .i64 c') (.int .i64 p'))
      have HbF := Lib.hid (below4 hbw (Nat.le_refl _) (.int .i64 (k + 1)) (.int .i64 s) (.int .i64 c') (.int .i64 p'))
      by_cases ho : okI k s page = true
      · rw [ho]
        obtain ⟨rfl, rfl⟩ := hcp ho
        have hF := Lib.hid (firstK_hit s page 4 0 k (by omega) (by omega) ho fun j _ hj => HN.out j hj)
        clear hcp ho
        go_wp2_with fail
        have hbW := below4 HbF.out (Nat.le_refl _) (.int .i64 (k + 1)) (.int .i64 s) (.int .i64 (clI k s page)) (.int .i64 (plI k s page))
        refine post_blk4 (set4 HBF.out (.int .i64 (k + 1)) (.int .i64 s) (.int .i64 (clI k s page)) (.int .i64 (plI k s page))) ?_
        intro W' hW d0 d1 d2 d3
        rw [← hW] at hbW
        refine bodyPost_ret (v := .tuple #[siteV (k + 1) s (clI k s page) (plI k s page), .bool true]) ?_ rfl ⟨by unfold firstV; rw [hF.out], hbW⟩
        simp [results, Tryz.results74, go_sem, siteV, d0, d1, d2, d3]
      · have ho' : okI k s page = false := by simpa using ho
        have HO := Lib.hid ho'
        rw [ho']
        clear hcp ho ho'
        go_wp2_with fail
        go_roundw
        case rel => exact ⟨k + 1, by omega, by go_num, (fun j hj => by rcases Nat.lt_or_ge j k with h | h; exact HN.out j h; rw [show j = k by omega]; exact HO.out), HbF.out, by simp; omega, _, _, _, _, HBF.out⟩
        case measure => simp [intOf]; omega
    · obtain rfl : k = 4 := by omega
      have hF : firstV s page = .tuple #[siteV 0 0 0 0, .bool false] := by unfold firstV; rw [firstK_miss s page 4 0 fun j _ hj => HN.out j (by omega)]
      have b0 := hB.cell 0 rfl
      have b1 := hB.cell 1 rfl
      have b2 := hB.cell 2 rfl
      have b3 := hB.cell 3 rfl
      have f0 := hB.frozen 0
      have f1 := hB.frozen 1
      have f2 := hB.frozen 2
      have f3 := hB.frozen 3
      have HBF := Lib.hid (set4 hB (.int .i64 0) (.int .i64 0) (.int .i64 0) (.int .i64 0))
      have HbF := Lib.hid (below4 hb (Nat.le_refl _) (.int .i64 0) (.int .i64 0) (.int .i64 0) (.int .i64 0))
      clear hB hb HN
      go_wp2_with fail
      have hbW := HbF.out.alloc (by simp; omega) (.cells #[.int .i64 0, .int .i64 0, .int .i64 0, .int .i64 0] 85)
      refine post_blk4 (HBF.out.alloc (.cells #[.int .i64 0, .int .i64 0, .int .i64 0, .int .i64 0] 85)) ?_
      intro W' hW d0 d1 d2 d3
      rw [← hW] at hbW
      refine bodyPost_ret (v := .tuple #[siteV 0 0 0 0, .bool false]) ?_ rfl ⟨by rw [hF], hbW⟩
      simp [results, Tryz.results74, go_sem, siteV, d0, d1, d2, d3]
end Go.Proofs.YtlpchcdalfkfcaaGreat

/-
  Package window: the places, one by one.
-/
namespace Go.Proofs.YtlpchcdalfkfcaaGreat
open Go.RowKit
attribute [local go_sem] Oper.semAt_some
set_option maxHeartbeats 1000000

def slotsI : List Int := [0, 1, 2, 3]
theorem slotsI_get (k : Nat) (h : k < slotsI.length) : slotsI[k] = (k : Int) := by
  have h' : k < 4 := h
  match k, h' with
  | 0, _ => rfl
  | 1, _ => rfl
  | 2, _ => rfl
  | 3, _ => rfl
theorem places_calls (w : World) : Calls Tryz.prog 73 #[] w fun e w' => e = .returned (.func (.func 135) #[] #[]) ∧ w = w' := by
  go_enter Tryz.func73, Tryz.ntmps73
  go_wp2
  go_ret
  exact ⟨rfl, rfl⟩
theorem places_iter : IterK Tryz.prog 135 #[] (fun s : Int => #[.agg #[.int .i64 s]]) slotsI (fun _ => True) := by
  intro L J Jx W hJ hJx hA hY h0
  refine calls_in Tryz.func135 rfl ?_; simp only [Tryz.ntmps135, List.size_toArray, List.length_cons, List.length_nil, Nat.reduceAdd, Nat.reduceSub, Array.replicate_succ, Array.replicate_zero, List.push_toArray, List.append_toArray, List.nil_append, List.cons_append]
  gi_wp2
  gi_loopw [3] (fun i wr => ∃ k : Nat, k ≤ 4 ∧ i = .int .i64 k ∧ J (slotsI.take k) wr ∧ W.heap.size ≤ wr.heap.size) (fun i _ => 4 - (intOf i).toNat)
  case atStart => exact ⟨0, by omega, rfl, by simpa using h0, Nat.le_refl _⟩
  case round =>
    obtain ⟨k, hk, rfl, hJk, hsz⟩ := hrel
    by_cases hlt : k < 4
    · have hl : k < slotsI.length := hlt
      have hsp := Lib.hid (split_at _ k hl)
      have htk := Lib.hid (take_next _ k hl)
      obtain ⟨fn, tmps, assign, body, hy, hR⟩ := hY _ _ _ wr hsp.out hJk hsz
      rw [slotsI_get] at hy
      clear hY
      gi_wp2_with fail
      refine (hR _).mono ?_; rintro e W3 (⟨rfl, hJ3, hs3⟩ | ⟨rfl, hJx3, hs3⟩)
      · gi_wp2
        go_roundw
        case rel => exact ⟨k + 1, by omega, by go_num, by rw [htk.out]; exact hJ3, by omega⟩
        case measure => simp [intOf]; omega
      · gi_wp2
        refine bodyPost_ret (results_none rfl _ _ _) rfl ?_
        exact ⟨⟨_, rfl⟩, .inr hJx3⟩
    · obtain rfl : k = 4 := by omega
      gi_wp2
      go_end0
      exact ⟨⟨_, rfl⟩, .inl (by rw [List.take_of_length_le (by decide)] at hJk; exact hJk)⟩
end Go.Proofs.YtlpchcdalfkfcaaGreat

/-
  Package pinfoldref10: Of.
-/
namespace Go.Proofs.YtlpchcdalfkfcaaGreat
open Go.RowKit
set_option maxHeartbeats 1000000

theorem cells4 {W : World} {b : Nat} {x0 x1 x2 x3 : Value} {t : TypeId} (h : Blk W b #[x0, x1, x2, x3] t) :
    W.cell? ⟨b, 0, none⟩ = some x0 ∧ W.cell? ⟨b, 1, none⟩ = some x1 ∧ W.cell? ⟨b, 2, none⟩ = some x2 ∧ W.cell? ⟨b, 3, none⟩ = some x3 := ⟨h.cell 0 rfl, h.cell 1 rfl, h.cell 2 rfl, h.cell 3 rfl⟩
/-- Below the region c of slot s, or behind its end. -/
def inRegion (page s c : Int) : Bool := decide (4096 * (s + 1) + 1 + 17 * c ≤ page ∧ page < 4096 * (s + 1) + 1 + 17 * c + 16)
theorem ok1_iff (s page : Int) : okI 1 s page = true ↔ ∃ c : Nat, c < 8 ∧ inRegion page s c = true := by
  simp only [okI, ok2, inRegion, decide_eq_true_eq]
  constructor
  · rintro ⟨h1, h2, h3⟩
    exact ⟨((page - 4096 * (s + 1) - 1) / 17).toNat, by omega, by omega⟩
  · rintro ⟨c, hc, h1, h2⟩
    have : (page - 4096 * (s + 1) - 1) / 17 = c := by omega
    omega
end Go.Proofs.YtlpchcdalfkfcaaGreat
