/-
  Package pinfoldref07: Read, Write. Conditions: few frames; those that are somebody's have 256 bytes.
-/
import Derived.Test.YtfmkjckckekliaaFrDe
import Derived.Laws.Concat
import Derived.StillTailTactics
namespace Go.Proofs.Ytfmkjckckekliaa
open Go.RowKit
attribute [local go_sem] Oper.semAt_some
set_option maxHeartbeats 1000000
set_option maxRecDepth 8000

theorem str_ext (xs : List Int) (a b : Nat) : (strOfNums xs).extract a b = strOfNums ((xs.drop a).take (b - a)) := by
  unfold strOfNums
  rw [ByteArray.extract_mk, List.map_take, List.map_drop]
theorem str_app (a b : List Int) : strOfNums a ++ strOfNums b = strOfNums (a ++ b) := by
  apply ByteArray.ext
  simp [strOfNums]
theorem as_zero {L : List Df} {fr at_ n : Int} (h : asE L fr at_ n = 0) : 0 ≤ fr ∧ fr < L.length ∧ 0 ≤ at_ ∧ at_ ≤ 256 ∧ 0 ≤ n ∧ n ≤ 256 - at_ ∧ ¬ (L.getD fr.toNat (0, [])).1 < 0 := by
  unfold asE at h
  by_cases h1 : (fr < 0 ∨ (L.length : Int) ≤ fr) ∨ at_ < 0 ∨ 256 < at_ ∨ n < 0 ∨ 256 - at_ < n
  · rw [if_pos h1] at h; exact absurd h (by decide)
  · rw [if_neg h1] at h
    by_cases h2 : (L.getD fr.toNat (0, [])).1 < 0
    · rw [if_pos h2] at h; exact absurd h (by decide)
    · exact ⟨by omega, by omega, by omega, by omega, by omega, by omega, h2⟩
theorem rRead_ok (v : Value) {V : List Int} (L : List Df) (B : Nat) (fr at_ n : Int) (w : World) (hB : B ≤ w.heap.size) (hl : L.length < 1000000) (hV : V.length = 64) (h256 : ∀ x ∈ L, 0 ≤ x.1 → x.2.length = 256) (hv : RowAt B w v L.length (frV L)) :
    Calls Try.prog 46 #[.agg (poolV v V), .int .i64 fr, .int .i64 at_, .int .i64 n] w fun e w' =>
      e = .returned (.tuple #[.string (strOfNums (rdL L fr at_ n)), .int .i64 (asE L fr at_ n)]) ∧ Below w.heap.size w w' := by
  obtain ⟨a1, c1, rfl, _⟩ := hv.len
  obtain ⟨w0, hw0⟩ : ∃ w0, w.alloc (.cells (poolV (.slice a1 L.length c1) V) 54) = w0 := ⟨_, rfl⟩
  have hX : Blk w0 w.heap.size (poolV (.slice a1 L.length c1) V) 54 := by rw [← hw0]; exact Blk.new w _ _
  have k0 : Below w.heap.size w w0 := by rw [← hw0]; exact (Below.refl _ w).alloc (Nat.le_refl _) _
  have H1 := Lib.hid (hv.below k0 hB)
  have HVL := Lib.hid hV
  have H256 := Lib.hid h256
  clear hv hV h256
  go_enter Try.func46, Try.ntmps46
  go_wp2_with (refine wpList_loadB ty65 rfl _ rfl w.heap.size rfl hX (poolV_size _ HVL.out) ?_)
  clear hw0
  have hz := k0.size
  refine (rAsks_ok (.slice a1 L.length c1) V L B fr at_ n w0 (by omega) hl H1.out).mono ?_; rintro e w2 ⟨rfl, k2⟩
  have hX2 := hX.below k2 hX.lt
  have H2 := Lib.hid (H1.out.below k2 (by omega))
  have k3 := k0.trans (k2.mono hz)
  have c0 : w2.cell? ⟨w.heap.size, 0, none⟩ = some (.slice a1 L.length c1) := hX2.cell 0 (poolV_zero _ _)
  obtain ⟨er, her⟩ : ∃ er, asE L fr at_ n = er := ⟨_, rfl⟩
  have HER := Lib.hid her
  rw [her]
  clear hX k2 k0 hX2 H1 her
  by_cases h0 : er = 0
  · subst h0
    obtain ⟨f0, f1, g0, g1, m0, m1, hneg⟩ := as_zero HER.out
    obtain ⟨k, rfl⟩ : ∃ k : Nat, fr = k := ⟨fr.toNat, by omega⟩
    have hk : k < L.length := by omega
    rw [Int.toNat_natCast, getD_at L k hk] at hneg
    have hy256 := H256.out _ (List.getElem_mem hk) (by omega)
    have hrd : rdL L k at_ n = (L[k].2.drop at_.toNat).take n.toNat := by unfold rdL; rw [if_pos HER.out, Int.toNat_natCast, getD_at L k hk]
    have hrw := H2.out
    obtain ⟨b1, o1, rfl, _, q⟩ := hrw.getf k hk
    have q1 := q.c1
    obtain ⟨y, hy⟩ : ∃ y, L[k].2 = y := ⟨_, rfl⟩
    rw [hy] at q1 hy256 hrd
    have hex : (strOfNums y).extract at_.toNat (at_ + n).toNat = strOfNums (rdL L k at_ n) := by rw [str_ext, hrd]; congr 2; omega
    have hsz : (strOfNums y).size = 256 := by rw [strOfNums_size, hy256]
    obtain ⟨S, hS⟩ : ∃ S, strOfNums y = S := ⟨_, rfl⟩
    obtain ⟨T, hT⟩ : ∃ T, strOfNums (rdL L k at_ n) = T := ⟨_, rfl⟩
    rw [hS] at q1 hex hsz
    rw [hT] at hex
    have HT := Lib.hid hT
    have hwr : IntKind.i64.wrap (at_ + n) = at_ + n := IntWalk.i64_in _ (by omega)
    have hsz' : (S.size : Int) = 256 := by omega
    clear q hy hneg hy256 hrd hS hT hrw hsz
    have i0 : (0 : Int) ≤ k := by omega
    go_wp2_with fail
    go_ret2
    exact ⟨by rw [HT.out, HER.out]; rfl, k3⟩
  · have hrd : rdL L fr at_ n = [] := by unfold rdL; rw [if_neg (by rw [HER.out]; exact h0)]
    have HRD := Lib.hid hrd
    clear hrd
    go_wp2_with fail
    go_ret2
    exact ⟨by rw [HRD.out, HER.out]; rfl, k3⟩
/-! ### Write -/
structure WrdS (gx : Nat) (S X : ByteArray) (vb : Value) (Y : World) : Prop where
  c1 : Y.cell? ⟨gx, 1, none⟩ = some (.string S)
  cv : (convert 36 9 vb).run Try.prog Y = .ok (.string X) Y
theorem RS.setO {w0 wr : World} {s : Nat} {v : Value} {V : List Int} {L : List Df} (h : RS w0 wr s v V L) {a : Addr} (ha : s + 2 ≤ a.block) (u : Value) : RS w0 (wr.setCell a u) s v V L := by
  have hb : Below s wr (wr.setCell a u) := (Below.refl s wr).setCell (p := a) (by omega) _
  exact ⟨h.t.setOther a u (by omega), h.r.setOther a u (by omega), h.row.below hb (Nat.le_refl _), h.bel.trans hb, by simpa using h.sz⟩
theorem rWrite_ok (v : Value) {V : List Int} (L : List Df) (B : Nat) (fr at_ : Int) (xs : List Int) (vb : Value) (w : World) (hB : B ≤ w.heap.size) (hl : L.length < 1000000) (hV : V.length = 64) (h256 : ∀ x ∈ L, 0 ≤ x.1 → x.2.length = 256) (hv : RowAt B w v L.length (frV L)) (hvb : RowAt B w vb xs.length (intVals .u8 xs)) :
    Calls Try.prog 45 #[.agg (poolV v V), .int .i64 fr, .int .i64 at_, vb] w fun e w' =>
      ∃ v', e = .returned (.tuple #[.agg (poolV v' V), .int .i64 (asE L fr at_ xs.length)]) ∧ RowAt w'.heap.size w' v' (wrL L fr at_ xs).length (frV (wrL L fr at_ xs)) ∧ Below w.heap.size w w' := by
  obtain ⟨a1, c1, rfl, _⟩ := hv.len
  obtain ⟨a2, c2, rfl, _⟩ := hvb.len
  obtain ⟨w0, hw0⟩ : ∃ w0, (w.alloc (.cells (poolV (.slice a1 L.length c1) V) 54)).alloc (.cells Try.zeroCells54 54) = w0 := ⟨_, rfl⟩
  have hM := RS.new (V := V) hB hv
  rw [hw0] at hM
  have HVL := Lib.hid hV
  have H256 := Lib.hid h256
  obtain ⟨s, hs⟩ : ∃ s, w.heap.size = s := ⟨_, rfl⟩
  have HS := Lib.hid hs
  rw [hs] at hM hB
  have hvb0 := hvb.below hM.bel hB
  have HVB := Lib.hid (hvb0.mono hB)
  obtain ⟨nx, hnx⟩ : ∃ nx, xs.length = nx := ⟨_, rfl⟩
  have HNX := Lib.hid hnx
  rw [hnx] at HVB ⊢
  clear hv hV h256 hvb hvb0 hnx
  go_enter Try.func45, Try.ntmps45
  go_wp2_with (refine wpList_loadB ty65 rfl _ rfl s rfl hM.t (poolV_size _ HVL.out) ?_)
  clear hw0 hs
  refine (rAsks_ok (.slice a1 L.length c1) V L s fr at_ nx w0 (by have := hM.sz; omega) hl hM.row).mono ?_; rintro e w2 ⟨rfl, k2⟩
  have HV2 := Lib.hid (HVB.out.below k2 (by have := hM.sz; omega))
  replace hM := hM.step k2
  obtain ⟨er, her⟩ : ∃ er, asE L fr at_ nx = er := ⟨_, rfl⟩
  have HER := Lib.hid her
  rw [her]
  clear k2 her HVB
  by_cases h0 : er = 0
  · subst h0
    obtain ⟨f0, f1, g0, g1, m0, m1, hneg⟩ := as_zero HER.out
    obtain ⟨k, rfl⟩ : ∃ k : Nat, fr = k := ⟨fr.toNat, by omega⟩
    have hk : k < L.length := by omega
    rw [Int.toNat_natCast, getD_at L k hk] at hneg
    have hy256 := H256.out _ (List.getElem_mem hk) (by omega)
    have hl2 : wrL L k at_ xs = L.set k (L[k].1, putL L[k].2 at_.toNat xs) := by unfold wrL; rw [HNX.out, if_pos HER.out, Int.toNat_natCast, getD_at L k hk]
    have HM := Lib.hid hM
    have hrw := hM.row
    have c0 : w2.cell? ⟨s, 0, none⟩ = some (.slice a1 L.length c1) := hM.t.cell 0 (poolV_zero _ _)
    obtain ⟨b1, o1, rfl, _, q⟩ := hrw.getf k hk
    obtain ⟨q0, q1⟩ := q
    obtain ⟨y, hy⟩ : ∃ y, L[k].2 = y := ⟨_, rfl⟩
    obtain ⟨ow, how⟩ : ∃ ow, L[k].1 = ow := ⟨_, rfl⟩
    rw [hy] at q1 hy256 hl2
    rw [how] at q0 hl2
    obtain ⟨S, hS⟩ : ∃ S, strOfNums y = S := ⟨_, rfl⟩
    rw [hS] at q1
    have HL2 := Lib.hid hl2
    have HS1 := Lib.hid hS
    have HY := Lib.hid hy256
    clear hy how hl2 hrw hM hneg hS hy256
    have i0 : (0 : Int) ≤ k := by omega
    have ls := HM.out.t.lt
    go_wp2_with fail
    clear c0 q0 q1 ls
    obtain ⟨w3, hw3⟩ : ∃ w3, w2.alloc (.cells #[.int .i64 ow, .string S] 93) = w3 := ⟨_, rfl⟩
    have k3 : Below w2.heap.size w2 w3 := by rw [← hw3]; exact (Below.refl _ w2).alloc (Nat.le_refl _) _
    have hG : Blk w3 w2.heap.size #[.int .i64 ow, .string S] 93 := by rw [← hw3]; exact Blk.new _ _ _
    rw [hw3]
    replace hM := HM.out.step k3
    have hsg : s + 2 ≤ w2.heap.size := HM.out.sz
    have hcv : ∀ Y, Below w2.heap.size w2 Y → (convert 36 9 (.slice a2 nx c2)).run Try.prog Y = .ok (.string (strOfNums xs)) Y := fun Y h => by
      refine run_convert_row (P := Try.prog) (B := s) xs ?_ Try.underlying36 Try.underlying5 Try.underlying9
      rw [HNX.out]
      exact HV2.out.below (h.mono (by omega)) (Nat.le_refl _)
    obtain ⟨gx, hgx⟩ : ∃ gx, w2.heap.size = gx := ⟨_, rfl⟩
    rw [hgx] at hG hsg k3 hcv ⊢
    have hat : at_.toNat ≤ 256 := by omega
    have e1 : S.extract 0 at_.toNat = strOfNums (y.take at_.toNat) := by rw [← HS1.out, str_ext, List.drop_zero, Nat.sub_zero]
    have hss : S.size = 256 := by rw [← HS1.out, strOfNums_size, HY.out]
    have e3 : S.extract (at_ + nx).toNat 256 = strOfNums (y.drop (at_.toNat + nx)) := by
      rw [← HS1.out, str_ext, show (at_ + nx).toNat = at_.toNat + nx by omega, List.take_of_length_le (by rw [List.length_drop, HY.out]; omega)]
    have e4 : strOfNums (y.take at_.toNat) ++ strOfNums xs ++ strOfNums (y.drop (at_.toNat + nx)) = strOfNums (putL y at_.toNat xs) := by
      rw [str_app, str_app, List.append_assoc]; unfold putL; rw [HNX.out]
    have z1 : (strOfNums (y.take at_.toNat)).size = at_.toNat := by rw [strOfNums_size, List.length_take, HY.out]; omega
    have z2 : (strOfNums xs).size = nx := by rw [strOfNums_size, HNX.out]
    have z3 : (strOfNums (y.drop (at_.toNat + nx))).size = 256 - (at_.toNat + nx) := by rw [strOfNums_size, List.length_drop, HY.out]
    obtain ⟨T, hT⟩ : ∃ T, strOfNums (putL y at_.toNat xs) = T := ⟨_, rfl⟩
    have HT := Lib.hid hT
    rw [hT] at e4
    generalize strOfNums (y.take at_.toNat) = S1 at e1 e4 z1
    generalize strOfNums xs = X at e4 z2 hcv
    generalize strOfNums (y.drop (at_.toNat + nx)) = S3 at e3 e4 z3
    obtain ⟨S12, hs12⟩ : ∃ S12, S1 ++ X = S12 := ⟨_, rfl⟩
    have z12 : S12.size = at_.toNat + nx := by rw [← hs12, ByteArray.size_append, z1, z2]
    rw [hs12] at e4
    have hwr : IntKind.i64.wrap (at_ + nx) = at_ + nx := IntWalk.i64_in _ (by omega)
    have z9 : (S.size : Int) = 256 := by omega
    clear hT hw3
    have cx : w3.drew.cell? ⟨gx, 1, none⟩ = some (.string S) := hG.drew.cell 1 rfl
    have cv := hcv _ k3.drew
    have fz := hG.drew.frozen 1
    have n1 : (9223372036854775807 < at_.toNat + nx) = False := eq_false (by omega)
    have n2 : (9223372036854775807 < at_.toNat + nx + (256 - (at_.toNat + nx))) = False := eq_false (by omega)
    have n3 : (0 ≤ at_ + (nx : Int)) = True := eq_true (by omega)
    have n4 : (at_ + (nx : Int) ≤ 256) = True := eq_true (by omega)
    go_still_tail 16, (by kernel_rfl)
    change wpList _ _ _ _ _ w3.drew
    replace hM := hM.step (Below.refl _ w3).drew
    have k4 := k3.drew
    replace hG := hG.drew
    generalize w3.drew = w4 at hM k4 hG cx fz cv ⊢
    have cz : w4.cell? ⟨gx, 0, none⟩ = some (.int .i64 ow) := hG.cell 0 rfl
    have HM5 := Lib.hid (hM.setO (a := ⟨gx, 1, none⟩) hsg (.string T))
    clear hM cv hcv e1 e3 e4 z1 z2 z3 z9 z12 hss n1 n2 n3 n4 hwr hs12 k3 k4 HM hat
    go_wp2_with (refine wpList_loadB ty65 rfl _ rfl s rfl HM5.out.t (poolV_size _ HVL.out) ?_)
    have hM := HM5.out
    have hrow5 := hM.row
    obtain rfl := HT.out
    clear cx cz fz hG HM5
    generalize w4.setCell ⟨gx, 1, none⟩ _ = w5 at hM hrow5 ⊢
    refine (rWith_ok (.slice (some ⟨b1, o1, none⟩) L.length c1) L s k (ow, putL y at_.toNat xs) w5 (by have := hM.sz; omega) hl hk HVL.out hrow5).mono ?_; rintro e w6 ⟨v2, rfl, ho2, k6⟩
    have hsz := hM.sz
    replace hM := hM.step k6
    clear k6 hrow5
    obtain ⟨L2, hL2⟩ : ∃ L2, L.set k (ow, putL y at_.toNat xs) = L2 := ⟨_, rfl⟩
    rw [hL2] at ho2 HL2
    have hv2 := (RowAt.of_owns ho2 (Nat.le_refl _)).one
    have HV1 := Lib.hid hv2
    clear hL2 hv2
    go_wp2_with (refine wpList_storeBG ty65 rfl _ _ rfl (s + 1) (poolV v2 V) rfl rfl hM.r (poolV_size _ rfl) (poolV_size _ HVL.out) (poolV_one HV1.out V) ?_)
    intro w9 hw9
    obtain ⟨hO, hR, hK⟩ := hM.finO hsz ho2 HVL.out hw9
    clear hw9 hM ho2
    go_wp2_with fail
    refine ret_p2 rfl (s + 1) rfl hO (poolV_size _ HVL.out) rfl ?_
    refine ⟨v2, ?_, by rw [HL2.out]; exact hR, by rw [HS.out]; exact hK⟩
    rw [HER.out]; rfl
  · have hrd : wrL L fr at_ xs = L := by unfold wrL; rw [HNX.out, if_neg (by rw [HER.out]; exact h0)]
    have HL2 := Lib.hid hrd
    clear hrd
    go_wp2_with (first | refine wpList_loadB ty65 rfl _ rfl s rfl hM.t (poolV_size _ HVL.out) ?_ | refine wpList_storeBG ty65 rfl _ _ rfl (s + 1) (poolV (.slice a1 L.length c1) V) rfl rfl hM.r (poolV_size _ rfl) (poolV_size _ HVL.out) (poolV_one rfl V) ?_)
    intro w9 hw9
    obtain ⟨hO, hR, hK⟩ := hM.fin hM.row HVL.out hw9
    clear hw9 hM
    go_wp2_with fail
    refine ret_p2 rfl (s + 1) rfl hO (poolV_size _ HVL.out) rfl ?_
    refine ⟨(.slice a1 L.length c1), ?_, by rw [HL2.out]; exact hR, by rw [HS.out]; exact hK⟩
    rw [HER.out]; rfl
end Go.Proofs.Ytfmkjckckekliaa
