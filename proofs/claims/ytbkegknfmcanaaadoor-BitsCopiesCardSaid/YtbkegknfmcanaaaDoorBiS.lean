/-
  Package pinfoldref04: With, Parse; package pinfoldlaw04: is, finds. Conditions: few marks.
-/
import Derived.Test.YtbkegknfmcanaaaDoorBiQ
namespace Go.Proofs.YtbkegknfmcanaaaDoor
open Go.RowKit
attribute [local go_sem] Oper.semAt_some
set_option maxHeartbeats 4000000
set_option maxRecDepth 8000

theorem owns_setV {W : World} {base g n cap k : Nat} {e : TypeId} {xs : List Value} (h : W.ownsRow base e 1 (.slice (some ⟨g, 0, none⟩) n cap) n xs) (v : Value) :
    W.frozen? ⟨g, k, none⟩ = false ∧ (W.setCell ⟨g, k, none⟩ v).ownsRow base e 1 (.slice (some ⟨g, 0, none⟩) n cap) n (xs.set k v) := by
  obtain ⟨hn, hx⟩ := h
  rcases hx with ⟨h1, _⟩ | ⟨g', cap', cur, e1, hlo, hgb, hnc, hcm, hcs, htk⟩
  · cases h1
  · simp only [Value.slice.injEq, Option.some.injEq, Addr.mk.injEq, true_and, and_true] at e1
    obtain ⟨rfl, rfl⟩ := e1
    have hgb' : Blk W g cur e := hgb
    refine ⟨hgb'.frozen k, by simpa using hn, .inr ⟨g, cap, cur.setIfInBounds k v, by simp, hlo, hgb'.set k _, hnc, hcm, by simpa using hcs, ?_⟩⟩
    rw [Array.toList_setIfInBounds, List.take_set, htk]
theorem With_ok (v : Value) (L : List Bool) (B : Nat) (k : Nat) (b : Bool) (w : World) (hB : B ≤ w.heap.size) (hl : L.length ≤ 4096) (hk : k < L.length) (hv : RowAt B w v L.length (bvals L)) :
    Calls Tryd.prog 45 #[v, .int .i64 k, .bool b] w fun e w' => ∃ v', e = .returned v' ∧ w'.ownsRow w.heap.size 4 1 v' L.length (bvals (L.set k b)) ∧ Below w.heap.size w w' := by
  have H1 := Lib.hid hv
  obtain ⟨a1, c1, rfl, _⟩ := hv.len
  have HIL := Lib.hid (bvals_len L)
  have hv9 := hv
  have i0 : (0 : Int) ≤ k := by omega
  have i1 : (k : Int) < L.length := by omega
  clear hv
  go_enter Tryd.func45, Tryd.ntmps45
  go_wp2_with (at_builtin; refine wpList_append_row rfl _ _ 34 rfl w.heap.size Tryd.underlying34 infoB 0 [] rfl ?c1 B L.length (bvals L) rfl ?c2 ?c3 ?c4 ?c5 ?c6 ?c7 ?_)
  case c1 => exact World.ownsRow_made w #[] 0 (Nat.le_refl _) (by decide) rfl
  case c2 => exact hv9.below ((Below.refl _ w).alloc (Nat.le_refl _) _) hB
  case c3 => rw [HIL.out]; omega
  case c4 => exact bvals_one _
  case c5 => unfold maxLen; omega
  case c6 => omega
  case c7 => simp
  intro v1 w1 ho1 hg1
  have hb1 : Below w.heap.size w w1 := ((Below.refl _ w).alloc (Nat.le_refl _) _).grown hg1 (by simp) (fun k e => by cases e; exact Nat.le_refl _)
  clear hg1 hv9
  obtain ⟨g, cap', rfl, hgb, hgl⟩ := World.ownsRow.form ho1 (by omega)
  have hcl : ∃ old, w1.cell? ⟨g, k, none⟩ = some old := ⟨_, (World.ownsRow.cellAt ho1 k (by omega)).trans (List.getElem?_eq_getElem (by simp [bvals]; omega))⟩
  obtain ⟨old, hcl⟩ := hcl
  obtain ⟨hfz, ho2⟩ := owns_setV (k := k) ho1 (.bool b)
  have hb2 := hb1.setCell (p := ⟨g, k, none⟩) hgb (.bool b)
  have HO := Lib.hid (show (w1.setCell ⟨g, k, none⟩ (.bool b)).ownsRow w.heap.size 4 1 (.slice (some ⟨g, 0, none⟩) L.length cap') L.length (bvals (L.set k b)) by
    have : bvals (L.set k b) = (bvals L).set k (.bool b) := by simp [bvals]
    rw [this]; simpa using ho2)
  clear ho1 ho2
  go_wp2_with fail
  go_ret
  exact ⟨_, rfl, HO.out, hb2⟩
theorem is_ok {B : Nat} {w0 w : World} {lo hi s : Nat} {L : List Bool} {v : Value} (h : Run B w0 w lo hi s L) (hv : RowAt w.heap.size w v L.length (bvals L)) :
    Calls Tryd.prog 18 #[.pointer (some ⟨s, 0, none⟩), v] w fun e w' => e = .returned (.bool true) ∧ Below w.heap.size w w' := by
  have H := Lib.hid h
  have HV := Lib.hid hv
  have hfew := h.few
  have hle := sucL_le L 0 true
  have hc := sucL_cnt L
  have HP := Lib.hid (Places_ok v L w.heap.size true w (Nat.le_refl _) (by omega) hv)
  have HAl := Lib.hid (fun W (k : Below w.heap.size w W) => all_ok (h.step k).v 5000 (by omega) (by decide))
  have HCn := Lib.hid (fun W (k : Below w.heap.size w W) => Count_ok (h.step k).sh hfew)
  rw [← hc] at HCn
  obtain ⟨va, vc, rfl, _⟩ := hv.len
  obtain ⟨P, hP⟩ : ∃ P, sucL L 0 true = P := ⟨_, rfl⟩
  rw [hP] at HP HAl HCn hle
  have HR := Lib.hid (fun W (k : Below w.heap.size w W) => rText_ok (.slice va L.length vc) L w.heap.size W k.size hfew (hv.below k (Nat.le_refl _)))
  have HT := Lib.hid (fun W (k : Below w.heap.size w W) => Text_ok (h.step k).sh hfew)
  obtain ⟨tx, htx⟩ : ∃ t, (⟨(txtB L).toArray⟩ : ByteArray) = t := ⟨_, rfl⟩
  rw [htx] at HR HT
  clear h hv htx hP hc
  have l1 : (L.length : Int) ≤ 4096 := by omega
  have l2 : (P.length : Int) ≤ 4096 := by omega
  go_enter Tryd.func18, Tryd.ntmps18
  go_wp2_with fail
  refine HP.out.mono ?_; rintro e w1 ⟨v1, rfl, o1, k1⟩
  have r1 : RowAt w1.heap.size w1 v1 P.length (intVals .i64 P) := RowAt.of_owns o1 (Nat.le_refl _)
  obtain ⟨pa, pc, rfl, _⟩ := r1.len
  have R1 := Lib.hid r1
  clear o1 r1
  go_wp2_with fail
  refine (Len_ok (H.out.step k1).sh).mono ?_; rintro e _ ⟨rfl, rfl⟩
  go_wp2_with fail
  refine (HCn.out _ k1).mono ?_; rintro e w2 ⟨rfl, k2⟩
  have K2 := k1.trans (k2.mono k1.size)
  go_wp2_with fail
  refine (HAl.out _ K2).mono ?_; rintro e w3 ⟨v2, rfl, o2, k3⟩
  have K3 := K2.trans (k3.mono K2.size)
  have r2 : RowAt w3.heap.size w3 v2 P.length (intVals .i64 P) := RowAt.of_owns o2 (Nat.le_refl _)
  obtain ⟨qa, qc, rfl, _⟩ := r2.len
  have R2 := Lib.hid r2
  clear o2 r2
  go_wp2_with fail
  refine (ints_ok _ _ P w3.heap.size w1.heap.size w3 (by omega) R2.out ((R1.out.below k2 (Nat.le_refl _)).below k3 k2.size) (Nat.le_refl _) (Nat.le_trans k2.size k3.size)).mono ?_; rintro e w4 ⟨rfl, k4⟩
  have K4 := K3.trans (k4.mono K3.size)
  go_wp2_with fail
  refine (HT.out _ K4).mono ?_; rintro e w5 ⟨rfl, k5⟩
  have K5 := K4.trans (k5.mono K4.size)
  go_wp2_with fail
  refine (HR.out _ K5).mono ?_; rintro e w6 ⟨rfl, k6⟩
  go_wp2_with fail
  go_ret
  exact ⟨rfl, K5.trans (k6.mono K5.size)⟩
end Go.Proofs.YtbkegknfmcanaaaDoor
