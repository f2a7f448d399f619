/-
 Chapter 15, plain: books that are open: which bytes are reached. No condition.
-/
import Derived.Test.YtlpchcdalfkfcaaGreatBMeV
import Derived.Test.YtlpchcdalfkfcaaGreatBMeO
import Derived.Test.YtlpchcdalfkfcaaGreatBMeZ
namespace Go.Proofs.YtlpchcdalfkfcaaGreat
set_option maxHeartbeats 1000000
set_option maxRecDepth 4000

theorem isSt_iff {x : Int} : isSt x = true ↔ 0 ≤ x ∧ x ≤ 4 := by unfold isSt; simp
theorem bkO_v {t : Int} (h : 0 ≤ t ∧ t < 4) : bkO t = 64 * t + 1 := by unfold bkO slotI; rw [if_pos (decide_eq_true h)]
theorem inB3 {t : Int} (h : 0 ≤ t ∧ t < 4) : inB 3 t = true := inB_iff.2 (by omega)
theorem mapdB_of {s : Ms} {t : Int} (h : 0 ≤ t ∧ t < 4) (hf : ∀ q, 64 * t + 1 ≤ q → q < 64 * t + 49 → hasR s.D q = false) : mapdB s t = false := by
 unfold mapdB
 rw [List.any_eq_false]
 intro x hx
 obtain ⟨i, hi, rfl⟩ := List.mem_map.1 hx
 have hi' := List.mem_range.1 hi
 rw [if_pos hi', hf _ (by rw [bkO_v h]; omega) (by rw [bkO_v h]; omega)]
 decide
theorem opn_ok {s : Ms} (h : MGd s) {t n : Int} (ht : 0 ≤ t ∧ t < 4) (hn : 0 ≤ n ∧ n ≤ 63) (hf : ∀ q, 64 * t + 1 ≤ q → q < 64 * t + 49 → hasR s.D q = false) (hl : 48 ≤ leftI s n) :
  opnE s t n = 0 ∧ OpSp s (opnF s t n) (64 * t + 1) (-1) 0 48 ∧ ∀ q, leftI (opnF s t n) q = leftI s q - (if n = q then 48 else 0) := by
 have e0 : opnE s t n = 0 := by
  unfold opnE
  rw [if_neg (by rw [inB3 ht]; decide), if_neg (by rw [inB_iff.2 (show 0 ≤ n ∧ n ≤ 63 from hn)]; decide), if_neg (by rw [mapdB_of ht hf]; decide), if_neg (by omega)]
 have hp : badOwner n = false := decide_eq_false (by omega)
 obtain ⟨h1, h2, _⟩ := maps_ok h (b := 64 * t + 1) (o := -1) (p := n) (m := 0) 48 hp (by omega) ⟨by omega, by omega⟩ (fun i hi => hf _ (by omega) (by omega)) (by omega) (by omega) 48 (Nat.le_refl _)
 have e1 : opnF s t n = mapsJ s (64 * t + 1) (-1) n 0 48 := by unfold opnF; rw [if_pos e0, bkO_v ht]
 rw [e1]
 exact ⟨e0, h1, fun q => by rw [h2 q]; split <;> simp⟩
/-- A book that is open. -/
structure BkP (s : Ms) (t : Int) : Prop where
 t4 : 0 ≤ t ∧ t < 4
 has : ∀ q, 64 * t + 1 ≤ q → q < 64 * t + 49 → hasR s.D q = true
 own : ∀ q, 64 * t + 1 ≤ q → q < 64 * t + 49 → (getE s.D q).o = -1
theorem BkP.of {s s' : Ms} {t : Int} (ht : 0 ≤ t ∧ t < 4) (h : OpSp s s' (64 * t + 1) (-1) 0 48) : BkP s' t :=
 ⟨ht, fun q h1 h2 => by rw [h.has, decide_eq_true (by omega)]; rfl, fun q h1 h2 => (h.own q h1 (by omega)).1⟩
theorem BkP.keep {s s' : Ms} {t t' : Int} (h' : BkP s t') (h : OpSp s s' (64 * t + 1) (-1) 0 48) (hne : t ≠ t') : BkP s' t' :=
 ⟨h'.t4, fun q h1 h2 => by rw [h.has, h'.has q h1 h2, Bool.or_true], fun q h1 h2 => by rw [h.get q (by omega)]; exact h'.own q h1 h2⟩
theorem BkP.d {s s' : Ms} {t : Int} (h : BkP s t) (e : s'.D = s.D) : BkP s' t := ⟨h.t4, by rw [e]; exact h.has, by rw [e]; exact h.own⟩
theorem BkP.op {s : Ms} {t : Int} (h : BkP s t) : opB s t = true := by
 unfold opB
 have := h.t4
 rw [bkO_v h.t4, h.has _ (by omega) (by omega), h.own _ (by omega) (by omega)]
 decide
theorem BkP.reach {s : Ms} {t : Int} (h : BkP s t) {a n m : Int} (h0 : 256 * (64 * t + 1) ≤ a) (h1 : a + n ≤ 256 * (64 * t + 49)) (hn : 1 ≤ n) : rchE s.D (-2) a n m = 0 := by
 have := h.t4
 refine (rchE_zero (by omega)).2 ⟨by omega, by decide, by omega, fun x h2 h3 => ?_⟩
 unfold rchB
 rw [h.has _ (by omega) (by omega)]
 rfl
theorem BkP.rd {s : Ms} {t : Int} (h : BkP s t) (hg : MGd s) {a n : Int} (h0 : 256 * (64 * t + 1) ≤ a) (h1 : a + n ≤ 256 * (64 * t + 49)) (hn : 1 ≤ n) : rdA s (-2) a n = (List.range n.toNat).map fun (i : Nat) => byF s.D s.F (a + i) := by
 have := h.t4
 rw [hg.rd (-2) a n (by omega), if_pos (h.reach h0 h1 hn)]
theorem BkP.wr {s : Ms} {t : Int} (h : BkP s t) (hg : MGd s) {a : Int} {bs : List Int} (h0 : 256 * (64 * t + 1) ≤ a) (h1 : a + bs.length ≤ 256 * (64 * t + 49)) (hn : 1 ≤ bs.length) : MGd (wrS s (-2) a bs) ∧ WrtSp s (wrS s (-2) a bs) a bs := by
 have := h.t4
 obtain ⟨g, _, q⟩ := hg.wr (-2) a bs (by omega)
 exact ⟨g, q (h.reach h0 h1 (by omega))⟩
/-- What was written is read. -/
theorem BkP.wrrd {s : Ms} {t : Int} (h : BkP s t) (hg : MGd s) {a : Int} {bs : List Int} (h0 : 256 * (64 * t + 1) ≤ a) (h1 : a + bs.length ≤ 256 * (64 * t + 49)) (hn : 1 ≤ bs.length) : rdA (wrS s (-2) a bs) (-2) a bs.length = bs := by
 obtain ⟨g, w⟩ := h.wr hg h0 h1 hn
 rw [(h.d w.d.1).rd g h0 h1 (by omega)]
 refine List.ext_getElem? fun i => ?_
 rw [List.getElem?_map]
 by_cases hi : i < bs.length
 ·rw [List.getElem?_range (by omega), Option.map_some, w.at_ _ (h.has _ (by omega) (by omega)), if_pos (by omega), List.getElem?_eq_getElem hi, show ((a + (i : Int)) - a).toNat = i by omega, List.getD_eq_getElem?_getD, List.getElem?_eq_getElem hi]
  rfl
 ·rw [List.getElem?_eq_none (by simp; omega), List.getElem?_eq_none (by omega)]
  rfl
/-- What stands elsewhere is read as before. -/
theorem BkP.wrother {s : Ms} {t : Int} (h : BkP s t) (hg : MGd s) {a : Int} {bs : List Int} {t' : Int} (h' : BkP s t') {a' n : Int} (h0 : 256 * (64 * t + 1) ≤ a) (h1 : a + bs.length ≤ 256 * (64 * t + 49)) (hn : 1 ≤ bs.length)
  (h0' : 256 * (64 * t' + 1) ≤ a') (h1' : a' + n ≤ 256 * (64 * t' + 49)) (hn' : 1 ≤ n) (hd : a + bs.length ≤ a' ∨ a' + n ≤ a) : rdA (wrS s (-2) a bs) (-2) a' n = rdA s (-2) a' n := by
 obtain ⟨g, w⟩ := h.wr hg h0 h1 hn
 have := h.t4
 have := h'.t4
 rw [(h'.d w.d.1).rd g h0' h1' hn', h'.rd hg h0' h1' hn']
 refine List.map_congr_left fun i hi => ?_
 have hi' := List.mem_range.1 hi
 rw [w.at_ _ (h'.has _ (by omega) (by omega)), if_neg (by omega)]
/-- The memory that the law makes. -/
def memS : Ms := ⟨100, [], [(63, 100)], []⟩
theorem memS_left : leftI memS 63 = 100 := by decide
theorem memS_has (q : Int) : hasR memS.D q = false := rfl
/-- Where a spot's record stands. -/
def spA (t c i : Int) : Int := 256 * (64 * t + 1) + (768 * c + 8 * i)
/-- Where a great record stands. -/
def grA (t i : Int) : Int := 256 * (64 * t + 1) + (6144 + 16 * i)
theorem cnt_96 {c : Int} (h : 0 ≤ c ∧ c < 8) : 14 ≤ cntIM c ∧ cntIM c ≤ 85 := by
 rcases cls8 h.1 h.2 with rfl | rfl | rfl | rfl | rfl | rfl | rfl | rfl <;> decide
theorem spA_bd {t c i : Int} (h : spE t c i = 0) : 256 * (64 * t + 1) ≤ spA t c i ∧ spA t c i + 8 ≤ 256 * (64 * t + 1) + 6144 := by
 obtain ⟨⟨h1, h2⟩, h3⟩ := spE_zero.1 h
 have := cnt_96 h2
 unfold spA
 omega
theorem grA_bd {t i : Int} (h : 0 ≤ i ∧ i ≤ 383) : 256 * (64 * t + 1) + 6144 ≤ grA t i ∧ grA t i + 16 ≤ 256 * (64 * t + 49) := by unfold grA; omega
theorem spA_disj {t c i t' c' i' : Int} (h : spE t c i = 0) (h' : spE t' c' i' = 0) (hne : ¬ (t = t' ∧ c = c' ∧ i = i')) : spA t c i + 8 ≤ spA t' c' i' ∨ spA t' c' i' + 8 ≤ spA t c i := by
 obtain ⟨⟨h1, h2⟩, h3⟩ := spE_zero.1 h
 obtain ⟨⟨h1', h2'⟩, h3'⟩ := spE_zero.1 h'
 have := cnt_96 h2
 have := cnt_96 h2'
 unfold spA
 rcases Int.lt_trichotomy t t' with ht | ht | ht
 ·left; omega
 ·subst ht
  rcases Int.lt_trichotomy c c' with hc | hc | hc
  ·left; omega
  ·subst hc
   rcases Int.lt_trichotomy i i' with hi | hi | hi
   ·left; omega
   ·exact absurd ⟨rfl, rfl, hi⟩ hne
   ·right; omega
  ·right; omega
 ·right; omega
theorem grA_disj {t i t' i' : Int} (h : 0 ≤ i ∧ i ≤ 383) (h' : 0 ≤ i' ∧ i' ≤ 383) (hne : ¬ (t = t' ∧ i = i')) : grA t i + 16 ≤ grA t' i' ∨ grA t' i' + 16 ≤ grA t i := by
 unfold grA
 rcases Int.lt_trichotomy t t' with ht | ht | ht
 ·left; omega
 ·subst ht
  rcases Int.lt_trichotomy i i' with hi | hi | hi
  ·left; omega
  ·exact absurd ⟨rfl, hi⟩ hne
  ·right; omega
 ·right; omega
theorem spE_in {t c i : Int} (h : spE t c i = 0) : inB 3 t = true ∧ inB 7 c = true ∧ inB (cntO c - 1) i = true ∧ bkO t * 256 + placeI c i = spA t c i := by
 obtain ⟨⟨h1, h2⟩, h3⟩ := spE_zero.1 h
 have := cnt_96 h2
 have hc : inC c = true := inC_iff.2 h2
 have h7 : inB 7 c = true := inB_iff.2 (by omega)
 refine ⟨inB_iff.2 (by omega), h7, inB_iff.2 ?_, ?_⟩
 ·unfold cntO; rw [if_pos hc]; omega
 ·rw [bkO_v h1]
  unfold placeI spA
  rw [if_pos ⟨h7, inB_iff.2 (by omega)⟩]
  omega
theorem far_in {t i : Int} (ht : 0 ≤ t ∧ t < 4) (h : 0 ≤ i ∧ i ≤ 383) : bkO t * 256 + (6144 + 16 * min (max 0 i) 384) = grA t i := by
 rw [bkO_v ht]
 unfold grA
 omega
end Go.Proofs.YtlpchcdalfkfcaaGreat


/-
 Chapter 15, plain: the bytes of records, there and back. No condition.
-/
namespace Go.Proofs.YtlpchcdalfkfcaaGreat
set_option maxHeartbeats 1000000
set_option maxRecDepth 4000

theorem bytesI_0 (n : Int) : bytesI n 0 = [] := rfl
theorem bytesI_1 (n : Int) : bytesI n 1 = [n % 256] := by rw [bytesI_cons, bytesI_0]
theorem bytesI_2 (n : Int) : bytesI n 2 = [n % 256, n / 256 % 256] := by rw [bytesI_cons, bytesI_1]
theorem bytesI_4 (n : Int) : bytesI n 4 = [n % 256, n / 256 % 256, n / 256 / 256 % 256, n / 256 / 256 / 256 % 256] := by rw [bytesI_cons, bytesI_cons, bytesI_2]
def bytR (st sz nc : Int) : List Int := bytesI st 1 ++ (bytesI 0 1 ++ (bytesI sz 2 ++ bytesI nc 4))
theorem bytR_len (st sz nc : Int) : (bytR st sz nc).length = 8 := by simp [bytR, bytesI_len]
theorem bytR_bd (st sz nc : Int) : ∀ x ∈ bytR st sz nc, 0 ≤ x ∧ x < 256 := by
 intro x hx
 simp only [bytR, List.mem_append] at hx
 rcases hx with h | h | h | h <;> exact bytesI_bd _ _ x h
theorem recV_byt {st sz nc : Int} (h : rgtR st sz = true) (hn : 0 ≤ nc ∧ nc < 4294967296) : recV (bytR st sz nc) = .agg #[.int .i64 st, .int .i64 sz, .int .u32 nc] ∧ recN (bytR st sz nc) = 0 := by
 unfold rgtR at h
 rw [Bool.and_eq_true, isSt_iff, inB_iff] at h
 have e : bytR st sz nc = [st, 0, sz % 256, sz / 256, nc % 256, nc / 256 % 256, nc / 256 / 256 % 256, nc / 256 / 256 / 256] := by
  unfold bytR
  rw [bytesI_1, bytesI_1, bytesI_2, bytesI_4, show st % 256 = st by omega, show sz / 256 % 256 = sz / 256 by omega, show nc / 256 / 256 / 256 % 256 = nc / 256 / 256 / 256 by omega]
  rfl
 have ok : recOk (bytR st sz nc) = true := by
  rw [e]
  unfold recOk
  exact Bool.and_eq_true_iff.2 ⟨decide_eq_true rfl, isSt_iff.2 h.1⟩
 have j : recJ (bytR st sz nc) 4 = (st, sz, nc) := by
  rw [e]
  simp only [recJ, List.getD_cons_zero, List.getD_cons_succ]
  rw [if_pos (by decide), if_pos (by decide), if_pos (by decide), show sz % 256 + 256 * (sz / 256) = sz by omega, show nc % 256 + 256 * (nc / 256 % 256 + 256 * (nc / 256 / 256 % 256 + 256 * (nc / 256 / 256 / 256))) = nc by omega]
 unfold recV recN
 rw [if_pos ok, if_pos ok, j]
 exact ⟨rfl, rfl⟩
end Go.Proofs.YtlpchcdalfkfcaaGreat


/-
 Package meta: great records: which may be, where they stand, their questions. Conditions: a memory's books in order.
-/
namespace Go.Proofs.YtlpchcdalfkfcaaGreat
open Go.RowKit Go.ChangeShapes
attribute [local go_sem] Oper.semAt_some
set_option maxHeartbeats 8000000
set_option maxRecDepth 8000

variable {w0 w : World} {k : Mb} {s : Ms}
theorem mfits_two (b n m : Int) (w : World) : Calls Tryz.prog 46 #[.int .i64 b, .slice (some ⟨w.heap.size, 0, none⟩) 2 2] (w.alloc (.cells #[.int .i64 n, .int .i64 m] 3)) fun e w' => e = .returned (.bool (inB b n && inB b m)) ∧ Below w.heap.size w w' := by
 have hB := Blk.new w #[.int .i64 n, .int .i64 m] 3
 refine (mfits_ok b [n, m] w.heap.size 2 _ rfl (Nat.le_of_ble_eq_true rfl) (fun i hi => ?_) hB.lt).mono fun e w' ⟨h1, h2⟩ => ⟨by rw [h1]; simp, ((Below.refl _ w).alloc (Nat.le_refl _) _).trans (h2.mono (by simp))⟩
 match i, hi with
 | 0, _ => exact hB.cell 0 rfl
 | 1, _ => exact hB.cell 1 rfl
def rgtG (st pg sz fi : Int) : Bool := isSt st && (inB 262144 sz && (inB 65535 pg && inB 65535 fi))
theorem mrightG_calls (st pg sz fi : Int) (w : World) : Calls Tryz.prog 122 #[.agg #[.int .i64 st, .int .i64 pg, .int .i64 sz, .int .i64 fi]] w fun e w' => e = .returned (.bool (rgtG st pg sz fi)) ∧ Below w.heap.size w w' := by
 obtain ⟨w1, hw1⟩ : ∃ w1, w.alloc (.cells #[.int .i64 st, .int .i64 pg, .int .i64 sz, .int .i64 fi] 54) = w1 := ⟨_, rfl⟩
 have hB : Blk w1 w.heap.size #[.int .i64 st, .int .i64 pg, .int .i64 sz, .int .i64 fi] 54 := by rw [← hw1]; exact Blk.new w _ _
 have k1 : Below w.heap.size w w1 := by rw [← hw1]; exact (Below.refl _ w).alloc (Nat.le_refl _) _
 have c0 := hB.cell 0 (v := .int .i64 st) rfl
 unfold rgtG
 go_enter Tryz.func122, Tryz.ntmps122
 go_wp2_with fail
 clear hw1
 refine (mknown_calls st _).mono ?_; rintro e w2 ⟨rfl, k2⟩
 have hB2 := hB.below k2 hB.lt
 have kk := k1.trans (k2.mono k1.size)
 clear c0 k2 hB k1
 have c2 := hB2.cell 2 (v := .int .i64 sz) rfl
 cases hs : isSt st
 ·have HS := Lib.hid hs
  clear hs
  go_wp2_with fail
  go_ret
  exact ⟨by rw [HS.out]; rfl, kk⟩
 ·have HS := Lib.hid hs
  clear hs
  go_wp2_with fail
  refine (mfits_one 262144 sz w2).mono ?_; rintro e w3 ⟨rfl, k3⟩
  have hB3 := hB2.below k3 hB2.lt
  have k4 := kk.trans (k3.mono kk.size)
  clear c2 k3 hB2 kk
  have c1 := hB3.cell 1 (v := .int .i64 pg) rfl
  have c3 := hB3.cell 3 (v := .int .i64 fi) rfl
  cases hz : inB 262144 sz
  ·have HZ := Lib.hid hz
   clear hz
   go_wp2_with fail
   go_ret
   exact ⟨by rw [HS.out, HZ.out]; rfl, k4⟩
  ·have HZ := Lib.hid hz
   clear hz
   go_wp2_with fail
   refine (mfits_two 65535 pg fi w3).mono ?_; rintro e w4 ⟨rfl, k5⟩
   have k6 := k4.trans (k5.mono k4.size)
   go_wp2_with fail
   go_ret
   exact ⟨by rw [HS.out, HZ.out]; rfl, k6⟩
def parG : Array Value := #[.int .i64 1, .func (.func 114) #[] #[], .func (.func 115) #[] #[], .int .i64 1, .nilFunc, .nilFunc,
 .int .i64 2, .func (.func 116) #[] #[], .func (.func 117) #[] #[], .int .i64 4, .func (.func 118) #[] #[], .func (.func 119) #[] #[],
 .int .i64 4, .func (.func 120) #[] #[], .func (.func 121) #[] #[], .int .i64 4, .nilFunc, .nilFunc]
theorem mputG1_calls {w : World} {p q g : Nat} {st pg sz fi : Int} (hp : Blk w p #[.slice (some ⟨g, 0, none⟩) 6 6, .func (.func 122) #[] #[]] 112) (hq : Blk w q #[.int .i64 st, .int .i64 pg, .int .i64 sz, .int .i64 fi] 54) :
  Calls Tryz.prog 126 #[.pointer (some ⟨p, 0, none⟩), .pointer (some ⟨q, 0, none⟩)] w fun e w' => e = .returned (.bool (!rgtG st pg sz fi)) ∧ Below w.heap.size w w' := by
 have c1 : w.cell? ⟨p, 1, none⟩ = some (.func (.func 122) #[] #[]) := hp.cell 1 rfl
 have d0 := hq.cell 0 (v := .int .i64 st) rfl
 have d1 := hq.cell 1 (v := .int .i64 pg) rfl
 have d2 := hq.cell 2 (v := .int .i64 sz) rfl
 have d3 := hq.cell 3 (v := .int .i64 fi) rfl
 have eg := enters_of (P := Tryz.prog) Tryz.func122 (by kernel_rfl) rfl
 clear hp hq
 go_enter Tryz.func126, Tryz.ntmps126
 go_wp2_with fail
 refine (mrightG_calls st pg sz fi w).mono ?_; rintro e w1 ⟨rfl, k⟩
 go_wp2_with fail
 go_ret
 exact ⟨rfl, k⟩
theorem shpG_info : (Tryz.prog.info? 112).map (·.size) = some 2 := by kernel_rfl
theorem ret_shG {fn : Func} {R : Ending → World → Prop} {a : Act} {w : World} {p : Tmp} (h : fn.results = #[.cell p 112]) (g : Nat) {cs : Array Value} {t : TypeId} (hp : a.tmps.getD p undef = .pointer (some ⟨g, 0, none⟩))
  (hB : Blk w g cs t) (hs : cs.size = 2) (hd : a.defers = []) (hR : R (.returned (.agg cs)) w) : bodyPost Tryz.prog fn R .ret a w := by
 refine bodyPost_ret (v := .agg cs) ?_ hd hR
 have hp' : a.tmps[p]?.getD undef = .pointer (some ⟨g, 0, none⟩) := by simpa using hp
 have hl : (loadVar 112 ⟨g, 0, none⟩).run Tryz.prog w = .ok (.agg cs) w := run_loadVar_row w g t _ cs (0, 0) _ hB Tryz.underlying112 rfl (by rw [hs]; exact shpG_info)
 simp [results, h, hp', asAddr, hl]
theorem greats_calls (w : World) : Calls Tryz.prog 55 #[] w fun e w' => ∃ g, e = .returned (.agg #[.slice (some ⟨g, 0, none⟩) 6 6, .func (.func 122) #[] #[]]) ∧ Blk w' g parG 178 ∧ Below w.heap.size w w' := by
 go_enter Tryz.func55, Tryz.ntmps55
 go_wp2_with fail
 exact ret_shG Tryz.results55 w.heap.size (by rfl) ((Blk.new w _ _).alloc _) rfl rfl ⟨_, rfl, Blk.newAt _ _ _ (by simp), ((Below.refl _ w).alloc (Nat.le_refl _) _).alloc (by simp) _⟩
def farI (i : Int) : Int := 6144 + 16 * min (max 0 i) 384
theorem far_bd (i : Int) : 6144 ≤ farI i ∧ farI i ≤ 12288 := by unfold farI; omega
theorem far_calls (i : Int) (w : World) : Calls Tryz.prog 56 #[.int .i64 i] w fun e w' => e = .returned (.int .i64 (farI i)) ∧ w = w' := by
 go_enter Tryz.func56, Tryz.ntmps56
 go_wp2_with fail
 go_ret
 exact ⟨rfl, rfl⟩
theorem greatly_calls (i : Int) (w : World) : Calls Tryz.prog 57 #[.int .i64 i] w fun e w' => ∃ p, e = .returned (.agg #[.func (.func 123) #[] #[.pointer (some ⟨p, 0, none⟩)], .int .i64 4]) ∧
  Blk w' p #[.int .i64 i] 3 ∧ Below w.heap.size w w' := by
 go_enter Tryz.func57, Tryz.ntmps57
 go_wp2_with fail
 exact bodyPost_ret (v := .agg #[.func (.func 123) #[] #[.pointer (some ⟨w.heap.size, 0, none⟩)], .int .i64 4]) (by simp [results, Tryz.results57, go_sem]) rfl
  ⟨_, rfl, (Blk.new w _ _).alloc _, ((Below.refl _ w).alloc (Nat.le_refl _) _).alloc (by simp) _⟩
theorem greatly1_calls {i : Int} {p : Nat} {w : World} (h : Blk w p #[.int .i64 i] 3) : Calls Tryz.prog 123 #[.pointer (some ⟨p, 0, none⟩)] w fun e w' => e = .returned (.bool (!inB 383 i)) ∧ Below w.heap.size w w' := by
 have c1 : w.cell? ⟨p, 0, none⟩ = some (.int .i64 i) := h.cell 0 rfl
 clear h
 go_enter Tryz.func123, Tryz.ntmps123
 go_wp2_with fail
 refine (mfits_one 383 i w).mono ?_; rintro e w1 ⟨rfl, k⟩
 go_wp2_with fail
 go_ret
 exact ⟨rfl, k⟩
def grtAsks (pi : Nat) (i : Int) : List AskP := [⟨123, #[], #[.pointer (some ⟨pi, 0, none⟩)], 4, !inB 383 i⟩]
theorem grt_answers {W : World} {pi : Nat} {i : Int} (hI : Blk W pi #[.int .i64 i] 3) : AnswersP W (grtAsks pi i) := by
 constructor
 ·intro i h args W
  match i, h with
  | 0, _ => exact enters_of Tryz.func123 (by kernel_rfl) rfl args W
 ·intro j hj X _ kx
  match j, hj with
  | 0, _ => exact greatly1_calls (hI.below kx hI.lt)
/-- What is wrong with getting, putting a great record. -/
def getG (s : Ms) (t i : Int) : Int := if inB 3 t = false then 2 else if inB 383 i = false then 4 else if opB s t = false then 5 else 0
theorem mputGE_eq (pi : Nat) (s : Ms) (t i : Int) (rg : Bool) : putE s t (!rg) (grtAsks pi i) = if inB 3 t = false ∨ rg = false then 2 else getG s t i := by
 unfold putE getG grtAsks
 cases inB 3 t <;> cases rg <;> cases inB 383 i <;> cases opB s t <;> simp [firstErrP]
end Go.Proofs.YtlpchcdalfkfcaaGreat

