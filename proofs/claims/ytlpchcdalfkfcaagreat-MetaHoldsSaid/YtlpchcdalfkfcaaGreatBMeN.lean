/-
 Package state: what states are called. No condition.
-/
import Derived.Test.YtlpchcdalfkfcaaGreatBMeP
import Derived.Test.YtlpchcdalfkfcaaGreatBMeI
namespace Go.Proofs.YtlpchcdalfkfcaaGreat
open Go.RowKit
attribute [local go_sem] Oper.semAt_some
set_option maxHeartbeats 4000000
set_option maxRecDepth 8000

def isSt (x : Int) : Bool := decide (0 ≤ x ∧ x ≤ 4)
theorem right1_calls (x : Int) (w : World) : Calls Tryz.prog 214 #[.int .i64 x] w fun e w' => e = .returned (.bool (!isSt x)) ∧ w = w' := by
 by_cases h0 : x < 0
 ·have hb : isSt x = false := by simp [isSt]; omega
  rw [hb]; clear hb
  go_enter Tryz.func214, Tryz.ntmps214
  go_wp2_with fail
  go_ret
  exact ⟨rfl, rfl⟩
 ·by_cases h1 : 4 < x
  ·have hb : isSt x = false := by simp [isSt]; omega
   rw [hb]; clear hb
   go_enter Tryz.func214, Tryz.ntmps214
   go_wp2_with fail
   go_ret
   exact ⟨rfl, rfl⟩
  ·have hb : isSt x = true := by simp [isSt]; omega
   rw [hb]; clear hb
   go_enter Tryz.func214, Tryz.ntmps214
   go_wp2_with fail
   go_ret
   exact ⟨rfl, rfl⟩
theorem contains_calls (b off n cap : Nat) (l : List Int) (w : World) (hn : l.length = n) (hl : n < 100) (hc : ∀ i (h : i < l.length), w.cell? ⟨b, off + i, none⟩ = some (.int .i64 l[i])) :
  Calls Tryz.prog 216 #[.slice (some ⟨b, off, none⟩) n cap, .func (.func 214) #[] #[]] w fun e w' => ∃ k : Int, e = .returned (.int .i64 k) ∧ (decide (0 ≤ k)) = !(l.all isSt) ∧ w = w' := by
 subst hn
 have HC := Lib.hid hc
 clear hc
 obtain ⟨d, hd⟩ : ∃ d, l.all isSt = d := ⟨_, rfl⟩
 rw [hd]
 have HD := Lib.hid hd
 clear hd
 go_enter Tryz.func216, Tryz.ntmps216
 go_wp2_with fail
 go_loopw [8] (fun i wr => ∃ k : Nat, k ≤ l.length ∧ i = .int .i64 k ∧ w = wr ∧ ∀ j (h : j < l.length), j < k → isSt l[j] = true) (fun i _ => l.length - (intOf i).toNat)
 case atStart => exact ⟨0, by omega, rfl, rfl, fun j _ hj => by omega⟩
 case round =>
  obtain ⟨k, hk, rfl, rfl, hn⟩ := hrel
  have HN := Lib.hid hn
  clear hn
  by_cases hlt : k < l.length
  ·have q := HC.out k hlt
   obtain ⟨x, hx⟩ : ∃ x, l[k] = x := ⟨_, rfl⟩
   rw [hx] at q
   have HX := Lib.hid hx
   clear hx
   have i0 : (0 : Int) ≤ k := by omega
   have i1 : (k : Int) < l.length := by omega
   go_wp2_with fail
   refine (right1_calls x w).mono ?_; rintro e _ ⟨rfl, rfl⟩
   cases hs : isSt x with
   | true =>
    have HS := Lib.hid hs
    clear hs
    go_wp2_with fail
    refine ⟨⟨k + 1, by omega, by go_num, trivial, fun j h hj => ?_⟩, by simp [intOf]; omega⟩
    by_cases e : j = k
    ·subst e; rw [HX.out]; exact HS.out
    ·exact HN.out j h (by omega)
   | false =>
    have hdf : d = false := by
     rw [← HD.out, List.all_eq_false]
     exact ⟨x, HX.out ▸ List.getElem_mem hlt, by rw [hs]; simp⟩
    subst hdf
    clear hs
    go_wp2_with fail
    go_ret
    exact ⟨_, rfl, by simp, rfl⟩
  ·obtain rfl : k = l.length := by omega
   have hdf : d = true := by
    rw [← HD.out, List.all_eq_true]
    intro x hx
    obtain ⟨i, hi, rfl⟩ := List.getElem_of_mem hx
    exact HN.out i hi hi
   subst hdf
   go_wp2_with fail
   go_ret
   exact ⟨_, rfl, by simp, rfl⟩
theorem contains2_calls (b off n cap : Nat) (l : List Int) (w : World) (hn : l.length = n) (hl : n < 100) (hc : ∀ i (h : i < l.length), w.cell? ⟨b, off + i, none⟩ = some (.int .i64 l[i])) :
  Calls Tryz.prog 213 #[.slice (some ⟨b, off, none⟩) n cap, .func (.func 214) #[] #[]] w fun e w' => e = .returned (.bool (!(l.all isSt))) ∧ w = w' := by
 obtain ⟨d, hd⟩ : ∃ d, l.all isSt = d := ⟨_, rfl⟩
 rw [hd]
 have HC := Lib.hid hc
 have HD := Lib.hid hd
 clear hc hd
 go_enter Tryz.func213, Tryz.ntmps213
 go_wp2_with fail
 refine (contains_calls b off n cap l w hn hl HC.out).mono ?_; rintro e _ ⟨k, rfl, hk, rfl⟩
 rw [HD.out] at hk
 by_cases h0 : 0 ≤ k
 ·have : d = false := by rw [decide_eq_true h0] at hk; simpa using hk.symm
  subst this
  have hd0 : decide (0 ≤ k) = true := decide_eq_true h0
  clear hk
  go_wp2_with fail
  go_ret
  exact ⟨by simp [h0], rfl⟩
 ·have : d = true := by rw [decide_eq_false h0] at hk; simpa using hk.symm
  subst this
  clear hk
  go_wp2_with fail
  go_ret
  exact ⟨by simp [h0], rfl⟩
theorem right_calls (b off n cap : Nat) (l : List Int) (w : World) (hn : l.length = n) (hl : n < 100) (hc : ∀ i (h : i < l.length), w.cell? ⟨b, off + i, none⟩ = some (.int .i64 l[i])) :
  Calls Tryz.prog 205 #[.slice (some ⟨b, off, none⟩) n cap] w fun e w' => e = .returned (.bool (l.all isSt)) ∧ w = w' := by
 obtain ⟨d, hd⟩ : ∃ d, l.all isSt = d := ⟨_, rfl⟩
 rw [hd]
 have HC := Lib.hid hc
 have HD := Lib.hid hd
 clear hc hd
 go_enter Tryz.func205, Tryz.ntmps205
 go_wp2_with fail
 refine (contains2_calls b off n cap l w hn hl HC.out).mono ?_; rintro e _ ⟨rfl, rfl⟩
 rw [HD.out]
 cases d
 ·go_wp2_with fail
  go_ret
  exact ⟨rfl, rfl⟩
 ·go_wp2_with fail
  go_ret
  exact ⟨rfl, rfl⟩
theorem right_one {W : World} {b : Nat} {x : Int} {t : TypeId} (hB : Blk W b #[.int .i64 x] t) : Calls Tryz.prog 205 #[.slice (some ⟨b, 0, none⟩) 1 1] W fun e w' => e = .returned (.bool (isSt x)) ∧ W = w' := by
 have := right_calls b 0 1 1 [x] W rfl (by omega) (by intro i h; match i, h with | 0, _ => exact hB.cell 0 rfl)
 simpa using this
/-- What states are called. -/
def nameS (x : Int) : ByteArray := if x = 0 then ⟨#[102, 114, 101, 101]⟩ else if x = 1 then ⟨#[107, 101, 112, 116]⟩ else if x = 2 then ⟨#[108, 105, 118, 101]⟩ else if x = 3 then ⟨#[104, 101, 108, 100]⟩ else if x = 4 then ⟨#[103, 111, 110, 101]⟩ else ⟨#[]⟩
theorem isSt_cases {x : Int} (h : isSt x = true) : x = 0 ∨ x = 1 ∨ x = 2 ∨ x = 3 ∨ x = 4 := by unfold isSt at h; have := of_decide_eq_true h; omega
theorem nameS_no {x : Int} (h : isSt x = false) : nameS x = ⟨#[]⟩ := by
 have := of_decide_eq_false h
 unfold nameS
 rw [if_neg (by omega), if_neg (by omega), if_neg (by omega), if_neg (by omega), if_neg (by omega)]
theorem run_nm0 (w : World) : (Instr.index 251 (.agg #[.string ⟨#[102, 114, 101, 101]⟩, .string ⟨#[107, 101, 112, 116]⟩, .string ⟨#[108, 105, 118, 101]⟩, .string ⟨#[104, 101, 108, 100]⟩, .string ⟨#[103, 111, 110, 101]⟩]) (.int .i64 0)).run Tryz.prog w = .ok (.string (nameS 0)) w := by kernel_rfl
theorem run_nm1 (w : World) : (Instr.index 251 (.agg #[.string ⟨#[102, 114, 101, 101]⟩, .string ⟨#[107, 101, 112, 116]⟩, .string ⟨#[108, 105, 118, 101]⟩, .string ⟨#[104, 101, 108, 100]⟩, .string ⟨#[103, 111, 110, 101]⟩]) (.int .i64 1)).run Tryz.prog w = .ok (.string (nameS 1)) w := by kernel_rfl
theorem run_nm2 (w : World) : (Instr.index 251 (.agg #[.string ⟨#[102, 114, 101, 101]⟩, .string ⟨#[107, 101, 112, 116]⟩, .string ⟨#[108, 105, 118, 101]⟩, .string ⟨#[104, 101, 108, 100]⟩, .string ⟨#[103, 111, 110, 101]⟩]) (.int .i64 2)).run Tryz.prog w = .ok (.string (nameS 2)) w := by kernel_rfl
theorem run_nm3 (w : World) : (Instr.index 251 (.agg #[.string ⟨#[102, 114, 101, 101]⟩, .string ⟨#[107, 101, 112, 116]⟩, .string ⟨#[108, 105, 118, 101]⟩, .string ⟨#[104, 101, 108, 100]⟩, .string ⟨#[103, 111, 110, 101]⟩]) (.int .i64 3)).run Tryz.prog w = .ok (.string (nameS 3)) w := by kernel_rfl
theorem run_nm4 (w : World) : (Instr.index 251 (.agg #[.string ⟨#[102, 114, 101, 101]⟩, .string ⟨#[107, 101, 112, 116]⟩, .string ⟨#[108, 105, 118, 101]⟩, .string ⟨#[104, 101, 108, 100]⟩, .string ⟨#[103, 111, 110, 101]⟩]) (.int .i64 4)).run Tryz.prog w = .ok (.string (nameS 4)) w := by kernel_rfl
theorem Name_ok (x : Int) (w : World) : Calls Tryz.prog 179 #[.int .i64 x] w fun e w' => e = .returned (.string (nameS x)) ∧ Below w.heap.size w w' := by
 have hB := Blk.new w #[.int .i64 x] 45
 have hb : Below w.heap.size w (w.alloc (.cells #[.int .i64 x] 45)) := (Below.refl _ w).alloc (Nat.le_refl _) _
 cases h : isSt x with
 | false =>
  rw [nameS_no h]
  have H := Lib.hid h
  clear h
  go_enter Tryz.func179, Tryz.ntmps179
  go_wp2_with fail
  refine (right_one hB).mono ?_; rintro e _ ⟨rfl, rfl⟩
  rw [H.out]
  go_wp2_with fail
  go_ret
  exact ⟨rfl, hb⟩
 | true =>
  rcases isSt_cases h with rfl | rfl | rfl | rfl | rfl
  ·clear h
   have ex := fun W => run_nm0 W
   go_enter Tryz.func179, Tryz.ntmps179
   go_wp2_with fail
   refine (right_one hB).mono ?_; rintro e _ ⟨rfl, rfl⟩
   rw [show isSt (0) = true from rfl]
   go_wp2_with fail
   go_ret
   exact ⟨rfl, hb⟩
  ·clear h
   have ex := fun W => run_nm1 W
   go_enter Tryz.func179, Tryz.ntmps179
   go_wp2_with fail
   refine (right_one hB).mono ?_; rintro e _ ⟨rfl, rfl⟩
   rw [show isSt (1) = true from rfl]
   go_wp2_with fail
   go_ret
   exact ⟨rfl, hb⟩
  ·clear h
   have ex := fun W => run_nm2 W
   go_enter Tryz.func179, Tryz.ntmps179
   go_wp2_with fail
   refine (right_one hB).mono ?_; rintro e _ ⟨rfl, rfl⟩
   rw [show isSt (2) = true from rfl]
   go_wp2_with fail
   go_ret
   exact ⟨rfl, hb⟩
  ·clear h
   have ex := fun W => run_nm3 W
   go_enter Tryz.func179, Tryz.ntmps179
   go_wp2_with fail
   refine (right_one hB).mono ?_; rintro e _ ⟨rfl, rfl⟩
   rw [show isSt (3) = true from rfl]
   go_wp2_with fail
   go_ret
   exact ⟨rfl, hb⟩
  ·clear h
   have ex := fun W => run_nm4 W
   go_enter Tryz.func179, Tryz.ntmps179
   go_wp2_with fail
   refine (right_one hB).mono ?_; rintro e _ ⟨rfl, rfl⟩
   rw [show isSt (4) = true from rfl]
   go_wp2_with fail
   go_ret
   exact ⟨rfl, hb⟩
theorem mknown_calls (x : Int) (w : World) : Calls Tryz.prog 112 #[.int .i64 x] w fun e w' => e = .returned (.bool (isSt x)) ∧ Below w.heap.size w w' := by
 cases h : isSt x with
 | false =>
  have H := Lib.hid (nameS_no h)
  clear h
  go_enter Tryz.func112, Tryz.ntmps112
  go_wp2_with fail
  refine (Name_ok x w).mono ?_; rintro e w1 ⟨rfl, k⟩
  rw [H.out]
  go_wp2_with fail
  go_ret
  exact ⟨rfl, k⟩
 | true =>
  have H := Lib.hid (show (nameS x).toList.isEmpty = false by rcases isSt_cases h with rfl | rfl | rfl | rfl | rfl <;> decide +kernel)
  clear h
  go_enter Tryz.func112, Tryz.ntmps112
  go_wp2_with fail
  refine (Name_ok x w).mono ?_; rintro e w1 ⟨rfl, k⟩
  obtain ⟨y, hy⟩ : ∃ y, nameS x = y := ⟨_, rfl⟩
  rw [hy] at H ⊢
  clear hy
  go_wp2_with fail
  go_ret
  exact ⟨by rw [show (true : Bool) = !y.toList.isEmpty by rw [H.out]; rfl]; rfl, k⟩
end Go.Proofs.YtlpchcdalfkfcaaGreat


/-
 Package meta: which records may be; the questions of putting one. Conditions: a memory's books in order.
-/
namespace Go.Proofs.YtlpchcdalfkfcaaGreat
open Go.RowKit
attribute [local go_sem] Oper.semAt_some
set_option maxHeartbeats 4000000
set_option maxRecDepth 8000

def rgtR (st sz : Int) : Bool := isSt st && inB 65535 sz
theorem mright_calls (st sz nc : Int) (w : World) : Calls Tryz.prog 111 #[.agg #[.int .i64 st, .int .i64 sz, .int .u32 nc]] w fun e w' => e = .returned (.bool (rgtR st sz)) ∧ Below w.heap.size w w' := by
 obtain ⟨w1, hw1⟩ : ∃ w1, w.alloc (.cells #[.int .i64 st, .int .i64 sz, .int .u32 nc] 47) = w1 := ⟨_, rfl⟩
 have hB : Blk w1 w.heap.size #[.int .i64 st, .int .i64 sz, .int .u32 nc] 47 := by rw [← hw1]; exact Blk.new w _ _
 have k1 : Below w.heap.size w w1 := by rw [← hw1]; exact (Below.refl _ w).alloc (Nat.le_refl _) _
 have c0 := hB.cell 0 (v := .int .i64 st) rfl
 have c1 := hB.cell 1 (v := .int .i64 sz) rfl
 unfold rgtR
 go_enter Tryz.func111, Tryz.ntmps111
 go_wp2_with fail
 clear hw1
 refine (mknown_calls st _).mono ?_; rintro e w2 ⟨rfl, k2⟩
 have hB2 := hB.below k2 hB.lt
 have kk := k1.trans (k2.mono k1.size)
 clear c0 c1 k2 hB k1
 have c1 := hB2.cell 1 (v := .int .i64 sz) rfl
 cases hs : isSt st
 ·have HS := Lib.hid hs
  clear hs
  go_wp2_with fail
  go_ret
  exact ⟨by rw [HS.out]; rfl, kk⟩
 ·have HS := Lib.hid hs
  clear hs
  go_wp2_with fail
  refine (mfits_one 65535 sz w2).mono ?_; rintro e w3 ⟨rfl, k3⟩
  have k4 := kk.trans (k3.mono kk.size)
  go_wp2_with fail
  go_ret
  exact ⟨by rw [HS.out]; rfl, k4⟩
def parR : Array Value := #[.int .i64 1, .func (.func 105) #[] #[], .func (.func 106) #[] #[], .int .i64 1, .nilFunc, .nilFunc,
 .int .i64 2, .func (.func 107) #[] #[], .func (.func 108) #[] #[], .int .i64 4, .func (.func 109) #[] #[], .func (.func 110) #[] #[]]
theorem mputR1_calls {w : World} {p q g : Nat} {st sz nc : Int} (hp : Blk w p #[.slice (some ⟨g, 0, none⟩) 4 4, .func (.func 111) #[] #[]] 106) (hq : Blk w q #[.int .i64 st, .int .i64 sz, .int .u32 nc] 47) :
  Calls Tryz.prog 124 #[.pointer (some ⟨p, 0, none⟩), .pointer (some ⟨q, 0, none⟩)] w fun e w' => e = .returned (.bool (!rgtR st sz)) ∧ Below w.heap.size w w' := by
 have c1 : w.cell? ⟨p, 1, none⟩ = some (.func (.func 111) #[] #[]) := hp.cell 1 rfl
 have d0 := hq.cell 0 (v := .int .i64 st) rfl
 have d1 := hq.cell 1 (v := .int .i64 sz) rfl
 have d2 := hq.cell 2 (v := .int .u32 nc) rfl
 have eg := enters_of (P := Tryz.prog) Tryz.func111 (by kernel_rfl) rfl
 clear hp hq
 go_enter Tryz.func124, Tryz.ntmps124
 go_wp2_with fail
 refine (mright_calls st sz nc w).mono ?_; rintro e w1 ⟨rfl, k⟩
 go_wp2_with fail
 go_ret
 exact ⟨rfl, k⟩
end Go.Proofs.YtlpchcdalfkfcaaGreat


/-
 Package meta: rows of questions, appended. No condition.
-/
namespace Go.Proofs.YtlpchcdalfkfcaaGreat
open Go.RowKit Go.ChangeShapes
set_option maxHeartbeats 1000000
set_option maxRecDepth 8000

def CellsAt (W : World) (b : Nat) (vs : List Value) : Prop := b < W.heap.size ∧ ∀ j v, vs[j]? = some v → W.cell? ⟨b, j, none⟩ = some v
theorem CellsAt.of {W : World} {b : Nat} {cs : Array Value} {t : TypeId} (h : Blk W b cs t) : CellsAt W b cs.toList := ⟨h.lt, fun j v hv => h.cell j (by simpa using hv)⟩
theorem CellsAt.below {W W' : World} {b n : Nat} {vs : List Value} (h : CellsAt W b vs) (k : Below n W W') (hn : W.heap.size ≤ n) : CellsAt W' b vs := ⟨Nat.lt_of_lt_of_le h.1 k.size, fun j v hv => (k.cell (p := ⟨b, j, none⟩) (Nat.lt_of_lt_of_le h.1 hn)).trans (h.2 j v hv)⟩
theorem add_cell (b j : Nat) : (⟨b, 0, none⟩ : Addr).add j = ⟨b, j, none⟩ := by unfold Addr.add; split <;> simp_all
theorem wp_append_full {o : Oper} {a : Act} {K : Act → World → Prop} {Q : Exit → Act → World → Prop} {w : World} (s x : Operand) (t : TypeId)
  (ho : o.op = .call { callee := .builtin .append, args := #[s, x], argTypes := #[t, t] }) {e : TypeId} {z : Value} {size bytes : Nat} (ht : Tryz.prog.underlying t = some (.slice e)) (hE : ElemInfo Tryz.prog e z size bytes)
  (b n : Nat) (xs : List Value) (hs : a.eval s = .slice (some ⟨b, 0, none⟩) n n) (hxs : xs.length = n * size) (hc : CellsAt w b xs)
  (c m cap : Nat) (news : List Value) (hx : a.eval x = .slice (some ⟨c, 0, none⟩) m cap) (hl : news.length = m * size) (hnews : CellsAt w c news) (hm : 0 < m)
  (h63 : n + m ≤ maxLen) (hbytes : (n + m) * bytes ≤ 140737488355328)
  (h : ∀ g cap' W', w.heap.size = g → Below w.heap.size w W' → CellsAt W' g (xs ++ news) → K (a.put o.dst (.slice (some ⟨g, 0, none⟩) (n + m) cap')) W') : o.wp Tryz.prog a w K Q := by
 obtain ⟨i, hi, hz, hsize, hby, hzs, hsz⟩ := hE
 subst hsize
 subst hby
 have hsmall : n + m ≤ 9223372036854775807 := by simp only [maxLen] at h63; omega
 have hr := run_append_grow (P := Tryz.prog) w t o.type e i z ht hi hz ⟨b, 0, none⟩ n n xs hxs (fun j v hv => by rw [add_cell]; exact hc.2 j v hv) ⟨c, 0, none⟩ m cap news hl (fun j v hv => by rw [add_cell]; exact hnews.2 j v hv) (by omega) (by omega) (growslice_fits (by omega) hbytes)
 unfold Oper.wp execOp
 simp only [ho, resolve, invoke, builtin, Sem.run_bind, Sem.run_pure, Result.andThen_ok, List.map_toArray, List.map_cons, List.map_nil, hs, hx, hr]
 refine h w.heap.size _ _ rfl ((Below.refl _ w).drew.alloc (by simp) _) ⟨by simp, fun j v hv => ?_⟩
 ·have hB := Blk.newAt (b := w.heap.size) w.drew (xs.toArray ++ news.toArray ++ Builtin.zeroCells z.cells (grownCap w (n + m) n e - (n + m))) e (by simp)
  refine hB.cell j ?_
  have hj : j < (xs ++ news).length := (List.getElem?_eq_some_iff.1 hv).1
  rw [Array.getElem?_append_left (by simpa using hj)]
  simpa using hv
theorem askListP_append (l r : List AskP) : askListP (l ++ r) = askListP l ++ askListP r := by simp [askListP]
theorem askListP_len (l : List AskP) : (askListP l).length = l.length * 2 := by
 induction l with
 | nil => rfl
 | cons a l ih => simp [askListP] at ih ⊢; omega
theorem askRow_cells {W : World} {b : Nat} {l : List AskP} (h : CellsAt W b (askListP l)) : AskRowP W b l :=
 ⟨fun i hi => h.2 _ _ (askList_atP l i hi).1, fun i hi => h.2 _ _ (askList_atP l i hi).2, h.1⟩
theorem AnswersP.step {W X : World} {l : List AskP} (h : AnswersP W l) (k : Below W.heap.size W X) : AnswersP X l :=
 ⟨h.eg, fun i hi Y hp hY => h.ans i hi Y hp (k.trans (hY.mono k.size))⟩
theorem AnswersP.append {W : World} {l r : List AskP} (h : AnswersP W l) (k : AnswersP W r) : AnswersP W (l ++ r) := by
 constructor
 ·intro i hi args Y
  by_cases e : i < l.length
  ·rw [List.getElem_append_left e]; exact h.eg i e args Y
  ·rw [List.getElem_append_right (by omega)]; exact k.eg _ (by simp at hi; omega) args Y
 ·intro i hi Y hp hY
  by_cases e : i < l.length
  ·rw [List.getElem_append_left e]
   exact h.ans i e Y (fun j hj hji => by have := hp j (by simp; omega) hji; rwa [List.getElem_append_left hj] at this) hY
  ·rw [List.getElem_append_right (by omega)]
   refine k.ans _ (by simp at hi; omega) Y (fun j hj hji => ?_) hY
   have := hp (l.length + j) (by simp; omega) (by omega)
   rw [List.getElem_append_right (by omega)] at this
   simpa [Nat.add_sub_cancel_left] using this
theorem firstErrP_append : ∀ (l r : List AskP), firstErrP (l ++ r) = if l.any (·.wrong) then firstErrP l else firstErrP r
 | [], r => rfl
 | a :: l, r => by
  rw [List.cons_append, firstErrP, firstErrP, firstErrP_append l r, List.any_cons]
  cases a.wrong <;> simp
theorem infoAsk : ElemInfo Tryz.prog 70 (.agg #[.nilFunc, .int .i64 0]) 2 16 := elemInfo_of (by kernel_rfl) rfl (by decide)
end Go.Proofs.YtlpchcdalfkfcaaGreat


/-
 Package meta: putting a record: its questions. Conditions: a memory's books in order.
-/
namespace Go.Proofs.YtlpchcdalfkfcaaGreat
open Go.RowKit Go.ChangeShapes
attribute [local go_sem] Oper.semAt_some
set_option maxHeartbeats 8000000
set_option maxRecDepth 8000

variable {w0 w : World} {k : Mb} {s : Ms}
structure PtS (b5 b11 : Nat) (m : Value) (t : Int) (fv : Value) (Y : World) : Prop where
 h0 : Y.cell? ⟨b5, 0, none⟩ = some m
 h1 : Y.cell? ⟨b5, 1, none⟩ = some (.int .i64 t)
 h2 : Y.cell? ⟨b11, 0, none⟩ = some fv
 h3 : Y.cell? ⟨b11, 1, none⟩ = some (.int .i64 2)
theorem PtS.of {b5 b11 : Nat} {m : Value} {t : Int} {fv : Value} {Y : World} {ty ty' : TypeId} (h : Blk Y b5 #[m, .int .i64 t] ty) (h' : Blk Y b11 #[fv, .int .i64 2] ty') : PtS b5 b11 m t fv Y := ⟨h.cell 0 rfl, h.cell 1 rfl, h'.cell 0 rfl, h'.cell 1 rfl⟩
def preAsks (pi pw f p1 p2 : Nat) (t : Int) (wr : Bool) : List AskP :=
 [⟨85, #[], #[.pointer (some ⟨pi, 0, none⟩)], 1, false⟩, ⟨62, #[], #[.pointer (some ⟨pw, 0, none⟩)], 2, !inB 3 t⟩, ⟨f, #[], #[.pointer (some ⟨p1, 0, none⟩), .pointer (some ⟨p2, 0, none⟩)], 2, wr⟩]
def opAsk (po : Nat) (s : Ms) (t : Int) : List AskP := [⟨175, #[], #[.pointer (some ⟨po, 0, none⟩)], 5, !opB s t⟩]
def putE (s : Ms) (t : Int) (wr : Bool) (la : List AskP) : Int := if inB 3 t = false ∨ wr = true then 2 else if la.any (·.wrong) then firstErrP la else if opB s t = false then 5 else 0
theorem putE_eq (pi pw f p1 p2 po : Nat) (s : Ms) (t : Int) (wr : Bool) (la : List AskP) : firstErrP (preAsks pi pw f p1 p2 t wr ++ (la ++ opAsk po s t)) = putE s t wr la := by
 rw [firstErrP_append, firstErrP_append]
 unfold putE preAsks opAsk
 cases inB 3 t <;> cases wr <;> cases opB s t <;> simp [firstErrP]
theorem opAsk_ans {Y : World} (h : LivM w0 Y k s) {po : Nat} {t : Int} (hO : Blk Y po #[.pointer (some ⟨k.b, 0, none⟩), .int .i64 t] 72) : AnswersP Y (opAsk po s t) := by
 constructor
 ·intro i hi args W
  match i, hi with
  | 0, _ => exact enters_of Tryz.func175 (by kernel_rfl) rfl args W
 ·intro i hi X _ kx
  match i, hi with
  | 0, _ => exact mopened1_calls (h.step kx) (hO.below kx hO.lt)
theorem preAsk_ans {Y : World} (h : LivM w0 Y k s) {pi pw f p1 p2 : Nat} {t : Int} {wr : Bool} (hI : Blk Y pi #[.pointer (some ⟨k.b, 0, none⟩), .int .i64 t] 72) (hW : Blk Y pw #[.pointer (some ⟨k.b, 0, none⟩), .int .i64 t] 72)
  (eg : ∀ args W, (callFunc f args).run Tryz.prog W = .ok (.enter f args) W) (hr : ∀ X, Below Y.heap.size Y X → Calls Tryz.prog f #[.pointer (some ⟨p1, 0, none⟩), .pointer (some ⟨p2, 0, none⟩)] X fun e X' => e = .returned (.bool wr) ∧ Below X.heap.size X X') : AnswersP Y (preAsks pi pw f p1 p2 t wr) := by
 constructor
 ·intro i hi args W
  match i, hi with
  | 0, _ => exact enters_of Tryz.func85 (by kernel_rfl) rfl args W
  | 1, _ => exact enters_of Tryz.func62 (by kernel_rfl) rfl args W
  | 2, _ => exact eg args W
 ·intro i hi X _ kx
  match i, hi with
  | 0, _ => exact mis1_calls (h.step kx) (hI.below kx hI.lt)
  | 1, _ => exact mwho1_calls (hW.below kx hW.lt)
  | 2, _ => exact hr X kx
end Go.Proofs.YtlpchcdalfkfcaaGreat

