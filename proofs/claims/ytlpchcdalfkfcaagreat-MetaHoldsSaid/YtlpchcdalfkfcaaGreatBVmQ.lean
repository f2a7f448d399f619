/-
 Chapter 9, plain: what each call makes of a memory's books. No condition.
-/
import Derived.Test.YtlpchcdalfkfcaaGreatBVmH
import Derived.Test.YtlpchcdalfkfcaaGreatBFrame
import Derived.Test.YtlpchcdalfkfcaaGreatBPgA
import Derived.Deep.Slices
import Derived.Lib.SlBytesConst
import Derived.Test.YtlpchcdalfkfcaaGreatBMeP
namespace Go.Proofs.YtlpchcdalfkfcaaGreat
open Go.RowKit
set_option maxHeartbeats 1000000
set_option maxRecDepth 4000

theorem getE_of {D : Tb} (h : SrtR D) {p : Int} {x : Ent} (hx : (p, x) ∈ D) : getE D p = x := by
 unfold getE
 rw [getR_some h.nodup hx]
 rfl
theorem getE_no {D : Tb} {p : Int} (h : hasR D p = false) : getE D p = ⟨0, 0, 0⟩ := by unfold getE; rw [getR_none h]; rfl
theorem getE_ins {D : Tb} (h : SrtR D) {n : Int} {x : Ent} (hn : hasR D n = false) (p : Int) : getE (insR n x D) p = if p = n then x else getE D p := by
 by_cases e : p = n
 ·subst e
  rw [if_pos rfl, getE_of (h.ins hn) (insR_mem.2 (.inl rfl))]
 ·rw [if_neg e]
  cases hp : hasR D p
  ·rw [getE_no hp, getE_no (by rw [hasR_ins, hp]; simp; exact fun h => e h.symm)]
  ·rw [getE_of (h.ins hn) (insR_mem.2 (.inr (getE_mem h hp)))]
section
variable {s : Ms}
theorem MGd.res (h : MGd s) (who n : Int) : MGd { s with R := resAfter s.many s.F s.R who n } := ⟨h.g.reserve who n, h.gd, h.fi, h.tk⟩
theorem MGd.free_frm (h : MGd s) {who : Int} (h0 : takErr s.F s.R who = 0) : inF s.F (takAt s.many s.F s.R who) = false ∧ 0 ≤ takAt s.many s.F s.R who ∧ takAfter s.many s.F s.R who = s.F ++ [(takAt s.many s.F s.R who, who, zeros256)] := by
 obtain ⟨k, suf, hk⟩ := h.g.free who h0
 have hm := free_mem (many := s.many) (F := s.F) (k := k) (by rw [hk]; exact List.mem_cons_self)
 have e : takAt s.many s.F s.R who = k := by unfold takAt; rw [if_pos h0, hk]; rfl
 rw [e]
 refine ⟨hm.2.2, hm.1, ?_⟩
 unfold takAfter
 rw [if_pos h0, hk]
 rfl
/-- Mapped, or not. -/
structure MapSp (s s' : Ms) (n o m : Int) : Prop where
 no : hasR s.D n = false
 pg : 0 ≤ n ∧ n < 65536
 en : (-1 ≤ o ∧ o ≤ 63) ∧ 0 ≤ m ∧ m ≤ 2
 has : ∀ p, hasR s'.D p = (n == p || hasR s.D p)
 get : ∀ p, p ≠ n → getE s'.D p = getE s.D p
 own : (getE s'.D n).o = o ∧ (getE s'.D n).m = m
 zero : ∀ a, a / 256 = n → byF s'.D s'.F a = 0
 same : ∀ a, hasR s.D (a / 256) = true → byF s'.D s'.F a = byF s.D s.F a
theorem MGd.map (h : MGd s) (n o p m : Int) : MGd (vmpF s n o p m) ∧ (vmpE s n o p m ≠ 0 → vmpF s n o p m = s) ∧ (vmpE s n o p m = 0 → MapSp s (vmpF s n o p m) n o m) := by
 unfold vmpE vmpF
 by_cases h1 : badOwner p = true
 ·rw [if_pos h1, if_pos h1]; exact ⟨h, fun _ => rfl, fun h => by cases h⟩
 rw [if_neg h1, if_neg h1]
 by_cases h2 : mapE s.D n ⟨o, m, 16384⟩ = 0
 ·rw [if_pos h2, if_pos h2]
  by_cases h3 : takErr s.F s.R p = 0
  ·rw [if_pos h3, if_pos h3]
   obtain ⟨f1, f2, f3⟩ := h.free_frm h3
   obtain ⟨fr, hfr⟩ : ∃ fr, takAt s.many s.F s.R p = fr := ⟨_, rfl⟩
   rw [hfr] at f1 f2 f3 ⊢
   obtain ⟨a1, a2, a3, a4, _⟩ := mapE_ok h2
   dsimp only at a1 a2
   have hfm : frmR s.D fr = false := by
    unfold frmR
    rw [List.any_eq_false]
    intro x hx e
    have e' : x.2.f = fr := by simpa using e
    have := h.tk x hx
    rw [e', f1] at this
    cases this
   have hm0 : mapE s.D n ⟨o, m, fr⟩ = 0 := by
    unfold mapE
    dsimp only
    rw [if_neg (by unfold badM; simp; omega), if_neg (by unfold badO; simp; omega), if_neg (by unfold badP; simp; omega), if_neg (by rw [a4]; decide), if_neg (by rw [hfm]; decide)]
   have hd : mapD s.D n ⟨o, m, fr⟩ = insR n ⟨o, m, fr⟩ s.D := by unfold mapD; rw [if_pos hm0]
   have gd' := h.gd.map n ⟨o, m, fr⟩
   have g' := h.g.take p
   rw [hd] at gd'
   rw [f3] at g'
   rw [hm0, hd, f3]
   have hat : ∀ k, dAt (s.F ++ [(fr, p, zeros256)]) k = if k = fr then (p, zeros256) else dAt s.F k := fun k => dAt_append s.F (fr, p, zeros256) k f1
   refine ⟨⟨g', gd', ?_, ?_⟩, fun h => absurd rfl h, fun _ => ⟨a4, a3, ⟨by omega, by omega⟩, fun q => by rw [hasR_ins], fun q hq => by rw [getE_ins h.gd.srt a4, if_neg hq], by dsimp only; rw [getE_ins h.gd.srt a4, if_pos rfl]; exact ⟨rfl, rfl⟩, ?_, ?_⟩⟩
   ·intro x hx y hy e
    rcases insR_mem.1 hx with rfl | hx
    ·rcases insR_mem.1 hy with rfl | hy
     ·rfl
     ·have := h.tk y hy
      rw [← e] at this
      dsimp only at this
      rw [f1] at this; cases this
    ·rcases insR_mem.1 hy with rfl | hy
     ·have := h.tk x hx
      rw [e] at this
      dsimp only at this
      rw [f1] at this; cases this
     ·exact h.fi x hx y hy e
   ·intro x hx
    dsimp only
    unfold inF
    rw [List.any_append, Bool.or_eq_true]
    rcases insR_mem.1 hx with rfl | hx
    ·right; simp
    ·left; exact h.tk x hx
   ·intro a ha
    unfold byF
    dsimp only
    rw [ha, getE_ins h.gd.srt a4, if_pos rfl, hat, if_pos rfl]
    dsimp only
    unfold zeros256
    rw [List.getD_eq_getElem?_getD, List.getElem?_replicate]
    split <;> rfl
   ·intro a ha
    unfold byF
    dsimp only
    have hne : a / 256 ≠ n := fun e => by rw [e, a4] at ha; cases ha
    have hfn : (getE s.D (a / 256)).f ≠ fr := fun e => by have := h.frm ha; rw [e, f1] at this; cases this
    rw [getE_ins h.gd.srt a4, if_neg hne, hat, if_neg hfn]
  ·rw [if_neg h3, if_neg h3]; exact ⟨h, fun _ => rfl, fun e => absurd e h3⟩
 ·rw [if_neg h2, if_neg h2]; exact ⟨h, fun _ => rfl, fun e => absurd e h2⟩
structure UnmSp (s s' : Ms) (n : Int) : Prop where
 yes : hasR s.D n = true
 has : ∀ p, hasR s'.D p = (!(n == p) && hasR s.D p)
 get : ∀ p, p ≠ n → getE s'.D p = getE s.D p
 same : ∀ a, a / 256 ≠ n → hasR s.D (a / 256) = true → byF s'.D s'.F a = byF s.D s.F a
theorem rchE_zero {D : Tb} {o at_ many may : Int} (h0 : 0 ≤ at_) : rchE D o at_ many may = 0 ↔ (1 ≤ many ∧ many ≤ 16777216) ∧ badWho o = false ∧ at_ ≤ 16777216 - many ∧ ∀ a, at_ ≤ a → a < at_ + many → rchB D o may (a / 256) = true := by
 unfold rchE
 by_cases h1 : badMany many = true
 ·rw [if_pos h1]
  unfold badMany at h1
  simp at h1
  constructor
  ·intro h; cases h
  ·rintro ⟨h2, _⟩; omega
 ·have h1' : 1 ≤ many ∧ many ≤ 16777216 := by unfold badMany at h1; simp at h1; omega
  rw [if_neg h1]
  cases h2 : badWho o
  ·rw [if_neg (by decide)]
   by_cases h3 : 16777216 - many < at_
   ·rw [if_pos h3]
    constructor
    ·intro h; cases h
    ·rintro ⟨_, _, h4, _⟩; omega
   ·rw [if_neg h3]
    have hp := parts_all (fun p => rchB D o may p) (at_ + many) many.toNat at_ h0 (by omega)
    change ((partsL at_ many).all fun x => rchB D o may x.1) = true ↔ _ at hp
    by_cases h4 : ((partsL at_ many).all fun x => rchB D o may x.1) = true
    ·rw [if_pos h4]; exact ⟨fun _ => ⟨h1', rfl, by omega, hp.1 h4⟩, fun _ => rfl⟩
    ·rw [if_neg h4]; exact ⟨fun h => (by cases h), fun h => absurd (hp.2 h.2.2.2) h4⟩
  ·rw [if_pos rfl]
   constructor
   ·intro h; cases h
   ·rintro ⟨_, h, _⟩; cases h
theorem rchB_has {D : Tb} {o may n : Int} (h : rchB D o may n = true) : hasR D n = true := by
 unfold rchB at h
 rw [Bool.and_eq_true] at h
 exact h.1
theorem reach_parts {D : Tb} {o at_ many may : Int} (h0 : 0 ≤ at_) (h : rchE D o at_ many may = 0) : ∀ x ∈ partsK many.toNat at_ (at_ + many), hasR D x.1 = true := by
 obtain ⟨h1, _, _, h4⟩ := (rchE_zero h0).1 h
 have := (parts_all (fun p => hasR D p) (at_ + many) many.toNat at_ h0 (by omega)).2 fun a h2 h3 => rchB_has (h4 a h2 h3)
 exact List.all_eq_true.1 this
structure WrtSp (s s' : Ms) (at_ : Int) (bs : List Int) : Prop where
 d : s'.D = s.D ∧ s'.R = s.R ∧ s'.many = s.many
 own : ∀ k, (dAt s'.F k).1 = (dAt s.F k).1
 at_ : ∀ a, hasR s.D (a / 256) = true → byF s'.D s'.F a = if at_ ≤ a ∧ a < at_ + bs.length then bs.getD (a - at_).toNat 0 else byF s.D s.F a
theorem MGd.wr (h : MGd s) (o at_ : Int) (bs : List Int) (h0 : 0 ≤ at_) : MGd (wrS s o at_ bs) ∧ (rchE s.D o at_ bs.length 2 ≠ 0 → wrS s o at_ bs = s) ∧ (rchE s.D o at_ bs.length 2 = 0 → WrtSp s (wrS s o at_ bs) at_ bs) := by
 unfold wrS
 by_cases h1 : rchE s.D o at_ bs.length 2 = 0
 ·rw [if_pos h1]
  have hp := reach_parts h0 h1
  obtain ⟨q1, q2⟩ := wrP_at h.gd.srt h.fi (at_ + bs.length) (bs.length : Int).toNat at_ s.F bs h.g h.tk h0 (by omega) (by omega) hp
  have g' := Good.wrP (R := s.R) s.D (partsL at_ bs.length) bs h.g
  refine ⟨⟨g', h.gd, h.fi, fun x hx => ?_⟩, fun e => absurd h1 e, fun _ => ⟨⟨rfl, rfl, rfl⟩, q1, q2⟩⟩
  have e := dAt_own q1 g'.own0 h.g.own0 x.2.f
  exact e.trans (h.tk x hx)
 ·rw [if_neg h1]; exact ⟨h, fun _ => rfl, fun e => absurd e h1⟩
/-- What is read. -/
theorem MGd.rd (h : MGd s) (o at_ many : Int) (h0 : 0 ≤ at_) : rdA s o at_ many = if rchE s.D o at_ many 1 = 0 then (List.range many.toNat).map fun (i : Nat) => byF s.D s.F (at_ + i) else [] := by
 unfold rdA
 by_cases h1 : rchE s.D o at_ many 1 = 0
 ·rw [if_pos h1, if_pos h1]
  have := rdP_at h (at_ + many) many.toNat at_ h0 (by omega) (reach_parts h0 h1)
  rw [show at_ + many - at_ = many by omega] at this
  exact this
 ·rw [if_neg h1, if_neg h1]
end
end Go.Proofs.YtlpchcdalfkfcaaGreat


/-
 Package pinfoldlaw09: works; calls in memory; few. No condition.
-/
namespace Go.Proofs.YtlpchcdalfkfcaaGreat
open Go.ChangeShapes Go.WideShapes Go.ChangeAt Go.RowKit
attribute [local go_sem] Oper.semAt_some
set_option maxHeartbeats 4000000
set_option maxRecDepth 4000

/-- A memory that was made behind w0. -/
structure LivM (w0 W : World) (k : Mb) (s : Ms) : Prop where
 m : MemAt W k s
 gd : MGd s
 bel : Below w0.heap.size w0 W
 lo : w0.heap.size ≤ k.tm ∧ w0.heap.size ≤ k.pf ∧ w0.heap.size ≤ k.pr
section
variable {w0 W W' : World} {k : Mb} {s s' : Ms}
theorem LivM.step (h : LivM w0 W k s) (j : Below W.heap.size W W') : LivM w0 W' k s := ⟨h.m.step j, h.gd, h.bel.trans (j.mono h.bel.size), h.lo⟩
theorem LivM.chg (h : LivM w0 W k s) (hm : MemAt W' k s') (hg : MGd s') (j : ChgM k W W') : LivM w0 W' k s' := ⟨hm, hg, h.bel.trans (j.below h.lo.1 h.lo.2.1 h.lo.2.2 h.bel.size), h.lo⟩
theorem LivM.reserve (h : LivM w0 W k s) (who n : Int) : Calls Tryz.prog 38 #[.pointer (some ⟨k.b, 0, none⟩), .int .i64 who, .int .i64 n] W fun e W' => e = .returned (.int .i64 (resErr s.many s.F s.R who n)) ∧
  LivM w0 W' k { s with R := resAfter s.many s.F s.R who n } ∧ ChgM k W W' := by
 refine (vReserve_ok h.m h.gd.g.snd who n).mono ?_
 rintro e W' ⟨rfl, hm, hc⟩
 exact ⟨rfl, h.chg hm (h.gd.res who n) hc, hc⟩
theorem LivM.map (h : LivM w0 W k s) (n owner payer may : Int) : Calls Tryz.prog 49 #[.pointer (some ⟨k.b, 0, none⟩), .int .i64 n, .int .i64 owner, .int .i64 payer, .int .i64 may] W fun e W' => e = .returned (.int .i64 (vmpE s n owner payer may)) ∧
  LivM w0 W' k (vmpF s n owner payer may) ∧ ChgM k W W' := by
 refine (vMap_ok h.m h.gd.g (by have := h.gd.len; omega) h.gd.gd.srt n owner payer may).mono ?_
 rintro e W' ⟨rfl, hm, hc⟩
 exact ⟨rfl, h.chg hm (h.gd.map n owner payer may).1 hc, hc⟩
theorem LivM.store (h : LivM w0 W k s) (owner at_ : Int) (h0 : 0 ≤ at_) (h1 : at_ < 4294967296) {v : Value} (bs : List Int) {B : Nat} (hB : B ≤ W.heap.size) (hv : RowAt B W v bs.length (intVals .u8 bs)) :
  Calls Tryz.prog 23 #[.pointer (some ⟨k.b, 0, none⟩), .int .i64 owner, .int .u32 at_, v] W fun e W' => e = .returned (.int .i64 (rchE s.D (max owner (-1)) at_ bs.length 2)) ∧ LivM w0 W' k (wrS s (max owner (-1)) at_ bs) ∧ ChgM k W W' := by
 refine (Store_ok h.m h.gd.g owner at_ h0 h1 bs hB hv).mono ?_
 rintro e W' ⟨rfl, hm, hc⟩
 exact ⟨rfl, h.chg hm (h.gd.wr _ at_ bs h0).1 hc, hc⟩
theorem LivM.load (h : LivM w0 W k s) (owner at_ many : Int) (h0 : 0 ≤ at_) (h1 : at_ < 4294967296) (hm : many ≤ 1000000 ∨ 16777216 < many) :
  Calls Tryz.prog 22 #[.pointer (some ⟨k.b, 0, none⟩), .int .i64 owner, .int .u32 at_, .int .i64 many] W fun e W' => ∃ v, e = .returned (.tuple #[v, .int .i64 (rchE s.D (max owner (-1)) at_ many 1)]) ∧
   W'.ownsRow W.heap.size 5 1 v (rdA s (max owner (-1)) at_ many).length (intVals .u8 (rdA s (max owner (-1)) at_ many)) ∧ Below W.heap.size W W' := Load_ok h.m h.gd.g.snd.b256 owner at_ many h0 h1 hm
end
def D1 : Tb := [(3, ⟨1, 2, 0⟩)]
def F1 : List Fr := [(0, 1, zeros256)]
def m0 : Ms := ⟨4, [], [], []⟩
def m1 : Ms := ⟨4, [], [(1, 2)], []⟩
def m2 : Ms := ⟨4, F1, [(1, 2)], D1⟩
end Go.Proofs.YtlpchcdalfkfcaaGreat


/-
 Package size: how many slots a class has, how great they are. No condition.
-/
namespace Go.Proofs.YtlpchcdalfkfcaaGreat
open Go.RowKit
attribute [local go_sem] Oper.semAt_some
set_option maxHeartbeats 1000000
set_option maxRecDepth 8000

def inC (c : Int) : Bool := decide (0 ≤ c) && decide (c < 8)
theorem inC_iff {c : Int} : inC c = true ↔ 0 ≤ c ∧ c < 8 := by unfold inC; simp
theorem szis_calls (c : Int) (w : World) : Calls Tryz.prog 133 #[.int .i64 c] w fun e w' => e = .returned (.bool (inC c)) ∧ w = w' := by
 by_cases h : 0 ≤ c
 ·have h1 : decide (0 ≤ c) = true := by simpa using h
  by_cases h2 : c < 8
  ·have h3 : decide (c < 8) = true := by simpa using h2
   unfold inC
   rw [h1, h3]
   go_enter Tryz.func133, Tryz.ntmps133
   go_wp2_with fail
   go_ret
   exact ⟨rfl, rfl⟩
  ·have h3 : decide (c < 8) = false := by simpa using h2
   unfold inC
   rw [h1, h3]
   go_enter Tryz.func133, Tryz.ntmps133
   go_wp2_with fail
   go_ret
   exact ⟨rfl, rfl⟩
 ·have h1 : decide (0 ≤ c) = false := by simpa using h
  unfold inC
  rw [h1]
  go_enter Tryz.func133, Tryz.ntmps133
  go_wp2_with fail
  go_ret
  exact ⟨rfl, rfl⟩
def payA : Array Value := #[.int .i64 16, .int .i64 32, .int .i64 48, .int .i64 64, .int .i64 96, .int .i64 128, .int .i64 192, .int .i64 256]
theorem pay_info : (Tryz.prog.info? 232).map (·.size) = some 8 := by kernel_rfl
theorem payloads_calls (w : World) : Calls Tryz.prog 184 #[] w fun e w' => e = .returned (.agg payA) ∧ Below w.heap.size w w' := by
 have hB := Blk.new w payA 232
 go_enter Tryz.func184, Tryz.ntmps184
 go_wp2_with fail
 refine bodyPost_ret (v := .agg payA) ?_ rfl ⟨rfl, (Below.refl _ w).alloc (Nat.le_refl _) _⟩
 have h8 : (loadVar 232 ⟨w.heap.size, 0, none⟩).run Tryz.prog (w.alloc (.cells payA 232)) = .ok (.agg payA) _ := run_loadVar_row _ w.heap.size 232 _ payA (0, 0) _ hB Tryz.underlying232 rfl pay_info
 have h9 : (w.alloc (.cells #[.int .i64 16, .int .i64 32, .int .i64 48, .int .i64 64, .int .i64 96, .int .i64 128, .int .i64 192, .int .i64 256] 232)) = w.alloc (.cells payA 232) := rfl
 rw [h9]
 simp [results, Tryz.results184, asAddr, h8]
theorem run_pay (c : Int) (h : inC c = true) (w : World) : (Instr.index 232 (.agg payA) (.int .i64 c)).run Tryz.prog w = .ok (.int .i64 (payI c)) w := by
 obtain ⟨h0, h1⟩ := inC_iff.1 h
 rcases cls8 h0 h1 with rfl | rfl | rfl | rfl | rfl | rfl | rfl | rfl <;> kernel_rfl
theorem payload_calls (c : Int) (h : inC c = true) (w : World) : Calls Tryz.prog 134 #[.agg #[.int .i64 c]] w fun e w' => e = .returned (.int .i64 (payI c)) ∧ Below w.heap.size w w' := by
 have hr := fun W => run_pay c h W
 have hB := Blk.new w #[.int .i64 c] 125
 have H := Lib.hid (show (w.alloc (.cells #[.int .i64 c] 125)).cell? ⟨w.heap.size, 0, none⟩ = some (.int .i64 c) from hB.cell 0 rfl)
 go_enter Tryz.func134, Tryz.ntmps134
 go_wp2_with fail
 clear hB h
 refine wp_onlyN ?_
 refine wp_region_held_drew (S := fun Y => Y.cell? ⟨w.heap.size, 0, none⟩ = some (.int .i64 c)) (by kernel_rfl) H.out (fun hHeld => ?_)
 refine wpAnyH_take (i := 1) (v := ?_) rfl (by kernel_rfl) (by kernel_rfl) (by kernel_rfl) (fun _ _ _ h => h) (Or.inl ⟨by rfl, ?_⟩) (by assumption) ?_
 rotate_left
 ·(intro Y hSw; (try dsimp only at hSw); obtain hS0 := hSw; go_simp; try with_reducible rfl)
 try simp only [Act.put, pu1, pu2, pu3, pu4, pu5, pu6]
 refine wpAnyH_take (i := 2) (v := ?_) rfl (by kernel_rfl) (by kernel_rfl) (by kernel_rfl) (fun _ _ _ h => h) (Or.inl ⟨by rfl, ?_⟩) (by assumption) ?_
 rotate_left
 ·(intro Y hSw; (try dsimp only at hSw); obtain hS0 := hSw; go_simp; try with_reducible rfl)
 try simp only [Act.put, pu1, pu2, pu3, pu4, pu5, pu6]
 refine wpAnyH_ready (rs := [0]) (by kernel_rfl) (by simp) ?_
 refine AllReadyH.cons rfl (fun K hK => ?_) AllReadyH.nil
 go_simp
 refine (payloads_calls _).mono ?_; rintro e w1 ⟨rfl, k1⟩
 go_wp2_with fail
 refine hK.out _ _ ((k1.cell (p := ⟨w.heap.size, 0, none⟩) (by simp)).trans H.out) (fun hHeld => ?_)
 clear hK K
 try simp only [Act.put, pu1, pu2, pu3, pu4, pu5, pu6]
 refine wpAnyH_take (i := 3) (v := ?_) rfl (by kernel_rfl) (by kernel_rfl) (by kernel_rfl) (fun _ _ _ h => h) (Or.inl ⟨by rfl, ?_⟩) (by assumption) ?_
 rotate_left
 ·(intro Y hSw; (try dsimp only at hSw); obtain hS0 := hSw; go_simp; try with_reducible rfl)
 try simp only [Act.put, pu1, pu2, pu3, pu4, pu5, pu6]
 refine wpAnyH_take (i := 4) (v := ?_) rfl (by kernel_rfl) (by kernel_rfl) (by kernel_rfl) (fun _ _ _ h => h) (Or.inl ⟨by rfl, ?_⟩) (by assumption) ?_
 rotate_left
 ·(intro Y hSw; (try dsimp only at hSw); obtain hS0 := hSw; go_simp; try with_reducible rfl)
 try simp only [Act.put, pu1, pu2, pu3, pu4, pu5, pu6]
 refine wpAnyH_done (by kernel_rfl) ?_ _
 rw [onlyN_normal]
 go_wp2_with fail
 go_ret
 exact ⟨rfl, ((Below.refl _ w).alloc (Nat.le_refl _) _).drew.trans (k1.mono (by simp))⟩
theorem slot_calls (c : Int) (h : inC c = true) (w : World) : Calls Tryz.prog 70 #[.agg #[.int .i64 c]] w fun e w' => e = .returned (.int .i64 (sltI c)) ∧ Below w.heap.size w w' := by
 have hb : 0 ≤ payI c ∧ payI c ≤ 256 := by
  obtain ⟨h0, h1⟩ := inC_iff.1 h
  rcases cls8 h0 h1 with rfl | rfl | rfl | rfl | rfl | rfl | rfl | rfl <;> decide
 obtain ⟨b0, b1⟩ := hb
 go_enter Tryz.func70, Tryz.ntmps70
 go_wp2_with fail
 refine (payload_calls c h _).mono ?_; rintro e w1 ⟨rfl, k1⟩
 go_wp2_with fail
 go_ret
 refine ⟨?_, ((Below.refl _ w).alloc (Nat.le_refl _) _).trans (k1.mono (by simp))⟩
 unfold sltI
 go_num
theorem cnt_div (c : Int) (h : inC c = true) : Int.tdiv 4096 (sltI c) = cntIM c ∧ sltI c ≠ 0 := by
 obtain ⟨h0, h1⟩ := inC_iff.1 h
 rcases cls8 h0 h1 with rfl | rfl | rfl | rfl | rfl | rfl | rfl | rfl <;> decide
theorem count1_calls (c : Int) (h : inC c = true) (w : World) : Calls Tryz.prog 131 #[.agg #[.int .i64 c]] w fun e w' => e = .returned (.int .i64 (cntIM c)) ∧ Below w.heap.size w w' := by
 obtain ⟨d0, d1⟩ := cnt_div c h
 have hb : 48 ≤ sltI c ∧ sltI c ≤ 288 := by
  obtain ⟨h0, h1⟩ := inC_iff.1 h
  rcases cls8 h0 h1 with rfl | rfl | rfl | rfl | rfl | rfl | rfl | rfl <;> decide
 obtain ⟨b0, b1⟩ := hb
 go_enter Tryz.func131, Tryz.ntmps131
 go_wp2_with fail
 refine (slot_calls c h _).mono ?_; rintro e w1 ⟨rfl, k1⟩
 have HD := Lib.hid d0
 generalize sltI c = q at *
 clear d0 h
 go_wp2_with fail
 go_ret
 refine ⟨?_, ((Below.refl _ w).alloc (Nat.le_refl _) _).trans (k1.mono (by simp))⟩
 rw [← HD.out, Int.tdiv_eq_ediv_of_nonneg (by omega)]
 rfl
structure ToldF (f : Nat) (F : Int → Int) : Prop where
 eg : ∀ args W, (callFunc f args).run Tryz.prog W = .ok (.enter f args) W
 ans : ∀ c, inC c = true → ∀ W, Calls Tryz.prog f #[.agg #[.int .i64 c]] W fun e W' => e = .returned (.int .i64 (F c)) ∧ Below W.heap.size W W'
theorem told_ok (f : Nat) (F : Int → Int) (H : ToldF f F) (c : Int) (h : inC c = true) (w : World) : Calls Tryz.prog 69 #[.int .i64 c, .func (.func f) #[] #[]] w fun e w' => e = .returned (.tuple #[.int .i64 (F c), .int .i64 0]) ∧ Below w.heap.size w w' := by
 have eg := H.eg
 have HH := Lib.hid H.ans
 clear H
 go_enter Tryz.func69, Tryz.ntmps69
 go_wp2_with fail
 refine wp_scope_fwd 0 rfl ?_
 go_wp2_with (first | go_step3 | rw [fwd_goto] | rw [fwd_ret] | rw [Exit.noGoto_ret])
 refine (szis_calls c _).mono ?_; rintro e w1 ⟨rfl, rfl⟩
 rw [h]
 go_wp2_with (first | go_step3 | rw [fwd_goto] | rw [fwd_ret] | rw [Exit.noGoto_ret])
 refine (HH.out c h _).mono ?_; rintro e w1 ⟨rfl, k1⟩
 go_wp2_with (first | go_step3 | rw [fwd_goto] | rw [fwd_ret] | rw [Exit.noGoto_ret])
 go_ret2
 exact ⟨rfl, ((Below.refl _ w).alloc (Nat.le_refl _) _).trans (k1.mono (by simp))⟩
theorem told_no (f : Nat) (c : Int) (h : inC c = false) (w : World) : Calls Tryz.prog 69 #[.int .i64 c, .func (.func f) #[] #[]] w fun e w' => e = .returned (.tuple #[.int .i64 0, .int .i64 2]) ∧ Below w.heap.size w w' := by
 go_enter Tryz.func69, Tryz.ntmps69
 go_wp2_with fail
 refine wp_scope_fwd 0 rfl ?_
 go_wp2_with (first | go_step3 | rw [fwd_goto] | rw [fwd_ret] | rw [Exit.noGoto_ret])
 refine (szis_calls c _).mono ?_; rintro e w1 ⟨rfl, rfl⟩
 rw [h]
 go_wp2_with (first | go_step3 | rw [fwd_goto] | rw [fwd_ret] | rw [Exit.noGoto_ret])
 go_ret2
 exact ⟨rfl, (Below.refl _ w).alloc (Nat.le_refl _) _⟩
def cntO (c : Int) : Int := if inC c = true then cntIM c else 0
def sltO (c : Int) : Int := if inC c = true then sltI c else 0
def clsE (c : Int) : Int := if inC c = true then 0 else 2
theorem Count_ok (c : Int) (w : World) : Calls Tryz.prog 64 #[.int .i64 c] w fun e w' => e = .returned (.tuple #[.int .i64 (cntO c), .int .i64 (clsE c)]) ∧ Below w.heap.size w w' := by
 unfold cntO clsE
 cases h : inC c
 ·go_enter Tryz.func64, Tryz.ntmps64
  go_wp2_with fail
  refine (told_no _ c h _).mono ?_; rintro e w1 ⟨rfl, k1⟩
  clear h
  go_wp2_with fail
  go_ret2
  exact ⟨rfl, k1⟩
 ·have HF := ToldF.mk (f := 131) (F := cntIM) (enters_of Tryz.func131 (by kernel_rfl) rfl) (fun c h W => count1_calls c h W)
  go_enter Tryz.func64, Tryz.ntmps64
  go_wp2_with fail
  refine (told_ok _ cntIM HF c h _).mono ?_; rintro e w1 ⟨rfl, k1⟩
  clear h
  go_wp2_with fail
  go_ret2
  exact ⟨rfl, k1⟩
theorem Slot_ok (c : Int) (w : World) : Calls Tryz.prog 29 #[.int .i64 c] w fun e w' => e = .returned (.tuple #[.int .i64 (sltO c), .int .i64 (clsE c)]) ∧ Below w.heap.size w w' := by
 unfold sltO clsE
 cases h : inC c
 ·go_enter Tryz.func29, Tryz.ntmps29
  go_wp2_with fail
  refine (told_no _ c h _).mono ?_; rintro e w1 ⟨rfl, k1⟩
  clear h
  go_wp2_with fail
  go_ret2
  exact ⟨rfl, k1⟩
 ·have HF := ToldF.mk (f := 70) (F := sltI) (enters_of Tryz.func70 (by kernel_rfl) rfl) (fun c h W => slot_calls c h W)
  go_enter Tryz.func29, Tryz.ntmps29
  go_wp2_with fail
  refine (told_ok _ sltI HF c h _).mono ?_; rintro e w1 ⟨rfl, k1⟩
  clear h
  go_wp2_with fail
  go_ret2
  exact ⟨rfl, k1⟩
end Go.Proofs.YtlpchcdalfkfcaaGreat

