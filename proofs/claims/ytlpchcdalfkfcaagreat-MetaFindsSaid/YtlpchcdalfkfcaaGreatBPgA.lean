/-
  Package page: questions, the first error of questions; a row of questions. No condition.
-/
import Derived.Test.YtlpchcdalfkfcaaGreatRows
import Derived.Test.YtlpchcdalfkfcaaGreatMaps
import Derived.Laws.EntriesVeiled
import Derived.Test.YtlpchcdalfkfcaaGreatFrame
import Derived.Deep.Slices
import Derived.Test.YtlpchcdalfkfcaaGreatCore
namespace Go.Proofs.YtlpchcdalfkfcaaGreat
open Go.RowKit
attribute [local go_sem] Oper.semAt_some
set_option maxHeartbeats 400000
set_option maxRecDepth 4000

/-- A question: what is called, with what; its error; its answer. -/
structure AskP where
  fn : Nat
  recv : Array Value
  caps : Array Value
  err : Int
  wrong : Bool
def firstErrP : List AskP → Int
  | [] => 0
  | a :: r => if a.wrong = true then a.err else firstErrP r
theorem firstErr_hitP : ∀ (l : List AskP) (k : Nat) (h : k < l.length), (∀ j (hj : j < l.length), j < k → l[j].wrong = false) → l[k].wrong = true → firstErrP l = l[k].err
  | a :: r, 0, _, _, hw => by simp only [List.getElem_cons_zero] at hw ⊢; simp [firstErrP, hw]
  | a :: r, k + 1, h, hn, hw => by
    have h0 := hn 0 (by simp) (by omega)
    simp only [List.getElem_cons_zero] at h0
    simp only [List.getElem_cons_succ] at hw ⊢
    rw [firstErrP, if_neg (by rw [h0]; decide)]
    exact firstErr_hitP r k (by simpa using h) (fun j hj hjk => hn (j + 1) (by simpa using hj) (by omega)) hw
theorem firstErr_noneP : ∀ (l : List AskP), (∀ j (hj : j < l.length), l[j].wrong = false) → firstErrP l = 0
  | [], _ => rfl
  | a :: r, h => by
    have h0 := h 0 (by simp)
    simp only [List.getElem_cons_zero] at h0
    rw [firstErrP, if_neg (by rw [h0]; decide)]
    exact firstErr_noneP r fun j hj => h (j + 1) (by simpa using hj)
/-- The questions lie in a row; each is answered, whatever has been made since, if those ahead of it are all in order. -/
structure AskRowP (w : World) (bb : Nat) (l : List AskP) : Prop where
  c0 : ∀ i (h : i < l.length), w.cell? ⟨bb, i * 2, none⟩ = some (.func (.func l[i].fn) l[i].recv l[i].caps)
  c1 : ∀ i (h : i < l.length), w.cell? ⟨bb, i * 2 + 1, none⟩ = some (.int .i64 l[i].err)
  lt : bb < w.heap.size
structure AnswersP (w : World) (l : List AskP) : Prop where
  eg : ∀ i (h : i < l.length) args W, (callFunc l[i].fn args).run Tryz.prog W = .ok (.enter l[i].fn args) W
  ans : ∀ i (h : i < l.length) W, (∀ j (hj : j < l.length), j < i → l[j].wrong = false) → Below w.heap.size w W → Calls Tryz.prog l[i].fn (l[i].recv ++ l[i].caps) W fun e W' => e = .returned (.bool l[i].wrong) ∧ Below W.heap.size W W'
theorem asked_okP (w : World) (bb n cap : Nat) (l : List AskP) (hn : n = l.length) (hlen : l.length ≤ 1000) (hr : Hid (AskRowP w bb l)) (ha : Hid (AnswersP w l)) :
    Calls Tryz.prog 156 #[.slice (some ⟨bb, 0, none⟩) n cap] w fun e w' => e = .returned (.int .i64 (firstErrP l)) ∧ Below w.heap.size w w' := by
  subst hn
  have hbb := hr.out.lt
  go_enter Tryz.func156, Tryz.ntmps156
  go_wp2_with fail
  refine wp_scope_fwd 0 rfl ?_
  go_wp2_with (first | go_step3 | rw [fwd_goto] | rw [fwd_ret] | rw [Exit.noGoto_ret])
  go_loopw [7] (fun i wr => ∃ k : Nat, k ≤ l.length ∧ i = .int .i64 k ∧ (∀ j (hj : j < l.length), j < k → l[j].wrong = false) ∧ Below w.heap.size w wr) (fun i _ => l.length - (intOf i).toNat)
  case atStart => exact ⟨0, by omega, rfl, fun j _ hj => by omega, Below.refl _ _⟩
  case round =>
    obtain ⟨k, hk, rfl, hn, hb⟩ := hrel
    have hz := hb.size
    have HN := Lib.hid hn
    clear hn
    by_cases hlt : k < l.length
    · have q0 : wr.cell? ⟨bb, k * 2, none⟩ = some (.func (.func l[k].fn) l[k].recv l[k].caps) := (hb.cell (p := ⟨bb, k * 2, none⟩) hbb).trans (hr.out.c0 k hlt)
      have q1 : wr.cell? ⟨bb, k * 2 + 1, none⟩ = some (.int .i64 l[k].err) := (hb.cell (p := ⟨bb, k * 2 + 1, none⟩) hbb).trans (hr.out.c1 k hlt)
      have i0 : (0 : Int) ≤ k := by omega
      have i1 : (k : Int) < l.length := by omega
      have hX := Blk.new wr #[.func (.func l[k].fn) l[k].recv l[k].caps, .int .i64 l[k].err] 204
      have hb1 := hb.alloc hz (.cells #[.func (.func l[k].fn) l[k].recv l[k].caps, .int .i64 l[k].err] 204)
      have hcall := Lib.hid (ha.out.ans k hlt _ (fun j hj hjk => HN.out j hj hjk) hb1)
      have heg := ha.out.eg k hlt
      by_cases hp : l[k].wrong = true
      · have hres := Lib.hid (firstErr_hitP l k hlt (fun j hj hjk => HN.out j hj hjk) hp)
        rw [hp] at hcall
        clear hp
        go_wp2_with fail
        refine (hcall.out).mono ?_; rintro e w1 ⟨rfl, h1⟩
        have hX1 := hX.below h1 (by simp)
        go_wp2_with fail
        go_wp2_with (first | go_step3 | rw [fwd_goto] | rw [fwd_ret] | rw [Exit.noGoto_ret])
        go_ret
        exact ⟨by rw [hres.out]; rfl, hb1.trans (h1.mono (by simp; omega))⟩
      · have hp' : l[k].wrong = false := by simpa using hp
        rw [hp'] at hcall
        have HP := Lib.hid hp'
        clear hp hp'
        go_wp2_with fail
        refine (hcall.out).mono ?_; rintro e w1 ⟨rfl, h1⟩
        go_wp2_with fail
        go_roundw
        case rel => exact ⟨k + 1, by omega, by go_num, fun j hj hjk => by rcases Nat.lt_or_ge j k with h | h; exact HN.out j hj h; (have : j = k := by omega); subst this; exact HP.out, hb1.trans (h1.mono (by simp; omega))⟩
        case measure => simp [intOf]; omega
    · obtain rfl : k = l.length := by omega
      go_wp2_with fail
      rw [fwd_ret]
      go_ret
      exact ⟨by rw [firstErr_noneP l fun j hj => HN.out j hj hj]; rfl, hb⟩
def askListP (l : List AskP) : List Value := l.flatMap fun a => [.func (.func a.fn) a.recv a.caps, .int .i64 a.err]
theorem askList_atP : ∀ (l : List AskP) (i : Nat) (h : i < l.length), (askListP l)[i * 2]? = some (.func (.func l[i].fn) l[i].recv l[i].caps) ∧ (askListP l)[i * 2 + 1]? = some (.int .i64 l[i].err)
  | a :: r, 0, _ => ⟨rfl, rfl⟩
  | a :: r, i + 1, h => by
    have ih := askList_atP r i (by simpa using h)
    have e1 : (i + 1) * 2 = i * 2 + 1 + 1 := by omega
    refine ⟨?_, ?_⟩
    · rw [e1]; exact ih.1
    · rw [e1]; exact ih.2
theorem askRow_ofP {W : World} {bb : Nat} {l : List AskP} {t : TypeId} (h : Blk W bb (askListP l).toArray t) : AskRowP W bb l :=
  ⟨fun i hi => h.cell _ (by simpa using (askList_atP l i hi).1), fun i hi => h.cell _ (by simpa using (askList_atP l i hi).2), h.lt⟩
end Go.Proofs.YtlpchcdalfkfcaaGreat

/-
  Package meta: questions, the first error of questions. No condition.
-/
namespace Go.Proofs.YtlpchcdalfkfcaaGreat
open Go.RowKit
attribute [local go_sem] Oper.semAt_some
set_option maxHeartbeats 400000
set_option maxRecDepth 4000

theorem asked_okM (w : World) (bb n cap : Nat) (l : List AskP) (hn : n = l.length) (hlen : l.length ≤ 1000) (hr : Hid (AskRowP w bb l)) (ha : Hid (AnswersP w l)) :
    Calls Tryz.prog 24 #[.slice (some ⟨bb, 0, none⟩) n cap] w fun e w' => e = .returned (.int .i64 (firstErrP l)) ∧ Below w.heap.size w w' := by
  subst hn
  have hbb := hr.out.lt
  go_enter Tryz.func24, Tryz.ntmps24
  go_wp2_with fail
  refine wp_scope_fwd 0 rfl ?_
  go_wp2_with (first | go_step3 | rw [fwd_goto] | rw [fwd_ret] | rw [Exit.noGoto_ret])
  go_loopw [7] (fun i wr => ∃ k : Nat, k ≤ l.length ∧ i = .int .i64 k ∧ (∀ j (hj : j < l.length), j < k → l[j].wrong = false) ∧ Below w.heap.size w wr) (fun i _ => l.length - (intOf i).toNat)
  case atStart => exact ⟨0, by omega, rfl, fun j _ hj => by omega, Below.refl _ _⟩
  case round =>
    obtain ⟨k, hk, rfl, hn, hb⟩ := hrel
    have hz := hb.size
    have HN := Lib.hid hn
    clear hn
    by_cases hlt : k < l.length
    · have q0 : wr.cell? ⟨bb, k * 2, none⟩ = some (.func (.func l[k].fn) l[k].recv l[k].caps) := (hb.cell (p := ⟨bb, k * 2, none⟩) hbb).trans (hr.out.c0 k hlt)
      have q1 : wr.cell? ⟨bb, k * 2 + 1, none⟩ = some (.int .i64 l[k].err) := (hb.cell (p := ⟨bb, k * 2 + 1, none⟩) hbb).trans (hr.out.c1 k hlt)
      have i0 : (0 : Int) ≤ k := by omega
      have i1 : (k : Int) < l.length := by omega
      have hX := Blk.new wr #[.func (.func l[k].fn) l[k].recv l[k].caps, .int .i64 l[k].err] 70
      have hb1 := hb.alloc hz (.cells #[.func (.func l[k].fn) l[k].recv l[k].caps, .int .i64 l[k].err] 70)
      have hcall := Lib.hid (ha.out.ans k hlt _ (fun j hj hjk => HN.out j hj hjk) hb1)
      have heg := ha.out.eg k hlt
      by_cases hp : l[k].wrong = true
      · have hres := Lib.hid (firstErr_hitP l k hlt (fun j hj hjk => HN.out j hj hjk) hp)
        rw [hp] at hcall
        clear hp
        go_wp2_with fail
        refine (hcall.out).mono ?_; rintro e w1 ⟨rfl, h1⟩
        have hX1 := hX.below h1 (by simp)
        go_wp2_with fail
        go_wp2_with (first | go_step3 | rw [fwd_goto] | rw [fwd_ret] | rw [Exit.noGoto_ret])
        go_ret
        exact ⟨by rw [hres.out]; rfl, hb1.trans (h1.mono (by simp; omega))⟩
      · have hp' : l[k].wrong = false := by simpa using hp
        rw [hp'] at hcall
        have HP := Lib.hid hp'
        clear hp hp'
        go_wp2_with fail
        refine (hcall.out).mono ?_; rintro e w1 ⟨rfl, h1⟩
        go_wp2_with fail
        go_roundw
        case rel => exact ⟨k + 1, by omega, by go_num, fun j hj hjk => by rcases Nat.lt_or_ge j k with h | h; exact HN.out j hj h; (have : j = k := by omega); subst this; exact HP.out, hb1.trans (h1.mono (by simp; omega))⟩
        case measure => simp [intOf]; omega
    · obtain rfl : k = l.length := by omega
      go_wp2_with fail
      rw [fwd_ret]
      go_ret
      exact ⟨by rw [firstErr_noneP l fun j hj => HN.out j hj hj]; rfl, hb⟩
end Go.Proofs.YtlpchcdalfkfcaaGreat

/-
  Package pinfoldlaw15: spots, records, great ones as the caller hands them in. No condition.
-/
namespace Go.Proofs.YtlpchcdalfkfcaaGreat
open Go.ChangeShapes Go.WideShapes Go.ChangeAt Go.RowKit
set_option maxHeartbeats 1000000
set_option maxRecDepth 8000

theorem spot_of_cells {H : Type} {enc : TypeId × Value → H} {W : World} {base' fuel : Nat} {spare : Nat → Bool} {held : Bool} {c0 c1 c2 : Value} {x : DataW H × List MemPlace} (hf : DataW.trod enc Tryz.prog W base' spare held fuel 23 [c0, c1, c2] = some x) :
    ∃ n0 n1 n2, c0 = .int .i64 n0 ∧ c1 = .int .i64 n1 ∧ c2 = .int .i64 n2 := by
  obtain ⟨xs, n, rfl, _, _, hxl, hx⟩ := DataW.trod_struct Tryz.underlying23 hf
  have k0 : Tryz.prog.cellsOf 3 = 1 := by kernel_rfl
  have h0 : DataW.trod enc Tryz.prog W base' spare held n 3 (List.take (Tryz.prog.cellsOf 3) (List.drop 0 [c0, c1, c2])) = xs[0]? := hx 0 _ rfl
  have h1 : DataW.trod enc Tryz.prog W base' spare held n 3 (List.take (Tryz.prog.cellsOf 3) (List.drop 1 [c0, c1, c2])) = xs[1]? := hx 1 _ rfl
  have h2 : DataW.trod enc Tryz.prog W base' spare held n 3 (List.take (Tryz.prog.cellsOf 3) (List.drop 2 [c0, c1, c2])) = xs[2]? := hx 2 _ rfl
  have hsz : xs.length = 3 := hxl
  rw [List.getElem?_eq_getElem (by omega)] at h0 h1 h2
  simp only [k0, List.drop_zero, List.drop_succ_cons, List.take_succ_cons, List.take_zero] at h0 h1 h2
  obtain ⟨n0, e0, _, w0⟩ := DataW.trod_int Tryz.underlying3 h0
  simp only [List.cons.injEq, and_true] at e0
  obtain ⟨n1, e1, _, w1⟩ := DataW.trod_int Tryz.underlying3 h1
  simp only [List.cons.injEq, and_true] at e1
  obtain ⟨n2, e2, _, w2⟩ := DataW.trod_int Tryz.underlying3 h2
  simp only [List.cons.injEq, and_true] at e2
  exact ⟨n0, n1, n2, e0, e1, e2⟩
theorem open_spot {H : Type} {enc : TypeId × Value → H} {W : World} {base base' : Nat} {spare : Nat → Bool} {held : Bool} {v : Value} {d : DataW H} {p : List MemPlace}
    (hv : Value.okWide Tryz.prog W .any base 23 v) (h : DataW.Trod enc Tryz.prog W base' spare held 23 v d p) :
    ∃ s c i : Int, v = .agg #[.int .i64 s, .int .i64 c, .int .i64 i] := by
  have hct : Tryz.prog.cellsOf 23 = 3 := by kernel_rfl
  simp only [Value.okWide, Tryz.underlying23] at hv
  obtain ⟨cs, rfl, hsz, _⟩ := hv
  rw [hct] at hsz
  obtain ⟨fuel, hf⟩ := h
  obtain ⟨l⟩ := cs
  match l, hsz with
  | [c0, c1, c2], _ =>
    obtain ⟨n0, n1, n2, rfl, rfl, rfl⟩ := spot_of_cells hf
    exact ⟨n0, n1, n2, rfl⟩
end Go.Proofs.YtlpchcdalfkfcaaGreat

/-
  Chapter 15, plain: where slots lie, and whose an address is. No condition.
-/
namespace Go.Proofs.YtlpchcdalfkfcaaGreat
set_option maxHeartbeats 1000000
set_option maxRecDepth 4000

def payI (c : Int) : Int := if c = 0 then 16 else if c = 1 then 32 else if c = 2 then 48 else if c = 3 then 64 else if c = 4 then 96 else if c = 5 then 128 else if c = 6 then 192 else 256
def sltI (c : Int) : Int := 16 + payI c + 16
def cntIM (c : Int) : Int := if c = 0 then 85 else if c = 1 then 64 else if c = 2 then 51 else if c = 3 then 42 else if c = 4 then 32 else if c = 5 then 25 else if c = 6 then 18 else 14
def regJ (s c : Int) : Int := 4096 * (s + 1) + 1 + 17 * c
def atIM (s c i : Int) : Int := 256 * regJ s c + i * sltI c + 16
def inS (s c : Int) : Bool := decide (0 ≤ s ∧ s < 4) && decide (0 ≤ c ∧ c < 8)
def spE (s c i : Int) : Int := if inS s c = false then 2 else if decide (0 ≤ i ∧ i < cntIM c) = false then 4 else 0
theorem inS_iff {s c : Int} : inS s c = true ↔ (0 ≤ s ∧ s < 4) ∧ 0 ≤ c ∧ c < 8 := by unfold inS; simp
theorem spE_zero {s c i : Int} : spE s c i = 0 ↔ ((0 ≤ s ∧ s < 4) ∧ 0 ≤ c ∧ c < 8) ∧ 0 ≤ i ∧ i < cntIM c := by
  unfold spE
  cases h : inS s c
  · have : ¬ ((0 ≤ s ∧ s < 4) ∧ 0 ≤ c ∧ c < 8) := fun e => by rw [inS_iff.2 e] at h; cases h
    simp [this]
  · have := inS_iff.1 h
    by_cases h2 : 0 ≤ i ∧ i < cntIM c
    · simp [this, h2]
    · rw [if_neg (by decide), if_pos (by simpa using h2)]
      simp only [this, and_true, true_and, h2, iff_false]
      decide
theorem cls8 {c : Int} (h0 : 0 ≤ c) (h1 : c < 8) : c = 0 ∨ c = 1 ∨ c = 2 ∨ c = 3 ∨ c = 4 ∨ c = 5 ∨ c = 6 ∨ c = 7 := by omega
theorem slt_v : sltI 0 = 48 ∧ sltI 1 = 64 ∧ sltI 2 = 80 ∧ sltI 3 = 96 ∧ sltI 4 = 128 ∧ sltI 5 = 160 ∧ sltI 6 = 224 ∧ sltI 7 = 288 := by decide
theorem cnt_v : cntIM 0 = 85 ∧ cntIM 1 = 64 ∧ cntIM 2 = 51 ∧ cntIM 3 = 42 ∧ cntIM 4 = 32 ∧ cntIM 5 = 25 ∧ cntIM 6 = 18 ∧ cntIM 7 = 14 := by decide
theorem sp_bd {s c i : Int} (h : spE s c i = 0) : 0 ≤ i * sltI c ∧ i * sltI c + 32 ≤ 4096 := by
  obtain ⟨⟨_, h0, h1⟩, h2, h3⟩ := spE_zero.1 h
  rcases cls8 h0 h1 with rfl | rfl | rfl | rfl | rfl | rfl | rfl | rfl <;> simp only [slt_v, cnt_v] at * <;> omega
theorem at_inj {s c i s' c' i' : Int} (h : spE s c i = 0) (h' : spE s' c' i' = 0) (e : atIM s c i = atIM s' c' i') : s = s' ∧ c = c' ∧ i = i' := by
  obtain ⟨b0, b1⟩ := sp_bd h
  obtain ⟨b2, b3⟩ := sp_bd h'
  obtain ⟨⟨a0, a1⟩, _, _⟩ := spE_zero.1 h
  obtain ⟨⟨a2, a3⟩, _, _⟩ := spE_zero.1 h'
  unfold atIM regJ at e
  have es : s = s' := by omega
  have ec : c = c' := by omega
  subst es ec
  refine ⟨rfl, rfl, ?_⟩
  have ei : i * sltI c = i' * sltI c := by omega
  rcases cls8 a1.1 a1.2 with rfl | rfl | rfl | rfl | rfl | rfl | rfl | rfl <;> simp only [slt_v] at ei <;> omega
/-- Whose an address is. -/
def FindSp (at_ s c i no : Int) : Prop := (no = 0 ∧ spE s c i = 0 ∧ atIM s c i = at_) ∨ ((no = 250 ∧ s = 0 ∧ c = 0 ∧ i = 0) ∧ ∀ s c i, spE s c i = 0 → atIM s c i ≠ at_)
theorem FindSp.uniq {a s c i no s' c' i' no' : Int} (h : FindSp a s c i no) (k : FindSp a s' c' i' no') : s = s' ∧ c = c' ∧ i = i' ∧ no = no' := by
  rcases h with ⟨rfl, h1, h2⟩ | ⟨⟨rfl, rfl, rfl, rfl⟩, h1⟩ <;> rcases k with ⟨rfl, k1, k2⟩ | ⟨⟨rfl, rfl, rfl, rfl⟩, k1⟩
  · obtain ⟨e1, e2, e3⟩ := at_inj h1 k1 (h2.trans k2.symm)
    exact ⟨e1, e2, e3, rfl⟩
  · exact absurd h2 (k1 _ _ _ h1)
  · exact absurd k2 (h1 _ _ _ k1)
  · exact ⟨rfl, rfl, rfl, rfl⟩
theorem at_page {s c i : Int} (h : spE s c i = 0) : regJ s c ≤ atIM s c i / 256 ∧ atIM s c i / 256 < regJ s c + 16 ∧ 0 ≤ atIM s c i ∧ atIM s c i < 16777216 := by
  obtain ⟨b0, b1⟩ := sp_bd h
  obtain ⟨⟨a0, a1⟩, _, _⟩ := spE_zero.1 h
  unfold atIM
  have : 256 * regJ s c = 1048576 * (s + 1) + 256 + 4352 * c := by unfold regJ; omega
  unfold regJ at *
  omega
theorem at_index {s c i : Int} (h : spE s c i = 0) : Int.tdiv (atIM s c i - atIM s c 0) (sltI c) = i := by
  obtain ⟨⟨_, h0, h1⟩, h2, h3⟩ := spE_zero.1 h
  have e : atIM s c i - atIM s c 0 = i * sltI c := by unfold atIM; omega
  rw [e]
  refine Int.mul_tdiv_cancel i ?_
  rcases cls8 h0 h1 with rfl | rfl | rfl | rfl | rfl | rfl | rfl | rfl <;> decide
end Go.Proofs.YtlpchcdalfkfcaaGreat
