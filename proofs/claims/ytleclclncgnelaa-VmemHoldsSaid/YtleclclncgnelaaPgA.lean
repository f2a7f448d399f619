/-
  Package page: questions, the first error of questions; a row of questions. No condition.
-/
import Derived.Test.YtleclclncgnelaaRows
import Derived.Test.YtleclclncgnelaaMaps
import Derived.Laws.EntriesVeiled
namespace Go.Proofs.Ytleclclncgnelaa
open Go.RowKit
attribute [local go_sem] Oper.semAt_some
set_option maxHeartbeats 400000
set_option maxRecDepth 4000

/-- A question: what is called, with what; its error; its answer. -/
structure AskP where
  fn : Nat
  recv : Array Value
  caps : Array Value
  err : Int
  wrong : Bool
def firstErrP : List AskP → Int
  | [] => 0
  | a :: r => if a.wrong = true then a.err else firstErrP r
theorem firstErr_hitP : ∀ (l : List AskP) (k : Nat) (h : k < l.length), (∀ j (hj : j < l.length), j < k → l[j].wrong = false) → l[k].wrong = true → firstErrP l = l[k].err
  | a :: r, 0, _, _, hw => by simp only [List.getElem_cons_zero] at hw ⊢; simp [firstErrP, hw]
  | a :: r, k + 1, h, hn, hw => by
    have h0 := hn 0 (by simp) (by omega)
    simp only [List.getElem_cons_zero] at h0
    simp only [List.getElem_cons_succ] at hw ⊢
    rw [firstErrP, if_neg (by rw [h0]; decide)]
    exact firstErr_hitP r k (by simpa using h) (fun j hj hjk => hn (j + 1) (by simpa using hj) (by omega)) hw
theorem firstErr_noneP : ∀ (l : List AskP), (∀ j (hj : j < l.length), l[j].wrong = false) → firstErrP l = 0
  | [], _ => rfl
  | a :: r, h => by
    have h0 := h 0 (by simp)
    simp only [List.getElem_cons_zero] at h0
    rw [firstErrP, if_neg (by rw [h0]; decide)]
    exact firstErr_noneP r fun j hj => h (j + 1) (by simpa using hj)
/-- The questions lie in a row; each is answered, whatever has been made since, if those ahead of it are all in order. -/
structure AskRowP (w : World) (bb : Nat) (l : List AskP) : Prop where
  c0 : ∀ i (h : i < l.length), w.cell? ⟨bb, i * 2, none⟩ = some (.func (.func l[i].fn) l[i].recv l[i].caps)
  c1 : ∀ i (h : i < l.length), w.cell? ⟨bb, i * 2 + 1, none⟩ = some (.int .i64 l[i].err)
  lt : bb < w.heap.size
structure AnswersP (w : World) (l : List AskP) : Prop where
  eg : ∀ i (h : i < l.length) args W, (callFunc l[i].fn args).run Try.prog W = .ok (.enter l[i].fn args) W
  ans : ∀ i (h : i < l.length) W, (∀ j (hj : j < l.length), j < i → l[j].wrong = false) → Below w.heap.size w W → Calls Try.prog l[i].fn (l[i].recv ++ l[i].caps) W fun e W' => e = .returned (.bool l[i].wrong) ∧ Below W.heap.size W W'
theorem asked_okP (w : World) (bb n cap : Nat) (l : List AskP) (hn : n = l.length) (hlen : l.length ≤ 1000) (hr : Hid (AskRowP w bb l)) (ha : Hid (AnswersP w l)) :
    Calls Try.prog 41 #[.slice (some ⟨bb, 0, none⟩) n cap] w fun e w' => e = .returned (.int .i64 (firstErrP l)) ∧ Below w.heap.size w w' := by
  subst hn
  have hbb := hr.out.lt
  go_enter Try.func41, Try.ntmps41
  go_wp2_with fail
  refine wp_scope_fwd 0 rfl ?_
  go_wp2_with (first | go_step3 | rw [fwd_goto] | rw [fwd_ret] | rw [Exit.noGoto_ret])
  go_loopw [7] (fun i wr => ∃ k : Nat, k ≤ l.length ∧ i = .int .i64 k ∧ (∀ j (hj : j < l.length), j < k → l[j].wrong = false) ∧ Below w.heap.size w wr) (fun i _ => l.length - (intOf i).toNat)
  case atStart => exact ⟨0, by omega, rfl, fun j _ hj => by omega, Below.refl _ _⟩
  case round =>
    obtain ⟨k, hk, rfl, hn, hb⟩ := hrel
    have hz := hb.size
    have HN := Lib.hid hn
    clear hn
    by_cases hlt : k < l.length
    · have q0 : wr.cell? ⟨bb, k * 2, none⟩ = some (.func (.func l[k].fn) l[k].recv l[k].caps) := (hb.cell (p := ⟨bb, k * 2, none⟩) hbb).trans (hr.out.c0 k hlt)
      have q1 : wr.cell? ⟨bb, k * 2 + 1, none⟩ = some (.int .i64 l[k].err) := (hb.cell (p := ⟨bb, k * 2 + 1, none⟩) hbb).trans (hr.out.c1 k hlt)
      have i0 : (0 : Int) ≤ k := by omega
      have i1 : (k : Int) < l.length := by omega
      have hX := Blk.new wr #[.func (.func l[k].fn) l[k].recv l[k].caps, .int .i64 l[k].err] 85
      have hb1 := hb.alloc hz (.cells #[.func (.func l[k].fn) l[k].recv l[k].caps, .int .i64 l[k].err] 85)
      have hcall := Lib.hid (ha.out.ans k hlt _ (fun j hj hjk => HN.out j hj hjk) hb1)
      have heg := ha.out.eg k hlt
      by_cases hp : l[k].wrong = true
      · have hres := Lib.hid (firstErr_hitP l k hlt (fun j hj hjk => HN.out j hj hjk) hp)
        rw [hp] at hcall
        clear hp
        go_wp2_with fail
        refine (hcall.out).mono ?_; rintro e w1 ⟨rfl, h1⟩
        have hX1 := hX.below h1 (by simp)
        go_wp2_with fail
        go_wp2_with (first | go_step3 | rw [fwd_goto] | rw [fwd_ret] | rw [Exit.noGoto_ret])
        go_ret
        exact ⟨by rw [hres.out]; rfl, hb1.trans (h1.mono (by simp; omega))⟩
      · have hp' : l[k].wrong = false := by simpa using hp
        rw [hp'] at hcall
        have HP := Lib.hid hp'
        clear hp hp'
        go_wp2_with fail
        refine (hcall.out).mono ?_; rintro e w1 ⟨rfl, h1⟩
        go_wp2_with fail
        go_roundw
        case rel => exact ⟨k + 1, by omega, by go_num, fun j hj hjk => by rcases Nat.lt_or_ge j k with h | h; exact HN.out j hj h; (have : j = k := by omega); subst this; exact HP.out, hb1.trans (h1.mono (by simp; omega))⟩
        case measure => simp [intOf]; omega
    · obtain rfl : k = l.length := by omega
      go_wp2_with fail
      rw [fwd_ret]
      go_ret
      exact ⟨by rw [firstErr_noneP l fun j hj => HN.out j hj hj]; rfl, hb⟩
def askListP (l : List AskP) : List Value := l.flatMap fun a => [.func (.func a.fn) a.recv a.caps, .int .i64 a.err]
theorem askList_atP : ∀ (l : List AskP) (i : Nat) (h : i < l.length), (askListP l)[i * 2]? = some (.func (.func l[i].fn) l[i].recv l[i].caps) ∧ (askListP l)[i * 2 + 1]? = some (.int .i64 l[i].err)
  | a :: r, 0, _ => ⟨rfl, rfl⟩
  | a :: r, i + 1, h => by
    have ih := askList_atP r i (by simpa using h)
    have e1 : (i + 1) * 2 = i * 2 + 1 + 1 := by omega
    refine ⟨?_, ?_⟩
    · rw [e1]; exact ih.1
    · rw [e1]; exact ih.2
theorem askRow_ofP {W : World} {bb : Nat} {l : List AskP} {t : TypeId} (h : Blk W bb (askListP l).toArray t) : AskRowP W bb l :=
  ⟨fun i hi => h.cell _ (by simpa using (askList_atP l i hi).1), fun i hi => h.cell _ (by simpa using (askList_atP l i hi).2), h.lt⟩
end Go.Proofs.Ytleclclncgnelaa
