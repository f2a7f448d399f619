/-
  Package state: right, May, Name; the document's State, May, Name. No condition.
-/
import Derived.Test.YtdhbhjkfcpglbaaDoorStB
namespace Go.Proofs.YtdhbhjkfcpglbaaDoor
open Go.RowKit
attribute [local go_sem] Oper.semAt_some
set_option maxHeartbeats 4000000
set_option maxRecDepth 8000

def isSt (x : Int) : Bool := decide (0 ≤ x ∧ x ≤ 4)
theorem right1_calls (x : Int) (w : World) : Calls Tryd.prog 48 #[.int .i64 x] w fun e w' => e = .returned (.bool (!isSt x)) ∧ w = w' := by
  by_cases h0 : x < 0
  · have hb : isSt x = false := by simp [isSt]; omega
    rw [hb]; clear hb
    go_enter Tryd.func48, Tryd.ntmps48
    go_wp2_with fail
    go_ret
    exact ⟨rfl, rfl⟩
  · by_cases h1 : 4 < x
    · have hb : isSt x = false := by simp [isSt]; omega
      rw [hb]; clear hb
      go_enter Tryd.func48, Tryd.ntmps48
      go_wp2_with fail
      go_ret
      exact ⟨rfl, rfl⟩
    · have hb : isSt x = true := by simp [isSt]; omega
      rw [hb]; clear hb
      go_enter Tryd.func48, Tryd.ntmps48
      go_wp2_with fail
      go_ret
      exact ⟨rfl, rfl⟩
theorem contains_calls (b off n cap : Nat) (l : List Int) (w : World) (hn : l.length = n) (hl : n < 100) (hc : ∀ i (h : i < l.length), w.cell? ⟨b, off + i, none⟩ = some (.int .i64 l[i])) :
    Calls Tryd.prog 59 #[.slice (some ⟨b, off, none⟩) n cap, .func (.func 48) #[] #[]] w fun e w' => ∃ k : Int, e = .returned (.int .i64 k) ∧ (decide (0 ≤ k)) = !(l.all isSt) ∧ w = w' := by
  subst hn
  have HC := Lib.hid hc
  clear hc
  obtain ⟨d, hd⟩ : ∃ d, l.all isSt = d := ⟨_, rfl⟩
  rw [hd]
  have HD := Lib.hid hd
  clear hd
  go_enter Tryd.func59, Tryd.ntmps59
  go_wp2_with fail
  go_loopw [8] (fun i wr => ∃ k : Nat, k ≤ l.length ∧ i = .int .i64 k ∧ w = wr ∧ ∀ j (h : j < l.length), j < k → isSt l[j] = true) (fun i _ => l.length - (intOf i).toNat)
  case atStart => exact ⟨0, by omega, rfl, rfl, fun j _ hj => by omega⟩
  case round =>
    obtain ⟨k, hk, rfl, rfl, hn⟩ := hrel
    have HN := Lib.hid hn
    clear hn
    by_cases hlt : k < l.length
    · have q := HC.out k hlt
      obtain ⟨x, hx⟩ : ∃ x, l[k] = x := ⟨_, rfl⟩
      rw [hx] at q
      have HX := Lib.hid hx
      clear hx
      have i0 : (0 : Int) ≤ k := by omega
      have i1 : (k : Int) < l.length := by omega
      go_wp2_with fail
      refine (right1_calls x w).mono ?_; rintro e _ ⟨rfl, rfl⟩
      cases hs : isSt x with
      | true =>
        have HS := Lib.hid hs
        clear hs
        go_wp2_with fail
        refine ⟨⟨k + 1, by omega, by go_num, trivial, fun j h hj => ?_⟩, by simp [intOf]; omega⟩
        by_cases e : j = k
        · subst e; rw [HX.out]; exact HS.out
        · exact HN.out j h (by omega)
      | false =>
        have hdf : d = false := by
          rw [← HD.out, List.all_eq_false]
          exact ⟨x, HX.out ▸ List.getElem_mem hlt, by rw [hs]; simp⟩
        subst hdf
        clear hs
        go_wp2_with fail
        go_ret
        exact ⟨_, rfl, by simp, rfl⟩
    · obtain rfl : k = l.length := by omega
      have hdf : d = true := by
        rw [← HD.out, List.all_eq_true]
        intro x hx
        obtain ⟨i, hi, rfl⟩ := List.getElem_of_mem hx
        exact HN.out i hi hi
      subst hdf
      go_wp2_with fail
      go_ret
      exact ⟨_, rfl, by simp, rfl⟩
theorem contains2_calls (b off n cap : Nat) (l : List Int) (w : World) (hn : l.length = n) (hl : n < 100) (hc : ∀ i (h : i < l.length), w.cell? ⟨b, off + i, none⟩ = some (.int .i64 l[i])) :
    Calls Tryd.prog 47 #[.slice (some ⟨b, off, none⟩) n cap, .func (.func 48) #[] #[]] w fun e w' => e = .returned (.bool (!(l.all isSt))) ∧ w = w' := by
  obtain ⟨d, hd⟩ : ∃ d, l.all isSt = d := ⟨_, rfl⟩
  rw [hd]
  have HC := Lib.hid hc
  have HD := Lib.hid hd
  clear hc hd
  go_enter Tryd.func47, Tryd.ntmps47
  go_wp2_with fail
  refine (contains_calls b off n cap l w hn hl HC.out).mono ?_; rintro e _ ⟨k, rfl, hk, rfl⟩
  rw [HD.out] at hk
  by_cases h0 : 0 ≤ k
  · have : d = false := by rw [decide_eq_true h0] at hk; simpa using hk.symm
    subst this
    have hd0 : decide (0 ≤ k) = true := decide_eq_true h0
    clear hk
    go_wp2_with fail
    go_ret
    exact ⟨by simp [h0], rfl⟩
  · have : d = true := by rw [decide_eq_false h0] at hk; simpa using hk.symm
    subst this
    clear hk
    go_wp2_with fail
    go_ret
    exact ⟨by simp [h0], rfl⟩
theorem right_calls (b off n cap : Nat) (l : List Int) (w : World) (hn : l.length = n) (hl : n < 100) (hc : ∀ i (h : i < l.length), w.cell? ⟨b, off + i, none⟩ = some (.int .i64 l[i])) :
    Calls Tryd.prog 32 #[.slice (some ⟨b, off, none⟩) n cap] w fun e w' => e = .returned (.bool (l.all isSt)) ∧ w = w' := by
  obtain ⟨d, hd⟩ : ∃ d, l.all isSt = d := ⟨_, rfl⟩
  rw [hd]
  have HC := Lib.hid hc
  have HD := Lib.hid hd
  clear hc hd
  go_enter Tryd.func32, Tryd.ntmps32
  go_wp2_with fail
  refine (contains2_calls b off n cap l w hn hl HC.out).mono ?_; rintro e _ ⟨rfl, rfl⟩
  rw [HD.out]
  cases d
  · go_wp2_with fail
    go_ret
    exact ⟨rfl, rfl⟩
  · go_wp2_with fail
    go_ret
    exact ⟨rfl, rfl⟩
theorem right_one {W : World} {b : Nat} {x : Int} {t : TypeId} (hB : Blk W b #[.int .i64 x] t) : Calls Tryd.prog 32 #[.slice (some ⟨b, 0, none⟩) 1 1] W fun e w' => e = .returned (.bool (isSt x)) ∧ W = w' := by
  have := right_calls b 0 1 1 [x] W rfl (by omega) (by intro i h; match i, h with | 0, _ => exact hB.cell 0 rfl)
  simpa using this
theorem right_two {W : World} {b : Nat} {x y : Int} {t : TypeId} (hB : Blk W b #[.int .i64 x, .int .i64 y] t) : Calls Tryd.prog 32 #[.slice (some ⟨b, 0, none⟩) 2 2] W fun e w' => e = .returned (.bool (isSt x && isSt y)) ∧ W = w' := by
  have := right_calls b 0 2 2 [x, y] W rfl (by omega) (by intro i h; match i, h with | 0, _ => exact hB.cell 0 rfl | 1, _ => exact hB.cell 1 rfl)
  simpa using this
def tabV : Value := .agg #[.bool false, .bool true, .bool false, .bool false, .bool false, .bool true, .bool false, .bool true, .bool false, .bool false, .bool false, .bool false, .bool false, .bool true, .bool true, .bool true, .bool false, .bool false, .bool false, .bool true, .bool false, .bool false, .bool false, .bool false, .bool false]
def tabC : Array Value := #[.bool false, .bool true, .bool false, .bool false, .bool false, .bool true, .bool false, .bool true, .bool false, .bool false, .bool false, .bool false, .bool false, .bool true, .bool true, .bool true, .bool false, .bool false, .bool false, .bool true, .bool false, .bool false, .bool false, .bool false, .bool false]
theorem wpList_store25 {ops : Array Oper} {rest : List Oper} {o : Oper} {a : Act} {w : World} {Q : Exit → Act → World → Prop} (hgd : o.guard = none) (x y : Operand) (ho : o.op = .store 71 x y)
    (g : Nat) (cs : Array Value) (hx : a.eval x = .pointer (some ⟨g, 0, none⟩)) (hy : a.eval y = .agg cs) {old : Array Value} {t : TypeId} (hB : Blk w g old t) (hold : old.size = 25) (hs : cs.size = 25) (h1 : cs.all (·.oneCell') = true)
    (h : wpList Tryd.prog ops Q rest (a.put o.dst undef) (w.setRow g cs)) : wpList Tryd.prog ops Q (o :: rest) a w :=
  wpList_plain hgd fun _ hK => wp_store_row 71 x y ho g cs hx hy t old hB (by rw [hs]; kernel_rfl) (hold.trans hs.symm) h1 (hK _ _ h)
theorem tabC_one : tabC.all (·.oneCell') = true := by simp [tabC, Value.oneCell']
theorem Blk.setRow {W : World} {b : Nat} {cs : Array Value} {t : TypeId} (h : Blk W b cs t) (xs : Array Value) : Blk (W.setRow b xs) b xs t := setRow_heap W b cs xs t _ h
theorem bel_setRow {B g : Nat} {w0 w : World} (hb : Below B w0 w) (hBg : B ≤ g) (cs : Array Value) : Below B w0 (w.setRow g cs) := hb.trans ⟨rfl, rfl, rfl, by simp [World.setRow], fun k hk => setRow_other w g k cs (by omega)⟩
theorem table_calls (w : World) : Calls Tryd.prog 33 #[] w fun e w' => e = .returned (.agg tabC) ∧ Below w.heap.size w w' := by
  have hB := Blk.new w #[.bool false, .bool false, .bool false, .bool false, .bool false, .bool false, .bool false, .bool false, .bool false, .bool false, .bool false, .bool false, .bool false, .bool false, .bool false, .bool false, .bool false, .bool false, .bool false, .bool false, .bool false, .bool false, .bool false, .bool false, .bool false] 71
  go_enter Tryd.func33, Tryd.ntmps33
  go_wp2_with (refine wpList_store25 (by rfl) _ _ (by rfl) w.heap.size tabC (by rfl) (by rfl) hB (by rfl) (by rfl) tabC_one ?_)
  refine bodyPost_ret (v := .agg tabC) (results_cell_row rfl _ _ w.heap.size _ tabC _ _ rfl (hB.setRow tabC) Tryd.underlying71 rfl (by kernel_rfl)) rfl ⟨rfl, bel_setRow ((Below.refl _ w).alloc (Nat.le_refl _) _) (Nat.le_refl _) tabC⟩
/-- What may become what. -/
def mayI (a b : Int) : Bool := (a == 0 && b == 1) || (a == 1 && (b == 0 || b == 2)) || (a == 2 && (b == 3 || b == 4)) || (a == 3 && (b == 0 || b == 4))
theorem run_ix1 (w : World) : ∀ a : Nat, a < 5 → (Instr.index 71 (.agg tabC) (.int .i64 a)).run Tryd.prog w = .ok (.agg #[.bool (mayI a 0), .bool (mayI a 1), .bool (mayI a 2), .bool (mayI a 3), .bool (mayI a 4)]) w
  | 0, _ => by kernel_rfl
  | 1, _ => by kernel_rfl
  | 2, _ => by kernel_rfl
  | 3, _ => by kernel_rfl
  | 4, _ => by kernel_rfl
theorem run_ix2 (w : World) (a : Int) : ∀ b : Nat, b < 5 → (Instr.index 70 (.agg #[.bool (mayI a 0), .bool (mayI a 1), .bool (mayI a 2), .bool (mayI a 3), .bool (mayI a 4)]) (.int .i64 b)).run Tryd.prog w = .ok (.bool (mayI a b)) w
  | 0, _ => by kernel_rfl
  | 1, _ => by kernel_rfl
  | 2, _ => by kernel_rfl
  | 3, _ => by kernel_rfl
  | 4, _ => by kernel_rfl
theorem May_ok (a b : Int) (w : World) : Calls Tryd.prog 7 #[.int .i64 a, .int .i64 b] w fun e w' => e = .returned (.bool (isSt b && mayI a b)) ∧ Below w.heap.size w w' := by
  obtain ⟨d, hd⟩ : ∃ d, (isSt b && mayI a b) = d := ⟨_, rfl⟩
  rw [hd]
  have HD := Lib.hid hd
  clear hd
  have hB := Blk.new w #[.int .i64 a, .int .i64 b] 23
  have hb : Below w.heap.size w (w.alloc (.cells #[.int .i64 a, .int .i64 b] 23)) := (Below.refl _ w).alloc (Nat.le_refl _) _
  go_enter Tryd.func7, Tryd.ntmps7
  go_wp2_with fail
  refine (right_two hB).mono ?_; rintro e _ ⟨rfl, rfl⟩
  cases h : isSt a && isSt b with
  | false =>
    have e : (isSt b && mayI a b) = false := by
      rw [Bool.and_eq_false_iff] at h ⊢
      rcases h with h | h
      · right
        unfold isSt at h
        unfold mayI
        have := of_decide_eq_false h
        simp
        omega
      · exact .inl h
    have : d = false := by rw [← HD.out]; exact e
    subst this
    clear e h
    go_wp2_with fail
    go_ret
    exact ⟨rfl, hb⟩
  | true =>
    obtain ⟨ha, hbb⟩ := Bool.and_eq_true_iff.1 h
    obtain ⟨an, rfl⟩ : ∃ n : Nat, a = n := ⟨a.toNat, by unfold isSt at ha; have := of_decide_eq_true ha; omega⟩
    obtain ⟨bn, rfl⟩ : ∃ n : Nat, b = n := ⟨b.toNat, by unfold isSt at hbb; have := of_decide_eq_true hbb; omega⟩
    have a5 : an < 5 := by unfold isSt at ha; have := of_decide_eq_true ha; omega
    have b5 : bn < 5 := by unfold isSt at hbb; have := of_decide_eq_true hbb; omega
    have e1 := fun W => run_ix1 W an a5
    have e2 := fun W => run_ix2 W an bn b5
    have hm : mayI an bn = d := by rw [← HD.out, hbb]; simp
    rw [hm] at e2
    clear ha hbb h hm
    go_wp2_with fail
    refine (table_calls _).mono ?_; rintro e w1 ⟨rfl, k⟩
    go_wp2_with fail
    go_ret
    exact ⟨rfl, hb.trans (k.mono hb.size)⟩
/-- What states are called. -/
def nameS (x : Int) : ByteArray := if x = 0 then ⟨#[102, 114, 101, 101]⟩ else if x = 1 then ⟨#[107, 101, 112, 116]⟩ else if x = 2 then ⟨#[108, 105, 118, 101]⟩ else if x = 3 then ⟨#[104, 101, 108, 100]⟩ else if x = 4 then ⟨#[103, 111, 110, 101]⟩ else ⟨#[]⟩
theorem isSt_cases {x : Int} (h : isSt x = true) : x = 0 ∨ x = 1 ∨ x = 2 ∨ x = 3 ∨ x = 4 := by unfold isSt at h; have := of_decide_eq_true h; omega
theorem nameS_no {x : Int} (h : isSt x = false) : nameS x = ⟨#[]⟩ := by
  have := of_decide_eq_false h
  unfold nameS
  rw [if_neg (by omega), if_neg (by omega), if_neg (by omega), if_neg (by omega), if_neg (by omega)]
theorem run_nm0 (w : World) : (Instr.index 73 (.agg #[.string ⟨#[102, 114, 101, 101]⟩, .string ⟨#[107, 101, 112, 116]⟩, .string ⟨#[108, 105, 118, 101]⟩, .string ⟨#[104, 101, 108, 100]⟩, .string ⟨#[103, 111, 110, 101]⟩]) (.int .i64 0)).run Tryd.prog w = .ok (.string (nameS 0)) w := by kernel_rfl
theorem run_nm1 (w : World) : (Instr.index 73 (.agg #[.string ⟨#[102, 114, 101, 101]⟩, .string ⟨#[107, 101, 112, 116]⟩, .string ⟨#[108, 105, 118, 101]⟩, .string ⟨#[104, 101, 108, 100]⟩, .string ⟨#[103, 111, 110, 101]⟩]) (.int .i64 1)).run Tryd.prog w = .ok (.string (nameS 1)) w := by kernel_rfl
theorem run_nm2 (w : World) : (Instr.index 73 (.agg #[.string ⟨#[102, 114, 101, 101]⟩, .string ⟨#[107, 101, 112, 116]⟩, .string ⟨#[108, 105, 118, 101]⟩, .string ⟨#[104, 101, 108, 100]⟩, .string ⟨#[103, 111, 110, 101]⟩]) (.int .i64 2)).run Tryd.prog w = .ok (.string (nameS 2)) w := by kernel_rfl
theorem run_nm3 (w : World) : (Instr.index 73 (.agg #[.string ⟨#[102, 114, 101, 101]⟩, .string ⟨#[107, 101, 112, 116]⟩, .string ⟨#[108, 105, 118, 101]⟩, .string ⟨#[104, 101, 108, 100]⟩, .string ⟨#[103, 111, 110, 101]⟩]) (.int .i64 3)).run Tryd.prog w = .ok (.string (nameS 3)) w := by kernel_rfl
theorem run_nm4 (w : World) : (Instr.index 73 (.agg #[.string ⟨#[102, 114, 101, 101]⟩, .string ⟨#[107, 101, 112, 116]⟩, .string ⟨#[108, 105, 118, 101]⟩, .string ⟨#[104, 101, 108, 100]⟩, .string ⟨#[103, 111, 110, 101]⟩]) (.int .i64 4)).run Tryd.prog w = .ok (.string (nameS 4)) w := by kernel_rfl
theorem Name_ok (x : Int) (w : World) : Calls Tryd.prog 10 #[.int .i64 x] w fun e w' => e = .returned (.string (nameS x)) ∧ Below w.heap.size w w' := by
  have hB := Blk.new w #[.int .i64 x] 23
  have hb : Below w.heap.size w (w.alloc (.cells #[.int .i64 x] 23)) := (Below.refl _ w).alloc (Nat.le_refl _) _
  cases h : isSt x with
  | false =>
    rw [nameS_no h]
    have H := Lib.hid h
    clear h
    go_enter Tryd.func10, Tryd.ntmps10
    go_wp2_with fail
    refine (right_one hB).mono ?_; rintro e _ ⟨rfl, rfl⟩
    rw [H.out]
    go_wp2_with fail
    go_ret
    exact ⟨rfl, hb⟩
  | true =>
    rcases isSt_cases h with rfl | rfl | rfl | rfl | rfl
    · clear h
      have ex := fun W => run_nm0 W
      go_enter Tryd.func10, Tryd.ntmps10
      go_wp2_with fail
      refine (right_one hB).mono ?_; rintro e _ ⟨rfl, rfl⟩
      rw [show isSt (0) = true from rfl]
      go_wp2_with fail
      go_ret
      exact ⟨rfl, hb⟩
    · clear h
      have ex := fun W => run_nm1 W
      go_enter Tryd.func10, Tryd.ntmps10
      go_wp2_with fail
      refine (right_one hB).mono ?_; rintro e _ ⟨rfl, rfl⟩
      rw [show isSt (1) = true from rfl]
      go_wp2_with fail
      go_ret
      exact ⟨rfl, hb⟩
    · clear h
      have ex := fun W => run_nm2 W
      go_enter Tryd.func10, Tryd.ntmps10
      go_wp2_with fail
      refine (right_one hB).mono ?_; rintro e _ ⟨rfl, rfl⟩
      rw [show isSt (2) = true from rfl]
      go_wp2_with fail
      go_ret
      exact ⟨rfl, hb⟩
    · clear h
      have ex := fun W => run_nm3 W
      go_enter Tryd.func10, Tryd.ntmps10
      go_wp2_with fail
      refine (right_one hB).mono ?_; rintro e _ ⟨rfl, rfl⟩
      rw [show isSt (3) = true from rfl]
      go_wp2_with fail
      go_ret
      exact ⟨rfl, hb⟩
    · clear h
      have ex := fun W => run_nm4 W
      go_enter Tryd.func10, Tryd.ntmps10
      go_wp2_with fail
      refine (right_one hB).mono ?_; rintro e _ ⟨rfl, rfl⟩
      rw [show isSt (4) = true from rfl]
      go_wp2_with fail
      go_ret
      exact ⟨rfl, hb⟩
theorem rState_calls (x : Int) (w : World) : Calls Tryd.prog 8 #[.int .i64 x] w fun e w' => e = .returned (.bool (isSt x)) ∧ w = w' := by
  by_cases h0 : 0 ≤ x
  · by_cases h1 : x ≤ 4
    · have hb : isSt x = true := by simp [isSt]; omega
      rw [hb]; clear hb
      go_enter Tryd.func8, Tryd.ntmps8
      go_wp2_with fail
      go_ret
      exact ⟨rfl, rfl⟩
    · have hb : isSt x = false := by simp [isSt]; omega
      rw [hb]; clear hb
      go_enter Tryd.func8, Tryd.ntmps8
      go_wp2_with fail
      go_ret
      exact ⟨rfl, rfl⟩
  · have hb : isSt x = false := by simp [isSt]; omega
    rw [hb]; clear hb
    go_enter Tryd.func8, Tryd.ntmps8
    go_wp2_with fail
    go_ret
    exact ⟨rfl, rfl⟩
theorem rMay_calls (a b : Int) (w : World) : Calls Tryd.prog 9 #[.int .i64 a, .int .i64 b] w fun e w' => e = .returned (.bool (mayI a b)) ∧ w = w' := by
  by_cases a0 : a = 0
  · subst a0
    go_enter Tryd.func9, Tryd.ntmps9
    go_wp2_with fail
    go_ret
    refine ⟨?_, rfl⟩
    show Ending.returned (.bool (b == 1)) = _
    simp [mayI]
  have e0 : (a == 0) = false := by simpa using a0
  by_cases a1 : a = 1
  · subst a1
    by_cases b0 : b = 0
    · subst b0
      go_enter Tryd.func9, Tryd.ntmps9
      go_wp2_with fail
      go_ret
      refine ⟨?_, rfl⟩
      rfl
    · have hb : (b == 0) = false := by simpa using b0
      go_enter Tryd.func9, Tryd.ntmps9
      go_wp2_with fail
      go_ret
      refine ⟨?_, rfl⟩
      show Ending.returned (.bool (b == 2)) = _
      simp [mayI, hb]
  have e1 : (a == 1) = false := by simpa using a1
  by_cases a2 : a = 2
  · subst a2
    by_cases b0 : b = 3
    · subst b0
      go_enter Tryd.func9, Tryd.ntmps9
      go_wp2_with fail
      go_ret
      refine ⟨?_, rfl⟩
      rfl
    · have hb : (b == 3) = false := by simpa using b0
      go_enter Tryd.func9, Tryd.ntmps9
      go_wp2_with fail
      go_ret
      refine ⟨?_, rfl⟩
      show Ending.returned (.bool (b == 4)) = _
      simp [mayI, hb]
  have e2 : (a == 2) = false := by simpa using a2
  by_cases a3 : a = 3
  · subst a3
    by_cases b0 : b = 0
    · subst b0
      go_enter Tryd.func9, Tryd.ntmps9
      go_wp2_with fail
      go_ret
      refine ⟨?_, rfl⟩
      rfl
    · have hb : (b == 0) = false := by simpa using b0
      go_enter Tryd.func9, Tryd.ntmps9
      go_wp2_with fail
      go_ret
      refine ⟨?_, rfl⟩
      show Ending.returned (.bool (b == 4)) = _
      simp [mayI, hb]
  have e3 : (a == 3) = false := by simpa using a3
  go_enter Tryd.func9, Tryd.ntmps9
  go_wp2_with fail
  go_ret
  refine ⟨?_, rfl⟩
  show Ending.returned (.bool false) = _
  simp [mayI, e0, e1, e2, e3]
theorem rName_ok (x : Int) (w : World) : Calls Tryd.prog 11 #[.int .i64 x] w fun e w' => e = .returned (.string (nameS x)) ∧ Below w.heap.size w w' := by
  cases h : isSt x with
  | false =>
    rw [nameS_no h]
    have H := Lib.hid h
    clear h
    go_enter Tryd.func11, Tryd.ntmps11
    go_wp2_with fail
    refine (rState_calls _ _).mono ?_; rintro e _ ⟨rfl, rfl⟩
    rw [H.out]
    go_wp2_with fail
    go_ret
    exact ⟨rfl, Below.refl _ _⟩
  | true =>
    rcases isSt_cases h with rfl | rfl | rfl | rfl | rfl
    · clear h
      go_enter Tryd.func11, Tryd.ntmps11
      go_wp2_with fail
      refine (rState_calls _ _).mono ?_; rintro e _ ⟨rfl, rfl⟩
      rw [show isSt (0) = true from rfl]
      go_wp2_with fail
      go_ret
      exact ⟨rfl, (Below.refl _ w).alloc (Nat.le_refl _) _⟩
    · clear h
      go_enter Tryd.func11, Tryd.ntmps11
      go_wp2_with fail
      refine (rState_calls _ _).mono ?_; rintro e _ ⟨rfl, rfl⟩
      rw [show isSt (1) = true from rfl]
      go_wp2_with fail
      go_ret
      exact ⟨rfl, (Below.refl _ w).alloc (Nat.le_refl _) _⟩
    · clear h
      go_enter Tryd.func11, Tryd.ntmps11
      go_wp2_with fail
      refine (rState_calls _ _).mono ?_; rintro e _ ⟨rfl, rfl⟩
      rw [show isSt (2) = true from rfl]
      go_wp2_with fail
      go_ret
      exact ⟨rfl, (Below.refl _ w).alloc (Nat.le_refl _) _⟩
    · clear h
      go_enter Tryd.func11, Tryd.ntmps11
      go_wp2_with fail
      refine (rState_calls _ _).mono ?_; rintro e _ ⟨rfl, rfl⟩
      rw [show isSt (3) = true from rfl]
      go_wp2_with fail
      go_ret
      exact ⟨rfl, (Below.refl _ w).alloc (Nat.le_refl _) _⟩
    · clear h
      go_enter Tryd.func11, Tryd.ntmps11
      go_wp2_with fail
      refine (rState_calls _ _).mono ?_; rintro e _ ⟨rfl, rfl⟩
      rw [show isSt (4) = true from rfl]
      go_wp2_with fail
      go_ret
      exact ⟨rfl, (Below.refl _ w).alloc (Nat.le_refl _) _⟩
end Go.Proofs.YtdhbhjkfcpglbaaDoor
