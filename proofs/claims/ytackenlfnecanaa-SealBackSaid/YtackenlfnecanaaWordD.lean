/-
  Package word: First, Zero, Differ, and the reference's.
-/
import Derived.Test.YtackenlfnecanaaWordC
namespace Go.Proofs.Ytackenlfnecanaa
open Go.RowKit
attribute [local go_sem] Oper.semAt_some
set_option maxHeartbeats 400000

/-- The first place from k on (at most so many further) that is such. -/
def findFrom (p : Nat → Bool) : Nat → Nat → Int
  | _, 0 => -1
  | k, m + 1 => if p k = true then (k : Int) else findFrom p (k + 1) m
theorem findFrom_hit (p : Nat → Bool) (n : Nat) : ∀ (m k : Nat), k + m = n → ∀ i, k ≤ i → i < n → p i = true → (∀ j, k ≤ j → j < i → p j = false) → findFrom p k m = i := by
  intro m
  induction m with
  | zero => intro k hk i h1 h2; omega
  | succ m ih =>
    intro k hk i h1 h2 hp hn
    unfold findFrom
    by_cases e : k = i
    · subst e; rw [if_pos hp]
    · rw [if_neg (by rw [hn k (Nat.le_refl _) (by omega)]; decide)]
      exact ih (k + 1) (by omega) i (by omega) h2 hp fun j hj => hn j (by omega)
theorem findFrom_miss (p : Nat → Bool) : ∀ (m k : Nat), (∀ j, k ≤ j → j < k + m → p j = false) → findFrom p k m = -1 := by
  intro m
  induction m with
  | zero => intro k _; rfl
  | succ m ih =>
    intro k h
    unfold findFrom
    rw [if_neg (by rw [h k (Nat.le_refl _) (by omega)]; decide)]
    exact ih (k + 1) fun j h1 h2 => h j (by omega) (by omega)
theorem first_ok (f : Nat) (cap' : Array Value) (eg : ∀ args w, (callFunc f args).run Try.prog w = .ok (.enter f args) w) (p : Nat → Bool) (v : Value) (l : List Int) (B : Nat) (w : World) (hB : B ≤ w.heap.size) (hl : l.length ≤ maxLen) (hv : RowAt B w v l.length (intVals .u8 l))
    (hf : Hid (∀ (i : Nat) (h : i < l.length) (W : World), Below w.heap.size w W → Calls Try.prog f (#[.int .i64 i, .int .u8 l[i]] ++ cap') W fun e W' => e = .returned (.bool (p i)) ∧ Below W.heap.size W W')) :
    Calls Try.prog 51 #[v, .func (.func f) #[] cap'] w fun e w' => e = .returned (.int .i64 (findFrom p 0 l.length)) ∧ Below w.heap.size w w' := by
  unfold maxLen at hl
  obtain ⟨ad, cap, rfl, _, hrow⟩ := hv
  go_enter Try.func51, Try.ntmps51
  go_wp2_with fail
  go_loopw [9] (fun i wr => ∃ k : Nat, k ≤ l.length ∧ i = .int .i64 k ∧ (∀ j, j < k → p j = false) ∧ Below w.heap.size w wr) (fun i _ => l.length - (intOf i).toNat)
  case atStart => exact ⟨0, by omega, rfl, fun j hj => by omega, Below.refl _ _⟩
  case round =>
    obtain ⟨k, hk, rfl, hn, hb⟩ := hrel
    have hz := hb.size
    have HN := Lib.hid hn
    clear hn
    by_cases hlt : k < l.length
    · rcases hrow with h0 | ⟨b, off, rfl, hbB, hc⟩
      · exfalso; have := congrArg List.length h0; simp [intVals] at this; subst this; simp at hlt
      have hck : wr.cell? ⟨b, off + k, none⟩ = some (.int .u8 l[k]) := by
        rw [hb.cell (p := ⟨b, off + k, none⟩) (by dsimp only; omega), hc k (by simpa [intVals] using hlt), intVals_get _ _ _ hlt]
      have hcall := Lib.hid (hf.out k hlt wr hb)
      clear hc
      have i0 : (0 : Int) ≤ k := by omega
      have i1 : (k : Int) < l.length := by omega
      by_cases hp : p k = true
      · have hr := Lib.hid (findFrom_hit p l.length l.length 0 (by omega) k (by omega) hlt hp fun j _ hj => HN.out j hj)
        go_wp2_with fail
        refine (hcall.out).mono ?_; rintro e w1 ⟨rfl, hb1⟩
        rw [hp]
        go_wp2_with fail
        go_ret
        exact ⟨by rw [hr.out]; rfl, hb.trans (hb1.mono hz)⟩
      · have hp' : p k = false := by simpa using hp
        clear hp
        have HP := Lib.hid hp'
        clear hp'
        go_wp2_with fail
        refine (hcall.out).mono ?_; rintro e w1 ⟨rfl, hb1⟩
        rw [HP.out]
        go_wp2_with fail
        go_roundw
        case rel => exact ⟨k + 1, by omega, by go_num, fun j hj => by rcases Nat.lt_or_ge j k with h | h; exact HN.out j h; rw [show j = k by omega]; exact HP.out, hb.trans (hb1.mono hz)⟩
        case measure => simp [intOf]; omega
    · obtain rfl : k = l.length := by omega
      go_wp2_with fail
      go_ret
      exact ⟨by rw [findFrom_miss p l.length 0 fun j _ hj => HN.out j (by omega)]; rfl, hb⟩
def firstI (l : List Int) : Int := findFrom (fun i => l.getD i 0 != 0) 0 l.length
def zeroI (l : List Int) : Bool := decide (firstI l < 0)
theorem findFrom_congr (p q : Nat → Bool) : ∀ (m k : Nat), (∀ j, k ≤ j → j < k + m → p j = q j) → findFrom p k m = findFrom q k m := by
  intro m
  induction m with
  | zero => intro k _; rfl
  | succ m ih =>
    intro k h
    unfold findFrom
    rw [h k (Nat.le_refl _) (by omega), ih (k + 1) fun j h1 h2 => h j (by omega) (by omega)]
def differP (a b : List Int) (i : Nat) : Bool := decide (a.length ≤ i) || (decide (b.length ≤ i) || (a.getD i 0 != b.getD i 0))
def differI (a b : List Int) : Int := findFrom (differP a b) 0 (max a.length b.length)
theorem differI_comm (a b : List Int) : differI a b = differI b a := by
  unfold differI
  rw [Nat.max_comm]
  refine findFrom_congr _ _ _ _ fun j _ _ => ?_
  unfold differP
  rw [← Bool.or_assoc, Bool.or_comm (decide (a.length ≤ j)), Bool.or_assoc]
  congr 2
  simp [bne, Bool.beq_comm]
theorem differI_self (a : List Int) : differI a a = -1 := by
  unfold differI
  refine findFrom_miss _ _ _ fun j _ h => ?_
  unfold differP
  have : ¬ a.length ≤ j := by omega
  simp [this]
/-- Where the first is no shorter. -/
theorem differI_long (a b : List Int) (h : b.length ≤ a.length) : differI a b = findFrom (fun i => decide (b.length ≤ i) || (b.getD i 0 != a.getD i 0)) 0 a.length := by
  unfold differI
  rw [Nat.max_eq_left h]
  refine findFrom_congr _ _ _ _ fun j _ hj => ?_
  unfold differP
  have : ¬ a.length ≤ j := by omega
  simp [this, bne, Bool.beq_comm]
theorem Differ1_calls (lb : List Int) (vb : Value) (B bs : Nat) (hlb : lb.length ≤ maxLen) (i : Nat) (c : Int) (hi : i < 9223372036854775807) (w : World) (hB : B ≤ w.heap.size) (hbox : w.cell? ⟨bs, 0, none⟩ = some vb) (hv : RowAt B w vb lb.length (intVals .u8 lb)) :
    Calls Try.prog 52 #[.int .i64 i, .int .u8 c, .pointer (some ⟨bs, 0, none⟩)] w fun e w' => e = .returned (.bool (decide (lb.length ≤ i) || (lb.getD i 0 != c))) ∧ Below w.heap.size w w' := by
  unfold maxLen at hlb
  obtain ⟨ad, cap, rfl, _, hrow⟩ := hv
  by_cases h : lb.length ≤ i
  · go_enter Try.func52, Try.ntmps52
    go_wp2_with fail
    go_ret
    exact ⟨by simp [h], Below.refl _ _⟩
  · have hlt : i < lb.length := by omega
    rcases hrow with h0 | ⟨b, off, rfl, hbB, hc⟩
    · exfalso; have := congrArg List.length h0; simp [intVals] at this; subst this; simp at hlt
    have hck : w.cell? ⟨b, off + i, none⟩ = some (.int .u8 lb[i]) := by
      rw [hc i (by simpa [intVals] using hlt), intVals_get _ _ _ hlt]
    have hgd : lb.getD i 0 = lb[i] := by simp [List.getD, hlt]
    have HG := Lib.hid hgd
    clear hgd hc
    have i0 : (0 : Int) ≤ i := by omega
    have i1 : (i : Int) < lb.length := by omega
    have i2 : decide (((lb.length : Nat) : Int) ≤ (i : Int)) = false := by simp; omega
    go_enter Try.func52, Try.ntmps52
    go_wp2_with fail
    go_ret
    refine ⟨?_, Below.refl _ _⟩
    rw [HG.out]
    simp [bne, show ¬ lb.length ≤ i by omega]
theorem Differ_long (va vb : Value) (a b : List Int) (B : Nat) (w : World) (hB : B ≤ w.heap.size) (ha : a.length ≤ maxLen) (hb : b.length ≤ maxLen) (hva : RowAt B w va a.length (intVals .u8 a)) (hvb : RowAt B w vb b.length (intVals .u8 b)) (hlen : b.length ≤ a.length) :
    Calls Try.prog 32 #[va, vb] w fun e w' => e = .returned (.int .i64 (differI a b)) ∧ Below w.heap.size w w' := by
  obtain ⟨ada, capa, rfl, _, _⟩ := id hva
  obtain ⟨adb, capb, rfl, _, _⟩ := id hvb
  have hw1 : Below w.heap.size w (w.alloc (.cells #[.slice adb b.length capb] 28)) := (Below.refl _ w).alloc (Nat.le_refl _) _
  have HF : Hid (∀ (i : Nat) (h : i < a.length) (W : World), Below (w.alloc (.cells #[.slice adb b.length capb] 28)).heap.size (w.alloc (.cells #[.slice adb b.length capb] 28)) W → Calls Try.prog 52 (#[.int .i64 i, .int .u8 a[i]] ++ #[.pointer (some ⟨w.heap.size, 0, none⟩)]) W fun e W' => e = .returned (.bool ((fun i => decide (b.length ≤ i) || (b.getD i 0 != a.getD i 0)) i)) ∧ Below W.heap.size W W') := by
    intro i h W hW
    have hz := hW.size
    simp at hz
    have := Differ1_calls b (.slice adb b.length capb) B w.heap.size hb i a[i] (by unfold maxLen at ha; omega) W (by omega) (((Blk.new w _ _).below hW (by simp)).cell 0 rfl) ((hvb.below hw1 hB).below hW (by simp; omega))
    simpa [List.getD, h] using this
  have t : ¬ a.length < b.length := by omega
  go_enter Try.func32, Try.ntmps32
  go_wp2_with fail
  refine (first_ok 52 #[.pointer (some ⟨w.heap.size, 0, none⟩)] (enters_of Try.func52 (by kernel_rfl) rfl) (fun i => decide (b.length ≤ i) || (b.getD i 0 != a.getD i 0)) (.slice ada a.length capa) a B _ (by simp; omega) ha (hva.below hw1 hB) HF).mono ?_; rintro e w1 ⟨rfl, hb1⟩
  go_wp2_with fail
  go_ret
  exact ⟨by rw [differI_long a b hlen]; rfl, hw1.trans (hb1.mono (by simp))⟩
theorem Differ_short (va vb : Value) (a b : List Int) (B : Nat) (w : World) (hB : B ≤ w.heap.size) (ha : a.length ≤ maxLen) (hb : b.length ≤ maxLen) (hva : RowAt B w va a.length (intVals .u8 a)) (hvb : RowAt B w vb b.length (intVals .u8 b)) (hlen : a.length < b.length) :
    Calls Try.prog 32 #[va, vb] w fun e w' => e = .returned (.int .i64 (differI a b)) ∧ Below w.heap.size w w' := by
  obtain ⟨ada, capa, rfl, _, _⟩ := id hva
  obtain ⟨adb, capb, rfl, _, _⟩ := id hvb
  have hw1 : Below w.heap.size w (w.alloc (.cells #[.slice ada a.length capa] 28)) := (Below.refl _ w).alloc (Nat.le_refl _) _
  have HF : Hid (∀ (i : Nat) (h : i < b.length) (W : World), Below (w.alloc (.cells #[.slice ada a.length capa] 28)).heap.size (w.alloc (.cells #[.slice ada a.length capa] 28)) W → Calls Try.prog 52 (#[.int .i64 i, .int .u8 b[i]] ++ #[.pointer (some ⟨w.heap.size, 0, none⟩)]) W fun e W' => e = .returned (.bool ((fun i => decide (a.length ≤ i) || (a.getD i 0 != b.getD i 0)) i)) ∧ Below W.heap.size W W') := by
    intro i h W hW
    have hz := hW.size
    simp at hz
    have := Differ1_calls a (.slice ada a.length capa) B w.heap.size ha i b[i] (by unfold maxLen at hb; omega) W (by omega) (((Blk.new w _ _).below hW (by simp)).cell 0 rfl) ((hva.below hw1 hB).below hW (by simp; omega))
    simpa [List.getD, h] using this
  go_enter Try.func32, Try.ntmps32
  go_wp2_with fail
  refine (first_ok 52 #[.pointer (some ⟨w.heap.size, 0, none⟩)] (enters_of Try.func52 (by kernel_rfl) rfl) (fun i => decide (a.length ≤ i) || (a.getD i 0 != b.getD i 0)) (.slice adb b.length capb) b B _ (by simp; omega) hb (hvb.below hw1 hB) HF).mono ?_; rintro e w1 ⟨rfl, hb1⟩
  go_wp2_with fail
  go_ret
  exact ⟨by rw [differI_comm, differI_long b a (by omega)]; rfl, hw1.trans (hb1.mono (by simp))⟩
theorem Differ_ok (va vb : Value) (a b : List Int) (B : Nat) (w : World) (hB : B ≤ w.heap.size) (ha : a.length ≤ maxLen) (hb : b.length ≤ maxLen) (hva : RowAt B w va a.length (intVals .u8 a)) (hvb : RowAt B w vb b.length (intVals .u8 b)) :
    Calls Try.prog 32 #[va, vb] w fun e w' => e = .returned (.int .i64 (differI a b)) ∧ Below w.heap.size w w' := by
  rcases Nat.lt_or_ge a.length b.length with h | h
  · exact Differ_short va vb a b B w hB ha hb hva hvb h
  · exact Differ_long va vb a b B w hB ha hb hva hvb h
end Go.Proofs.Ytackenlfnecanaa
