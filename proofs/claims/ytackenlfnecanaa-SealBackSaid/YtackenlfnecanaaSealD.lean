/-
  slices.Equal over bytes; plain laws: what differs, what is opened again. Conditions: lengths up to maxLen.
-/
import Derived.Test.YtackenlfnecanaaSealC
namespace Go.Proofs.Ytackenlfnecanaa
open Go.RowKit
attribute [local go_sem] Oper.semAt_some
set_option maxHeartbeats 400000

theorem list_ext_getD (a b : List Int) (h : a.length = b.length) (hn : ∀ j, j < a.length → a.getD j 0 = b.getD j 0) : a = b := by
  refine List.ext_getElem h fun i h1 h2 => ?_
  have := hn i h1
  simpa [List.getD, h1, h2] using this
theorem Equal_ok (va vb : Value) (a b : List Int) (B : Nat) (w : World) (hB : B ≤ w.heap.size) (ha : a.length ≤ maxLen) (hb : b.length ≤ maxLen) (hva : RowAt B w va a.length (intVals .u8 a)) (hvb : RowAt B w vb b.length (intVals .u8 b)) :
    Calls Try.prog 28 #[va, vb] w fun e w' => e = .returned (.bool (decide (a = b))) ∧ Below w.heap.size w w' := by
  unfold maxLen at ha hb
  obtain ⟨ada, capa, rfl, _, _⟩ := id hva
  obtain ⟨adb, capb, rfl, _, _⟩ := id hvb
  by_cases hlen : a.length = b.length
  · have HL := Lib.hid hlen
    have hln : ((a.length : Int) = (b.length : Int)) := by omega
    clear hlen
    go_enter Try.func28, Try.ntmps28
    go_wp2_with fail
    go_loopw [13] (fun i wr => ∃ k : Nat, k ≤ a.length ∧ i = .int .i64 k ∧ (∀ j, j < k → a.getD j 0 = b.getD j 0) ∧ Below w.heap.size w wr) (fun i _ => a.length - (intOf i).toNat)
    case atStart => exact ⟨0, by omega, rfl, fun j hj => by omega, Below.refl _ _⟩
    case round =>
      obtain ⟨k, hk, rfl, hn, hbw⟩ := hrel
      have HN := Lib.hid hn
      clear hn
      have i0 : (0 : Int) ≤ k := by omega
      by_cases hlt : k < a.length
      · have hkb : k < b.length := by have := HL.out; omega
        have d1 : (k : Int) < a.length := by omega
        have d2 : (k : Int) < b.length := by omega
        obtain ⟨b1, o1, rfl, _, hc1⟩ := hva.get k hlt
        obtain ⟨b2, o2, rfl, _, hc2⟩ := hvb.get k hkb
        have hck1 := hc1 wr (hbw.mono hB)
        have hck2 := hc2 wr (hbw.mono hB)
        clear hc1 hc2
        by_cases hp : a[k] = b[k]
        · have HP := Lib.hid (show a.getD k 0 = b.getD k 0 by simp [List.getD, hlt, hkb, hp])
          rw [hp] at hck1
          clear hp
          go_wp2_with fail
          go_quiet (fail)
          go_wp2_with fail
          exact ⟨⟨k + 1, by omega, by go_num, fun j hj => by rcases Nat.lt_or_ge j k with h | h; exact HN.out j h; rw [show j = k by omega]; exact HP.out, hbw.drewN _⟩, by simp [intOf]; omega⟩
        · have hr := Lib.hid (show decide (a = b) = false by simp; intro h; subst h; exact hp rfl)
          have hp1 : (a[k] == b[k]) = false := by simpa using hp
          have hp2 : (a[k] != b[k]) = true := by simpa using hp
          go_wp2_with fail
          go_quiet (fail)
          go_wp2_with fail
          go_ret
          exact ⟨by rw [hr.out]; rfl, hbw.drewN _⟩
      · obtain rfl : k = a.length := by omega
        have hr := Lib.hid (show decide (a = b) = true by simp; exact list_ext_getD a b HL.out HN.out)
        go_wp2_with fail
        go_ret
        exact ⟨by rw [hr.out]; rfl, hbw⟩
  · have hln : ((a.length : Int) = (b.length : Int)) = False := by simp; omega
    have hr := Lib.hid (show decide (a = b) = false by simp; intro h; exact hlen (by rw [h]))
    have hlb : ((a.length : Int) == (b.length : Int)) = false := by simp; omega
    have hln2 : ((a.length : Int) != (b.length : Int)) = true := by simp; omega
    go_enter Try.func28, Try.ntmps28
    go_wp2_with fail
    go_ret
    exact ⟨by rw [hr.out]; rfl, Below.refl _ _⟩

/-! ### Plain laws -/
theorem findFrom_neg (p : Nat → Bool) : ∀ (m k : Nat), findFrom p k m < 0 → ∀ j, k ≤ j → j < k + m → p j = false := by
  intro m
  induction m with
  | zero => intro k _ j h1 h2; omega
  | succ m ih =>
    intro k h j h1 h2
    unfold findFrom at h
    by_cases hp : p k = true
    · rw [if_pos hp] at h; omega
    · rw [if_neg hp] at h
      rcases Nat.eq_or_lt_of_le h1 with rfl | h3
      · simpa using hp
      · exact ih (k + 1) h j h3 (by omega)
theorem findFrom_ge (p : Nat → Bool) : ∀ (m k : Nat), -1 ≤ findFrom p k m := by
  intro m
  induction m with
  | zero => intro k; exact Int.le_refl _
  | succ m ih =>
    intro k
    unfold findFrom
    split
    · omega
    · exact ih (k + 1)
theorem differI_iff (a b : List Int) : differI a b < 0 ↔ a = b := by
  constructor
  · intro h
    have hn := findFrom_neg _ _ _ h
    have hd : ∀ j, j < max a.length b.length → (a.length ≤ j) = False ∧ (b.length ≤ j) = False ∧ a.getD j 0 = b.getD j 0 := by
      intro j hj
      have := hn j (Nat.zero_le _) (by omega)
      simpa [differP] using this
    have hl : a.length = b.length := by
      rcases Nat.lt_trichotomy a.length b.length with h1 | h1 | h1
      · have := (hd a.length (by omega)).1; simp at this
      · exact h1
      · have := (hd b.length (by omega)).2.1; simp at this
    exact list_ext_getD a b hl fun j hj => (hd j (by omega)).2.2
  · rintro rfl
    rw [differI_self]; decide
def lookI (h l hw lw : List Int) : Int := if h ≠ hw then 1 else if l ≠ lw then 2 else 0
theorem bytesI_inj (a b : Int) (ha : 0 ≤ a) (ha' : a < 18446744073709551616) (hb : 0 ≤ b) (hb' : b < 18446744073709551616) (h : bytesI a 8 = bytesI b 8) : a = b := by
  have := congrArg valI h
  rwa [valI_bytes 8 a ha ha', valI_bytes 8 b hb hb'] at this
theorem sealB_inj (b n m : Int) (hn : 0 ≤ n) (hn' : n < 18446744073709551616) (hm : 0 ≤ m) (hm' : m < 18446744073709551616) (h : sealB b n = sealB b m) : n = m := by
  have h1 := (List.append_inj h (by simp [bytesI_len])).1
  have h2 := bytesI_inj _ _ (mix_bd _ _).1 (mix_bd _ _).2 (mix_bd _ _).1 (mix_bd _ _).2 h1
  have h3 := congrArg (undoI b) h2
  rwa [undo_mix b n hn hn', undo_mix b m hm hm'] at h3
theorem wordI_inj (c s n c' s' n' : Int) (hr : rightI c s = true) (hn : 0 ≤ n) (hn' : n < 4294967296) (hr' : rightI c' s' = true) (hm : 0 ≤ n') (hm' : n' < 4294967296) (h : wordI c s n = wordI c' s' n') : c = c' ∧ s = s' ∧ n = n' := by
  have h1 := (rightI_iff c s).1 hr
  have h2 := (rightI_iff c' s').1 hr'
  unfold wordI at h
  omega
/-- The parts of a word. -/
def clsI (w : Int) : Int := w / 281474976710656
def szI (w : Int) : Int := w / 4294967296 % 65536
def nonI (w : Int) : Int := w % 4294967296
theorem parts_bd (w : Int) (h0 : 0 ≤ w) (h1 : w < 18446744073709551616) : 0 ≤ clsI w ∧ clsI w < 65536 ∧ 0 ≤ szI w ∧ szI w < 65536 ∧ 0 ≤ nonI w ∧ nonI w < 4294967296 := by
  unfold clsI szI nonI; omega
theorem parts_word (c s n : Int) (hr : rightI c s = true) (hn : 0 ≤ n) (hn' : n < 4294967296) : clsI (wordI c s n) = c ∧ szI (wordI c s n) = s ∧ nonI (wordI c s n) = n := by
  have h1 := (rightI_iff c s).1 hr
  unfold clsI szI nonI wordI; omega
/-- The word that bytes say. -/
def saidI (key at_ : Int) (l : List Int) : Int := undoI (foldI [key, at_]) (valI (l.take 8))
theorem said_bd (key at_ : Int) (l : List Int) : 0 ≤ saidI key at_ l ∧ saidI key at_ l < 18446744073709551616 := undo_bd _ _
def okI (key at_ : Int) (l : List Int) : Bool := rightI (clsI (saidI key at_ l)) (szI (saidI key at_ l)) && decide (sealB (foldI [key, at_]) (wordI (clsI (saidI key at_ l)) (szI (saidI key at_ l)) (nonI (saidI key at_ l))) = l)
theorem said_seal (key at_ c s n : Int) (hr : rightI c s = true) (hn : 0 ≤ n) (hn' : n < 4294967296) : saidI key at_ (sealB (foldI [key, at_]) (wordI c s n)) = wordI c s n := by
  have hw := wordI_bd c s n hr hn hn'
  unfold saidI sealB
  rw [List.take_append_of_le_length (by rw [bytesI_len]; exact Nat.le_refl _), List.take_of_length_le (by rw [bytesI_len]; exact Nat.le_refl _), valI_bytes 8 _ (mix_bd _ _).1 (mix_bd _ _).2, undo_mix _ _ hw.1 hw.2]
theorem ok_seal (key at_ c s n : Int) (hr : rightI c s = true) (hn : 0 ≤ n) (hn' : n < 4294967296) : okI key at_ (sealB (foldI [key, at_]) (wordI c s n)) = true := by
  unfold okI
  obtain ⟨h1, h2, h3⟩ := parts_word c s n hr hn hn'
  rw [said_seal key at_ c s n hr hn hn', h1, h2, h3, hr]
  simp
end Go.Proofs.Ytackenlfnecanaa
