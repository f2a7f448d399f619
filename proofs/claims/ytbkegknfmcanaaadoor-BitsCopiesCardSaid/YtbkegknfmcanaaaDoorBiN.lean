/-
  Package bits: Parse. No condition.
-/
import Derived.Test.YtbkegknfmcanaaaDoorBiM
namespace Go.Proofs.YtbkegknfmcanaaaDoor
open Go.RowKit Go.Shelf
attribute [local go_sem] Oper.semAt_some
set_option maxHeartbeats 4000000
set_option maxRecDepth 8000

def allB (bs : List UInt8) : Bool := bs.all (zo.contains ·)
theorem dropWhile_nil {α : Type} (p : α → Bool) : ∀ l : List α, l.dropWhile p = [] ↔ ∀ x ∈ l, p x = true
  | [] => by simp
  | a :: l => by
    rw [List.dropWhile_cons]
    by_cases h : p a = true
    · rw [if_pos h, dropWhile_nil p l]; simp [h]
    · rw [if_neg h]; simp [h]
theorem mem_takeWhile {α : Type} (p : α → Bool) {x : α} : ∀ l : List α, x ∈ l.takeWhile p → p x = true
  | [], h => by simp at h
  | a :: l, h => by
    rw [List.takeWhile_cons] at h
    split at h
    · rcases List.mem_cons.1 h with rfl | h
      · assumption
      · exact mem_takeWhile p l h
    · simp at h
theorem trim_nil (bs : List UInt8) : (Lib.trimS bs zo = []) ↔ allB bs = true := by
  unfold Lib.trimS Lib.trimLeftS Lib.trimRightS allB
  rw [dropWhile_nil, List.all_eq_true]
  constructor
  · intro h b hb
    by_cases hp : zo.contains b = true
    · exact hp
    · exfalso
      have hm : b ∈ bs.reverse := by simpa using hb
      rw [← List.takeWhile_append_dropWhile (p := (zo.contains ·)) (l := bs.reverse)] at hm
      rcases List.mem_append.1 hm with hm | hm
      · exact hp (mem_takeWhile _ _ hm)
      · exact hp (h b (by simpa using hm))
  · intro h b hb
    have : b ∈ bs.reverse.dropWhile (zo.contains ·) := by simpa using hb
    exact h b (by simpa using (List.dropWhile_sublist _).mem this)
theorem Trim_ok (s : ByteArray) (w : World) (hs : s.size ≤ 9223372036854775807) : Calls Tryd.prog 31 #[.string s, .string ⟨#[48, 49]⟩] w fun e w' => e = .returned (.string ⟨(Lib.trimS s.data.toList zo).toArray⟩) ∧ Below w.heap.size w w' :=
  Any.strings_Trim_laid Tryd.lays160 (by kernel_rfl) s ⟨#[48, 49]⟩ w hs (by decide) (ascii_of_all (by decide))
theorem Parse_no (s : ByteArray) (w : World) (hs : s.size ≤ 9223372036854775807) (h : allB s.data.toList = false ∨ 4096 < s.size) : Calls Tryd.prog 10 #[.string s] w fun e w' => e = .returned (.tuple #[.pointer none, .int .i64 140]) ∧ Below w.heap.size w w' := by
  obtain ⟨t, ht⟩ : ∃ t, Lib.trimS s.data.toList zo = t := ⟨_, rfl⟩
  cases hte : t.isEmpty with
  | false =>
    have HT := Lib.hid ht
    clear h ht
    go_enter Tryd.func10, Tryd.ntmps10
    go_wp2_with fail
    refine (Trim_ok s w hs).mono ?_; rintro e w1 ⟨rfl, k1⟩
    rw [HT.out]
    go_wp2_with fail
    go_ret2
    exact ⟨rfl, k1⟩
  | true =>
    obtain rfl : t = [] := by cases t with | nil => rfl | cons _ _ => cases hte
    have h2 : 4096 < s.size := by
      rcases h with h | h
      · rw [(trim_nil _).1 ht] at h; cases h
      · exact h
    have h3 : (4096 : Int) < s.size := by omega
    have HT := Lib.hid ht
    clear h ht hte
    go_enter Tryd.func10, Tryd.ntmps10
    go_wp2_with fail
    refine (Trim_ok s w hs).mono ?_; rintro e w1 ⟨rfl, k1⟩
    rw [HT.out]
    go_wp2_with fail
    refine (New_no s.size w1 (.inr h3)).mono ?_; rintro e _ ⟨rfl, rfl⟩
    go_wp2_with fail
    go_ret2
    exact ⟨rfl, k1⟩
def parB (bs : List UInt8) : List Bool := bs.map (· == 49)
theorem parB_len (bs : List UInt8) : (parB bs).length = bs.length := by simp [parB]
/-- As it is filled. -/
def filB (bs : List UInt8) (k : Nat) : List Bool := (parB bs).take k ++ List.replicate (bs.length - k) false
theorem filB_len (bs : List UInt8) (k : Nat) (hk : k ≤ bs.length) : (filB bs k).length = bs.length := by unfold filB parB; simp; omega
theorem filB_zero (bs : List UInt8) : filB bs 0 = List.replicate bs.length false := by simp [filB]
theorem filB_all (bs : List UInt8) : filB bs bs.length = parB bs := by simp [filB, parB, List.take_of_length_le]
theorem filB_set (bs : List UInt8) (k : Nat) (hk : k < bs.length) : (filB bs k).set k (bs[k] == 49) = filB bs (k + 1) := by
  unfold filB
  rw [List.set_append_right _ _ (by simp [parB]; omega)]
  have hl : ((parB bs).take k).length = k := by simp [parB]; omega
  rw [hl, Nat.sub_self, List.take_succ_eq_append_getElem (by simpa [parB] using hk), List.append_assoc]
  congr 1
  obtain ⟨m, hm⟩ : ∃ m, bs.length - k = m + 1 := ⟨bs.length - k - 1, by omega⟩
  rw [hm, show bs.length - (k + 1) = m by omega, List.replicate_succ, List.set_cons_zero]
  simp [parB]
theorem Parse_ok (s : ByteArray) (w : World) (hs : s.size ≤ 4096) (h : allB s.data.toList = true) : Calls Tryd.prog 10 #[.string s] w fun e w' => ∃ c lo hi, e = .returned (.tuple #[.pointer (some ⟨c, 0, none⟩), .int .i64 0]) ∧ w.heap.size ≤ lo ∧ MkAt lo hi w' c (parB s.data.toList) ∧ Below w.heap.size w w' := by
  have h0 : (Lib.trimS s.data.toList zo) = [] := (trim_nil _).2 h
  have hsz : s.data.toList.length = s.size := by rw [Array.length_toList]; rfl
  obtain ⟨bs, hbs⟩ : ∃ bs, s.data.toList = bs := ⟨_, rfl⟩
  rw [hbs] at h hsz ⊢
  have HBS := Lib.hid hbs
  clear h hbs
  go_enter Tryd.func10, Tryd.ntmps10
  go_wp2_with fail
  refine (Trim_ok s w (by omega)).mono ?_; rintro e w1 ⟨rfl, k1⟩
  rw [h0]
  go_wp2_with fail
  refine (New_ok s.size w1 hs).mono ?_; rintro e w2 ⟨c, rfl, hS, k2⟩
  have hcv := Lib.run_convert_string_bytes (P := Tryd.prog) w2 9 27 5 s (u := .string) Tryd.underlying9 Tryd.underlying27 Tryd.underlying5
  have k3 := Lib.bytesWorld_below w2 5 s
  have hcl := fun j => Lib.bytesWorld_cell w2 5 s j
  have hzs := Lib.bytesWorld_size w2 5 s
  obtain ⟨w3, hw3⟩ : ∃ w3, Lib.bytesWorld w2 5 s = w3 := ⟨_, rfl⟩
  rw [hw3] at hcv k3 hcl hzs
  have hS3 := hS.step k3
  have kb := k1.trans ((k2.trans (k3.mono k2.size)).mono k1.size)
  have hlo : w.heap.size ≤ w1.heap.size := k1.size
  rw [HBS.out] at hcl
  rw [← hsz, ← filB_zero] at hS3
  rw [← hsz] at hs hcv hcl
  obtain ⟨hi, hhi⟩ : ∃ hi, w2.heap.size = hi := ⟨_, rfl⟩
  obtain ⟨lo, hlo2⟩ : ∃ lo, w1.heap.size = lo := ⟨_, rfl⟩
  have hss : (s.size : Int) = bs.length := by omega
  rw [hlo2] at hS3 hlo
  rw [hhi] at hS3 hcv hcl hzs
  clear hw3 hS k1 k2 k3
  go_wp2_with fail
  go_loopw [22] (fun i wr => ∃ k : Nat, k ≤ bs.length ∧ i = .int .i64 k ∧ MkAt lo hi wr c (filB bs k) ∧ Tur lo hi w3 wr) (fun i _ => bs.length - (intOf i).toNat)
  case atStart => exact ⟨0, by omega, rfl, hS3, .of_below (Below.refl _ _)⟩
  case round =>
    obtain ⟨k, hk, rfl, hSr, hT⟩ := hrel
    clear hS3
    by_cases hlt : k < bs.length
    · have hfl := filB_len bs k hk
      have qb : wr.cell? ⟨hi, k, none⟩ = some (.int .u8 ((bs[k]).toNat : Nat)) := by
        have h9 := hcl k hlt
        rw [List.getD_eq_getElem?_getD, List.getElem?_eq_getElem hlt, Option.getD_some] at h9
        exact (World.cell?_of_block (a := ⟨hi, k, none⟩) (hT.block hi (by omega) (.inr (Nat.le_refl _)))).trans h9
      have hset := filB_set bs k hlt
      obtain ⟨y, hy⟩ : ∃ y, bs[k] = y := ⟨_, rfl⟩
      rw [hy] at qb hset
      have hy9 : (((y.toNat : Nat) : Int) == 49) = (y == 49) := by
        by_cases e : y = 49
        · subst e; rfl
        · rw [beq_eq_false_iff_ne.2 e, beq_eq_false_iff_ne]
          intro e2
          exact e (UInt8.toNat_inj.1 (by show y.toNat = 49; omega))
      obtain ⟨d, hd⟩ : ∃ d, (y == 49) = d := ⟨_, rfl⟩
      rw [hd] at hy9 hset
      have HSet := Lib.hid (fun W (hW : MkAt lo hi W c (filB bs k)) => Set_ok hW (by omega) k (by omega) d)
      have HE := Lib.hid hset
      have HFL := Lib.hid hfl
      have i0 : (0 : Int) ≤ k := by omega
      have i1 : (k : Int) < bs.length := by omega
      have i3 : (k : Int) < s.size := by omega
      clear hy hd hset hfl
      go_wp2_with fail
      refine (HSet.out wr hSr).mono ?_; rintro e w4 ⟨rfl, g1, g3⟩
      rw [HE.out] at g1
      go_wp2_with fail
      exact ⟨⟨k + 1, by omega, by go_num, g1, hT.trans g3⟩, by simp [intOf]; omega⟩
    · obtain rfl : k = bs.length := by omega
      rw [filB_all] at hSr
      have kf : Below w.heap.size w wr := kb.trans (hT.below hlo (by have := kb.size; omega))
      go_wp2_with fail
      go_ret2
      exact ⟨_, _, _, rfl, hlo, hSr, kf⟩
end Go.Proofs.YtbkegknfmcanaaaDoor
