/-
  Package state: Text, Parse. Conditions: sheets of at most 256 slots.
-/
import Derived.Test.YtdhbhjkfcpglbaaDoorStE
import Derived.Lib.ConvBytes
import Derived.Lib.AtoiErrMem
namespace Go.Proofs.YtdhbhjkfcpglbaaDoor
open Go.RowKit Go.Shelf
attribute [local go_sem] Oper.semAt_some
set_option maxHeartbeats 4000000
set_option maxRecDepth 8000

def lets : List UInt8 := [102, 107, 108, 104, 103]
def letU (x : Int) : UInt8 := if x = 0 then 102 else if x = 1 then 107 else if x = 2 then 108 else if x = 3 then 104 else 103
def txtL (l : List Int) : List UInt8 := l.map letU
theorem run_let (w : World) {x : Int} (h : isSt x = true) : (Instr.index 9 (.string ⟨#[102, 107, 108, 104, 103]⟩) (.int .i64 x)).run Tryd.prog w = .ok (.int .u8 ((letU x).toNat : Nat)) w := by
  rcases isSt_cases h with rfl | rfl | rfl | rfl | rfl <;> kernel_rfl
theorem ShAt.low {lo hi n : Nat} {W W' : World} {s : Nat} {l : List Int} (h : ShAt lo hi W s l) (k : Below n W W') (hn : hi ≤ n) : ShAt lo hi W' s l :=
  h.of_same k.size fun i _ h2 => k.block i (by omega)
theorem byteCells_snoc (l : List UInt8) (b : UInt8) : Lib.byteCells (l ++ [b]) = Lib.byteCells l ++ [.int .u8 (b.toNat : Nat)] := by simp [Lib.byteCells]
theorem builder_new (w : World) : Lib.IsBuilder 82 5 w.heap.size w.heap.size (Lib.byteCells []) (w.alloc (.cells #[.pointer none, .slice none 0 0] 82)) :=
  .inl ⟨Nat.le_refl _, _, Blk.new w _ _, ⟨rfl, .inl ⟨rfl, rfl⟩⟩, by simp [Value.ownBlock]⟩
theorem Text_none {w : World} {p : Option Addr} (h : NoSh w p) : Calls Tryd.prog 19 #[.pointer p] w fun e w' => e = .returned (.string ⟨#[]⟩) ∧ Below w.heap.size w w' := by
  obtain ⟨w1, hw1⟩ : ∃ w1, w.alloc (.cells #[.pointer none, .slice none 0 0] 82) = w1 := ⟨_, rfl⟩
  have k1 : Below w.heap.size w w1 := by rw [← hw1]; exact (Below.refl _ w).alloc (Nat.le_refl _) _
  have hb : Lib.IsBuilder 82 5 w.heap.size w.heap.size (Lib.byteCells []) w1 := by rw [← hw1]; exact builder_new w
  go_enter Tryd.func19, Tryd.ntmps19
  go_wp2_with fail
  refine (Len_none (h.step k1)).mono ?_; rintro e _ ⟨rfl, rfl⟩
  clear hw1
  go_wp2_with fail
  go_loopw [7] (fun i wr => i = .int .i64 0 ∧ w1 = wr) (fun _ _ => 0)
  case atStart => exact ⟨rfl, rfl⟩
  case round =>
    obtain ⟨rfl, rfl⟩ := hrel
    go_wp2_with fail
    refine (String_ok w.heap.size w.heap.size [] w1 hb k1.size).mono ?_; rintro e w2 ⟨rfl, k2⟩
    go_wp2_with fail
    go_ret
    exact ⟨rfl, k1.trans k2⟩
theorem Text_ok {lo hi : Nat} {w : World} {s : Nat} {l : List Int} (h : ShAt lo hi w s l) (hl : l.length ≤ 256) (hs : ∀ x ∈ l, isSt x = true) : Calls Tryd.prog 19 #[.pointer (some ⟨s, 0, none⟩)] w fun e w' => e = .returned (.string ⟨(txtL l).toArray⟩) ∧ Below w.heap.size w w' := by
  obtain ⟨w1, hw1⟩ : ∃ w1, w.alloc (.cells #[.pointer none, .slice none 0 0] 82) = w1 := ⟨_, rfl⟩
  have k1 : Below w.heap.size w w1 := by rw [← hw1]; exact (Below.refl _ w).alloc (Nat.le_refl _) _
  have hb : Lib.IsBuilder 82 5 w.heap.size w.heap.size (Lib.byteCells (txtL (l.take 0))) w1 := by rw [← hw1]; exact builder_new w
  have hz := h.2.2.1
  go_enter Tryd.func19, Tryd.ntmps19
  go_wp2_with fail
  refine (Len_ok (h.step k1)).mono ?_; rintro e _ ⟨rfl, rfl⟩
  clear hw1
  go_wp2_with fail
  go_loopw [7] (fun i wr => ∃ k : Nat, k ≤ l.length ∧ i = .int .i64 k ∧ Lib.IsBuilder 82 5 w.heap.size w.heap.size (Lib.byteCells (txtL (l.take k))) wr ∧ Below w.heap.size w wr) (fun i _ => l.length - (intOf i).toNat)
  case atStart => exact ⟨0, by omega, rfl, hb, k1⟩
  case round =>
    obtain ⟨k, hk, rfl, hbr, kr⟩ := hrel
    clear hb k1
    by_cases hlt : k < l.length
    · obtain ⟨a, cap, c0, _, hr, _⟩ := (h.low kr hz).open
      obtain ⟨b, off, rfl, _, q⟩ := hr.geti k hlt
      have hst := hs _ (List.getElem_mem hlt)
      have htk : txtL (l.take (k + 1)) = txtL (l.take k) ++ [letU l[k]] := by unfold txtL; rw [List.take_succ_eq_append_getElem hlt, List.map_append]; rfl
      have hlk : (txtL (l.take k)).length ≤ 256 := by unfold txtL; rw [List.length_map, List.length_take]; omega
      generalize l[k] = x at q hst htk
      have hix := fun W => run_let W hst
      have i0 : (0 : Int) ≤ k := by omega
      have i1 : (k : Int) < l.length := by omega
      have HTK := Lib.hid htk
      clear hr hst htk
      go_wp2_with fail
      refine (WriteByte_ok w.heap.size w.heap.size _ _ wr hbr (by simp [Lib.byteCells]; omega) kr.size).mono ?_; rintro e w2 ⟨rfl, hb2, k2⟩
      go_wp2_with fail
      exact ⟨⟨k + 1, by omega, by go_num, by rw [HTK.out, byteCells_snoc]; exact .inr hb2, kr.trans k2⟩, by simp [intOf]; omega⟩
    · obtain rfl : k = l.length := by omega
      rw [List.take_length] at hbr
      go_wp2_with fail
      refine (String_ok w.heap.size w.heap.size (txtL l) wr hbr kr.size).mono ?_; rintro e w2 ⟨rfl, k2⟩
      go_wp2_with fail
      go_ret
      exact ⟨rfl, kr.trans k2⟩
def allLet (bs : List UInt8) : Bool := bs.all (lets.contains ·)
theorem dropWhile_nil {α : Type} (p : α → Bool) : ∀ l : List α, l.dropWhile p = [] ↔ ∀ x ∈ l, p x = true
  | [] => by simp
  | a :: l => by
    rw [List.dropWhile_cons]
    by_cases h : p a = true
    · rw [if_pos h, dropWhile_nil p l]; simp [h]
    · rw [if_neg h]; simp [h]
theorem mem_takeWhile {α : Type} (p : α → Bool) {x : α} : ∀ l : List α, x ∈ l.takeWhile p → p x = true
  | [], h => by simp at h
  | a :: l, h => by
    rw [List.takeWhile_cons] at h
    split at h
    · rcases List.mem_cons.1 h with rfl | h
      · assumption
      · exact mem_takeWhile p l h
    · simp at h
theorem trim_nil (bs : List UInt8) : (Lib.trimS bs lets = []) ↔ allLet bs = true := by
  unfold Lib.trimS Lib.trimLeftS Lib.trimRightS allLet
  rw [dropWhile_nil, List.all_eq_true]
  constructor
  · intro h b hb
    by_cases hp : lets.contains b = true
    · exact hp
    · exfalso
      have hm : b ∈ bs.reverse := by simpa using hb
      rw [← List.takeWhile_append_dropWhile (p := (lets.contains ·)) (l := bs.reverse)] at hm
      rcases List.mem_append.1 hm with hm | hm
      · exact hp (mem_takeWhile _ _ hm)
      · exact hp (h b (by simpa using hm))
  · intro h b hb
    have : b ∈ bs.reverse.dropWhile (lets.contains ·) := by simpa using hb
    exact h b (by simpa using (List.dropWhile_sublist _).mem this)
theorem Trim_ok (s : ByteArray) (w : World) (hs : s.size ≤ 9223372036854775807) : Calls Tryd.prog 38 #[.string s, .string ⟨#[102, 107, 108, 104, 103]⟩] w fun e w' => e = .returned (.string ⟨(Lib.trimS s.data.toList lets).toArray⟩) ∧ Below w.heap.size w w' :=
  Any.strings_Trim_laid Tryd.lays160 (by kernel_rfl) s ⟨#[102, 107, 108, 104, 103]⟩ w hs (by decide) (ascii_of_all (by decide))
def stOf (b : UInt8) : Int := Lib.indexByte lets b
theorem IndexByte_ok (b : UInt8) (w : World) : Calls Tryd.prog 39 #[.string ⟨#[102, 107, 108, 104, 103]⟩, .int .u8 (b.toNat : Nat)] w fun e w' => e = .returned (.int .i64 (stOf b)) ∧ w' = w := by
  refine (show Calls Tryd.prog 39 _ _ _ from Any.strings_IndexByte Tryd.lays137 ⟨#[102, 107, 108, 104, 103]⟩ (b.toNat : Nat) w).mono ?_
  rintro e w' ⟨rfl, rfl⟩
  exact ⟨by simp [stOf, lets], rfl⟩
theorem Parse_no (s : ByteArray) (w : World) (hs : s.size ≤ 9223372036854775807) (h : 256 < s.size ∨ allLet s.data.toList = false) : Calls Tryd.prog 18 #[.string s] w fun e w' => e = .returned (.tuple #[.pointer none, .int .i64 241]) ∧ Below w.heap.size w w' := by
  by_cases h1 : 256 < s.size
  · clear h
    go_enter Tryd.func18, Tryd.ntmps18
    go_wp2_with fail
    go_ret2
    exact ⟨rfl, Below.refl _ _⟩
  · have h2 : allLet s.data.toList = false := by rcases h with h | h; exact absurd h h1; exact h
    obtain ⟨t, ht⟩ : ∃ t, Lib.trimS s.data.toList lets = t := ⟨_, rfl⟩
    have htn : t ≠ [] := by
      rw [← ht]
      intro e
      rw [(trim_nil _).1 e] at h2
      cases h2
    have hte : t.isEmpty = false := by cases t with | nil => exact absurd rfl htn | cons _ _ => rfl
    have HT := Lib.hid ht
    clear h h2 ht htn
    go_enter Tryd.func18, Tryd.ntmps18
    go_wp2_with fail
    refine (Trim_ok s w hs).mono ?_; rintro e w1 ⟨rfl, k1⟩
    rw [HT.out]
    go_wp2_with fail
    go_ret2
    exact ⟨rfl, k1⟩
def parL (bs : List UInt8) : List Int := bs.map stOf
/-- A sheet as it is filled. -/
def filL (bs : List UInt8) (k : Nat) : List Int := (parL bs).take k ++ List.replicate (bs.length - k) 0
theorem filL_len (bs : List UInt8) (k : Nat) (hk : k ≤ bs.length) : (filL bs k).length = bs.length := by unfold filL parL; simp; omega
theorem filL_zero (bs : List UInt8) : filL bs 0 = List.replicate bs.length 0 := by simp [filL]
theorem filL_all (bs : List UInt8) : filL bs bs.length = parL bs := by simp [filL, parL, List.take_of_length_le]
theorem filL_set (bs : List UInt8) (k : Nat) (hk : k < bs.length) : (filL bs k).set k (stOf bs[k]) = filL bs (k + 1) := by
  have hp : (parL bs).length = bs.length := by simp [parL]
  unfold filL
  rw [List.set_append_right _ _ (by rw [List.length_take]; omega), List.length_take, show k - min k (parL bs).length = 0 by omega, List.take_succ_eq_append_getElem (by omega), List.append_assoc]
  congr 1
  obtain ⟨m, hm⟩ : ∃ m, bs.length - k = m + 1 := ⟨bs.length - k - 1, by omega⟩
  rw [hm, show bs.length - (k + 1) = m by omega, List.replicate_succ, List.set_cons_zero]
  simp [parL]
theorem Parse_ok (s : ByteArray) (w : World) (hs : s.size ≤ 256) (h : allLet s.data.toList = true) : Calls Tryd.prog 18 #[.string s] w fun e w' => ∃ c lo hi, e = .returned (.tuple #[.pointer (some ⟨c, 0, none⟩), .int .i64 0]) ∧ w.heap.size ≤ lo ∧ ShAt lo hi w' c (parL s.data.toList) ∧ Below w.heap.size w w' := by
  have h0 : (Lib.trimS s.data.toList lets) = [] := (trim_nil _).2 h
  have hsz : s.data.toList.length = s.size := by rw [Array.length_toList]; rfl
  obtain ⟨bs, hbs⟩ : ∃ bs, s.data.toList = bs := ⟨_, rfl⟩
  rw [hbs] at h hsz ⊢
  have HBS := Lib.hid hbs
  have HA := Lib.hid h
  clear h hbs
  go_enter Tryd.func18, Tryd.ntmps18
  go_wp2_with fail
  refine (Trim_ok s w (by omega)).mono ?_; rintro e w1 ⟨rfl, k1⟩
  rw [h0]
  go_wp2_with fail
  refine (New_ok s.size w1 hs).mono ?_; rintro e w2 ⟨c, rfl, hS, k2⟩
  have hcv := Lib.run_convert_string_bytes (P := Tryd.prog) w2 9 78 5 s (u := .string) Tryd.underlying9 Tryd.underlying78 Tryd.underlying5
  have k3 := Lib.bytesWorld_below w2 5 s
  have hcl := fun j => Lib.bytesWorld_cell w2 5 s j
  have hzs := Lib.bytesWorld_size w2 5 s
  obtain ⟨w3, hw3⟩ : ∃ w3, Lib.bytesWorld w2 5 s = w3 := ⟨_, rfl⟩
  rw [hw3] at hcv k3 hcl hzs
  have hS3 := hS.step k3
  have kb := k1.trans ((k2.trans (k3.mono k2.size)).mono k1.size)
  have hlo : w.heap.size ≤ w1.heap.size := k1.size
  rw [HBS.out] at hcl
  rw [← hsz, ← filL_zero] at hS3
  rw [← hsz] at hs hcv hcl
  obtain ⟨hi, hhi⟩ : ∃ hi, w2.heap.size = hi := ⟨_, rfl⟩
  obtain ⟨lo, hlo2⟩ : ∃ lo, w1.heap.size = lo := ⟨_, rfl⟩
  have hss : (s.size : Int) = bs.length := by omega
  rw [hlo2] at hS3 hlo
  rw [hhi] at hS3 hcv hcl hzs
  clear hw3 hS k1 k2 k3
  go_wp2_with fail
  go_loopw [25] (fun i wr => ∃ k : Nat, k ≤ bs.length ∧ i = .int .i64 k ∧ ShAt lo hi wr c (filL bs k) ∧ Tur lo hi w3 wr) (fun i _ => bs.length - (intOf i).toNat)
  case atStart => exact ⟨0, by omega, rfl, hS3, .of_below (Below.refl _ _)⟩
  case round =>
    obtain ⟨k, hk, rfl, hSr, hT⟩ := hrel
    clear hS3
    by_cases hlt : k < bs.length
    · obtain ⟨a, cap, c0, _, hr, hbk⟩ := hSr.open
      have hfl := filL_len bs k hk
      obtain ⟨b, off, rfl, _, q⟩ := hr.geti k (by omega)
      obtain ⟨g1, g2, g3⟩ := hSr.set (k := k) (by omega) c0 (stOf bs[k])
      rw [filL_set bs k hlt] at g1
      have hbs' : b ≠ c := (hbk b off (filL bs k).length cap rfl (by omega)).2.2
      have qb : wr.cell? ⟨hi, k, none⟩ = some (.int .u8 ((bs[k]).toNat : Nat)) := by
        have h9 := hcl k hlt
        rw [List.getD_eq_getElem?_getD, List.getElem?_eq_getElem hlt, Option.getD_some] at h9
        exact (World.cell?_of_block (a := ⟨hi, k, none⟩) (hT.block hi (by omega) (.inr (Nat.le_refl _)))).trans h9
      obtain ⟨y, hy⟩ : ∃ y, bs[k] = y := ⟨_, rfl⟩
      rw [hy] at qb g1 g3
      obtain ⟨n9, hn9⟩ : ∃ n9, (filL bs k).length = n9 := ⟨_, rfl⟩
      rw [hn9] at c0 hfl
      have i0 : (0 : Int) ≤ k := by omega
      have i1 : (k : Int) < bs.length := by omega
      have i2 : (k : Int) < n9 := by omega
      have i3 : (k : Int) < s.size := by omega
      have G1 := Lib.hid g1
      have G3 := Lib.hid g3
      obtain ⟨old, hold⟩ : ∃ old, wr.cell? ⟨b, off + k, none⟩ = some old := ⟨_, q⟩
      clear hr hbk q g1 g3 hy hn9
      go_wp2_with fail
      refine wp_region_held_drew (S := CelP ⟨c, 0, none⟩ (.slice (some ⟨b, off, none⟩) n9 cap)) (by kernel_rfl) ⟨c0⟩ (fun hHeld => ?_)
      have gf : wr.drew.frozen? ⟨b, off + k, none⟩ = false := g2
      have gq : wr.drew.cell? ⟨b, off + k, none⟩ = some old := hold
      refine wpAnyH_take (i := 0) (v := ?_) rfl (by kernel_rfl) (by kernel_rfl) (by kernel_rfl) (fun _ _ _ h => h) (Or.inl ⟨by rfl, ?_⟩) (by assumption) ?_
      rotate_left
      · (intro Y hSw; (try dsimp only at hSw); obtain ⟨hS1⟩ := hSw; go_simp; try with_reducible rfl)
      try simp only [Act.put, List.getElem_toArray, List.getElem_cons_zero, List.getElem_cons_succ, List.setIfInBounds_toArray, List.set_cons_zero, List.set_cons_succ]
      refine wpAnyH_take (i := 1) (v := ?_) rfl (by kernel_rfl) (by kernel_rfl) (by kernel_rfl) (fun _ _ _ h => h) (Or.inl ⟨by rfl, ?_⟩) (by assumption) ?_
      rotate_left
      · (intro Y hSw; (try dsimp only at hSw); obtain ⟨hS1⟩ := hSw; go_simp; try with_reducible rfl)
      try simp only [Act.put, List.getElem_toArray, List.getElem_cons_zero, List.getElem_cons_succ, List.setIfInBounds_toArray, List.set_cons_zero, List.set_cons_succ]
      refine wpAnyH_take (i := 2) (v := ?_) rfl (by kernel_rfl) (by kernel_rfl) (by kernel_rfl) (fun _ _ _ h => h) (Or.inl ⟨by rfl, ?_⟩) (by assumption) ?_
      rotate_left
      · (intro Y hSw; (try dsimp only at hSw); obtain ⟨hS1⟩ := hSw; go_simp; try with_reducible rfl)
      try simp only [Act.put, List.getElem_toArray, List.getElem_cons_zero, List.getElem_cons_succ, List.setIfInBounds_toArray, List.set_cons_zero, List.set_cons_succ]
      refine wpAnyH_take (i := 3) (v := ?_) rfl (by kernel_rfl) (by kernel_rfl) (by kernel_rfl) (fun _ _ _ h => h) (Or.inl ⟨by rfl, ?_⟩) (by assumption) ?_
      rotate_left
      · (intro Y hSw; (try dsimp only at hSw); obtain ⟨hS1⟩ := hSw; go_simp; try with_reducible rfl)
      try simp only [Act.put, List.getElem_toArray, List.getElem_cons_zero, List.getElem_cons_succ, List.setIfInBounds_toArray, List.set_cons_zero, List.set_cons_succ]
      refine wpAnyH_take (i := 4) (v := ?_) rfl (by kernel_rfl) (by kernel_rfl) (by kernel_rfl) (fun _ _ _ h => h) (Or.inl ⟨by rfl, ?_⟩) (by assumption) ?_
      rotate_left
      · (intro Y hSw; (try dsimp only at hSw); obtain ⟨hS1⟩ := hSw; go_simp; try with_reducible rfl)
      try simp only [Act.put, List.getElem_toArray, List.getElem_cons_zero, List.getElem_cons_succ, List.setIfInBounds_toArray, List.set_cons_zero, List.set_cons_succ]
      refine wpAnyH_take (i := 5) (v := ?_) rfl (by kernel_rfl) (by kernel_rfl) (by kernel_rfl) (fun _ _ _ h => h) (Or.inl ⟨by rfl, ?_⟩) (by assumption) ?_
      rotate_left
      · (intro Y hSw; (try dsimp only at hSw); obtain ⟨hS1⟩ := hSw; go_simp; try with_reducible rfl)
      try simp only [Act.put, List.getElem_toArray, List.getElem_cons_zero, List.getElem_cons_succ, List.setIfInBounds_toArray, List.set_cons_zero, List.set_cons_succ]
      refine wpAnyH_ready (rs := [6]) (by kernel_rfl) (by simp) ?_
      refine AllReadyH.cons rfl (fun K hK => ?_) AllReadyH.nil
      go_simp
      refine (IndexByte_ok y wr.drew).mono ?_; rintro e _ ⟨rfl, rfl⟩
      go_simp
      refine hK.out _ _ (⟨c0⟩) (fun hHeld => ?_)
      clear hK K
      try simp only [Act.put, List.getElem_toArray, List.getElem_cons_zero, List.getElem_cons_succ, List.setIfInBounds_toArray, List.set_cons_zero, List.set_cons_succ]
      refine wpAnyH_take (i := 7) (v := ?_) rfl (by kernel_rfl) (by kernel_rfl) (by kernel_rfl) (fun _ _ _ h => h) (Or.inl ⟨by rfl, ?_⟩) (by assumption) ?_
      rotate_left
      · (intro Y hSw; (try dsimp only at hSw); obtain ⟨hS1⟩ := hSw; go_simp; try with_reducible rfl)
      try simp only [Act.put, List.getElem_toArray, List.getElem_cons_zero, List.getElem_cons_succ, List.setIfInBounds_toArray, List.set_cons_zero, List.set_cons_succ]
      refine wpAnyH_ready (rs := [8]) (by kernel_rfl) (by simp) ?_
      refine AllReadyH.cons rfl (fun K hK => ?_) AllReadyH.nil
      go_simp
      refine hK.out _ _ (⟨(World.cell?_setCell_far wr ⟨b, off + k, none⟩ ⟨c, 0, none⟩ _ (by show b ≠ c; exact hbs')).trans c0⟩) (fun hHeld => ?_)
      clear hK K
      try simp only [Act.put, List.getElem_toArray, List.getElem_cons_zero, List.getElem_cons_succ, List.setIfInBounds_toArray, List.set_cons_zero, List.set_cons_succ]
      refine wpAnyH_done (by kernel_rfl) ?_ _
      go_wp2_with fail
      exact ⟨⟨k + 1, by omega, by go_num, G1.out.step (Below.refl _ _).drew, (hT.trans G3.out).trans (.of_below (Below.refl _ _).drew)⟩, by simp [intOf]; omega⟩
    · obtain rfl : k = bs.length := by omega
      rw [filL_all] at hSr
      have hwl := hSr.lt
      go_wp2_with fail
      go_ret2
      exact ⟨_, lo, hi, rfl, hlo, hSr, kb.trans (hT.below hlo kb.size)⟩
end Go.Proofs.YtdhbhjkfcpglbaaDoor
