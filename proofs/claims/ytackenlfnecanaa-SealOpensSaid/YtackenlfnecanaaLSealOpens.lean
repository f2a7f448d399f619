/-
  'SealOpens' returns true for every input, and leaves what it is given as it was. No condition.
-/
import Derived.Test.YtackenlfnecanaaSealO
namespace Go.Proofs.Ytackenlfnecanaa.sealOpens
open Go.ChangeShapes Go.WideShapes Go.ChangeAt Go.RowKit Go.Proofs.Ytackenlfnecanaa
set_option linter.unusedVariables false
set_option maxHeartbeats 2000000
set_option maxRecDepth 8000

theorem big (key at_ : Int) (v : Value) (l : List Int) (w : World) (hl : 100 < l.length) (hv : RowAt w.heap.size w v l.length (intVals .u8 l)) :
    Calls Try.prog 4 #[.agg #[.int .u64 key, .int .u32 at_], v] w fun e w' => e = .returned (.bool true) ∧ Below w.heap.size w w' := by
  obtain ⟨ad, cap, rfl, _, _⟩ := id hv
  go_enter Try.func4, Try.ntmps4
  go_wp2_with fail
  refine (works_ok _).mono ?_; rintro e w5 ⟨rfl, h5⟩
  go_wp2_with fail
  go_ret
  exact ⟨rfl, ((Below.refl _ w).alloc (Nat.le_refl _) _).trans (h5.mono (by simp))⟩
theorem same {key at_ : Int} {l : List Int} {c s n e c' s' n' e' : Int}
    (h : (l.length ≠ 16 → c = 0 ∧ s = 0 ∧ n = 0 ∧ e = 2) ∧ (l.length = 16 → okI key at_ l = false → c = 0 ∧ s = 0 ∧ n = 0 ∧ e = 160) ∧ (l.length = 16 → okI key at_ l = true → c = clsI (saidI key at_ l) ∧ s = szI (saidI key at_ l) ∧ n = nonI (saidI key at_ l) ∧ e = 0))
    (h' : (l.length ≠ 16 → c' = 0 ∧ s' = 0 ∧ n' = 0 ∧ e' = 2) ∧ (l.length = 16 → okI key at_ l = false → c' = 0 ∧ s' = 0 ∧ n' = 0 ∧ e' = 160) ∧ (l.length = 16 → okI key at_ l = true → c' = clsI (saidI key at_ l) ∧ s' = szI (saidI key at_ l) ∧ n' = nonI (saidI key at_ l) ∧ e' = 0)) :
    c' = c ∧ s' = s ∧ n' = n ∧ e' = e := by
  by_cases h16 : l.length = 16
  · cases hok : okI key at_ l
    · obtain ⟨rfl, rfl, rfl, rfl⟩ := h.2.1 h16 hok
      exact h'.2.1 h16 hok
    · obtain ⟨rfl, rfl, rfl, rfl⟩ := h.2.2 h16 hok
      exact h'.2.2 h16 hok
  · obtain ⟨rfl, rfl, rfl, rfl⟩ := h.1 h16
    exact h'.1 h16
theorem small (key at_ : Int) (hk : 0 ≤ key) (hk' : key < 18446744073709551616) (ha : 0 ≤ at_) (ha' : at_ < 4294967296) (v : Value) (l : List Int) (hwl : ∀ x ∈ l, 0 ≤ x ∧ x < 256) (w : World) (hl : l.length ≤ 100) (hv : RowAt w.heap.size w v l.length (intVals .u8 l)) :
    Calls Try.prog 4 #[.agg #[.int .u64 key, .int .u32 at_], v] w fun e w' => e = .returned (.bool true) ∧ Below w.heap.size w w' := by
  obtain ⟨ad, cap, rfl, _, _⟩ := id hv
  obtain ⟨w0, hw0⟩ : ∃ w0, w.alloc (.cells #[.int .u64 key, .int .u32 at_] 25) = w0 := ⟨_, rfl⟩
  have hP : Blk w0 w.heap.size #[.int .u64 key, .int .u32 at_] 25 := by rw [← hw0]; exact Blk.new w _ _
  have hb0 : Below w.heap.size w w0 := by rw [← hw0]; exact (Below.refl _ w).alloc (Nat.le_refl _) _
  have z0 := hb0.size
  have hlt0 := hP.lt
  have HIL := Lib.hid (intVals_len .u8 l)
  have HW := Lib.hid hwl
  have hv0 := hv.below hb0 (Nat.le_refl _)
  clear hwl hv
  go_enter Try.func4, Try.ntmps4
  go_wp2_with (at_builtin; refine wpList_append_row rfl _ _ 28 rfl w0.heap.size Try.underlying28 info8 0 [] rfl ?c1 w.heap.size l.length (intVals .u8 l) rfl ?c2 ?c3 ?c4 ?c5 ?c6 ?c7 ?_)
  case c1 => exact World.ownsRow_made w0 #[] 0 (Nat.le_refl _) (by decide) rfl
  case c2 => exact hv0.below ((Below.refl _ w0).alloc (Nat.le_refl _) _) z0
  case c3 => rw [HIL.out]; omega
  case c4 => exact intVals_one _ _
  case c5 => unfold maxLen; omega
  case c6 => omega
  case c7 => simp
  intro v1 w1 ho1 hg1
  have hb1 : Below w0.heap.size w0 w1 := ((Below.refl _ w0).alloc (Nat.le_refl _) _).grown hg1 (by simp) (fun k e => by cases e; exact Nat.le_refl _)
  have hz1 := hb1.size
  clear hg1 hw0
  go_wp2_with (at_builtin; refine wpList_append_row rfl _ _ 28 rfl w0.heap.size Try.underlying28 info8 l.length (intVals .u8 l) rfl ?c1 (w1.heap.size + 1) 1 [.int .u8 77] rfl ?c2 ?c3 ?c4 ?c5 ?c6 ?c7 ?_)
  case c1 => exact ho1.alloc _
  case c2 => exact RowAt.lit w1 #[.int .u8 77] 5 1 _ (by omega)
  case c3 => rfl
  case c4 => intro u hu; simp at hu; subst hu; rfl
  case c5 => unfold maxLen; omega
  case c6 => omega
  case c7 => simp; omega
  intro v2 w2 ho2 hg2
  obtain ⟨g, cp, rfl⟩ := ownsRow_succ ho2
  have hb2 : Below w0.heap.size w0 w2 := (hb1.alloc hz1 _).appended (ho1.alloc _) hg2 (Nat.le_refl _) (by simp; omega)
  clear hg2
  obtain ⟨hg0, hg1, hg2, hg3⟩ := owns_slice ho2
  have i0 : ((l.length : Nat) : Int) ≤ (cp : Int) := by omega
  have z2 := hb2.size
  have hP2 := hP.below hb2 hP.lt
  have p0 : w2.cell? ⟨w.heap.size, 0, none⟩ = some (.int .u64 key) := hP2.cell 0 rfl
  have p1 : w2.cell? ⟨w.heap.size, 1, none⟩ = some (.int .u32 at_) := hP2.cell 1 rfl
  have hM2 : RowAt w2.heap.size w2 (.slice (some ⟨g, 0, none⟩) l.length cp) l.length (intVals .u8 l) := RowAt.of_take ho2 (Nat.le_refl _) l.length (by omega) rfl
  have h77 : w2.cell? ⟨g, l.length, none⟩ = some (.int .u8 77) := by
    rw [ho2.cellAt l.length (by omega)]
    simp [intVals]
  have hv2 := hv0.below hb2 z0
  have hB2 := hb0.trans (hb2.mono z0)
  clear hv0 hP ho2 ho1 hb1 hb2
  go_wp2_with fail
  refine (Open_ok key at_ ha ha' _ l HW.out (by unfold maxLen; omega) _ _ (Nat.le_refl _) hM2).mono ?_; rintro e w3 ⟨c, s, n, e1, rfl, h3, hop⟩
  have hB3 := hB2.trans (h3.mono hB2.size)
  have z3 := h3.size
  have hP3 := hP2.below h3 hP2.lt
  have hM3 := hM2.below h3 (Nat.le_refl _)
  have hv3 := hv2.below h3 (by omega)
  have h77' : w3.cell? ⟨g, l.length, none⟩ = some (.int .u8 77) := (h3.cell (p := ⟨g, l.length, none⟩) hg1).trans h77
  clear p0 p1 hP2 hM2 hv2 h77 h3
  obtain ⟨w4, hw4⟩ : ∃ w4, w3.alloc (.cells #[.int .i64 c, .int .i64 s, .int .u32 n] 27) = w4 := ⟨_, rfl⟩
  have hT4 : Blk w4 w3.heap.size #[.int .i64 c, .int .i64 s, .int .u32 n] 27 := by rw [← hw4]; exact Blk.new w3 _ _
  have h4 : Below w3.heap.size w3 w4 := by rw [← hw4]; exact (Below.refl _ w3).alloc (Nat.le_refl _) _
  have z4 := h4.size
  have hB4 := hB3.trans (h4.mono hB3.size)
  have hP4 := hP3.below h4 hP3.lt
  have hM4 := hM3.below h4 z3
  have hv4 := hv3.below h4 (by omega)
  have h77 : w4.cell? ⟨g, l.length, none⟩ = some (.int .u8 77) := (h4.cell (p := ⟨g, l.length, none⟩) (by dsimp only; omega)).trans h77'
  clear hP3 hM3 hv3 h77' h4
  have p0 : w4.cell? ⟨w.heap.size, 0, none⟩ = some (.int .u64 key) := hP4.cell 0 rfl
  have p1 : w4.cell? ⟨w.heap.size, 1, none⟩ = some (.int .u32 at_) := hP4.cell 1 rfl
  go_wp2_with fail
  clear hw4
  refine (rOpen_ok key at_ hk hk' ha ha' _ l HW.out (by unfold maxLen; omega) w.heap.size _ (by omega) hv4).mono ?_; rintro e w5 ⟨c', s', n', e1', rfl, h5, hop'⟩
  obtain ⟨rfl, rfl, rfl, rfl⟩ := same hop hop'
  have hB5 := hB4.trans (h5.mono hB4.size)
  have z5 := h5.size
  have hM5 := hM4.below h5 (by omega)
  have hv5 := hv4.below h5 (by omega)
  have hT5 := hT4.below h5 hT4.lt
  have h77' : w5.cell? ⟨g, l.length, none⟩ = some (.int .u8 77) := (h5.cell (p := ⟨g, l.length, none⟩) (by dsimp only; omega)).trans h77
  clear p0 p1 hP4 hM4 hv4 h77 h5 hT4 hop hop'
  have t0 : ∀ o, (w5.alloc o).cell? ⟨w3.heap.size, 0, none⟩ = some (.int .i64 c') := fun o => (hT5.alloc o).cell 0 rfl
  have t1 : ∀ o, (w5.alloc o).cell? ⟨w3.heap.size, 1, none⟩ = some (.int .i64 s') := fun o => (hT5.alloc o).cell 1 rfl
  have t2 : ∀ o, (w5.alloc o).cell? ⟨w3.heap.size, 2, none⟩ = some (.int .u32 n') := fun o => (hT5.alloc o).cell 2 rfl
  have h77 : ∀ o, (w5.alloc o).cell? ⟨g, l.length, none⟩ = some (.int .u8 77) := fun o => (((Below.refl _ w5).alloc (Nat.le_refl _) o).cell (p := ⟨g, l.length, none⟩) (by dsimp only; omega)).trans h77'
  have q1 : ∀ o, (convert 28 9 (.slice (some ⟨g, 0, none⟩) l.length cp)).run Try.prog (w5.alloc o) = .ok (.string (strOfNums l)) (w5.alloc o) := fun o => run_convert_row (P := Try.prog) l (hM5.below ((Below.refl _ w5).alloc (Nat.le_refl _) o) (by omega)) Try.underlying28 Try.underlying5 Try.underlying9
  have q2 : ∀ o, (convert 28 9 (.slice ad l.length cap)).run Try.prog (w5.alloc o) = .ok (.string (strOfNums l)) (w5.alloc o) := fun o => run_convert_row (P := Try.prog) l (hv5.below ((Below.refl _ w5).alloc (Nat.le_refl _) o) (by omega)) Try.underlying28 Try.underlying5 Try.underlying9
  have i1 : ((l.length : Nat) : Int) + 1 ≤ (cp : Int) := by omega
  have i2 : ((l.length : Nat) : Int) < ((l.length : Nat) : Int) + 1 := by omega
  go_wp2_with fail
  refine (num_calls _ _).mono ?_; rintro e w' ⟨rfl, rfl⟩
  go_wp2_with fail
  refine (works_ok _).mono ?_; rintro e w7 ⟨rfl, h7⟩
  have hB7 := (hB5.alloc hB5.size (.cells #[.int .i64 c', .int .i64 s', .int .u32 n'] 27)).trans (h7.mono (by simp; omega))
  go_wp2_with fail
  go_ret
  exact ⟨rfl, hB7⟩
theorem walk (H : Type) (enc : TypeId × Value → H) (W : World) (base : Nat) (args : Array Value) (ds : List (DataW H)) (p : List MemPlace)
    (hval : ∀ (j : Nat) t v, Try.f4.params[j]? = some t → args[j]? = some v → Value.okWide Try.prog W .any base t v)
    (hA : DataW.TrodAll enc Try.prog W 0 (fun _ => true) true Try.f4.params.toList args.toList ds p) (hlt : ∀ x ∈ p, x.block < W.heap.size) :
    Calls Try.prog 4 args W (fun e W' => e = .returned (.bool true) ∧ Below W.heap.size W W') ∧ ∃ d0 d1, ds = [d0, d1] := by
  rw [Try.params4] at hA hval
  obtain ⟨v0, vs0, d0, ds0, p0, q0, hargs, rfl, rfl, h0, r0⟩ := trodAll_cons hA
  obtain ⟨v1, vs1, d1, ds1, p1, q1, rfl, rfl, rfl, h1, r1⟩ := trodAll_cons r0
  obtain ⟨rfl, rfl, rfl⟩ := trodAll_nil r1
  obtain rfl : args = #[v0, v1] := by cases args; simp_all
  obtain ⟨key, at_, rfl, bk, ba⟩ := open_place (hval 0 25 v0 rfl rfl) h0
  obtain ⟨l, hr, hw, _⟩ := open_row Try.underlying28 Try.underlying5 (by kernel_rfl) (hval 1 28 v1 rfl rfl) h1
  refine ⟨?_, _, _, rfl⟩
  by_cases hl : l.length ≤ 100
  · exact small key at_ bk.1 bk.2 ba.1 ba.2 v1 l (fun x hx => u8_bd (hw x hx)) W hl hr
  · exact big key at_ v1 l W (by omega) hr

theorem own : ownKnob Try.prog.godebug = none := by kernel_rfl
set_option maxRecDepth 100000 in
theorem lifted (os : Os) (started : os.Started) (H : Type) (enc : TypeId × Value → H) :
    ReturnsInHanded {} Try.checked os 4 .any (Rows.sealOpensSpec.pre6 enc Try.prog Try.f4 Rows.sealOpensRow.domain false) (Rows.sealOpensSpec.post enc Try.prog Try.f4 false true false false) := by
  refine returnsInHanded_of_change (C := Try.checked) own started (by kernel_rfl) Try.func4
    (ChangeSpec.witness6 (enc := enc) (C := Try.checked) false ⟨#[], #[.agg #[.int .u64 0, .int .u32 0], .slice none 0 0], []⟩ 8 (by kernel_rfl) (by kernel_rfl) (by kernel_rfl) (by kernel_rfl)) ?_
  intro W base args ds gs before hval hW hcnd _
  have hW' := hW
  obtain ⟨p, q, hA, hV, rfl, hfz, hnd⟩ := hW
  obtain ⟨rfl, rfl⟩ := trodVars_none hV
  have hlt : ∀ x ∈ p, x.block < W.heap.size := fun x hx => hW'.lt x (List.mem_append_left _ hx)
  obtain ⟨hc, d0, d1, rfl⟩ := walk H enc W base args ds p hval hA hlt
  refine hc.mono fun e W' ⟨he, hb⟩ => ?_
  subst he
  exact ⟨_, rfl, law_post (by kernel_rfl) (by kernel_rfl) rfl (by kernel_rfl) rfl rfl rfl rfl hW' hA hlt hb⟩

theorem over : Rows.sealOpensRow.holds Try.pinned (OpenSpec.ofChange Rows.sealOpensSpec) :=
  OpenClaim.holds_of_wide 4 Try.f4 rfl rfl rfl rfl rfl rfl rfl ⟨rfl, rfl, rfl, rfl, rfl⟩ rfl rfl rfl rfl rfl (by kernel_rfl) Try.func4 (by kernel_rfl)
    (of_decide_eq_true (by kernel_rfl)) (by unfold Func.isWrapper; first | (rw [if_pos (by decide +kernel)]; kernel_rfl) | (rw [if_neg (by decide +kernel)]; exact ⟨rfl, rfl⟩))
    (fun os started H enc _ => lifted os started H enc)

theorem proved : Rows.SealOpensSaid :=
  over

end Go.Proofs.Ytackenlfnecanaa.sealOpens
