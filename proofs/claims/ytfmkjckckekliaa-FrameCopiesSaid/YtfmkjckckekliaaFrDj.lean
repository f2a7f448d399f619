/-
  Package pinfoldlaw07: is. Conditions: a pool whose books are in order; the document's pool is that of it.
-/
import Derived.Test.YtfmkjckckekliaaFrDi
namespace Go.Proofs.Ytfmkjckckekliaa
open Go.RowKit
attribute [local go_sem] Oper.semAt_some
set_option maxHeartbeats 1000000
set_option maxRecDepth 8000

/-- How things stand while they are compared: the document's pool is boxed in s. -/
structure IsS (w W : World) (b bf br s : Nat) (many : Int) (F : List Fr) (R : List (Int × Int)) (v : Value) : Prop where
  pool : PoolAt W b bf br many F R
  box : Blk W s (poolV v (docR R)) 54
  row : RowAt s W v (docL many.toNat F).length (frV (docL many.toNat F))
  bel : Below s w W
theorem IsS.step {w W W' : World} {b bf br s : Nat} {many : Int} {F : List Fr} {R : List (Int × Int)} {v : Value} (h : IsS w W b bf br s many F R v) (k : Below W.heap.size W W') : IsS w W' b bf br s many F R v :=
  ⟨h.pool.step k, h.box.below k h.box.lt, h.row.below k (Nat.le_of_lt h.box.lt), h.bel.trans (k.mono (Nat.le_of_lt h.box.lt))⟩
theorem wpList_loadWM {P : Program} {ops : Array Oper} {rest : List Oper} {o : Oper} {a : Act} {w : World} {Q : Exit → Act → World → Prop} {t : TypeId} {n : Nat} (ht : RowTy P t n) (hw : Region.wanted o (yielded ops a.tmps) = true) (x : Operand) (ho : o.op = .load t x)
    (g off : Nat) (hx : a.eval x = .pointer (some ⟨g, off, none⟩)) (cs : List Value) (hB : w.rangeAt g off cs) (hs : cs.length = n)
    (h : wpList P ops Q rest (a.put o.dst (.agg cs.toArray)) w) : wpList P ops Q (o :: rest) a w :=
  BigFrame.wpList_want hw fun _ hK => wp_loadM ht x ho g off hx cs hB hs (hK _ _ h)
theorem Good.nin {many : Int} {F : List Fr} {R : List (Int × Int)} (g : Good many F R) {i : Int} (h : inF F i = true) : 0 ≤ i ∧ i < many := by
  obtain ⟨x, hx, e⟩ := List.any_eq_true.1 h
  have := g.inb x hx
  have e' : x.1 = i := by simpa using e
  omega
theorem ownF_no {F : List Fr} {i : Int} (h : inF F i = false) : ownF F i = 0 := by
  unfold ownF
  rw [List.find?_eq_none.2 (fun x hx e => by have : inF F i = true := List.any_eq_true.2 ⟨x, hx, e⟩; rw [h] at this; cases this)]
  rfl
theorem Good.red {many : Int} {F : List Fr} {R : List (Int × Int)} (g : Good many F R) (i : Int) : (inF F i = true → thrErr many F i 0 256 = 0) ∧ (inF F i = false → thrErr many F i 0 256 ≠ 0) := by
  unfold thrErr
  constructor
  · intro h
    have := g.nin h
    rw [if_neg (by simp [offI]; omega), if_neg (by decide), if_pos h]
  · intro h
    split
    · decide
    · rw [if_neg (by decide), if_neg (by rw [h]; decide)]; decide
theorem Good.out {many : Int} {F : List Fr} {R : List (Int × Int)} (g : Good many F R) {who : Int} (h : badOwner who = true) : rsvdI R who = 0 ∧ rsvdH F who = 0 := by
  unfold badOwner at h
  have h' := of_decide_eq_true h
  have hr : ∀ who, (who < 0 ∨ 64 ≤ who) → resvI R who = 0 := by
    intro who hw
    by_cases e : resvI R who = 0
    · exact e
    · obtain ⟨p, hp, e1, _⟩ := resvI_mem e
      have := g.rin p hp
      omega
  have h1 := hr who h'
  have h2 := g.le who
  unfold rsvdI rsvdH
  by_cases h3 : who < 0
  · rw [if_pos h3, if_pos h3]; exact ⟨rfl, rfl⟩
  · rw [if_neg h3, if_neg h3]
    refine ⟨h1, ?_⟩
    omega
theorem docL_256 {many : Int} {F : List Fr} {R : List (Int × Int)} (g : Good many F R) : ∀ x ∈ docL many.toNat F, 0 ≤ x.1 → x.2.length = 256 := by
  intro x hx h
  obtain ⟨i, _, rfl⟩ := List.mem_map.1 hx
  unfold dAt at h ⊢
  by_cases hi : inF F i = true
  · rw [if_pos hi]; exact bytesF_len g.snd.b256 _
  · rw [if_neg hi] at h; exact absurd h (by decide)
theorem docR_nn {many : Int} {F : List Fr} {R : List (Int × Int)} (g : Good many F R) : (∀ x ∈ docR R, 0 ≤ x) ∧ (docR R).sum ≤ 1000000 := by
  constructor
  · intro x hx
    obtain ⟨i, _, rfl⟩ := List.mem_map.1 hx
    have := g.le i
    omega
  · rw [docR_sum R g.rk g.rin]
    have := g.snd.rs
    have := g.snd.m1
    unfold sumR; omega
theorem is_ok {w : World} {b bf br : Nat} {many : Int} {F : List Fr} {R : List (Int × Int)} (hpo : PoolAt w b bf br many F R) (g : Good many F R) (v : Value) (B : Nat) (hB : B ≤ w.heap.size) (hv : RowAt B w v (docL many.toNat F).length (frV (docL many.toNat F))) :
    Calls Try.prog 22 #[.pointer (some ⟨b, 0, none⟩), .agg (poolV v (docR R))] w fun e w' => e = .returned (.bool true) ∧ Below w.heap.size w w' := by
  obtain ⟨a1, c1, rfl, _⟩ := hv.len
  have HG := Lib.hid g
  have hm0 := g.snd.m0
  have hm1 := g.snd.m1
  obtain ⟨n, rfl⟩ : ∃ n : Nat, many = n := ⟨many.toNat, by omega⟩
  rw [Int.toNat_natCast] at hv ⊢
  rw [docL_len] at hv ⊢
  obtain ⟨w0, hw0⟩ : ∃ w0, w.alloc (.cells (poolV (.slice a1 n c1) (docR R)) 54) = w0 := ⟨_, rfl⟩
  have k0 : Below w.heap.size w w0 := by rw [← hw0]; exact (Below.refl _ w).alloc (Nat.le_refl _) _
  have hM : IsS w w0 b bf br w.heap.size n F R (.slice a1 n c1) := by
    refine ⟨hpo.step k0, by rw [← hw0]; exact Blk.new _ _ _, ?_, k0⟩
    rw [Int.toNat_natCast, docL_len]
    exact (hv.below k0 hB).mono hB
  obtain ⟨s, hs⟩ : ∃ s, w.heap.size = s := ⟨_, rfl⟩
  have HS := Lib.hid hs
  rw [hs] at hM
  have HM := Lib.hid hM
  clear g hv k0 hM hpo
  go_enter Try.func22, Try.ntmps22
  go_wp2_with fail
  clear hw0 hs
  go_loopw [5] (fun i wr => ∃ k : Nat, k ≤ n + 2 ∧ i = .int .i64 ((k : Int) - 1) ∧ IsS w wr b bf br s n F R (.slice a1 n c1)) (fun i _ => ((n : Int) + 1 - intOf i).toNat)
  case atStart => exact ⟨0, by omega, rfl, HM.out⟩
  case round =>
    obtain ⟨k, hk, rfl, hM⟩ := hrel
    have c0 : wr.cell? ⟨s, 0, none⟩ = some (.slice a1 n c1) := hM.box.cell 0 (poolV_zero _ _)
    clear HM
    by_cases hlt : k < n + 2
    · have j1 : (k : Int) - 1 ≤ n := by omega
      obtain ⟨i, hi⟩ : ∃ i : Int, (k : Int) - 1 = i := ⟨_, rfl⟩
      have HI := Lib.hid hi
      have j0 : -1 ≤ i := by omega
      have hwr : IntKind.i64.wrap (i + 1) = i + 1 := IntWalk.i64_in _ (by omega)
      rw [hi] at j1 ⊢
      have b256 := HG.out.snd.b256
      have HB2 := Lib.hid b256
      clear hi b256
      go_wp2_with fail
      refine (Owner_ok hM.pool HB2.out i).mono ?_; rintro e w1 ⟨rfl, k1⟩
      replace hM := hM.step k1
      clear c0 k1
      go_wp2_with fail
      refine (Read_ok hM.pool HB2.out i 0 256).mono ?_; rintro e w2 ⟨u, rfl, ho2, k2⟩
      replace hM := hM.step k2
      have hr2 := RowAt.of_owns ho2 (Nat.le_refl _)
      obtain ⟨a2, c2, rfl, _⟩ := hr2.len
      clear ho2 k2
      have hrd := HG.out.rdL_eq i 0 256
      have hae := asE_eq HG.out i 0 256
      rw [Int.toNat_natCast] at hrd hae
      rw [← hrd] at hr2
      have hre : redErr n F i 0 256 = asE (docL n F) i 0 256 := hae.symm
      rw [hre, ← hrd]
      have hred := HG.out.red i
      rw [← hae] at hred
      obtain ⟨T, hT⟩ : ∃ T, rdL (docL n F) i 0 256 = T := ⟨_, rfl⟩
      obtain ⟨er, her⟩ : ∃ er, asE (docL n F) i 0 256 = er := ⟨_, rfl⟩
      rw [hT] at hr2 ⊢
      rw [her] at hred ⊢
      have HT := Lib.hid hT
      have HE := Lib.hid her
      have HRD := Lib.hid hred
      have HR2 := Lib.hid hr2
      obtain ⟨ow, how⟩ : ∃ ow, ownF F i = ow := ⟨_, rfl⟩
      obtain ⟨th, hth⟩ : ∃ th, inF F i = th := ⟨_, rfl⟩
      have HOW := Lib.hid how
      have HTH := Lib.hid hth
      rw [how, hth]
      clear hT her hrd hae hre hr2 hred how hth
      have hV64 := docR_len R
      have HV := Lib.hid hV64
      have hbx := hM.box
      have HBX := Lib.hid hbx
      clear hV64 hbx
      go_wp2_with (refine wpList_loadB ty65 rfl _ rfl s rfl HBX.out (poolV_size _ HV.out) ?_)
      clear HBX
      have hrw := hM.row
      rw [Int.toNat_natCast, docL_len] at hrw
      have h256 := docL_256 HG.out
      rw [Int.toNat_natCast] at h256
      have hsz := Nat.le_of_lt hM.box.lt
      refine (rRead_ok (.slice a1 n c1) (docL n F) s i 0 256 w2 hsz (by rw [docL_len]; omega) HV.out h256 (by rw [docL_len]; exact hrw)).mono ?_; rintro e w3 ⟨rfl, k3⟩
      rw [HT.out, HE.out]
      replace hM := hM.step k3
      have hr3 := HR2.out.below k3 (Nat.le_refl _)
      have cv : (convert 36 9 (.slice a2 T.length c2)).run Try.prog w3 = .ok (.string (strOfNums T)) w3 := run_convert_row T hr3 Try.underlying36 Try.underlying5 Try.underlying9
      have c0 : w3.cell? ⟨s, 0, none⟩ = some (.slice a1 n c1) := hM.box.cell 0 (poolV_zero _ _)
      obtain ⟨S, hS⟩ : ∃ S, strOfNums T = S := ⟨_, rfl⟩
      rw [hS] at cv ⊢
      clear hrw h256 hsz k3 hr3 HR2 hS
      cases th with
      | true =>
        have he0 : er = 0 := HRD.out.1 HTH.out
        subst he0
        obtain ⟨i0, i1⟩ := HG.out.nin HTH.out
        obtain ⟨m, rfl⟩ : ∃ m : Nat, i = m := ⟨i.toNat, by omega⟩
        have hm : m < n := by omega
        have hrw := hM.row
        rw [Int.toNat_natCast, docL_len] at hrw
        have hrw' : RowAt s w3 (.slice a1 (docL n F).length c1) (docL n F).length (frV (docL n F)) := by rw [docL_len]; exact hrw
        obtain ⟨b1, o1, rfl, _, q⟩ := hrw'.getf m (by rw [docL_len]; exact hm)
        have q0 := q.c0
        rw [docL_get] at q0
        have hd : (dAt F m).1 = ow := by unfold dAt; rw [if_pos HTH.out]; exact HOW.out
        rw [hd] at q0
        clear hrw hrw' q hd
        go_wp2_with fail
        refine (num_calls _ _).mono ?_; rintro e _ ⟨rfl, rfl⟩
        go_wp2_with fail
        exact ⟨⟨k + 1, by omega, by have := HI.out; rw [show ((k + 1 : Nat) : Int) - 1 = (m : Int) + 1 by omega], hM⟩, by have := HI.out; simp [intOf]; omega⟩
      | false =>
        have he0 : er ≠ 0 := HRD.out.2 HTH.out
        have ho0 : ow = 0 := by rw [← HOW.out]; exact ownF_no HTH.out
        subst ho0
        go_wp2_with fail
        refine (num_calls _ _).mono ?_; rintro e _ ⟨rfl, rfl⟩
        go_wp2_with fail
        exact ⟨⟨k + 1, by omega, by have := HI.out; rw [show ((k + 1 : Nat) : Int) - 1 = i + 1 by omega], hM⟩, by have := HI.out; simp [intOf]; omega⟩
    · obtain rfl : k = n + 2 := by omega
      have HM := Lib.hid hM
      have hcz : ((n + 2 : Nat) : Int) - 1 = n + 1 := by omega
      rw [hcz]
      clear hM hcz
      go_wp2_with fail
      clear c0
      go_loopw [12] (fun i wr2 => ∃ k : Nat, k ≤ 66 ∧ i = .int .i64 ((k : Int) - 1) ∧ IsS w wr2 b bf br s n F R (.slice a1 n c1)) (fun i _ => ((65 : Int) - intOf i).toNat)
      case atStart => exact ⟨0, by omega, rfl, HM.out⟩
      case round =>
        obtain ⟨k2, hk2, rfl, hM⟩ := hrel
        clear HM
        by_cases hlt2 : k2 < 66
        · have j1 : (k2 : Int) - 1 ≤ 64 := by omega
          obtain ⟨i, hi⟩ : ∃ i : Int, (k2 : Int) - 1 = i := ⟨_, rfl⟩
          have HI := Lib.hid hi
          have j0 : -1 ≤ i := by omega
          have hwr : IntKind.i64.wrap (i + 1) = i + 1 := IntWalk.i64_in _ (by omega)
          rw [hi] at j1 ⊢
          have snd := HG.out.snd
          have HSN := Lib.hid snd
          clear hi snd
          go_wp2_with fail
          refine (Reserved_ok hM.pool HSN.out i).mono ?_; rintro e w1 ⟨rfl, k1⟩
          replace hM := hM.step k1
          clear k1
          cases hbo : badOwner i
          · have hoo := ownerOk.1 (show ¬ badOwner i = true by rw [hbo]; decide)
            obtain ⟨o0, o1⟩ := hoo
            have HBO := Lib.hid hbo
            have e1 : rsvdI R i = resvI R i := if_neg (by omega)
            have e2 : rsvdH F i = hasF F i := if_neg (by omega)
            rw [e1, e2]
            obtain ⟨m, rfl⟩ : ∃ m : Nat, i = m := ⟨i.toNat, by omega⟩
            have hm : m < 64 := by omega
            have q0 : w1.cell? ⟨s, 1 + m, none⟩ = some (.int .i64 ((docR R).getD m 0)) := hM.box.cell _ (poolV_at (.slice a1 n c1) m (by rw [docR_len]; exact hm))
            have e3 := docR_at R o0 o1
            rw [Int.toNat_natCast] at e3
            rw [e3] at q0
            have e4 := HG.out.tak o0
            rw [Int.toNat_natCast] at e4
            obtain ⟨y, hy⟩ : ∃ y, resvI R m = y := ⟨_, rfl⟩
            obtain ⟨z, hz⟩ : ∃ z : Nat, hasF F m = z := ⟨_, rfl⟩
            rw [hy] at q0 ⊢
            rw [hz] at e4 ⊢
            have HE4 := Lib.hid e4
            have HBX := Lib.hid hM.box
            have HV := Lib.hid (docR_len R)
            clear e1 e2 e3 e4 hy hz hbo
            go_wp2_with fail
            refine (rOwner_ok _ _).mono ?_; rintro e _ ⟨rfl, rfl⟩
            rw [HBO.out]
            go_wp2_with (refine wpList_loadWM ty65 rfl _ rfl s 0 rfl _ HBX.out.rng0 (by simpa using poolV_size _ HV.out) ?_)
            have hrw := hM.row
            rw [Int.toNat_natCast, docL_len] at hrw
            refine (rTaken_ok (.slice a1 n c1) (docR R) (docL n F) s m w1 (Nat.le_of_lt hM.box.lt) (by rw [docL_len]; omega) (by rw [docL_len]; exact hrw)).mono ?_; rintro e w2 ⟨rfl, k2⟩
            rw [HE4.out]
            replace hM := hM.step k2
            clear hrw k2 HBX q0
            go_wp2_with fail
            exact ⟨⟨k2 + 1, by omega, by have := HI.out; rw [show ((k2 + 1 : Nat) : Int) - 1 = (m : Int) + 1 by omega], hM⟩, by have := HI.out; simp [intOf]; omega⟩
          · obtain ⟨e1, e2⟩ := HG.out.out hbo
            rw [e1, e2]
            have HBO := Lib.hid hbo
            clear e1 e2 hbo
            go_wp2_with fail
            refine (rOwner_ok _ _).mono ?_; rintro e _ ⟨rfl, rfl⟩
            rw [HBO.out]
            go_wp2_with fail
            exact ⟨⟨k2 + 1, by omega, by have := HI.out; rw [show ((k2 + 1 : Nat) : Int) - 1 = i + 1 by omega], hM⟩, by have := HI.out; simp [intOf]; omega⟩
        · obtain rfl : k2 = 66 := by omega
          have hcz : ((66 : Nat) : Int) - 1 = 65 := rfl
          rw [hcz]
          clear hcz
          have HV := Lib.hid (docR_len R)
          obtain ⟨hnn, hsm⟩ := docR_nn HG.out
          have HNN := Lib.hid hnn
          have HSM := Lib.hid hsm
          clear hnn hsm
          go_wp2_with fail
          refine wp_onlyN ?_
          refine wp_region_held_drew (S := RvS s (.slice a1 n c1) (docR R)) (by kernel_rfl) ⟨hM.box.drew⟩ (fun hHeld => ?_)
          replace hM := hM.step (Below.refl _ wr).drew
          change wpAnyH _ _ _ _ _ _ _ _ wr.drew
          generalize wr.drew = w1 at hM hHeld ⊢
          refine wpAnyH_take (i := 0) (v := ?_) rfl (by kernel_rfl) (by kernel_rfl) (by kernel_rfl) (fun _ _ _ h => h) (Or.inl ⟨by rfl, ?_⟩) (by assumption) ?_
          rotate_left
          · (intro Y hSw; (try dsimp only at hSw); obtain ⟨hS0⟩ := hSw; go_simp; try with_reducible rfl)
          try simp only [Act.put, List.getElem_toArray, List.getElem_cons_zero, List.getElem_cons_succ, List.setIfInBounds_toArray, List.set_cons_zero, List.set_cons_succ]
          refine wpAnyH_take (i := 2) (v := .agg (poolV (.slice a1 n c1) (docR R))) rfl (by kernel_rfl) (by kernel_rfl) (by kernel_rfl) (fun _ _ _ h => h) (Or.inl ⟨by rfl, fun Y hSw => exec_loadB ty65 _ rfl s rfl hSw.b (poolV_size _ HV.out)⟩) (by assumption) ?_
          try simp only [Act.put, List.getElem_toArray, List.getElem_cons_zero, List.getElem_cons_succ, List.setIfInBounds_toArray, List.set_cons_zero, List.set_cons_succ]
          refine wpAnyH_ready (rs := [1]) (by kernel_rfl) (by simp) ?_
          refine AllReadyH.cons rfl (fun K hK => ?_) AllReadyH.nil
          go_simp
          refine (Room_calls hM.pool HG.out.snd).mono ?_; rintro e w2 ⟨rfl, k2⟩
          replace hM := hM.step k2
          clear k2
          have hroom := HG.out.room
          rw [Int.toNat_natCast] at hroom
          rw [← hroom]
          obtain ⟨rm, hrm⟩ : ∃ rm, roomD (docL n F) (docR R) = rm := ⟨_, rfl⟩
          have HRM := Lib.hid hrm
          rw [hrm]
          clear hroom hrm
          go_simp
          refine hK.out _ _ (⟨hM.box⟩) (fun hHeld => ?_)
          clear hK K
          try simp only [Act.put, List.getElem_toArray, List.getElem_cons_zero, List.getElem_cons_succ, List.setIfInBounds_toArray, List.set_cons_zero, List.set_cons_succ]
          refine wpAnyH_ready (rs := [3]) (by kernel_rfl) (by simp) ?_
          refine AllReadyH.cons rfl (fun K hK => ?_) AllReadyH.nil
          go_simp
          have hrw := hM.row
          rw [Int.toNat_natCast, docL_len] at hrw
          refine (rRoom_ok (.slice a1 n c1) (docL n F) s w2 (Nat.le_of_lt hM.box.lt) (by rw [docL_len]; omega) HV.out HNN.out HSM.out (by rw [docL_len]; exact hrw)).mono ?_; rintro e w3 ⟨rfl, k3⟩
          rw [HRM.out]
          replace hM := hM.step k3
          clear hrw k3
          go_simp
          refine hK.out _ _ (⟨hM.box⟩) (fun hHeld => ?_)
          clear hK K
          try simp only [Act.put, List.getElem_toArray, List.getElem_cons_zero, List.getElem_cons_succ, List.setIfInBounds_toArray, List.set_cons_zero, List.set_cons_succ]
          refine wpAnyH_take (i := 4) (v := .bool true) rfl (by kernel_rfl) (by kernel_rfl) (by kernel_rfl) (fun _ _ _ h => h) (Or.inl ⟨by rfl, by intro Y hSw; go_simp⟩) (by assumption) ?_
          try simp only [Act.put, List.getElem_toArray, List.getElem_cons_zero, List.getElem_cons_succ, List.setIfInBounds_toArray, List.set_cons_zero, List.set_cons_succ]
          refine wpAnyH_take (i := 5) (v := ?_) rfl (by kernel_rfl) (by kernel_rfl) (by kernel_rfl) (fun _ _ _ h => h) (Or.inl ⟨by rfl, ?_⟩) (by assumption) ?_
          rotate_left
          · (intro Y hSw; (try dsimp only at hSw); obtain ⟨hS0⟩ := hSw; go_simp; try with_reducible rfl)
          try simp only [Act.put, List.getElem_toArray, List.getElem_cons_zero, List.getElem_cons_succ, List.setIfInBounds_toArray, List.set_cons_zero, List.set_cons_succ]
          refine wpAnyH_take (i := 6) (v := ?_) rfl (by kernel_rfl) (by kernel_rfl) (by kernel_rfl) (fun _ _ _ h => h) (Or.inl ⟨by rfl, ?_⟩) (by assumption) ?_
          rotate_left
          · (intro Y hSw; (try dsimp only at hSw); obtain ⟨hS0⟩ := hSw; go_simp; try with_reducible rfl)
          try simp only [Act.put, List.getElem_toArray, List.getElem_cons_zero, List.getElem_cons_succ, List.setIfInBounds_toArray, List.set_cons_zero, List.set_cons_succ]
          refine wpAnyH_take (i := 8) (v := .agg (poolV (.slice a1 n c1) (docR R))) rfl (by kernel_rfl) (by kernel_rfl) (by kernel_rfl) (fun _ _ _ h => h) (Or.inl ⟨by rfl, fun Y hSw => exec_loadB ty65 _ rfl s rfl hSw.b (poolV_size _ HV.out)⟩) (by assumption) ?_
          try simp only [Act.put, List.getElem_toArray, List.getElem_cons_zero, List.getElem_cons_succ, List.setIfInBounds_toArray, List.set_cons_zero, List.set_cons_succ]
          refine wpAnyH_ready (rs := [7]) (by kernel_rfl) (by simp) ?_
          refine AllReadyH.cons rfl (fun K hK => ?_) AllReadyH.nil
          go_simp
          have hwf : ∀ x ∈ F, (Lit.int .i64 x.1).wf = true := fun x hx => by have := HG.out.inb x hx; exact wf_i64 (by omega) (by omega)
          refine (all_ok hM.pool HG.out.snd.b256 (by have := HG.out.snd.fl; omega) hwf 20000 (by decide) (by decide)).mono ?_; rintro e w4 ⟨u1, rfl, ho4, k4⟩
          have hall : (allL F).take (20000 : Int).toNat = rowsK (docL n F) n := by
            have := rows_all HG.out
            rw [Int.toNat_natCast, docL_len] at this
            rw [this]
            exact List.take_of_length_le (by rw [allL_len]; have := HG.out.snd.fl; omega)
          rw [hall] at ho4
          replace hM := hM.step k4
          have hr4 := RowAt.of_owns ho4 (Nat.le_refl _)
          clear hall k4 ho4 hwf
          go_simp
          refine hK.out _ _ (⟨hM.box⟩) (fun hHeld => ?_)
          clear hK K
          try simp only [Act.put, List.getElem_toArray, List.getElem_cons_zero, List.getElem_cons_succ, List.setIfInBounds_toArray, List.set_cons_zero, List.set_cons_succ]
          refine wpAnyH_ready (rs := [9]) (by kernel_rfl) (by simp) ?_
          refine AllReadyH.cons rfl (fun K hK => ?_) AllReadyH.nil
          go_simp
          have hrw := hM.row
          rw [Int.toNat_natCast, docL_len] at hrw
          refine (rows_ok (.slice a1 n c1) (docR R) (docL n F) s w4 (Nat.le_of_lt hM.box.lt) (by rw [docL_len]; omega) (by rw [docL_len]; exact hrw)).mono ?_; rintro e w5 ⟨u2, rfl, ho5, k5⟩
          have hr5 := RowAt.of_owns ho5 (Nat.le_refl _)
          have hr4' := (hr4.below k5 (Nat.le_refl _)).mono k5.size
          rw [docL_len] at hr5
          replace hM := hM.step k5
          clear hrw hr4 k5 ho5
          go_simp
          refine hK.out _ _ (⟨hM.box⟩) (fun hHeld => ?_)
          clear hK K
          try simp only [Act.put, List.getElem_toArray, List.getElem_cons_zero, List.getElem_cons_succ, List.setIfInBounds_toArray, List.set_cons_zero, List.set_cons_succ]
          refine wpAnyH_ready (rs := [10]) (by kernel_rfl) (by simp) ?_
          refine AllReadyH.cons rfl (fun K hK => ?_) AllReadyH.nil
          go_simp
          have hrl := rowsK_len (docL n F) n
          refine (same_ok u1 u2 _ _ rfl w5.heap.size w5 (Nat.le_refl _) (by omega) hr4' hr5).mono ?_; rintro e w6 ⟨rfl, k6⟩
          replace hM := hM.step k6
          clear hr4' hr5 k6
          go_simp
          refine hK.out _ _ (⟨hM.box⟩) (fun hHeld => ?_)
          clear hK K
          try simp only [Act.put, List.getElem_toArray, List.getElem_cons_zero, List.getElem_cons_succ, List.setIfInBounds_toArray, List.set_cons_zero, List.set_cons_succ]
          refine wpAnyH_take (i := 11) (v := ?_) rfl (by kernel_rfl) (by kernel_rfl) (by kernel_rfl) (fun _ _ _ h => h) (Or.inl ⟨by rfl, ?_⟩) (by assumption) ?_
          rotate_left
          · (intro Y hSw; (try dsimp only at hSw); obtain ⟨hS0⟩ := hSw; go_simp; try with_reducible rfl)
          try simp only [Act.put, List.getElem_toArray, List.getElem_cons_zero, List.getElem_cons_succ, List.setIfInBounds_toArray, List.set_cons_zero, List.set_cons_succ]
          refine wpAnyH_take (i := 12) (v := ?_) rfl (by kernel_rfl) (by kernel_rfl) (by kernel_rfl) (fun _ _ _ h => h) (Or.inl ⟨by rfl, ?_⟩) (by assumption) ?_
          rotate_left
          · (intro Y hSw; (try dsimp only at hSw); obtain ⟨hS0⟩ := hSw; go_simp; try with_reducible rfl)
          try simp only [Act.put, List.getElem_toArray, List.getElem_cons_zero, List.getElem_cons_succ, List.setIfInBounds_toArray, List.set_cons_zero, List.set_cons_succ]
          refine wpAnyH_done (by kernel_rfl) ?_ _
          rw [onlyN_normal]
          clear hHeld
          go_wp2_with fail
          go_ret
          exact ⟨rfl, by rw [HS.out]; exact hM.bel⟩
end Go.Proofs.Ytfmkjckckekliaa
