/-
  Package maps: Equal, of frames that are somebody's, of reservations. Conditions: books in order.
-/
import Derived.Test.YtfmkjckckekliaaFrDv
namespace Go.Proofs.Ytfmkjckckekliaa
open Go.RowKit
attribute [local go_sem] Oper.semAt_some
set_option maxHeartbeats 1000000
set_option maxRecDepth 8000

/-- Does a row say the same of all that another one has? -/
def samF (F G : List Fr) : Prop := F.length = G.length ∧ ∀ x ∈ F, inF G x.1 = true ∧ ownF G x.1 = x.2.1 ∧ bytesF G x.1 = x.2.2
theorem ty257 : RowTy Try.prog 89 257 := rowTy_of Try.underlying89 rfl (by kernel_rfl)
theorem look_both (G : List Fr) (k : Int) : (getA (encF G) k).getD (.agg (takenA 0 zeros256)) = .agg (takenA (ownF G k) (bytesF G k)) := by
  unfold getA ownF bytesF encF
  rw [List.find?_map]
  simp only [Function.comp_def]
  cases h : G.find? fun x => x.1 == k <;> rfl
theorem wpList_runW {P : Program} {ops : Array Oper} {rest : List Oper} {o : Oper} {a : Act} {w : World} {Q : Exit → Act → World → Prop} (hw : Region.wanted o (yielded ops a.tmps) = true) (b : BinOp) (t t' : TypeId) (x y : Operand) (ho : o.op = .binOp b t x y t') (X Y : Array Value) (r : Value) (hx : a.eval x = .agg X) (hy : a.eval y = .agg Y)
    (hgt : P.eqGuardType P.depth t = false) (hr : (binOp b t (.agg X) (.agg Y)).run P w = .ok r w) (h : wpList P ops Q rest (a.put o.dst r) w) : wpList P ops Q (o :: rest) a w :=
  BigFrame.wpList_want hw fun _ hK => by
    have hg : (eqGuard b t x y (.agg X) (.agg Y)).run P w = .ok () w := by
      unfold eqGuard
      cases b <;> simp [hgt, run_program]
    unfold Oper.wp
    simp [execOp, ho, hx, hy, hg, hr, Result.andThen]
    exact hK _ _ h
theorem mem_atW : ∀ {F : List Fr} {x : Fr}, (F.map (·.1)).Nodup → x ∈ F → ownF F x.1 = x.2.1 ∧ bytesF F x.1 = x.2.2
  | y :: F, x, hn, hx => by
    rw [List.map_cons, List.nodup_cons] at hn
    rw [ownF_cons, bytesF_cons]
    rcases List.mem_cons.1 hx with rfl | hx
    · simp
    · have hne : (y.1 == x.1) = false := by
        rw [beq_eq_false_iff_ne]
        intro e
        exact hn.1 (List.mem_map.2 ⟨x, hx, e.symm⟩)
      rw [hne]
      exact mem_atW hn.2 hx
theorem equalF_ok {w : World} {m1 m2 : Nat} {F G : List Fr} (h1 : MapI w m1 (encF F)) (h2 : MapI w m2 (encF G)) (hF : ∀ x ∈ F, x.2.2.length = 256) (hG : ∀ x ∈ G, x.2.2.length = 256) (hl1 : F.length ≤ 1000000) (hl2 : G.length ≤ 1000000) :
    Calls Try.prog 50 #[.map (some m1), .map (some m2)] w fun e w' => ∃ r : Bool, e = .returned (.bool r) ∧ (r = true ↔ samF F G) ∧ Below w.heap.size w w' := by
  have l1 := fun ty => h1.len (P := Try.prog) (t := 72) Try.underlying72 ty
  have l2 := fun ty => h2.len (P := Try.prog) (t := 72) Try.underlying72 ty
  have e1 : (encF F).length = F.length := by simp [encF]
  have e2 : (encF G).length = G.length := by simp [encF]
  rw [e1] at l1
  rw [e2] at l2
  clear e1 e2
  by_cases hlen : F.length = G.length
  · obtain ⟨o, hrun, hR⟩ := h1.range (P := Try.prog) Try.underlying72
    have HL := Lib.hid hlen
    rw [hlen] at l1
    have hnd := h1.nodup
    rw [encF_keys] at hnd
    have HND := Lib.hid hnd
    clear hlen hnd
    go_enter Try.func50, Try.ntmps50
    go_wp2_with fail
    have hb0 : Below w.heap.size w (w.alloc o) := (Below.refl _ w).alloc (Nat.le_refl _) _
    generalize w.alloc o = w0 at hR hb0 ⊢
    clear hrun l1 l2
    go_loopw [] (fun wr => ∃ left : List Fr, (∀ x ∈ left, x ∈ F) ∧ (left.map (·.1)).Nodup ∧ (∀ x ∈ F, x ∈ left ∨ (inF G x.1 = true ∧ ownF G x.1 = x.2.1 ∧ bytesF G x.1 = x.2.2)) ∧ RangeI wr w.heap.size m1 (encF F) (encF left) ∧ Below w.heap.size w wr) (fun wr => rangeN (encF F).length w.heap.size wr)
    case atStart => exact ⟨F, fun _ h => h, HND.out, fun _ h => .inl h, hR, hb0⟩
    case round =>
      obtain ⟨left, hsub, hnd, hall, hRr, hb⟩ := hrel
      have hz := hb.size
      have hbl := hRr.lt
      have hbf := h1.lt
      have hbg := h2.lt
      rcases hRr.next (P := Try.prog) (by omega) 0 with ⟨hl, hrun⟩ | ⟨q, hq, wn, hrun, hRn, hTn, hent⟩
      · have hl' : left = [] := by simpa [encF] using hl
        subst hl'
        have hyes : samF F G := ⟨HL.out, fun x hx => (hall x hx).resolve_left (by simp)⟩
        have HY := Lib.hid hyes
        clear hyes hall hsub hnd
        go_wp2_with fail
        go_ret
        exact ⟨true, rfl, ⟨fun _ => HY.out, fun _ => rfl⟩, hb⟩
      · obtain ⟨x, hx, rfl⟩ := List.mem_map.1 hq
        dsimp only at hrun hRn hent
        obtain ⟨xk, xo, xb⟩ := x
        dsimp only at hrun hRn hent
        have h25 : xb.length = 256 := hF _ (hsub _ hx)
        have hbn : Below w.heap.size w wn := hb.trans (hTn.below (Nat.le_refl _))
        have hfill := fill_taken wn xo xb h25
        have hcz := takenA_size xo xb h25
        obtain ⟨w2, hw2⟩ : ∃ w2, wn.alloc (.cells (takenA xo xb) 89) = w2 := ⟨_, rfl⟩
        have hk2 : Below wn.heap.size wn w2 := by rw [← hw2]; exact (Below.refl _ wn).alloc (Nat.le_refl _) _
        have hX : Blk w2 wn.heap.size (takenA xo xb) 89 := by rw [← hw2]; exact Blk.new wn _ _
        rw [hw2] at hfill
        have hb2 := hbn.trans (hk2.mono hbn.size)
        have hlk := (((h2.below hb2 hbg).lookup (P := Try.prog) Try.underlying72 Try.underlying3 (zero_taken w2) xk)).2
        rw [look_both, hasA_encF] at hlk
        have h26 := bytesF_len hG xk
        obtain ⟨yo, hyo⟩ : ∃ yo, ownF G xk = yo := ⟨_, rfl⟩
        obtain ⟨yb, hyb⟩ : ∃ yb, bytesF G xk = yb := ⟨_, rfl⟩
        have HYO := Lib.hid hyo
        have HYB := Lib.hid hyb
        rw [hyo, hyb] at hlk
        rw [hyb] at h26
        have hfill2 := fill_taken w2 yo yb h26
        have hcz2 := takenA_size yo yb h26
        obtain ⟨w4, hw4⟩ : ∃ w4, w2.alloc (.cells (takenA yo yb) 89) = w4 := ⟨_, rfl⟩
        have hk4 : Below w2.heap.size w2 w4 := by rw [← hw4]; exact (Below.refl _ w2).alloc (Nat.le_refl _) _
        have hYb : Blk w4 w2.heap.size (takenA yo yb) 89 := by rw [← hw4]; exact Blk.new w2 _ _
        rw [hw4] at hfill2
        have hX4 := hX.below hk4 hX.lt
        have hb4 := hb2.trans (hk4.mono hb2.size)
        have hRr4 := (hRn.below hk2 hRn.lt.1 hRn.lt.2)
        have hRr5 := hRr4.below hk4 hRr4.lt.1 hRr4.lt.2
        have hm0 := hRr.count
        have hm1 := hRr5.count
        have heq := eq_taken xo yo h25 h26 w4
        obtain ⟨r, hr⟩ : ∃ r, (decide (xo = yo) && decide (xb = yb)) = r := ⟨_, rfl⟩
        have HR := Lib.hid hr
        rw [hr] at heq
        have hneq : (binOp .neq 89 (.agg (takenA xo xb)) (.agg (takenA yo yb))).run Try.prog w4 = .ok (.bool (!r)) w4 := by simp [binOp, Op.equal, Op.maxDepth, heq]
        obtain ⟨left2, hl2'⟩ : ∃ left2 : List Fr, (left.filter fun y => !(y.1 == xk)) = left2 := ⟨_, rfl⟩
        rw [delA_encF] at hRr5 hm1
        rw [hl2'] at hRr5 hm1
        have hdec : left2.length < left.length := by
          have h8 := cnt_del (fun _ : Fr => true) left (xk, xo, xb) hnd hx
          have h7 : ∀ l : List Fr, l.filter (fun _ => true) = l := fun l => List.filter_eq_self.2 fun _ _ => rfl
          rw [h7, h7, if_pos rfl] at h8
          have h9 : left.length = (left.filter fun (y : Fr) => !(y.1 == xk)).length + 1 := h8
          rw [hl2'] at h9
          omega
        have hkeep : ∀ y ∈ left, y.1 ≠ xk → y ∈ left2 := fun y hy hne => by rw [← hl2']; exact List.mem_filter.2 ⟨hy, by simpa using hne⟩
        have hsub2 : ∀ y ∈ left2, y ∈ F := fun y hy => by rw [← hl2'] at hy; exact hsub y (List.mem_filter.1 hy).1
        have hnd2 : (left2.map (·.1)).Nodup := by rw [← hl2']; exact (List.filter_sublist.map _).nodup hnd
        have hxF : (xk, xo, xb) ∈ F := hsub _ hx
        have HX := Lib.hid hxF
        have HA := Lib.hid hall
        have HK := Lib.hid hkeep
        have HS2 := Lib.hid hsub2
        have HN2 := Lib.hid hnd2
        have HD := Lib.hid hdec
        have HH := Lib.hid (show (encF left).length = left.length by simp [encF])
        have HH2 := Lib.hid (show (encF left2).length = left2.length by simp [encF])
        have HX4 := Lib.hid hX4
        have HY4 := Lib.hid hYb
        have hs5 : (takenA xo xb).toList.length = 257 := by simpa using hcz
        have hs6 : (takenA yo yb).toList.length = 257 := by simpa using hcz2
        have HS5 := Lib.hid hs5
        have HS6 := Lib.hid hs6
        clear hall hkeep hsub2 hnd2 hxF hdec hl2' hsub hnd hx hq hyo hyb hr heq hs5 hs6 hw2 hw4 hX hX4 hYb
        cases hh : inF G xk
        · rw [hh] at hlk
          have HNE := Lib.hid (show ¬ samF F G from fun h => by have := (h.2 _ HX.out).1; dsimp only at this; rw [hh] at this; cases this)
          clear hh
          go_wp2_with fail
          go_ret
          exact ⟨false, rfl, ⟨fun h => (by cases h), fun h => absurd h HNE.out⟩, hb4⟩
        · rw [hh] at hlk
          have HIN := Lib.hid hh
          clear hh
          cases r with
          | true =>
            go_wp2_with (first | refine wpList_loadWM ty257 (by rfl) _ rfl wn.heap.size 0 rfl _ HX4.out.rng0 HS5.out ?_ | refine wpList_loadWM ty257 (by rfl) _ rfl w2.heap.size 0 rfl _ HY4.out.rng0 HS6.out ?_ | refine wpList_runW (by rfl) _ _ _ _ _ rfl (takenA xo xb) (takenA yo yb) _ rfl rfl (by kernel_rfl) hneq ?_)
            go_roundw
            case rel => exact ⟨left2, HS2.out, HN2.out, fun z hz => by
                rcases HA.out z hz with h | h
                · by_cases e : z.1 = xk
                  · right
                    have hr := HR.out
                    rw [Bool.and_eq_true, decide_eq_true_iff, decide_eq_true_iff] at hr
                    have hndF := h1.nodup
                    rw [encF_keys] at hndF
                    have a1 := mem_atW hndF hz
                    have a2 := mem_atW hndF HX.out
                    rw [e] at a1
                    dsimp only at a2
                    rw [e]
                    refine ⟨HIN.out, ?_, ?_⟩
                    · rw [HYO.out, ← hr.1, ← a2.1, a1.1]
                    · rw [HYB.out, ← hr.2, ← a2.2, a1.2]
                  · exact .inl (HK.out z h e)
                · exact .inr h, hRr5, hb4⟩
            case measure => rw [hm0, hm1, HH.out, HH2.out]; exact HD.out
          | false =>
            have HNE := Lib.hid (show ¬ samF F G from fun h => by
              have h5 := (h.2 _ HX.out).2
              dsimp only at h5
              rw [HYO.out, HYB.out] at h5
              have := HR.out
              rw [h5.1, h5.2] at this
              simp at this)
            go_wp2_with (first | refine wpList_loadWM ty257 (by rfl) _ rfl wn.heap.size 0 rfl _ HX4.out.rng0 HS5.out ?_ | refine wpList_loadWM ty257 (by rfl) _ rfl w2.heap.size 0 rfl _ HY4.out.rng0 HS6.out ?_ | refine wpList_runW (by rfl) _ _ _ _ _ rfl (takenA xo xb) (takenA yo yb) _ rfl rfl (by kernel_rfl) hneq ?_)
            go_ret
            exact ⟨false, rfl, ⟨fun h => (by cases h), fun h => absurd h HNE.out⟩, hb4⟩
  · have hlen' : ¬ (F.length : Int) = G.length := by omega
    have HNE := Lib.hid (show ¬ samF F G from fun h => hlen h.1)
    clear hlen
    go_enter Try.func50, Try.ntmps50
    go_wp2_with fail
    go_ret
    exact ⟨false, rfl, ⟨fun h => (by cases h), fun h => absurd h HNE.out⟩, Below.refl _ _⟩
end Go.Proofs.Ytfmkjckckekliaa
