/-
  Package pinfoldlaw14: act. Conditions: a sheet of states, its list beside it.
-/
import Derived.Test.YtdhbhjkfcpglbaaDoorStP
namespace Go.Proofs.YtdhbhjkfcpglbaaDoor
open Go.RowKit
attribute [local go_sem] Oper.semAt_some
set_option maxHeartbeats 1000000
set_option maxRecDepth 8000

/-- A row that lies outside a sheet's blocks; one that lies from n on. -/
def OffV (lo hi : Nat) (v : Value) : Prop := ∀ b off m c, v = .slice (some ⟨b, off, none⟩) m c → m ≠ 0 → b < lo ∨ hi ≤ b
def FarV (n : Nat) (v : Value) : Prop := ∀ b off m c, v = .slice (some ⟨b, off, none⟩) m c → m ≠ 0 → n ≤ b
theorem FarV.off {n lo hi : Nat} {v : Value} (h : FarV n v) (hn : hi ≤ n) : OffV lo hi v := fun b off m c e h0 => .inr (Nat.le_trans hn (h b off m c e h0))
theorem FarV.mono {n m : Nat} {v : Value} (h : FarV n v) (hn : m ≤ n) : FarV m v := fun b off k c e h0 => Nat.le_trans hn (h b off k c e h0)
theorem FarV.of_owns {W : World} {base n : Nat} {e : TypeId} {size : Nat} {v : Value} {xs : List Value} (h : W.ownsRow base e size v n xs) : FarV base v := by
  rintro b off m c rfl _
  exact (owns_block h b rfl).1
theorem RowAt.offLow {B n lo hi : Nat} {W : World} {v : Value} {xs : List Value} (h : RowAt B W v n xs) (hx : xs.length = n) (hB : B ≤ lo) : OffV lo hi v := by
  rintro b off m c rfl h0
  obtain ⟨a, cap, e, _, h1⟩ := h
  simp only [Value.slice.injEq] at e
  obtain ⟨e1, rfl, rfl⟩ := e
  rcases h1 with h1 | ⟨b', off', e2, hb, _⟩
  · rw [h1] at hx; exact absurd hx.symm h0
  · rw [e2] at e1
    simp only [Option.some.injEq, Addr.mk.injEq, and_true] at e1
    exact .inl (by omega)
def actL (L : List Int) (cp : Bool) (i to : Int) : List Int := if cp then L else movL L i to
theorem actL_len (L : List Int) (cp : Bool) (i to : Int) : (actL L cp i to).length = L.length := by unfold actL; split <;> simp [movL_len]
/-- What act ends in. -/
structure ActE (B : Nat) (w0 W w' : World) (lo hi : Nat) (v : Value) (s' : Nat) (v' : Value) (lo' hi' : Nat) (L' : List Int) : Prop where
  run : Run B w0 w' lo' hi' s' L'
  row : RowAt w'.heap.size w' v' L'.length (intVals .i64 L')
  off : OffV lo' hi' v'
  tur : Tur lo hi W w'
  rng : (lo' = lo ∧ hi' = hi) ∨ W.heap.size ≤ lo'
  val : v' = v ∨ FarV W.heap.size v'
theorem act_ok {B : Nat} {w0 W : World} {lo hi s : Nat} {L : List Int} {v : Value} (h : Run B w0 W lo hi s L) (hr : RowAt W.heap.size W v L.length (intVals .i64 L)) (ho : OffV lo hi v) (cp : Bool) (i to : Int) :
    Calls Tryd.prog 25 #[.pointer (some ⟨s, 0, none⟩), v, .agg #[.bool cp, .int .i64 i, .int .i64 to]] W fun e w' =>
      ∃ s' v' lo' hi', e = .returned (.tuple #[.pointer (some ⟨s', 0, none⟩), v', .bool true]) ∧ ActE B w0 W w' lo hi v s' v' lo' hi' (actL L cp i to) := by
  have hh := h.sh.2.2.1
  have hbig := h.big'
  obtain ⟨w1, hw1⟩ : ∃ w1, W.alloc (.cells #[.bool cp, .int .i64 i, .int .i64 to] 38) = w1 := ⟨_, rfl⟩
  have k1 : Below W.heap.size W w1 := by rw [← hw1]; exact (Below.refl _ W).alloc (Nat.le_refl _) _
  have b1 : Blk w1 W.heap.size #[.bool cp, .int .i64 i, .int .i64 to] 38 := by rw [← hw1]; exact Blk.new W _ _
  have c0 : w1.cell? ⟨W.heap.size, 0, none⟩ = some (.bool cp) := b1.cell 0 rfl
  have c1 : w1.cell? ⟨W.heap.size, 1, none⟩ = some (.int .i64 i) := b1.cell 1 rfl
  have c2 : w1.cell? ⟨W.heap.size, 2, none⟩ = some (.int .i64 to) := b1.cell 2 rfl
  have hR := Lib.hid (h.step k1)
  have hr1 := hr.below k1 (Nat.le_refl _)
  have HR := Lib.hid hr1
  have HO := Lib.hid ho
  obtain ⟨va, vc, rfl, _⟩ := hr.len
  have z1 := k1.size
  cases cp with
  | true =>
    have HL := Lib.hid (show actL L true i to = L by unfold actL; rfl)
    clear h hr ho hr1
    go_enter Tryd.func25, Tryd.ntmps25
    go_wp2_with fail
    refine (Copy_ok hR.out.sh hbig).mono ?_; rintro e w2 ⟨c, rfl, hS, k2⟩
    have hR2 := hR.out.step k2
    go_wp2_with fail
    go_ret3
    rw [HL.out]
    refine ⟨_, _, _, _, rfl, ⟨hS, hR2.bel, hR.out.big, hR2.big, hR2.few, hR2.st⟩, (HR.out.below k2 z1).mono (Nat.le_trans z1 k2.size), HR.out.offLow (intVals_len _ _) z1, (Tur.of_below k1).trans (Tur.of_below k2), .inr z1, .inl rfl⟩
  | false =>
    have HL := Lib.hid (show actL L false i to = movL L i to by unfold actL; rfl)
    clear h hr ho hr1
    have k1' : Tur lo hi W w1 := Tur.of_below k1
    by_cases e0 : movErr L i to = 0
    · have hv : movVal L i to = getI L i := by unfold movVal; rw [if_pos e0]
      have H1 := Lib.hid (rMove_ok (.slice va L.length vc) L W.heap.size i to w1 z1 hbig HR.out e0)
      obtain ⟨L', hL'⟩ : ∃ L', movL L i to = L' := ⟨_, rfl⟩
      obtain ⟨g, hg⟩ : ∃ g, getI L i = g := ⟨_, rfl⟩
      rw [hg] at hv
      have H2 := H1.out
      rw [hL', hg] at H2
      have H3 := Lib.hid H2
      have HE := Lib.hid e0
      have HV := Lib.hid hv
      have HL' := Lib.hid hL'
      clear e0 hv H1 H2 hg hL'
      go_enter Tryd.func25, Tryd.ntmps25
      go_wp2_with fail
      refine H3.out.mono ?_; rintro e w2 ⟨v', rfl, o2, k2⟩
      have hRr : RowAt w2.heap.size w2 v' L'.length (intVals .i64 L') := RowAt.of_owns o2 (Nat.le_refl _)
      have hF : FarV w1.heap.size v' := FarV.of_owns o2
      obtain ⟨pa, pc, rfl, _⟩ := hRr.len
      have b2 := b1.below k2 b1.lt
      have c1' : w2.cell? ⟨W.heap.size, 1, none⟩ = some (.int .i64 i) := b2.cell 1 rfl
      have c2' : w2.cell? ⟨W.heap.size, 2, none⟩ = some (.int .i64 to) := b2.cell 2 rfl
      have HF := Lib.hid hF
      have HRr := Lib.hid hRr
      clear o2 hF hRr
      go_wp2_with fail
      refine (Move_ok (hR.out.step k2).sh hbig i to).mono ?_; rintro e w3 ⟨rfl, hS3, hT3⟩
      have hR3 := (hR.out.step k2).move hS3 hT3
      rw [HE.out, HV.out]
      rw [HL'.out] at hR3
      have HR3 := Lib.hid hR3
      clear hR3 hS3
      go_wp2_with fail
      refine (num_calls _ _).mono ?_; rintro e _ ⟨rfl, rfl⟩
      go_wp2_with fail
      go_ret3
      rw [HL.out, HL'.out]
      have hoff : OffV lo hi (.slice pa L'.length pc) := HF.out.off (by omega)
      exact ⟨_, _, _, _, rfl, ⟨HR3.out, (hT3.row HRr.out hoff (intVals_len _ _)).mono hT3.size, hoff, (k1'.trans (Tur.of_below k2)).trans hT3, .inl ⟨rfl, rfl⟩, .inr (HF.out.mono z1)⟩⟩
    · obtain ⟨hl, hv⟩ := movL_no e0
      have H1 := Lib.hid (rMove_no (.slice va L.length vc) L W.heap.size i to w1 hbig HR.out e0)
      obtain ⟨er, her⟩ : ∃ er, movErr L i to = er := ⟨_, rfl⟩
      have H2 := H1.out
      rw [her] at H2
      have H3 := Lib.hid H2
      have HE := Lib.hid her
      have HV := Lib.hid hv
      have HL' := Lib.hid hl
      clear e0 hv H1 H2 hl her
      go_enter Tryd.func25, Tryd.ntmps25
      go_wp2_with fail
      refine H3.out.mono ?_; rintro e _ ⟨rfl, rfl⟩
      go_wp2_with fail
      refine (Move_ok hR.out.sh hbig i to).mono ?_; rintro e w3 ⟨rfl, hS3, hT3⟩
      have hR3 := hR.out.move hS3 hT3
      rw [HE.out, HV.out]
      rw [HL'.out] at hR3
      have HR3 := Lib.hid hR3
      clear hR3 hS3
      go_wp2_with fail
      refine (num_calls _ _).mono ?_; rintro e _ ⟨rfl, rfl⟩
      go_wp2_with fail
      go_ret3
      rw [HL.out, HL'.out]
      exact ⟨_, _, _, _, rfl, ⟨HR3.out, (hT3.row HR.out HO.out (intVals_len _ _)).mono (Nat.le_trans z1 hT3.size), HO.out, k1'.trans hT3, .inl ⟨rfl, rfl⟩, .inl rfl⟩⟩
end Go.Proofs.YtdhbhjkfcpglbaaDoor
