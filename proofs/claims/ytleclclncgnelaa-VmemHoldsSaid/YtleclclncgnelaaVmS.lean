/-
  Package pinfoldlaw09: calls in memory; few. No condition.
-/
import Derived.Test.YtleclclncgnelaaVmR
namespace Go.Proofs.Ytleclclncgnelaa
open Go.ChangeShapes Go.WideShapes Go.ChangeAt Go.RowKit
attribute [local go_sem] Oper.semAt_some
set_option maxHeartbeats 4000000
set_option maxRecDepth 4000

/-- A call, as it lies in memory. -/
structure VAct where
  what : Int
  page : Int
  owner : Int
  payer : Int
  many : Int
  may : Int
  at_ : Int
  v : Value
  bs : List Int
def actV (a : VAct) : Array Value := #[.int .i64 a.what, .int .i64 a.page, .int .i64 a.owner, .int .i64 a.payer, .int .i64 a.many, .int .i64 a.may, .int .u32 a.at_, a.v]
structure VActAt (B : Nat) (W : World) (b off : Nat) (a : VAct) : Prop where
  c0 : W.cell? ⟨b, off, none⟩ = some (.int .i64 a.what)
  c1 : W.cell? ⟨b, off + 1, none⟩ = some (.int .i64 a.page)
  c2 : W.cell? ⟨b, off + 2, none⟩ = some (.int .i64 a.owner)
  c3 : W.cell? ⟨b, off + 3, none⟩ = some (.int .i64 a.payer)
  c4 : W.cell? ⟨b, off + 4, none⟩ = some (.int .i64 a.many)
  c5 : W.cell? ⟨b, off + 5, none⟩ = some (.int .i64 a.may)
  c6 : W.cell? ⟨b, off + 6, none⟩ = some (.int .u32 a.at_)
  c7 : W.cell? ⟨b, off + 7, none⟩ = some a.v
  row : RowAt B W a.v a.bs.length (intVals .u8 a.bs)
  lt : b < B
  bw : ∀ y ∈ a.bs, 0 ≤ y ∧ y < 256
  b0 : 0 ≤ a.at_ ∧ a.at_ < 4294967296
  b1 : (-9223372036854775808 ≤ a.page ∧ a.page ≤ 9223372036854775807) ∧ (-9223372036854775808 ≤ a.owner ∧ a.owner ≤ 9223372036854775807) ∧ (-9223372036854775808 ≤ a.many ∧ a.many ≤ 9223372036854775807)
theorem VActAt.below {B m : Nat} {W W' : World} {b off : Nat} {a : VAct} (h : VActAt B W b off a) (hb : Below m W W') (hm : B ≤ m) : VActAt B W' b off a := by
  have hl := h.lt
  have c := fun {o : Nat} {v : Value} (hc : W.cell? ⟨b, o, none⟩ = some v) => (hb.cell (p := ⟨b, o, none⟩) (by dsimp only; omega)).trans hc
  exact ⟨c h.c0, c h.c1, c h.c2, c h.c3, c h.c4, c h.c5, c h.c6, c h.c7, h.row.below hb hm, hl, h.bw, h.b0, h.b1⟩
def VActsAt (B : Nat) (W : World) (v : Value) (l : List VAct) : Prop :=
  ∃ a cap, v = .slice a l.length cap ∧ l.length ≤ cap ∧ cap ≤ maxLen ∧ (l = [] ∨ ∃ b off, a = some ⟨b, off, none⟩ ∧ ∀ i (h : i < l.length), VActAt B W b (off + i * 8) l[i])
theorem open_actV {H : Type} {enc : TypeId × Value → H} {W : World} {base' fuel : Nat} {spare : Nat → Bool} {held : Bool} {b off : Nat} {cs : List Value} {x : DataW H × List MemPlace} (hc : W.cells? base' ⟨b, off, none⟩ 8 = some cs) (hf : DataW.trod enc Try.prog W base' spare held fuel 37 cs = some x) :
    ∃ a : VAct, VActAt W.heap.size W b off a := by
  obtain ⟨_, hlen, hcell⟩ := World.cells?_some hc
  obtain ⟨xs, n, rfl, _, _, hxl, hx⟩ := DataW.trod_struct Try.underlying37 hf
  match cs, hlen with
  | [v0, v1, v2, v3, v4, v5, v6, v7], _ =>
    have k3 : Try.prog.cellsOf 3 = 1 := by kernel_rfl
    have k33 : Try.prog.cellsOf 33 = 1 := by kernel_rfl
    have k34 : Try.prog.cellsOf 34 = 1 := by kernel_rfl
    have k36 : Try.prog.cellsOf 35 = 1 := by kernel_rfl
    have h0 : DataW.trod enc Try.prog W base' spare held n 3 (List.take (Try.prog.cellsOf 3) (List.drop 0 [v0, v1, v2, v3, v4, v5, v6, v7])) = xs[0]? := hx 0 _ rfl
    have h1 : DataW.trod enc Try.prog W base' spare held n 3 (List.take (Try.prog.cellsOf 3) (List.drop 1 [v0, v1, v2, v3, v4, v5, v6, v7])) = xs[1]? := hx 1 _ rfl
    have h2 : DataW.trod enc Try.prog W base' spare held n 3 (List.take (Try.prog.cellsOf 3) (List.drop 2 [v0, v1, v2, v3, v4, v5, v6, v7])) = xs[2]? := hx 2 _ rfl
    have h3 : DataW.trod enc Try.prog W base' spare held n 3 (List.take (Try.prog.cellsOf 3) (List.drop 3 [v0, v1, v2, v3, v4, v5, v6, v7])) = xs[3]? := hx 3 _ rfl
    have h4 : DataW.trod enc Try.prog W base' spare held n 3 (List.take (Try.prog.cellsOf 3) (List.drop 4 [v0, v1, v2, v3, v4, v5, v6, v7])) = xs[4]? := hx 4 _ rfl
    have h5 : DataW.trod enc Try.prog W base' spare held n 33 (List.take (Try.prog.cellsOf 33) (List.drop 5 [v0, v1, v2, v3, v4, v5, v6, v7])) = xs[5]? := hx 5 _ rfl
    have h6 : DataW.trod enc Try.prog W base' spare held n 34 (List.take (Try.prog.cellsOf 34) (List.drop 6 [v0, v1, v2, v3, v4, v5, v6, v7])) = xs[6]? := hx 6 _ rfl
    have h7 : DataW.trod enc Try.prog W base' spare held n 35 (List.take (Try.prog.cellsOf 35) (List.drop 7 [v0, v1, v2, v3, v4, v5, v6, v7])) = xs[7]? := hx 7 _ rfl
    have hsz : xs.length = 8 := hxl
    rw [List.getElem?_eq_getElem (by omega)] at h0 h1 h2 h3 h4 h5 h6 h7
    simp only [k3, k33, k34, k36, List.drop_zero, List.drop_succ_cons, List.take_succ_cons, List.take_zero] at h0 h1 h2 h3 h4 h5 h6 h7
    obtain ⟨n0, e0, _, _⟩ := DataW.trod_int Try.underlying3 h0
    obtain ⟨n1, e1, _, w1⟩ := DataW.trod_int Try.underlying3 h1
    obtain ⟨n2, e2, _, w2⟩ := DataW.trod_int Try.underlying3 h2
    obtain ⟨n3, e3, _, _⟩ := DataW.trod_int Try.underlying3 h3
    obtain ⟨n4, e4, _, w4⟩ := DataW.trod_int Try.underlying3 h4
    obtain ⟨n5, e5, _, _⟩ := DataW.trod_int Try.underlying33 h5
    obtain ⟨n6, e6, _, w6⟩ := DataW.trod_int Try.underlying34 h6
    obtain ⟨bs, hr, hbw, _⟩ := open_rowT Try.underlying35 Try.underlying5 (by kernel_rfl) h7
    simp only [List.cons.injEq, and_true] at e0 e1 e2 e3 e4 e5 e6
    subst e0 e1 e2 e3 e4 e5 e6
    refine ⟨⟨n0, n1, n2, n3, n4, n5, n6, v7, bs⟩, ?_, ?_, ?_, ?_, ?_, ?_, ?_, ?_, hr, ?_, fun y hy => u8_bd (hbw y hy), u32_bd w6, i64_bd w1, i64_bd w2, i64_bd w4⟩
    · simpa [Addr.add] using hcell 0 (by omega)
    · simpa [Addr.add] using hcell 1 (by omega)
    · simpa [Addr.add] using hcell 2 (by omega)
    · simpa [Addr.add] using hcell 3 (by omega)
    · simpa [Addr.add] using hcell 4 (by omega)
    · simpa [Addr.add] using hcell 5 (by omega)
    · simpa [Addr.add] using hcell 6 (by omega)
    · simpa [Addr.add] using hcell 7 (by omega)
    · have := World.block_lt_of_cell? W _ (hcell 0 (by omega))
      simpa [Addr.add] using this
theorem spot_noneV {W : World} {a : Addr} {v : Value} (hc : W.cell? (a.add 0) = some v) : a.spot = none ∧ a.block < W.heap.size := by
  obtain ⟨b, off, spot⟩ := a
  have hsp : spot = none := by
    cases spot with
    | none => rfl
    | some s => simp [World.cell?, Addr.add] at hc; split at hc <;> simp at hc
  subst hsp
  exact ⟨rfl, by simpa [Addr.add] using World.block_lt_of_cell? W _ hc⟩
theorem list_ofV {α : Type} {p : Nat → α → Prop} : ∀ (n : Nat), (∀ i, i < n → ∃ a, p i a) → ∃ l : List α, l.length = n ∧ ∀ i (h : i < l.length), p i l[i]
  | 0, _ => ⟨[], rfl, fun i h => absurd h (by simp)⟩
  | n + 1, h => by
    obtain ⟨l, hl, hp⟩ := list_ofV n fun i hi => h i (by omega)
    obtain ⟨a, ha⟩ := h n (by omega)
    refine ⟨l ++ [a], by simp [hl], fun i hi => ?_⟩
    by_cases e : i < l.length
    · rw [List.getElem_append_left e]; exact hp i e
    · obtain rfl : i = l.length := by simp at hi; omega
      rw [List.getElem_concat_length rfl, hl]; exact ha
theorem open_actsV {H : Type} {enc : TypeId × Value → H} {W : World} {base base' : Nat} {spare : Nat → Bool} {held : Bool} {v : Value} {d : DataW H} {p : List MemPlace}
    (hv : Value.okWide Try.prog W .any base 22 v) (h : DataW.Trod enc Try.prog W base' spare held 22 v d p) : ∃ l : List VAct, VActsAt W.heap.size W v l := by
  obtain ⟨a0, n0, c0, rfl⟩ := okWide_slice Try.underlying22 hv
  obtain ⟨fuel, hf⟩ := h
  rcases Deep.open_slice Try.underlying22 hf with ⟨hcs, _⟩ | ⟨a, len, cap, m, n, D, Pl, hcs, hb, hl, hm, hmm, _, hel⟩
  · have hcs' : Value.slice a0 n0 c0 = .slice none 0 0 := by simpa [Value.cells] using hcs
    rw [hcs']
    exact ⟨[], none, 0, rfl, Nat.le_refl _, by simp, .inl rfl⟩
  · have hcs' : Value.slice a0 n0 c0 = .slice (some a) len cap := by simpa [Value.cells] using hcs
    rw [hcs']
    have hlm : len ≤ m := by rw [hmm]; split <;> omega
    have k8 : Try.prog.cellsOf 37 = 8 := by kernel_rfl
    rw [k8] at hel
    by_cases h0 : len = 0
    · subst h0
      exact ⟨[], some a, cap, rfl, by simp, hm, .inl rfl⟩
    · obtain ⟨cs0, hc0, _⟩ := hel 0 (by omega)
      obtain ⟨_, hl0, hx0⟩ := World.cells?_some hc0
      have hx := hx0 0 (by omega)
      rw [List.getElem?_eq_getElem (by omega)] at hx
      have hsp : a.spot = none := by
        have hx' : W.cell? (a.add 0) = some cs0[0] := by simpa [Addr.add] using hx
        exact (spot_noneV hx').1
      obtain ⟨b, off, spot⟩ := a
      dsimp only at hsp
      subst hsp
      obtain ⟨l, hll, hp⟩ := list_ofV (p := fun i a => VActAt W.heap.size W b (off + i * 8) a) len (fun i hi => by
        obtain ⟨cs, hc, hf⟩ := hel i (by omega)
        have hadd : (⟨b, off, none⟩ : Addr).add (i * 8) = ⟨b, off + i * 8, none⟩ := by unfold Addr.add; split <;> simp_all
        rw [hadd] at hc
        exact open_actV hc hf)
      subst hll
      exact ⟨l, _, cap, rfl, hl, hm, .inr ⟨b, off, rfl, hp⟩⟩
def okA (a : VAct) : Prop := (a.bs.length : Int) ≤ 600 ∧ ¬ (600 < a.many ∧ a.many ≤ 16777216)
instance (a : VAct) : Decidable (okA a) := by unfold okA; infer_instance
def fewV (l : List VAct) (most : Int) : Bool := decide (∀ a ∈ l, okA a) && decide ((l.length : Int) ≤ most)
theorem few_okV (v : Value) (l : List VAct) (most : Int) (B : Nat) (w : World) (hv : VActsAt B w v l) : Calls Try.prog 4 #[v, .int .i64 most] w fun e w' => e = .returned (.bool (fewV l most)) ∧ w = w' := by
  obtain ⟨a, cap, rfl, hl, hm, hc⟩ := hv
  have HC := Lib.hid hc
  clear hc
  have hml : l.length ≤ 9223372036854775807 := by unfold maxLen at hm; omega
  have bad : ∀ (k : Nat) (hk : k < l.length), ¬ okA l[k] → fewV l most = false := fun k hk hb => by
    unfold fewV
    rw [Bool.and_eq_false_iff]
    left
    rw [decide_eq_false_iff_not]
    exact fun h => hb (h l[k] (List.getElem_mem hk))
  have BAD := Lib.hid bad
  clear bad
  go_enter Try.func4, Try.ntmps4
  go_wp2_with fail
  go_loopw [5] (fun i wr => ∃ k : Nat, k ≤ l.length ∧ i = .int .i64 k ∧ (∀ j (hj : j < l.length), j < k → okA l[j]) ∧ w = wr) (fun i _ => l.length - (intOf i).toNat)
  case atStart => exact ⟨0, by omega, rfl, fun j _ hj => by omega, rfl⟩
  case round =>
    obtain ⟨k, hk, rfl, hn, rfl⟩ := hrel
    have HN := Lib.hid hn
    clear hn
    by_cases hlt : k < l.length
    · obtain ⟨b, off, rfl, hA⟩ : ∃ b off, a = some ⟨b, off, none⟩ ∧ ∀ i (h : i < l.length), VActAt B w b (off + i * 8) l[i] := by
        rcases HC.out with h | h
        · rw [h] at hlt; simp at hlt
        · exact h
      have q4 := (hA k hlt).c4
      have q7 := (hA k hlt).c7
      obtain ⟨ba, bc, hbv, _⟩ := (hA k hlt).row
      rw [hbv] at q7
      have i0 : (0 : Int) ≤ k := by omega
      have i1 : (k : Int) < l.length := by omega
      have HB := Lib.hid (BAD.out k hlt)
      have HOK := Lib.hid (show okA l[k] → ∀ j (hj : j < l.length), j < k + 1 → okA l[j] from fun h j hj hjk => by
        by_cases e : j = k
        · subst e; exact h
        · exact HN.out j hj (by omega))
      unfold okA at HB
      have HOK2 := Lib.hid (show ((l[k].bs.length : Int) ≤ 600 ∧ ¬ (600 < l[k].many ∧ l[k].many ≤ 16777216)) → ∀ j (hj : j < l.length), j < k + 1 → okA l[j] from HOK.out)
      obtain ⟨nb, hnb⟩ : ∃ nb, l[k].bs.length = nb := ⟨_, rfl⟩
      obtain ⟨mk, hmk⟩ : ∃ mk, l[k].many = mk := ⟨_, rfl⟩
      rw [hnb] at q7 HB HOK2
      rw [hmk] at q4 HB HOK2
      clear hA hbv hnb hmk HOK
      by_cases h3 : 600 < (nb : Int)
      · have HRES := Lib.hid (HB.out (by omega))
        go_wp2_with fail
        go_ret
        exact ⟨by rw [HRES.out]; rfl, rfl⟩
      · by_cases h4 : 600 < mk
        · by_cases h5 : mk ≤ 16777216
          · have HRES := Lib.hid (HB.out (by omega))
            go_wp2_with fail
            go_ret
            exact ⟨by rw [HRES.out]; rfl, rfl⟩
          · go_wp2_with fail
            exact ⟨⟨k + 1, by omega, by go_num, HOK2.out (by omega), trivial⟩, by simp [intOf]; omega⟩
        · go_wp2_with fail
          exact ⟨⟨k + 1, by omega, by go_num, HOK2.out (by omega), trivial⟩, by simp [intOf]; omega⟩
    · obtain rfl : k = l.length := by omega
      have hres : fewV l most = decide ((l.length : Int) ≤ most) := by
        unfold fewV
        rw [show decide (∀ a ∈ l, okA a) = true by
          rw [decide_eq_true_eq]
          intro a ha
          obtain ⟨j, hj, rfl⟩ := List.getElem_of_mem ha
          exact HN.out j hj hj]
        rfl
      have HRES := Lib.hid hres
      clear hres
      go_wp2_with fail
      go_ret
      exact ⟨by rw [HRES.out]; rfl, rfl⟩
end Go.Proofs.Ytleclclncgnelaa
