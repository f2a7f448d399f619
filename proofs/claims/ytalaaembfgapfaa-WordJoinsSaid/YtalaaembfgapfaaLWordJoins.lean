/-
  'WordJoins' returns true for every input, and leaves what it is given as it was. No condition.
-/
import Derived.Test.YtalaaembfgapfaaFrame
import Derived.Test.YtalaaembfgapfaaWordI
import Derived.Deep.Matrix
namespace Go.Proofs.Ytalaaembfgapfaa.wordJoins
open Go.ChangeShapes Go.WideShapes Go.ChangeAt Go.RowKit Go.Proofs.Ytalaaembfgapfaa
set_option linter.unusedVariables false
set_option maxHeartbeats 1000000

/-- What the law reckons of the first lengths. -/
def nL : List (List Int) → Nat
  | [] => 0
  | l :: ls => 30 + min l.length 3001 + nL ls
theorem nL_app (a b : List (List Int)) : nL (a ++ b) = nL a + nL b := by
  induction a with
  | nil => simp [nL]
  | cons x a ih => simp [nL, ih]; omega
theorem nL_succ (ls : List (List Int)) (k : Nat) (h : k < ls.length) : nL (ls.take (k + 1)) = nL (ls.take k) + (30 + min ls[k].length 3001) := by
  rw [List.take_succ_eq_append_getElem h, nL_app]; simp [nL]
theorem nL_small : ∀ ls : List (List Int), nL ls ≤ 3000 → 30 * ls.length + ls.flatten.length ≤ nL ls := by
  intro ls
  induction ls with
  | nil => intro _; simp [nL]
  | cons l ls ih =>
    intro h
    simp only [nL] at h ⊢
    have := ih (by omega)
    rw [List.flatten_cons, List.length_append, List.length_cons]
    omega
theorem flat_le (ls : List (List Int)) (k : Nat) (h : k < ls.length) : ls[k].length ≤ ls.flatten.length := by
  have h1 := lenK_succ ls k h
  have h2 := lenK_le ls (k + 1)
  omega
theorem rows_mk {B : Nat} {W : World} {v : Value} {vs : List Value} {ls : List (List Int)} (h : RowAt B W v vs.length vs) (hl : vs.length = ls.length) (hr : ∀ (i : Nat) (h : i < vs.length) (h' : i < ls.length), RowAt B W vs[i] ls[i].length (intVals .u8 ls[i])) : RowsAt B W v vs ls := ⟨h, hl, hr⟩
theorem infoS : ElemInfo Try.prog 23 (.slice none 0 0) 1 24 := elemInfo_of (by kernel_rfl) rfl (by decide)
theorem body (v : Value) (vs : List Value) (ls : List (List Int)) (w : World) (hm : ls.length ≤ maxLen) (hv : RowsAt w.heap.size w v vs ls) :
    Calls Try.prog 7 #[v] w fun e w' => e = .returned (.bool true) ∧ Below w.heap.size w w' := by
  have hv0 := hv
  obtain ⟨⟨ad, cap, rfl, hcap, hrow⟩, hlen, hrows⟩ := hv
  have HV := Lib.hid hv0
  have HRow := Lib.hid hrow
  have HRows := Lib.hid hrows
  have HS := Lib.hid (nL_small ls)
  clear hrow hrows hv0
  unfold maxLen at hm
  go_enter Try.func7, Try.ntmps7
  go_wp2_with fail
  go_loopw [3, 4] (fun n i wr => ∃ k : Nat, k ≤ vs.length ∧ i = .int .i64 k ∧ n = .int .i64 (nL (ls.take k)) ∧ w = wr ∧ nL (ls.take k) ≤ 10000) (fun _ i _ => vs.length - (intOf i).toNat)
  case atStart => exact ⟨0, by omega, rfl, rfl, by trivial, by simp [nL]⟩
  case round =>
    obtain ⟨k, hk, rfl, rfl, rfl, hk2⟩ := hrel
    by_cases hlt : k < vs.length
    · have hk' : k < ls.length := by omega
      have i1 : (k : Int) < vs.length := by omega
      have d1 : decide ((k : Int) < vs.length) = true := by simpa using i1
      by_cases hn : nL (ls.take k) ≤ 3000
      · have hs := nL_succ ls k hk'
        rcases HRow.out with h0 | ⟨b, off, rfl, hbB, hc⟩
        · subst h0; simp at hlt
        have hck := hc k hlt
        rw [List.getElem?_eq_getElem hlt] at hck
        obtain ⟨ad', cap', he, _, _⟩ := HRows.out k hlt hk'
        rw [he] at hck
        clear hc he
        have hs2 := Lib.hid (show ((nL (ls.take (k + 1)) : Nat) : Int) = (nL (ls.take k) : Int) + 30 + min (ls[k].length : Int) 3001 by omega)
        have hs3 : nL (ls.take (k + 1)) ≤ 10000 := by omega
        have hn' : ((nL (ls.take k) : Nat) : Int) ≤ 3000 := by omega
        have d2 : decide (((nL (ls.take k) : Nat) : Int) ≤ 3000) = true := by simpa using hn'
        clear hs
        have HS3 := Lib.hid hs3
        clear hs3
        generalize nL (ls.take k) = Nk at *
        generalize hLe : ls[k].length = Le at *
        have i0 : (0 : Int) ≤ k := by omega
        have q0 : 0 ≤ min (Le : Int) 3001 := by omega
        have q1 : min (Le : Int) 3001 ≤ 3001 := by omega
        go_wp2_with fail
        go_roundw
        case rel =>
          refine ⟨k + 1, by omega, by go_num, ?_, by trivial, HS3.out⟩
          rw [hs2.out]
          congr 1
          split <;> omega
        case measure => simp [intOf]; omega
      · have hn' : 3000 < ((nL (ls.take k) : Nat) : Int) := by omega
        have d2 : decide (((nL (ls.take k) : Nat) : Int) ≤ 3000) = false := by simp; omega
        generalize nL (ls.take k) = Nk at *
        go_wp2_with fail
        refine (works_ok _).mono ?_; rintro e w5 ⟨rfl, hb5⟩
        go_wp2_with fail
        go_ret
        exact ⟨rfl, hb5⟩
    · obtain rfl : k = vs.length := by omega
      have d1 : decide (((vs.length : Nat) : Int) < vs.length) = false := by simp
      have e1 : ls.take vs.length = ls := by rw [hlen, List.take_length]
      rw [e1]
      clear e1
      by_cases hn : nL ls ≤ 3000
      · have h30 := HS.out hn
        have hn' : ¬ 3000 < ((nL ls : Nat) : Int) := by omega
        have HF := Lib.hid (flat_le ls)
        have hl100 : vs.length ≤ 100 := by omega
        have HT := Lib.hid (show ls.flatten.length ≤ 3000 by omega)
        clear h30 HS hk2
        generalize nL ls = Nk at *
        go_wp2_with fail
        go_loopw [5, 6, 7] (fun m s i wr => ∃ (k : Nat) (ms : List Value), k ≤ vs.length ∧ i = .int .i64 k ∧ s = .string (strOfNums (ls.take k).flatten) ∧ ms.length = k ∧ wr.ownsRow w.heap.size 23 1 m k ms ∧ (∀ (j : Nat) (h : j < ms.length) (h' : j < ls.length), Lent w.heap.size wr ms[j] ls[j]) ∧ Below w.heap.size w wr) (fun _ _ i _ => vs.length - (intOf i).toNat)
        case atStart => exact ⟨0, [], by omega, rfl, rfl, rfl, World.ownsRow_nil _ _ _ _, fun j h => absurd h (by simp), Below.refl _ _⟩
        case round =>
          obtain ⟨k, ms, hk, rfl, rfl, hms, hom, hlent, hb⟩ := hrel
          have hz := hb.size
          have HLent := Lib.hid hlent
          clear hlent
          by_cases hlt : k < vs.length
          · have hk' : k < ls.length := by omega
            have i1 : (k : Int) < vs.length := by omega
            have i0 : (0 : Int) ≤ k := by omega
            have hLe := HF.out k hk'
            have hTe := HT.out
            rcases HRow.out with h0 | ⟨b, off, rfl, hbB, hc⟩
            · subst h0; simp at hlt
            have hck := (hb.cell (p := ⟨b, off + k, none⟩) (by dsimp only; omega)).trans (hc k hlt)
            rw [List.getElem?_eq_getElem hlt] at hck
            have hrk := (HRows.out k hlt hk').below hb (Nat.le_refl _)
            have hcB := Lib.hid (hc k hlt)
            clear hc
            go_wp2_with fail
            refine (lent_ok' vs[k] ls[k] w.heap.size w.heap.size wr hz hz (by omega) hrk).mono ?_; rintro e w1 ⟨u, rfl, hu, hb1⟩
            have hz1 := hb1.size
            have hom1 := owns_below hom hb1 (Nat.le_refl _)
            have hbw1 := hb.trans (hb1.mono hz)
            obtain ⟨g, cp, rfl, hug⟩ := id hu
            have HL1 := Lib.hid (fun (j : Nat) (h : j < ms.length) (h' : j < ls.length) => (HLent.out j h h').below hb1 (Nat.le_refl _))
            clear HLent hom hck hrk hb
            go_wp2_with (at_builtin; refine wpList_append_row rfl _ _ 41 rfl w.heap.size Try.underlying41 infoS k ms rfl ?c1 (w1.heap.size + 1) 1 [.slice (some ⟨g, 0, none⟩) ls[k].length cp] rfl ?c2 ?c3 ?c4 ?c5 ?c6 ?c7 ?_)
            case c1 => exact hom1.alloc _
            case c2 => exact RowAt.lit w1 #[.slice (some ⟨g, 0, none⟩) ls[k].length cp] 23 1 _ (by omega)
            case c3 => rfl
            case c4 => intro u hu; simp at hu; subst hu; rfl
            case c5 => unfold maxLen; omega
            case c6 => omega
            case c7 => simp; omega
            intro m2 w2 ho2 hg2
            have hb2 : Below w.heap.size w w2 := (hbw1.alloc (by omega) _).appended (hom1.alloc _) hg2 (Nat.le_refl _) (by simp; omega)
            have hz2 := hb2.size
            have HL2 := Lib.hid (fun (j : Nat) (h : j < (ms ++ [Value.slice (some ⟨g, 0, none⟩) ls[k].length cp]).length) (h' : j < ls.length) => show Lent w.heap.size w2 (ms ++ [.slice (some ⟨g, 0, none⟩) ls[k].length cp])[j] ls[j] from by
              have far : ∀ {u : Value} {l : List Int}, Lent w.heap.size w1 u l → Lent w.heap.size w2 u l := by
                rintro u l ⟨g', cp', rfl, ho⟩
                exact ⟨g', cp', rfl, owns_far (ho.alloc _) (hom1.alloc _) (by decide) hg2⟩
              by_cases e : j < ms.length
              · rw [List.getElem_append_left e]; exact far (HL1.out j e h')
              · have e' : j = k := by simp at h; omega
                subst e'
                rw [List.getElem_append_right (by omega)]
                simp only [hms, Nat.sub_self, List.getElem_cons_zero]
                exact far hu)
            have hrk := (HRows.out k hlt hk').below hb2 (Nat.le_refl _)
            have hcv := run_convert_row (P := Try.prog) ls[k] hrk Try.underlying23 Try.underlying5 Try.underlying9
            have hck := (hb2.cell (p := ⟨b, off + k, none⟩) (by dsimp only; omega)).trans hcB.out
            rw [List.getElem?_eq_getElem hlt] at hck
            clear hg2 hom1 HL1 hu hug hcB hb1 hbw1 hrk
            have hcat := strOfNums_append (ls.take k).flatten ls[k]
            rw [← flat_succ ls k hk'] at hcat
            have hsl1 : (strOfNums (ls.take k).flatten).size ≤ 3000 := by rw [strOfNums_size]; have := lenK_le ls k; unfold lenK at this; omega
            have hsl2 : (strOfNums ls[k]).size ≤ 3000 := by rw [strOfNums_size]; omega
            have hsl : ¬ (9223372036854775807 < ((strOfNums (ls.take k).flatten).size : Int) + ((strOfNums ls[k]).size : Int)) := by omega
            go_wp2_with fail
            go_roundw
            case rel => exact ⟨k + 1, ms ++ [.slice (some ⟨g, 0, none⟩) ls[k].length cp], by omega, by go_num, rfl, by simp; omega, ho2, HL2.out, hb2⟩
            case measure => simp [intOf]; omega
          · obtain rfl : k = vs.length := by omega
            have e1 : ls.take vs.length = ls := by rw [hlen, List.take_length]
            rw [e1]
            clear e1
            obtain ⟨wL, rfl⟩ : ∃ wL, wL = wr := ⟨_, rfl⟩
            obtain ⟨F, hF⟩ : ∃ F, F = ls.flatten := ⟨_, rfl⟩
            rw [← hF] at HT ⊢
            have hF1 : ls.flatten.length ≤ 1000000 := by rw [← hF]; have := HT.out; omega
            have hrm := RowAt.of_owns hom (Nat.le_refl wL.heap.size)
            rw [← hms] at hrm
            have hrs := rows_mk hrm (by omega) fun j h h' => (HLent.out j h h').row
            have hJ := Joined_ok _ ms ls hF1 (by omega) wL.heap.size wL (Nat.le_refl _) hrs
            rw [← hF] at hJ
            have HJ := Lib.hid hJ
            clear hJ hrs hF hF1 hom
            obtain ⟨adm, capm, rfl, _, hrm⟩ := hrm
            have HRm := Lib.hid hrm
            clear hrm
            go_wp2_with fail
            rw [show ls.length = ms.length from by omega]
            refine (HJ.out).mono ?_; rintro e w3 ⟨v3, rfl, ho3, hb3⟩
            have hr3 : RowAt w3.heap.size w3 v3 F.length (intVals .u8 F) := RowAt.of_owns ho3 (Nat.le_refl _)
            have hcv := run_convert_row (P := Try.prog) F hr3 Try.underlying23 Try.underlying5 Try.underlying9
            obtain ⟨ad3, cap3, rfl, _, _⟩ := hr3
            have hB3 : F.length = 0 ∨ ∃ g, ad3 = some ⟨g, 0, none⟩ ∧ wL.heap.size ≤ g ∧ Bytes w3 g F.length := by
              rcases id ho3 with ⟨_, ⟨_, h0⟩ | ⟨g, cap, cur, he, hbg, _⟩⟩
              · exact .inl h0
              · simp only [Value.slice.injEq] at he
                obtain ⟨rfl, _, rfl⟩ := he
                exact .inr ⟨g, rfl, hbg, Bytes.of_owns ho3⟩
            have hz3 := hb3.size
            clear ho3 HJ
            generalize F.length = T at *
            have hB3' := Lib.hid hB3
            have hTT := HT.out
            clear hB3
            go_wp2_with fail
            go_loopw [9] (fun i W => ∃ k : Nat, k ≤ T ∧ i = .int .i64 k ∧ Below wL.heap.size wL W ∧ (T = 0 ∨ ∃ g, ad3 = some ⟨g, 0, none⟩ ∧ wL.heap.size ≤ g ∧ Bytes W g T)) (fun i _ => T - (intOf i).toNat)
            case atStart => exact ⟨0, by omega, rfl, hb3, hB3'.out⟩
            case round =>
              obtain ⟨k, hkT, rfl, hbW, hBy⟩ := hrel
              by_cases hltT : k < T
              · rcases hBy with h0 | ⟨g, rfl, hgW, hBy⟩
                · exact absurd h0 (by omega)
                obtain ⟨z, hcz, hfz⟩ := hBy.cell k hltT
                have j0 : (0 : Int) ≤ k := by omega
                have j1 : (k : Int) < T := by omega
                have HBy := Lib.hid hBy
                clear hBy
                go_wp2_with fail
                go_roundw
                case rel => exact ⟨k + 1, by omega, by go_num, hbW.setCell (p := ⟨g, k, none⟩) hgW _, .inr ⟨g, rfl, hgW, HBy.out.set k _⟩⟩
                case measure => simp [intOf]; omega
              · obtain rfl : k = T := by omega
                clear hBy
                obtain ⟨wM, rfl⟩ : ∃ wM, wM = wr := ⟨_, rfl⟩
                go_wp2_with fail
                go_loopw [10] (fun i X => ∃ k : Nat, k ≤ vs.length ∧ i = .int .i64 k ∧ Below wL.heap.size wL X) (fun i _ => vs.length - (intOf i).toNat)
                case atStart => exact ⟨0, by omega, rfl, hbW⟩
                case round =>
                  obtain ⟨q, hq, rfl, hbX⟩ := hrel
                  have hzX := hbX.size
                  by_cases hltq : q < vs.length
                  · have hq' : q < ls.length := by omega
                    have hqm : q < ms.length := by omega
                    have j0 : (0 : Int) ≤ q := by omega
                    have j1 : (q : Int) < vs.length := by omega
                    have j2 : (q : Int) < ms.length := by omega
                    have j3 : (q : Int) < ls.length := by omega
                    rcases HRow.out with h0 | ⟨b, off, rfl, hbB, hc⟩
                    · subst h0; simp at hltq
                    rcases HRm.out with h0 | ⟨bm, offm, rfl, hbm, hcm⟩
                    · subst h0; simp at hqm
                    have hck := (hbX.cell (p := ⟨b, off + q, none⟩) (by dsimp only; omega)).trans ((hb.cell (p := ⟨b, off + q, none⟩) (by dsimp only; omega)).trans (hc q hltq))
                    rw [List.getElem?_eq_getElem hltq] at hck
                    have hcmk := (hbX.cell (p := ⟨bm, offm + q, none⟩) (by dsimp only; omega)).trans (hcm q hqm)
                    rw [List.getElem?_eq_getElem hqm] at hcmk
                    obtain ⟨g, cp, hge, hLg⟩ := (HLent.out q hqm hq').at'
                    rw [hge] at hcmk
                    have hL2 := Lib.hid (hLg.below hbX (Nat.le_refl _))
                    have hR2 := Lib.hid (((HRows.out q hltq hq').below hb (Nat.le_refl _)).below hbX (by omega))
                    clear hc hcm hge hLg
                    go_wp2_with fail
                    go_quiet ((go_at_call 16; exact quiet_same (keptAt (hL2.out.below ((Below.refl _ _).drewN _) hzX) (hR2.out.below ((Below.refl _ _).drewN _) (by omega)))))
                    go_wp2_with fail
                    go_roundw
                    case rel => exact ⟨q + 1, by omega, by go_num, hbX.drewN _⟩
                    case measure => simp [intOf]; omega
                  · obtain rfl : q = vs.length := by omega
                    go_wp2_with fail
                    refine (works_ok _).mono ?_; rintro e w5 ⟨rfl, hb5⟩
                    go_wp2_with fail
                    go_ret
                    exact ⟨rfl, (hb.trans (hbX.mono hz)).trans (hb5.mono (by omega))⟩
      · have hn' : 3000 < ((nL ls : Nat) : Int) := by omega
        generalize nL ls = Nk at *
        go_wp2_with fail
        refine (works_ok _).mono ?_; rintro e w5 ⟨rfl, hb5⟩
        go_wp2_with fail
        go_ret
        exact ⟨rfl, hb5⟩
theorem spot_none {W : World} {a : Addr} {v : Value} (hc : W.cell? (a.add 0) = some v) : a.spot = none ∧ a.block < W.heap.size := by
  obtain ⟨b, off, spot⟩ := a
  have hsp : spot = none := by
    cases spot with
    | none => rfl
    | some s => simp [World.cell?, Addr.add] at hc; split at hc <;> simp at hc
  subst hsp
  obtain ⟨o, ho, _⟩ := cells_of_cell hc
  exact ⟨rfl, by simpa [Addr.add] using (Array.getElem?_eq_some_iff.1 ho).1⟩
theorem row_of_cells {W : World} {a : Option Addr} {len cap : Nat} {vs : List Value} (hl : len ≤ cap) (hn : a = none → len = 0 ∧ cap = 0) (hv : vs.length = len)
    (hc : ∀ a', a = some a' → ∀ i, i < len → W.cell? (a'.add i) = vs[i]?) : RowAt W.heap.size W (.slice a len cap) len vs := by
  refine ⟨a, cap, rfl, ⟨hl, hn⟩, ?_⟩
  by_cases h0 : len = 0
  · left; exact List.eq_nil_of_length_eq_zero (by omega)
  · right
    cases a with
    | none => exact absurd (hn rfl).1 h0
    | some a' =>
      obtain ⟨b, off, spot⟩ := a'
      have h1 := hc _ rfl 0 (by omega)
      rw [List.getElem?_eq_getElem (by omega)] at h1
      obtain ⟨hs, hb⟩ := spot_none h1
      dsimp only at hs hb
      subst hs
      refine ⟨b, off, rfl, hb, fun i hi => ?_⟩
      have h2 := hc _ rfl i (by omega)
      by_cases e0 : i = 0
      · subst e0; simpa [Addr.add] using h2
      · simpa [Addr.add, e0] using h2
theorem open_rows {H : Type} {enc : TypeId × Value → H} {P : Program} {W : World} {base' : Nat} {held : Bool} {t e q : TypeId} {v : Value} {d : DataW H} {p : List MemPlace} (ht : P.underlying t = some (.slice e)) (he : P.underlying e = some (.slice q)) (hq : P.underlying q = some (.int .u8))
    (ce : P.cellsOf e = 1) (cq : P.cellsOf q = 1) (hv : ∃ a n c, v = .slice a n c) (h : DataW.Trod enc P W base' (fun _ => true) held t v d p) :
    ∃ (vs : List Value) (ls : List (List Int)), RowsAt W.heap.size W v vs ls ∧ ls.length ≤ maxLen := by
  obtain ⟨a0, n0, c0, rfl⟩ := hv
  obtain ⟨fuel, hf⟩ := h
  rcases Deep.open_int_rows ht he hq ce cq hf with ⟨hcs, _⟩ | ⟨a, len, cap, A, L, C, Z, hcs, hb, hl, hm, _, hr⟩
  · simp only [Value.cells, List.cons.injEq, and_true] at hcs
    have hcs' : Value.slice a0 n0 c0 = .slice none 0 0 := by simpa using hcs
    rw [hcs']
    exact ⟨[], [], ⟨RowAt.nil _ _, rfl, fun i h => absurd h (by simp)⟩, by simp⟩
  · have hcs' : Value.slice a0 n0 c0 = .slice (some a) len cap := by simpa [Value.cells] using hcs
    rw [hcs']
    refine ⟨(List.range len).map fun r => .slice (A r) (L r) (C r), (List.range len).map fun r => (Z r).take (L r), ⟨?_, by simp, fun i h h' => ?_⟩, by simp; omega⟩
    · rw [List.length_map, List.length_range]
      refine row_of_cells hl (fun h => by cases h) (by simp) fun a' ha i hi => ?_
      cases ha
      rw [(hr i (by omega)).1]
      simp [hi]
    · have hi : i < len := by simpa using h
      simp only [List.getElem_map, List.getElem_range]
      obtain ⟨_, h1, h2, h3, h4, h5, h6⟩ := hr i (by omega)
      have htl : ((Z i).take (L i)).length = L i := by rw [List.length_take, h3]; omega
      rw [htl]
      refine row_of_cells h1 (fun h => ?_) (by rw [intVals_len, htl]) fun a' ha j hj => ?_
      · have := h5 h; omega
      · rw [(h6 a' ha).2 j (by omega)]
        have hj' : j < ((Z i).take (L i)).length := by omega
        rw [intVals_get _ _ _ hj', List.getElem_take]
        simp [List.getD, List.getElem?_eq_getElem (show j < (Z i).length by omega)]

theorem walk (H : Type) (enc : TypeId × Value → H) (W : World) (base : Nat) (args : Array Value) (ds : List (DataW H)) (p : List MemPlace)
    (hval : ∀ (j : Nat) t v, Try.f7.params[j]? = some t → args[j]? = some v → Value.okWide Try.prog W .any base t v)
    (hA : DataW.TrodAll enc Try.prog W 0 (fun _ => true) true Try.f7.params.toList args.toList ds p) (hlt : ∀ x ∈ p, x.block < W.heap.size) :
    Calls Try.prog 7 args W (fun e W' => e = .returned (.bool true) ∧ Below W.heap.size W W') ∧ ∃ d0, ds = [d0] := by
  rw [Try.params7] at hA hval
  obtain ⟨v0, vs0, d0, ds0, p0, q0, hargs, rfl, rfl, h0, r0⟩ := trodAll_cons hA
  obtain ⟨rfl, rfl, rfl⟩ := trodAll_nil r0
  obtain rfl : args = #[v0] := by cases args; simp_all
  obtain ⟨a0, n0, c0, hv0⟩ := okWide_slice Try.underlying41 (hval 0 41 v0 rfl rfl)
  obtain ⟨vs, ls, hr, hm⟩ := open_rows Try.underlying41 Try.underlying23 Try.underlying5 (by kernel_rfl) (by kernel_rfl) ⟨a0, n0, c0, hv0⟩ h0
  exact ⟨body v0 vs ls W hm hr, _, rfl⟩

theorem own : ownKnob Try.prog.godebug = none := by kernel_rfl
set_option maxRecDepth 100000 in
theorem lifted (os : Os) (started : os.Started) (H : Type) (enc : TypeId × Value → H) :
    ReturnsInHanded {} Try.checked os 7 .any (Rows.wordJoinsSpec.pre6 enc Try.prog Try.f7 Rows.wordJoinsRow.domain false) (Rows.wordJoinsSpec.post enc Try.prog Try.f7 false true false false) := by
  refine returnsInHanded_of_change (C := Try.checked) own started (by kernel_rfl) Try.func7
    (ChangeSpec.witness6 (enc := enc) (C := Try.checked) false ⟨#[], #[.slice none 0 0], []⟩ 8 (by kernel_rfl) (by kernel_rfl) (by kernel_rfl) (by kernel_rfl)) ?_
  intro W base args ds gs before hval hW hcnd _
  have hW' := hW
  obtain ⟨p, q, hA, hV, rfl, hfz, hnd⟩ := hW
  obtain ⟨rfl, rfl⟩ := trodVars_none hV
  have hlt : ∀ x ∈ p, x.block < W.heap.size := fun x hx => hW'.lt x (List.mem_append_left _ hx)
  obtain ⟨hc, d0, rfl⟩ := walk H enc W base args ds p hval hA hlt
  refine hc.mono fun e W' ⟨he, hb⟩ => ?_
  subst he
  exact ⟨_, rfl, law_post (by kernel_rfl) (by kernel_rfl) rfl (by kernel_rfl) rfl rfl rfl rfl hW' hA hlt hb⟩

theorem over : Rows.wordJoinsRow.holds Try.pinned (OpenSpec.ofChange Rows.wordJoinsSpec) :=
  OpenClaim.holds_of_wide 7 Try.f7 rfl rfl rfl rfl rfl rfl rfl ⟨rfl, rfl, rfl, rfl, rfl⟩ rfl rfl rfl rfl rfl (by kernel_rfl) Try.func7 (by kernel_rfl)
    (of_decide_eq_true (by kernel_rfl)) (by unfold Func.isWrapper; first | (rw [if_pos (by decide +kernel)]; kernel_rfl) | (rw [if_neg (by decide +kernel)]; exact ⟨rfl, rfl⟩))
    (fun os started H enc _ => lifted os started H enc)

theorem proved : Rows.WordJoinsSaid :=
  over

end Go.Proofs.Ytalaaembfgapfaa.wordJoins
