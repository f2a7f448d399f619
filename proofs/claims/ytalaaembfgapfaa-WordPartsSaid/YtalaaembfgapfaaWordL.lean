/-
  The law's own 'parts'.
-/
import Derived.Test.YtalaaembfgapfaaWordK
import Derived.Deep.RegionHeld3
namespace Go.Proofs.Ytalaaembfgapfaa
open Go.RowKit
attribute [local go_sem] Oper.semAt_some
set_option maxHeartbeats 1000000

theorem infoP : ElemInfo Try.prog 47 (.agg #[.int .i64 0, .slice none 0 0]) 2 32 := elemInfo_of (by kernel_rfl) rfl (by decide)
/-- The cells of the first parts. -/
def cellsOf (s : Nat) (us : List Value) : List Value := ((List.range us.length).map fun j => [Value.int .i64 (j * s : Nat), us.getD j undef]).flatten
/-- Copies of the first parts. -/
def Copies (B : Nat) (X : World) (l : List Int) (s : Nat) (us : List Value) : Prop :=
  ∀ (j : Nat) (h : j < us.length), ∃ g cp : Nat, us[j] = .slice (some ⟨g, 0, none⟩) (partI l s j).length cp ∧ X.ownsRow B 5 1 us[j] (partI l s j).length (intVals .u8 (partI l s j))
theorem Copies.keeps {B m : Nat} {X Y : World} {l : List Int} {s : Nat} {us : List Value} (h : Copies B X l s us) (hk : Keeps m X Y) : Copies B Y l s us := fun j hj => by
  obtain ⟨g, cp, h1, h2⟩ := h j hj
  exact ⟨g, cp, h1, owns_keeps h2 hk⟩
theorem PartA.below {b off n cap s B0 bb bs m : Nat} {l : List Int} {X Y : World} (h : PartA b off n cap s l B0 bb bs X) (hb : Below m X Y) (h1 : bb < m) (h2 : bs < m) (h3 : B0 ≤ m) : PartA b off n cap s l B0 bb bs Y :=
  ⟨(hb.cell (p := ⟨bb, 0, none⟩) h1).trans h.1, (hb.cell (p := ⟨bs, 0, none⟩) h2).trans h.2.1, h.2.2.1.below hb h3, Nat.le_trans h.2.2.2 hb.size⟩
theorem PartA.keeps {b off n cap s B0 bb bs m : Nat} {l : List Int} {X Y : World} (h : PartA b off n cap s l B0 bb bs X) (hk : Keeps m X Y) : PartA b off n cap s l B0 bb bs Y :=
  ⟨hk.cell h.1, hk.cell h.2.1, h.2.2.1.keeps hk, Nat.le_trans h.2.2.2 hk.size⟩
theorem Sm.grown {lo hi : Nat} {X Y Z : World} {own : Option Nat} (h : Sm lo hi X Y) (hg : Y.grownBy Z own) (ho : ∀ k, own = some k → hi ≤ k) (hh : hi ≤ Y.heap.size) : Sm lo hi X Z :=
  h.trans ⟨hg.size, fun k h1 h2 => hg.block k (by omega) (fun e => by have := ho k e.symm; omega)⟩
theorem cellsOf_snoc (s : Nat) (us : List Value) (u : Value) : cellsOf s (us ++ [u]) = cellsOf s us ++ [.int .i64 (us.length * s : Nat), u] := by
  unfold cellsOf
  rw [List.length_append, List.length_singleton, List.range_succ, List.map_append, List.flatten_append]
  congr 1
  · congr 1
    refine List.map_congr_left fun j hj => ?_
    have hj' : j < us.length := List.mem_range.1 hj
    simp [List.getD, List.getElem?_append_left hj']
  · simp [List.getD]
/-- Rows of unlike elements lie in unlike blocks. -/
theorem owns_ne {W : World} {base base' : Nat} {e e' : TypeId} {size size' n n' g g' cap cap' : Nat} {xs ys : List Value} (h : W.ownsRow base e size (.slice (some ⟨g, 0, none⟩) n cap) n xs) (h' : W.ownsRow base' e' size' (.slice (some ⟨g', 0, none⟩) n' cap') n' ys) (hne : e ≠ e') : g ≠ g' := by
  rintro rfl
  rcases h.2 with ⟨h0, _⟩ | ⟨a, c, cur, h0, _, hg, _⟩
  · simp at h0
  rcases h'.2 with ⟨h0', _⟩ | ⟨a', c', cur', h0', _, hg', _⟩
  · simp at h0'
  simp only [Value.slice.injEq, Option.some.injEq, Addr.mk.injEq, and_true] at h0 h0'
  obtain ⟨rfl, _⟩ := h0
  obtain ⟨rfl, _⟩ := h0'
  rw [hg] at hg'
  simp only [Option.some.injEq, Obj.cells.injEq] at hg'
  exact hne hg'.2.1
theorem PartA.set {b off n cap s B0 bb bs : Nat} {l : List Int} {X : World} (h : PartA b off n cap s l B0 bb bs X) (a : Addr) (h1 : bb ≠ a.block) (h2 : bs ≠ a.block) (h3 : B0 ≤ a.block) (v : Value) : PartA b off n cap s l B0 bb bs (X.setCell a v) :=
  ⟨(World.cell?_of_block (Below.heap_setCell X a v bb h1)).trans h.1, (World.cell?_of_block (Below.heap_setCell X a v bs h2)).trans h.2.1, h.2.2.1.below ((Below.refl B0 X).setCell h3 v) (Nat.le_refl _), by simpa using h.2.2.2⟩
/-- append(s, x...) as one operation: s is the call's own, x a row. -/
theorem wp_append_rowO {P : Program} {o : Oper} {a : Act} {K : Act → World → Prop} {Q : Exit → Act → World → Prop} {w : World} (s x : Operand) (t : TypeId)
    (ho : o.op = .call { callee := .builtin .append, args := #[s, x], argTypes := #[t, t] }) (base : Nat) {e : TypeId} {z : Value} {size bytes : Nat} (ht : P.underlying t = some (.slice e)) (hE : ElemInfo P e z size bytes)
    {v : Value} (n : Nat) (xs : List Value) (hs : a.eval s = v) (hown : w.ownsRow base e size v n xs)
    (B : Nat) {ad : Addr} {cap : Nat} (m : Nat) (news : List Value) (hx : a.eval x = .slice (some ad) m cap) (hrow : RowAt B w (.slice (some ad) m cap) m news) (hl : news.length = m * size) (h1 : ∀ u ∈ news, u.oneCell' = true)
    (h63 : n + m ≤ maxLen) (hbytes : (n + m) * bytes ≤ 140737488355328) (hbase : base ≤ w.heap.size)
    (h : ∀ v' w', w'.ownsRow base e size v' (n + m) (xs ++ news) → w.grownBy w' v.ownBlock → K (a.put o.dst v') w') : o.wp P a w K Q := by
  obtain ⟨i, hi, hz, hsize, hby, hzs, hsz⟩ := hE
  refine wp_append_own w s x t ho base e i z size bytes ht hi hz hsize hby hzs hsz v n xs hs hown ad m cap news hx hl ?_ h1 h63 hbytes hbase (fun v' w' h2 h3 _ => h v' w' h2 h3)
  intro j u hu
  obtain ⟨a', cap', he, _, hc⟩ := hrow
  simp only [Value.slice.injEq] at he
  obtain ⟨he, _, _⟩ := he
  rcases hc with rfl | ⟨b, off, hab, hlt, hc⟩
  · simp at hu
  · rw [hab] at he
    cases he
    have hj : j < news.length := (List.getElem?_eq_some_iff.1 hu).1
    have := hc j hj
    rw [hu] at this
    show w.cell? (Addr.add ⟨b, off, none⟩ j) = some u
    by_cases e0 : j = 0
    · subst e0; simpa [Addr.add] using this
    · simpa [Addr.add, e0] using this
/-- How many parts are told. -/
def cntI (many : Int) (m : Nat) : Int := if many = 0 then (m : Int) else min m many
theorem parts_ok (b off n cap s : Nat) (l : List Int) (hln : l.length = n) (hs : 1 ≤ s) (hn : n ≤ 1000000) (hcap : n ≤ cap) (hcm : cap ≤ maxLen) (hs63 : s ≤ maxLen) (many : Int) (hmany : 0 ≤ many) (w : World)
    (hrow : RowAt w.heap.size w (.slice (some ⟨b, off, none⟩) n cap) n (intVals .u8 l)) :
    Calls Try.prog 23 #[.slice (some ⟨b, off, none⟩) n cap, .int .i64 s, .int .i64 many] w fun e w' =>
      ∃ (v : Value) (us : List Value), e = .returned v ∧ w'.ownsRow w.heap.size 47 2 v us.length (cellsOf s us) ∧ Copies w.heap.size w' l s us ∧ (us.length : Int) = cntI many (nch n s) ∧ Below w.heap.size w w' := by
  have hfn := fun (fn : Fn) (x y : Array Value) (w : World) => run_eql_func_nil (P := Try.prog) Try.underlying61 fn x y w
  refine calls_of_wp_marks Try.func23 rfl ?_; simp only [Try.ntmps23, List.size_toArray, List.length_cons, List.length_nil, Nat.reduceAdd, Nat.reduceSub, Array.replicate_succ, Array.replicate_zero, List.push_toArray, List.append_toArray, List.nil_append, List.cons_append]
  go_wp2_with fail
  refine (Parts_calls _ _ _ _ _).mono ?_; rintro e w1 ⟨rfl, rfl⟩
  go_wp2_with fail
  refine (Parts_calls _ _ _ _ _).mono ?_; rintro e w2 ⟨rfl, rfl⟩
  go_wp2_with fail
  obtain ⟨W0, hW0⟩ : ∃ W0, W0 = (((((w.alloc (.cells #[.int .i64 many] 3)).alloc (.cells #[.slice none 0 0] 44)).alloc (.cells #[.slice (some ⟨b, off, none⟩) n cap] 23)).alloc (.cells #[.int .i64 s] 3)).alloc (.cells #[.slice (some ⟨b, off, none⟩) n cap] 23)).alloc (.cells #[.int .i64 s] 3) := ⟨_, rfl⟩
  rw [← hW0]
  have hs0 : W0.heap.size = w.heap.size + 6 := by rw [hW0]; simp
  have b0 : Blk W0 w.heap.size #[.int .i64 many] 3 := by rw [hW0]; exact (((((Blk.new w _ _).alloc _).alloc _).alloc _).alloc _).alloc _
  have b1 : Blk W0 (w.heap.size + 1) #[.slice none 0 0] 44 := by rw [hW0]; exact ((((Blk.newAt _ _ _ (by simp)).alloc _).alloc _).alloc _).alloc _
  have b4 : Blk W0 (w.heap.size + 1 + 1 + 1 + 1) #[.slice (some ⟨b, off, none⟩) n cap] 23 := by rw [hW0]; exact (Blk.newAt _ _ _ (by simp)).alloc _
  have b5 : Blk W0 (w.heap.size + 1 + 1 + 1 + 1 + 1) #[.int .i64 s] 3 := by rw [hW0]; exact Blk.newAt _ _ _ (by simp)
  have hw0 : Below w.heap.size w W0 := by rw [hW0]; exact ((((((Below.refl _ w).alloc (Nat.le_refl _) _).alloc (by simp) _).alloc (by simp; omega) _).alloc (by simp; omega) _).alloc (by simp; omega) _).alloc (by simp; omega) _
  have hrow0 := hrow.below hw0 (Nat.le_refl _)
  clear hW0 hfn
  refine wp_rangeR2 rfl (enters_of Try.func38 (by kernel_rfl) rfl) (Parts_iter b off n cap s l hln hs hn hcap hcm hs63 w.heap.size (w.heap.size + 1 + 1 + 1 + 1) (w.heap.size + 1 + 1 + 1 + 1 + 1)) (fun _ _ _ _ vals h => by obtain ⟨g, cp, h1, _⟩ := h; subst h1; rfl)
    (fun pre X => ∃ (v : Value) (us : List Value), us.length = pre.length ∧ Blk X (w.heap.size + 1) #[v] 44 ∧ X.ownsRow (w.heap.size + 14) 47 2 v us.length (cellsOf s us) ∧ Copies (w.heap.size + 14) X l s us ∧ (many = 0 ∨ (us.length : Int) < many) ∧ Blk X w.heap.size #[.int .i64 many] 3 ∧ PartA b off n cap s l w.heap.size (w.heap.size + 1 + 1 + 1 + 1) (w.heap.size + 1 + 1 + 1 + 1 + 1) X ∧ Below w.heap.size w X)
    (fun c X => c = .exit 0 ∧ ∃ (v : Value) (us : List Value), 1 ≤ us.length ∧ us.length ≤ nch n s ∧ (us.length : Int) = many ∧ Blk X (w.heap.size + 1) #[v] 44 ∧ X.ownsRow (w.heap.size + 14) 47 2 v us.length (cellsOf s us) ∧ Copies (w.heap.size + 14) X l s us ∧ Below w.heap.size w X)
    ?a1 ?hassign ?hI ?hIx ?hE ?hO ?hOx ?hA ?h0 ?hbody ?hdone ?hstop
  case hassign =>
    rintro m l' B x W1 X vals K hE hK
    obtain ⟨g, cp, rfl, _⟩ := hE
    generalize hu : Value.int .i64 (x * s : Nat) = u at hK ⊢
    generalize hv : Value.slice (some ⟨g, 0, none⟩) (partI l s x).length cp = v at hK ⊢
    clear hu hv
    dsimp only
    gi_wp2
    exact hK u v rfl
  case hI => rintro pre X Y ⟨v, us, h1, h2, h3, h4, h5, h6, h7, h8⟩ hk; exact ⟨v, us, h1, h2.keeps hk, owns_keeps h3 hk, h4.keeps hk, h5, h6.keeps hk, h7.keeps hk, h8.keeps hk (by omega)⟩
  case hIx => rintro c X Y ⟨hc, v, us, h1, h2, h3, h4, h5, h6, h7⟩ hk; exact ⟨hc, v, us, h1, h2, h3, h4.keeps hk, owns_keeps h5 hk, h6.keeps hk, h7.keeps hk (by omega)⟩
  case hE => rintro Wx x vals _ X Y ⟨g, cp, h1, h2, h3⟩ hk; exact ⟨g, cp, h1, owns_keeps h2 hk, h3⟩
  case hO =>
    rintro o ho pre X z ⟨v, us, h1, h2, h3, h4, h5, h6, h7, h8⟩
    cases ho
    have hb6 : Below (w.heap.size + 6) X (X.setCell ⟨W0.heap.size + 2 + 1, 0, none⟩ z) := (Below.refl _ X).setCell (p := ⟨W0.heap.size + 2 + 1, 0, none⟩) (by show w.heap.size + 6 ≤ W0.heap.size + 2 + 1; omega) z
    refine ⟨v, us, h1, h2.below hb6 (by omega), ownsRow_setCell_below h3 (by show W0.heap.size + 2 + 1 < w.heap.size + 14; omega) z, fun j hj => ?_, h5, h6.below hb6 (by omega), h7.below hb6 (by omega) (by omega) (by omega), h8.trans (hb6.mono (by omega))⟩
    obtain ⟨g, cp, e1, e2⟩ := h4 j hj
    exact ⟨g, cp, e1, ownsRow_setCell_below e2 (by show W0.heap.size + 2 + 1 < w.heap.size + 14; omega) z⟩
  case hOx =>
    rintro o ho c X z ⟨hc, v, us, h1, h2, h3, h4, h5, h6, h7⟩
    cases ho
    have hb6 : Below (w.heap.size + 6) X (X.setCell ⟨W0.heap.size + 2 + 1, 0, none⟩ z) := (Below.refl _ X).setCell (p := ⟨W0.heap.size + 2 + 1, 0, none⟩) (by show w.heap.size + 6 ≤ W0.heap.size + 2 + 1; omega) z
    refine ⟨hc, v, us, h1, h2, h3, h4.below hb6 (by omega), ownsRow_setCell_below h5 (by show W0.heap.size + 2 + 1 < w.heap.size + 14; omega) z, fun j hj => ?_, h7.trans (hb6.mono (by omega))⟩
    obtain ⟨g, cp, e1, e2⟩ := h6 j hj
    exact ⟨g, cp, e1, ownsRow_setCell_below e2 (by show W0.heap.size + 2 + 1 < w.heap.size + 14; omega) z⟩
  case hA => rintro pre X ⟨v, us, h1, h2, h3, h4, h5, h6, h7, h8⟩; exact h7
  case h0 => exact ⟨_, [], rfl, b1, World.ownsRow_nil _ _ _ _, fun j hj => absurd hj (by simp), by simp; omega, b0, ⟨b4.cell 0 rfl, b5.cell 0 rfl, hrow0, by omega⟩, hw0⟩
  case hdone =>
    rintro D X hD ⟨v, us, h1, h2, h3, h4, h5, h6, h7, h8⟩ hK
    have c1 : X.cell? ⟨w.heap.size + 1, 0, none⟩ = some v := h2.cell 0 rfl
    go_wp2_with fail
    rw [List.length_range] at h1
    refine postM_ret hK (results_tmp rfl _ _ _) ⟨v, us, rfl, owns_weaken (ownsRow_putObj h3 _ hK rfl) (by omega), fun j hj => ?_, ?_, below_putObj h8 (by omega) _ (Array.getElem?_eq_some_iff.1 hK).1⟩
    · obtain ⟨g, cp, e1, e2⟩ := h4 j hj
      exact ⟨g, cp, e1, owns_weaken (ownsRow_putObj e2 _ hK rfl) (by omega)⟩
    · unfold cntI
      rw [h1] at h5 ⊢
      split <;> omega
  case hstop =>
    rintro D c X hD ⟨rfl, v, us, h1, h2, h3, h4, h5, h6, h7⟩ hK
    have c1 : X.cell? ⟨w.heap.size + 1, 0, none⟩ = some v := h4.cell 0 rfl
    go_wp2_with fail
    refine postM_ret hK (results_tmp rfl _ _ _) ⟨v, us, rfl, owns_weaken (ownsRow_putObj h5 _ hK rfl) (by omega), fun j hj => ?_, ?_, below_putObj h7 (by omega) _ (Array.getElem?_eq_some_iff.1 hK).1⟩
    · obtain ⟨g, cp, e1, e2⟩ := h6 j hj
      exact ⟨g, cp, e1, owns_weaken (ownsRow_putObj e2 _ hK rfl) (by omega)⟩
    · unfold cntI
      rw [if_neg (by omega)]
      omega
  case hbody =>
    rintro m l' pre c suf Wp X vals u0 v0 hv hxs hl hrec ⟨v, us, h1, h2', h3', h4', h5, h6', h7', h8'⟩ hkX hz0 hE
    have hz1 := hkX.size
    have h2 := h2'.keeps hkX
    have h3 := owns_keeps h3' hkX
    have h6 := h6'.keeps hkX
    have h7 := h7'.keeps hkX
    have h8 := h8'.keeps hkX (by omega)
    obtain ⟨g, cp, hvals, hox, hB6⟩ := hE
    rw [hv] at hvals
    simp only [Array.mk.injEq, List.cons.injEq, and_true] at hvals
    obtain ⟨rfl, rfl⟩ := hvals
    obtain ⟨rfl, hlt⟩ := range_split hxs
    have hzX : w.heap.size + 14 ≤ X.heap.size := by omega
    have hzW : w.heap.size + 14 ≤ Wp.heap.size := by omega
    generalize hps : pre.length * s = at0 at *
    generalize hpl : pre.length = c at *
    gi_wp2_with fail
    obtain ⟨Fin1, hFin1⟩ : ∃ Fin1 : World → Prop, Fin1 = fun X5 => Sm W0.heap.size (W0.heap.size + 2 + 6) X X5 ∧ (∃ (v : Value) (us : List Value), us.length = (pre ++ [c]).length ∧ Blk X5 (w.heap.size + 1) #[v] 44 ∧ X5.ownsRow (w.heap.size + 14) 47 2 v us.length (cellsOf s us) ∧ Copies (w.heap.size + 14) X5 l s us ∧ (many = 0 ∨ (us.length : Int) < many) ∧ Blk X5 w.heap.size #[.int .i64 many] 3 ∧ PartA b off n cap s l w.heap.size (w.heap.size + 1 + 1 + 1 + 1) (w.heap.size + 1 + 1 + 1 + 1 + 1) X5 ∧ Below w.heap.size w X5) := ⟨_, rfl⟩
    obtain ⟨Fin2, hFin2⟩ : ∃ Fin2 : World → Prop, Fin2 = fun X5 => Sm W0.heap.size (W0.heap.size + 2 + 6) X X5 ∧ (∃ (v : Value) (us : List Value), 1 ≤ us.length ∧ us.length ≤ nch n s ∧ (us.length : Int) = many ∧ Blk X5 (w.heap.size + 1) #[v] 44 ∧ X5.ownsRow (w.heap.size + 14) 47 2 v us.length (cellsOf s us) ∧ Copies (w.heap.size + 14) X5 l s us ∧ Below w.heap.size w X5) := ⟨_, rfl⟩
    have HEND : ∀ (g1 cp1 g2 cp2 : Nat) (w3 : World), Below (w.heap.size + 14) X w3 → w3.ownsRow Wp.heap.size 5 1 (.slice (some ⟨g, 0, none⟩) (partI l s c).length cp) (partI l s c).length (intVals .u8 (partI l s c)) →
        w3.ownsRow X.heap.size 5 1 (.slice (some ⟨g1, 0, none⟩) (partI l s c).length cp1) (partI l s c).length (intVals .u8 (partI l s c)) → X.heap.size ≤ g1 →
        w3.ownsRow (w.heap.size + 14) 47 2 (.slice (some ⟨g2, 0, none⟩) (us.length + 1) cp2) (us.length + 1) (cellsOf s (us ++ [.slice (some ⟨g1, 0, none⟩) (partI l s c).length cp1])) →
        (∀ (j : Nat) (h : j < us.length), ∃ g' cp' : Nat, us[j] = .slice (some ⟨g', 0, none⟩) (partI l s j).length cp' ∧ g' < Wp.heap.size ∧ w3.ownsRow (w.heap.size + 14) 5 1 us[j] (partI l s j).length (intVals .u8 (partI l s j))) →
        ∃ z : Int, (w3.setCell ⟨w.heap.size + 1, 0, none⟩ (.slice (some ⟨g2, 0, none⟩) (c + 1) cp2)).cell? ⟨g, 0, none⟩ = some (.int .u8 z) ∧ (w3.setCell ⟨w.heap.size + 1, 0, none⟩ (.slice (some ⟨g2, 0, none⟩) (c + 1) cp2)).frozen? ⟨g, 0, none⟩ = false ∧
          (∀ z', ((w3.setCell ⟨w.heap.size + 1, 0, none⟩ (.slice (some ⟨g2, 0, none⟩) (c + 1) cp2)).setCell ⟨g, 0, none⟩ z').cell? ⟨w.heap.size + 1, 0, none⟩ = some (.slice (some ⟨g2, 0, none⟩) (c + 1) cp2)) ∧
          (∀ z', ((w3.setCell ⟨w.heap.size + 1, 0, none⟩ (.slice (some ⟨g2, 0, none⟩) (c + 1) cp2)).setCell ⟨g, 0, none⟩ z').cell? ⟨w.heap.size, 0, none⟩ = some (.int .i64 many)) ∧ (1 : Int) ≤ (partI l s c).length ∧
          (∀ z', ¬ (c : Int) + 1 = many → Fin1 ((w3.setCell ⟨w.heap.size + 1, 0, none⟩ (.slice (some ⟨g2, 0, none⟩) (c + 1) cp2)).setCell ⟨g, 0, none⟩ z')) ∧
          (∀ z', (c : Int) + 1 = many → Fin2 ((w3.setCell ⟨w.heap.size + 1, 0, none⟩ (.slice (some ⟨g2, 0, none⟩) (c + 1) cp2)).setCell ⟨g, 0, none⟩ z')) := by
      intro g1 cp1 g2 cp2 w3 hb3 hox3 ho13 hg1lo ho2 hus3
      have hz3 := hb3.size
      obtain ⟨hglo, _, _, _⟩ := owns_slice hox3
      obtain ⟨_, hghi, _, _⟩ := owns_slice hox
      have hpl3 : 0 < (partI l s c).length := by
        have := nch_lt hs hlt
        rw [partI_len]; omega
      obtain ⟨w4, hw4⟩ : ∃ w4, w3.setCell ⟨w.heap.size + 1, 0, none⟩ (.slice (some ⟨g2, 0, none⟩) (c + 1) cp2) = w4 := ⟨_, rfl⟩
      rw [hw4]
      have b1 : Blk w4 (w.heap.size + 1) #[.slice (some ⟨g2, 0, none⟩) (c + 1) cp2] 44 := by rw [← hw4]; exact (h2.below hb3 (by omega)).set 0 _
      have b0' : Blk w4 w.heap.size #[.int .i64 many] 3 := by rw [← hw4]; exact (h6.below hb3 (by omega)).setOther _ _ (by simp)
      have hox4 : w4.ownsRow Wp.heap.size 5 1 (.slice (some ⟨g, 0, none⟩) (partI l s c).length cp) (partI l s c).length (intVals .u8 (partI l s c)) := by rw [← hw4]; exact ownsRow_setCell_below hox3 (by show w.heap.size + 1 < Wp.heap.size; omega) _
      have ho14 : w4.ownsRow X.heap.size 5 1 (.slice (some ⟨g1, 0, none⟩) (partI l s c).length cp1) (partI l s c).length (intVals .u8 (partI l s c)) := by rw [← hw4]; exact ownsRow_setCell_below ho13 (by show w.heap.size + 1 < X.heap.size; omega) _
      have ho24 : w4.ownsRow (w.heap.size + 14) 47 2 (.slice (some ⟨g2, 0, none⟩) (us.length + 1) cp2) (us.length + 1) (cellsOf s (us ++ [.slice (some ⟨g1, 0, none⟩) (partI l s c).length cp1])) := by rw [← hw4]; exact ownsRow_setCell_below ho2 (by show w.heap.size + 1 < w.heap.size + 14; omega) _
      have hus4 : ∀ (j : Nat) (h : j < us.length), ∃ g' cp' : Nat, us[j] = .slice (some ⟨g', 0, none⟩) (partI l s j).length cp' ∧ g' < Wp.heap.size ∧ w4.ownsRow (w.heap.size + 14) 5 1 us[j] (partI l s j).length (intVals .u8 (partI l s j)) := fun j hj => by
        obtain ⟨g', cp', e1, e2, e3⟩ := hus3 j hj
        exact ⟨g', cp', e1, e2, by rw [← hw4]; exact ownsRow_setCell_below e3 (by show w.heap.size + 1 < w.heap.size + 14; omega) _⟩
      have hSm4 : Sm W0.heap.size (W0.heap.size + 2 + 6) X w4 := by rw [← hw4]; exact (Sm.of_below hb3 (by omega)).setCell ⟨w.heap.size + 1, 0, none⟩ (.inr (by show w.heap.size + 1 < W0.heap.size; omega)) _
      have hbw4 : Below w.heap.size w w4 := by rw [← hw4]; exact (h8.trans (hb3.mono (by omega))).setCell (p := ⟨w.heap.size + 1, 0, none⟩) (by simp) _
      have hPA4 : PartA b off n cap s l w.heap.size (w.heap.size + 1 + 1 + 1 + 1) (w.heap.size + 1 + 1 + 1 + 1 + 1) w4 := by rw [← hw4]; exact (h7.below hb3 (by omega) (by omega) (by omega)).set ⟨w.heap.size + 1, 0, none⟩ (by dsimp only; omega) (by dsimp only; omega) (by dsimp only; omega) _
      clear hw4
      obtain ⟨z, hcz, hfz⟩ := (Bytes.of_owns hox4).cell 0 hpl3
      have hg2g : g2 ≠ g := owns_ne ho24 hox4 (by decide)
      have common : ∀ z' : Value, Sm W0.heap.size (W0.heap.size + 2 + 6) X (w4.setCell ⟨g, 0, none⟩ z') ∧ Blk (w4.setCell ⟨g, 0, none⟩ z') (w.heap.size + 1) #[.slice (some ⟨g2, 0, none⟩) (c + 1) cp2] 44 ∧
          (w4.setCell ⟨g, 0, none⟩ z').ownsRow (w.heap.size + 14) 47 2 (.slice (some ⟨g2, 0, none⟩) (c + 1) cp2) (us ++ [Value.slice (some ⟨g1, 0, none⟩) (partI l s c).length cp1]).length (cellsOf s (us ++ [.slice (some ⟨g1, 0, none⟩) (partI l s c).length cp1])) ∧
          Copies (w.heap.size + 14) (w4.setCell ⟨g, 0, none⟩ z') l s (us ++ [.slice (some ⟨g1, 0, none⟩) (partI l s c).length cp1]) ∧ Blk (w4.setCell ⟨g, 0, none⟩ z') w.heap.size #[.int .i64 many] 3 ∧
          PartA b off n cap s l w.heap.size (w.heap.size + 1 + 1 + 1 + 1) (w.heap.size + 1 + 1 + 1 + 1 + 1) (w4.setCell ⟨g, 0, none⟩ z') ∧ Below w.heap.size w (w4.setCell ⟨g, 0, none⟩ z') := by
        intro z'
        refine ⟨hSm4.setCell ⟨g, 0, none⟩ (.inl (by show W0.heap.size + 2 + 6 ≤ g; omega)) _, b1.setOther _ _ (by dsimp only; omega), ?_, ?_, b0'.setOther _ _ (by dsimp only; omega), hPA4.set ⟨g, 0, none⟩ (by dsimp only; omega) (by dsimp only; omega) (by dsimp only; omega) _, hbw4.setCell (p := ⟨g, 0, none⟩) (by dsimp only; omega) _⟩
        · rw [List.length_append, List.length_singleton]
          rw [h1] at ho24 ⊢
          exact ownsRow_setCell_other ho24 (by simp only [Value.ownBlock]; intro e; cases e; exact hg2g rfl) _
        · intro j hj
          by_cases e : j < us.length
          · rw [List.getElem_append_left e]
            obtain ⟨g', cp', e1, e2, e3⟩ := hus4 j e
            refine ⟨g', cp', e1, ownsRow_setCell_other e3 ?_ _⟩
            rw [e1]
            simp only [Value.ownBlock]
            intro e'
            have : g' = g := by simpa using e'
            omega
          · have e' : j = c := by simp at hj; omega
            subst e'
            rw [List.getElem_append_right (by omega)]
            simp only [h1, Nat.sub_self, List.getElem_cons_zero]
            refine ⟨g1, cp1, rfl, owns_weaken (ownsRow_setCell_other ho14 ?_ _) (by omega)⟩
            simp only [Value.ownBlock]
            intro e'
            have : g1 = g := by simpa using e'
            omega
      refine ⟨z, hcz, hfz, fun z' => (common z').2.1.cell 0 rfl, fun z' => (common z').2.2.2.2.1.cell 0 rfl, by omega, fun z' hne => ?_, fun z' he => ?_⟩
      · obtain ⟨c1, c2, c3, c4, c5, c6, c7⟩ := common z'
        rw [hFin1]
        exact ⟨c1, _, _, by simp [h1, hpl], c2, c3, c4, by simp only [List.length_append, List.length_singleton, h1]; omega, c5, c6, c7⟩
      · obtain ⟨c1, c2, c3, c4, c5, c6, c7⟩ := common z'
        rw [hFin2]
        exact ⟨c1, _, _, by simp, by simp only [List.length_append, List.length_singleton, h1]; omega, by simp only [List.length_append, List.length_singleton, h1]; omega, c2, c3, c4, c7⟩
    refine wpIn_region_of_any (by kernel_rfl) (by kernel_rfl) (fun _ _ h => h) ?_
    have hHeld : X.drew.cell? ⟨w.heap.size + 1, 0, none⟩ = some v := h2.drew.cell 0 rfl
    change wpAny _ _ _ _ _ _ _ X.drew
    have hpl2 : (partI l s c).length ≤ 1000000 := by rw [partI_len]; omega
    have hpl3 : 0 < (partI l s c).length := by
      have := nch_lt hs hlt
      rw [partI_len]; omega
    have hnch : nch n s ≤ 1000000 := by
      unfold nch
      have : (n + s - 1) / s ≤ n := by
        rw [Nat.div_le_iff_le_mul_add_pred (by omega)]
        have : n ≤ s * n := Nat.le_mul_of_pos_left n (by omega)
        omega
      omega
    refine wpAny_take (i := 1) (v := .int .i64 at0) rfl (by kernel_rfl) (by kernel_rfl) (by kernel_rfl) (fun _ _ _ h => h) (Or.inl ⟨by rfl, ?_⟩) ?_
    · intro Y
      go_simp
    try simp only [Act.put, List.getElem_toArray, List.getElem_cons_zero, List.getElem_cons_succ, List.setIfInBounds_toArray, List.set_cons_zero, List.set_cons_succ]
    refine wpAny_take (i := 3) (v := .slice (some ⟨g, 0, none⟩) (partI l s c).length cp) rfl (by kernel_rfl) (by kernel_rfl) (by kernel_rfl) (fun _ _ _ h => h) (Or.inl ⟨by rfl, ?_⟩) ?_
    · intro Y
      go_simp
    try simp only [Act.put, List.getElem_toArray, List.getElem_cons_zero, List.getElem_cons_succ, List.setIfInBounds_toArray, List.set_cons_zero, List.set_cons_succ]
    refine wpAny_ready (rs := [0, 2]) (by kernel_rfl) (by simp) ?_
    refine AllReady.cons rfl (fun K hK => ?_) (AllReady.cons rfl (fun K hK => ?_) AllReady.nil)
    · go_simp
      refine hK _ _ ?_
      clear hK K
      try simp only [Act.put, List.getElem_toArray, List.getElem_cons_zero, List.getElem_cons_succ, List.setIfInBounds_toArray, List.set_cons_zero, List.set_cons_succ]
      refine wpAny_ready (rs := [2]) (by kernel_rfl) (by simp) ?_
      refine AllReady.cons rfl (fun K hK => ?_) AllReady.nil
      go_simp
      refine hK _ _ ?_
      clear hK K
      try simp only [Act.put, List.getElem_toArray, List.getElem_cons_zero, List.getElem_cons_succ, List.setIfInBounds_toArray, List.set_cons_zero, List.set_cons_succ]
      obtain ⟨Y1, hY1⟩ : ∃ Y1, (X.alloc (Obj.cells #[] 5)).drew = Y1 := ⟨_, rfl⟩
      rw [hY1]
      have hbY : Below X.heap.size X Y1 := by rw [← hY1]; exact ((Below.refl _ X).alloc (Nat.le_refl _) _).drewN 1
      have hzY : Y1.heap.size = X.heap.size + 1 := by rw [← hY1]; simp
      have hoY : Y1.ownsRow X.heap.size 5 1 (.slice (some ⟨X.heap.size, 0, none⟩) 0 0) 0 [] := by rw [← hY1]; exact owns_keeps (World.ownsRow_made X #[] 0 (Nat.le_refl _) (by decide) rfl) ((Keeps.refl 0 _).drewN 1)
      have hHeld : Y1.cell? ⟨w.heap.size + 1, 0, none⟩ = some v := (h2.below hbY (by omega)).cell 0 rfl
      clear hY1
      refine wpAny_ready (rs := [4]) (by kernel_rfl) (by simp) ?_
      refine AllReady.cons rfl (fun K hK => ?_) AllReady.nil
      rw [if_pos (by rfl)]
      refine wp_append_rowO _ _ 23 rfl X.heap.size Try.underlying23 info8 0 [] rfl hoY X.heap.size (partI l s c).length (intVals .u8 (partI l s c)) rfl ((RowAt.of_owns hox (Nat.le_refl _)).below hbY (Nat.le_refl _)) (by rw [intVals_len]; omega) (intVals_one _ _) (by unfold maxLen; omega) (by omega) (by omega) ?_
      intro v1 w2 ho1 hg1
      rw [Nat.zero_add, List.nil_append] at ho1
      have hb2 : Below X.heap.size X w2 := hbY.grown hg1 (by omega) (fun k e => by cases e; exact Nat.le_refl _)
      have hz2 := hb2.size
      obtain ⟨g1, cp1, rfl⟩ : ∃ g1 cp1, v1 = .slice (some ⟨g1, 0, none⟩) (partI l s c).length cp1 := by
        rcases id ho1 with ⟨_, ⟨_, h0⟩ | ⟨g1, cp1, cur, h0, _⟩⟩
        · omega
        · exact ⟨g1, cp1, h0⟩
      obtain ⟨hg1lo, hg1hi, _, _⟩ := owns_slice ho1
      clear hg1 hoY
      have hHeld : w2.cell? ⟨w.heap.size + 1, 0, none⟩ = some v := (h2.below hb2 (by omega)).cell 0 rfl
      refine hK _ _ ?_
      clear hK K
      try simp only [Act.put, List.getElem_toArray, List.getElem_cons_zero, List.getElem_cons_succ, List.setIfInBounds_toArray, List.set_cons_zero, List.set_cons_succ]
      refine wpAny_take (i := 5) (v := .agg #[.int .i64 at0, .slice (some ⟨g1, 0, none⟩) (partI l s c).length cp1]) rfl (by kernel_rfl) (by kernel_rfl) (by kernel_rfl) (fun _ _ _ h => h) (Or.inl ⟨by rfl, ?_⟩) ?_
      · intro Y
        go_simp
      try simp only [Act.put, List.getElem_toArray, List.getElem_cons_zero, List.getElem_cons_succ, List.setIfInBounds_toArray, List.set_cons_zero, List.set_cons_succ]
      refine wpAny_ready (rs := [6]) (by kernel_rfl) (by simp) ?_
      refine AllReady.cons rfl (fun K hK => ?_) AllReady.nil
      go_simp
      refine hK _ _ ?_
      clear hK K
      obtain ⟨Y2, hY2⟩ : ∃ Y2, w2.alloc (Obj.cells #[.int .i64 at0, .slice (some ⟨g1, 0, none⟩) (partI l s c).length cp1] 47) = Y2 := ⟨_, rfl⟩
      rw [hY2]
      have hbY2 : Below w2.heap.size w2 Y2 := by rw [← hY2]; exact (Below.refl _ w2).alloc (Nat.le_refl _) _
      have hzY2 : Y2.heap.size = w2.heap.size + 1 := by rw [← hY2]; simp
      have hrY2 : RowAt (w2.heap.size + 1) Y2 (.slice (some ⟨w2.heap.size, 0, none⟩) 1 1) 1 [.int .i64 at0, .slice (some ⟨g1, 0, none⟩) (partI l s c).length cp1] := by rw [← hY2]; exact RowAt.lit w2 #[.int .i64 at0, .slice (some ⟨g1, 0, none⟩) (partI l s c).length cp1] 47 1 _ (by omega)
      clear hY2
      have hbX2 : Below X.heap.size X Y2 := hb2.trans (hbY2.mono hz2)
      have hHeld : Y2.cell? ⟨w.heap.size + 1, 0, none⟩ = some v := (h2.below hbX2 (by omega)).cell 0 rfl
      try simp only [Act.put, List.getElem_toArray, List.getElem_cons_zero, List.getElem_cons_succ, List.setIfInBounds_toArray, List.set_cons_zero, List.set_cons_succ]
      refine wpAny_ready (rs := [7]) (by kernel_rfl) (by simp) ?_
      refine AllReady.cons rfl (fun K hK => ?_) AllReady.nil
      rw [if_pos (by rfl)]
      have h3Y := owns_below h3 hbX2 (Nat.le_refl _)
      refine wp_append_rowO _ _ 44 rfl (w.heap.size + 14) Try.underlying44 infoP us.length (cellsOf s us) rfl h3Y (w2.heap.size + 1) 1 [.int .i64 at0, .slice (some ⟨g1, 0, none⟩) (partI l s c).length cp1] rfl hrY2 rfl (by intro u hu; simp at hu; rcases hu with rfl | rfl <;> rfl) (by unfold maxLen; omega) (by omega) (by omega) ?_
      intro v2 w3 ho2 hg2
      rw [show cellsOf s us ++ [Value.int .i64 at0, .slice (some ⟨g1, 0, none⟩) (partI l s c).length cp1] = cellsOf s (us ++ [.slice (some ⟨g1, 0, none⟩) (partI l s c).length cp1]) by rw [cellsOf_snoc, h1, hps]] at ho2
      obtain ⟨g2, cp2, rfl⟩ := ownsRow_succ ho2
      have hown3 := fun k (e : v.ownBlock = some k) => (owns_block h3Y k e).1
      have hb3 : Below (w.heap.size + 14) X w3 := (hbX2.mono (by omega)).grown hg2 (by omega) hown3
      have hz3 := hb3.size
      have far : ∀ {base m' : Nat} {u : Value} {ys : List Value}, Y2.ownsRow base 5 1 u m' ys → w3.ownsRow base 5 1 u m' ys := fun h => owns_far h h3Y (by decide) hg2
      have hox3 := far (owns_below hox hbX2 (Nat.le_refl _))
      have ho13 := far (owns_below ho1 hbY2 (Nat.le_refl _))
      have hus3 : ∀ (j : Nat) (h : j < us.length), ∃ g' cp' : Nat, us[j] = .slice (some ⟨g', 0, none⟩) (partI l s j).length cp' ∧ g' < Wp.heap.size ∧ w3.ownsRow (w.heap.size + 14) 5 1 us[j] (partI l s j).length (intVals .u8 (partI l s j)) := fun j hj => by
        obtain ⟨g', cp', e1, e2⟩ := h4' j hj
        refine ⟨g', cp', e1, ?_, far (owns_below (owns_keeps e2 hkX) hbX2 (Nat.le_refl _))⟩
        rw [e1] at e2
        exact (owns_slice e2).2.1
      have hb1 := h2.below hb3 (by omega)
      have hHeld : w3.cell? ⟨w.heap.size + 1, 0, none⟩ = some v := hb1.cell 0 rfl
      have hF3 := hb1.frozen 0
      have hEND := HEND g1 cp1 g2 cp2 w3 hb3 hox3 ho13 hg1lo ho2 hus3
      clear hg2 far hown3 h3Y hb1
      refine hK _ _ ?_
      clear hK K
      try simp only [Act.put, List.getElem_toArray, List.getElem_cons_zero, List.getElem_cons_succ, List.setIfInBounds_toArray, List.set_cons_zero, List.set_cons_succ]
      refine wpAny_ready (rs := [8]) (by kernel_rfl) (by simp) ?_
      refine AllReady.cons rfl (fun K hK => ?_) AllReady.nil
      go_simp
      refine hK _ _ ?_
      clear hK K
      refine wpAny_done (by kernel_rfl) ?_ _
      obtain ⟨z, hcz, hfz, hcl, hcm, hcl2, hN, hX⟩ := hEND
      clear hHeld hF3 hox3 ho13 hus3 ho2
      gi_wp2_with fail
      all_goals first
        | (have hc : (c : Int) + 1 = many := by first | assumption | (rename_i hcc; simpa using hcc)
           have h9 := hX (.int .u8 ((z + 1) % 256)) hc
           rw [hFin2] at h9
           exact ⟨h9.1, rfl, h9.2⟩)
        | (have hc : ¬ (c : Int) + 1 = many := by first | assumption | (rename_i hcc; simpa using hcc)
           have h9 := hN (.int .u8 ((z + 1) % 256)) hc
           rw [hFin1] at h9
           exact h9)
    · go_simp
      refine hK _ _ ?_
      clear hK K
      try simp only [Act.put, List.getElem_toArray, List.getElem_cons_zero, List.getElem_cons_succ, List.setIfInBounds_toArray, List.set_cons_zero, List.set_cons_succ]
      obtain ⟨Y1, hY1⟩ : ∃ Y1, (X.alloc (Obj.cells #[] 5)).drew = Y1 := ⟨_, rfl⟩
      rw [hY1]
      have hbY : Below X.heap.size X Y1 := by rw [← hY1]; exact ((Below.refl _ X).alloc (Nat.le_refl _) _).drewN 1
      have hzY : Y1.heap.size = X.heap.size + 1 := by rw [← hY1]; simp
      have hoY : Y1.ownsRow X.heap.size 5 1 (.slice (some ⟨X.heap.size, 0, none⟩) 0 0) 0 [] := by rw [← hY1]; exact owns_keeps (World.ownsRow_made X #[] 0 (Nat.le_refl _) (by decide) rfl) ((Keeps.refl 0 _).drewN 1)
      have hHeld : Y1.cell? ⟨w.heap.size + 1, 0, none⟩ = some v := (h2.below hbY (by omega)).cell 0 rfl
      clear hY1
      refine wpAny_ready (rs := [0, 4]) (by kernel_rfl) (by simp) ?_
      refine AllReady.cons rfl (fun K hK => ?_) (AllReady.cons rfl (fun K hK => ?_) AllReady.nil)
      · go_simp
        refine hK _ _ ?_
        clear hK K
        try simp only [Act.put, List.getElem_toArray, List.getElem_cons_zero, List.getElem_cons_succ, List.setIfInBounds_toArray, List.set_cons_zero, List.set_cons_succ]
        refine wpAny_ready (rs := [4]) (by kernel_rfl) (by simp) ?_
        refine AllReady.cons rfl (fun K hK => ?_) AllReady.nil
        rw [if_pos (by rfl)]
        refine wp_append_rowO _ _ 23 rfl X.heap.size Try.underlying23 info8 0 [] rfl hoY X.heap.size (partI l s c).length (intVals .u8 (partI l s c)) rfl ((RowAt.of_owns hox (Nat.le_refl _)).below hbY (Nat.le_refl _)) (by rw [intVals_len]; omega) (intVals_one _ _) (by unfold maxLen; omega) (by omega) (by omega) ?_
        intro v1 w2 ho1 hg1
        rw [Nat.zero_add, List.nil_append] at ho1
        have hb2 : Below X.heap.size X w2 := hbY.grown hg1 (by omega) (fun k e => by cases e; exact Nat.le_refl _)
        have hz2 := hb2.size
        obtain ⟨g1, cp1, rfl⟩ : ∃ g1 cp1, v1 = .slice (some ⟨g1, 0, none⟩) (partI l s c).length cp1 := by
          rcases id ho1 with ⟨_, ⟨_, h0⟩ | ⟨g1, cp1, cur, h0, _⟩⟩
          · omega
          · exact ⟨g1, cp1, h0⟩
        obtain ⟨hg1lo, hg1hi, _, _⟩ := owns_slice ho1
        clear hg1 hoY
        have hHeld : w2.cell? ⟨w.heap.size + 1, 0, none⟩ = some v := (h2.below hb2 (by omega)).cell 0 rfl
        refine hK _ _ ?_
        clear hK K
        try simp only [Act.put, List.getElem_toArray, List.getElem_cons_zero, List.getElem_cons_succ, List.setIfInBounds_toArray, List.set_cons_zero, List.set_cons_succ]
        refine wpAny_take (i := 5) (v := .agg #[.int .i64 at0, .slice (some ⟨g1, 0, none⟩) (partI l s c).length cp1]) rfl (by kernel_rfl) (by kernel_rfl) (by kernel_rfl) (fun _ _ _ h => h) (Or.inl ⟨by rfl, ?_⟩) ?_
        · intro Y
          go_simp
        try simp only [Act.put, List.getElem_toArray, List.getElem_cons_zero, List.getElem_cons_succ, List.setIfInBounds_toArray, List.set_cons_zero, List.set_cons_succ]
        refine wpAny_ready (rs := [6]) (by kernel_rfl) (by simp) ?_
        refine AllReady.cons rfl (fun K hK => ?_) AllReady.nil
        go_simp
        refine hK _ _ ?_
        clear hK K
        obtain ⟨Y2, hY2⟩ : ∃ Y2, w2.alloc (Obj.cells #[.int .i64 at0, .slice (some ⟨g1, 0, none⟩) (partI l s c).length cp1] 47) = Y2 := ⟨_, rfl⟩
        rw [hY2]
        have hbY2 : Below w2.heap.size w2 Y2 := by rw [← hY2]; exact (Below.refl _ w2).alloc (Nat.le_refl _) _
        have hzY2 : Y2.heap.size = w2.heap.size + 1 := by rw [← hY2]; simp
        have hrY2 : RowAt (w2.heap.size + 1) Y2 (.slice (some ⟨w2.heap.size, 0, none⟩) 1 1) 1 [.int .i64 at0, .slice (some ⟨g1, 0, none⟩) (partI l s c).length cp1] := by rw [← hY2]; exact RowAt.lit w2 #[.int .i64 at0, .slice (some ⟨g1, 0, none⟩) (partI l s c).length cp1] 47 1 _ (by omega)
        clear hY2
        have hbX2 : Below X.heap.size X Y2 := hb2.trans (hbY2.mono hz2)
        have hHeld : Y2.cell? ⟨w.heap.size + 1, 0, none⟩ = some v := (h2.below hbX2 (by omega)).cell 0 rfl
        try simp only [Act.put, List.getElem_toArray, List.getElem_cons_zero, List.getElem_cons_succ, List.setIfInBounds_toArray, List.set_cons_zero, List.set_cons_succ]
        refine wpAny_ready (rs := [7]) (by kernel_rfl) (by simp) ?_
        refine AllReady.cons rfl (fun K hK => ?_) AllReady.nil
        rw [if_pos (by rfl)]
        have h3Y := owns_below h3 hbX2 (Nat.le_refl _)
        refine wp_append_rowO _ _ 44 rfl (w.heap.size + 14) Try.underlying44 infoP us.length (cellsOf s us) rfl h3Y (w2.heap.size + 1) 1 [.int .i64 at0, .slice (some ⟨g1, 0, none⟩) (partI l s c).length cp1] rfl hrY2 rfl (by intro u hu; simp at hu; rcases hu with rfl | rfl <;> rfl) (by unfold maxLen; omega) (by omega) (by omega) ?_
        intro v2 w3 ho2 hg2
        rw [show cellsOf s us ++ [Value.int .i64 at0, .slice (some ⟨g1, 0, none⟩) (partI l s c).length cp1] = cellsOf s (us ++ [.slice (some ⟨g1, 0, none⟩) (partI l s c).length cp1]) by rw [cellsOf_snoc, h1, hps]] at ho2
        obtain ⟨g2, cp2, rfl⟩ := ownsRow_succ ho2
        have hown3 := fun k (e : v.ownBlock = some k) => (owns_block h3Y k e).1
        have hb3 : Below (w.heap.size + 14) X w3 := (hbX2.mono (by omega)).grown hg2 (by omega) hown3
        have hz3 := hb3.size
        have far : ∀ {base m' : Nat} {u : Value} {ys : List Value}, Y2.ownsRow base 5 1 u m' ys → w3.ownsRow base 5 1 u m' ys := fun h => owns_far h h3Y (by decide) hg2
        have hox3 := far (owns_below hox hbX2 (Nat.le_refl _))
        have ho13 := far (owns_below ho1 hbY2 (Nat.le_refl _))
        have hus3 : ∀ (j : Nat) (h : j < us.length), ∃ g' cp' : Nat, us[j] = .slice (some ⟨g', 0, none⟩) (partI l s j).length cp' ∧ g' < Wp.heap.size ∧ w3.ownsRow (w.heap.size + 14) 5 1 us[j] (partI l s j).length (intVals .u8 (partI l s j)) := fun j hj => by
          obtain ⟨g', cp', e1, e2⟩ := h4' j hj
          refine ⟨g', cp', e1, ?_, far (owns_below (owns_keeps e2 hkX) hbX2 (Nat.le_refl _))⟩
          rw [e1] at e2
          exact (owns_slice e2).2.1
        have hb1 := h2.below hb3 (by omega)
        have hHeld : w3.cell? ⟨w.heap.size + 1, 0, none⟩ = some v := hb1.cell 0 rfl
        have hF3 := hb1.frozen 0
        have hEND := HEND g1 cp1 g2 cp2 w3 hb3 hox3 ho13 hg1lo ho2 hus3
        clear hg2 far hown3 h3Y hb1
        refine hK _ _ ?_
        clear hK K
        try simp only [Act.put, List.getElem_toArray, List.getElem_cons_zero, List.getElem_cons_succ, List.setIfInBounds_toArray, List.set_cons_zero, List.set_cons_succ]
        refine wpAny_ready (rs := [8]) (by kernel_rfl) (by simp) ?_
        refine AllReady.cons rfl (fun K hK => ?_) AllReady.nil
        go_simp
        refine hK _ _ ?_
        clear hK K
        refine wpAny_done (by kernel_rfl) ?_ _
        obtain ⟨z, hcz, hfz, hcl, hcm, hcl2, hN, hX⟩ := hEND
        clear hHeld hF3 hox3 ho13 hus3 ho2
        gi_wp2_with fail
        all_goals first
          | (have hc : (c : Int) + 1 = many := by first | assumption | (rename_i hcc; simpa using hcc)
             have h9 := hX (.int .u8 ((z + 1) % 256)) hc
             rw [hFin2] at h9
             exact ⟨h9.1, rfl, h9.2⟩)
          | (have hc : ¬ (c : Int) + 1 = many := by first | assumption | (rename_i hcc; simpa using hcc)
             have h9 := hN (.int .u8 ((z + 1) % 256)) hc
             rw [hFin1] at h9
             exact h9)
      · rw [if_pos (by rfl)]
        refine wp_append_rowO _ _ 23 rfl X.heap.size Try.underlying23 info8 0 [] rfl hoY X.heap.size (partI l s c).length (intVals .u8 (partI l s c)) rfl ((RowAt.of_owns hox (Nat.le_refl _)).below hbY (Nat.le_refl _)) (by rw [intVals_len]; omega) (intVals_one _ _) (by unfold maxLen; omega) (by omega) (by omega) ?_
        intro v1 w2 ho1 hg1
        rw [Nat.zero_add, List.nil_append] at ho1
        have hb2 : Below X.heap.size X w2 := hbY.grown hg1 (by omega) (fun k e => by cases e; exact Nat.le_refl _)
        have hz2 := hb2.size
        obtain ⟨g1, cp1, rfl⟩ : ∃ g1 cp1, v1 = .slice (some ⟨g1, 0, none⟩) (partI l s c).length cp1 := by
          rcases id ho1 with ⟨_, ⟨_, h0⟩ | ⟨g1, cp1, cur, h0, _⟩⟩
          · omega
          · exact ⟨g1, cp1, h0⟩
        obtain ⟨hg1lo, hg1hi, _, _⟩ := owns_slice ho1
        clear hg1 hoY
        have hHeld : w2.cell? ⟨w.heap.size + 1, 0, none⟩ = some v := (h2.below hb2 (by omega)).cell 0 rfl
        refine hK _ _ ?_
        clear hK K
        try simp only [Act.put, List.getElem_toArray, List.getElem_cons_zero, List.getElem_cons_succ, List.setIfInBounds_toArray, List.set_cons_zero, List.set_cons_succ]
        refine wpAny_take (i := 5) (v := .agg #[.int .i64 at0, .slice (some ⟨g1, 0, none⟩) (partI l s c).length cp1]) rfl (by kernel_rfl) (by kernel_rfl) (by kernel_rfl) (fun _ _ _ h => h) (Or.inl ⟨by rfl, ?_⟩) ?_
        · intro Y
          go_simp
        try simp only [Act.put, List.getElem_toArray, List.getElem_cons_zero, List.getElem_cons_succ, List.setIfInBounds_toArray, List.set_cons_zero, List.set_cons_succ]
        refine wpAny_ready (rs := [0, 6]) (by kernel_rfl) (by simp) ?_
        refine AllReady.cons rfl (fun K hK => ?_) (AllReady.cons rfl (fun K hK => ?_) AllReady.nil)
        · go_simp
          refine hK _ _ ?_
          clear hK K
          try simp only [Act.put, List.getElem_toArray, List.getElem_cons_zero, List.getElem_cons_succ, List.setIfInBounds_toArray, List.set_cons_zero, List.set_cons_succ]
          refine wpAny_ready (rs := [6]) (by kernel_rfl) (by simp) ?_
          refine AllReady.cons rfl (fun K hK => ?_) AllReady.nil
          go_simp
          refine hK _ _ ?_
          clear hK K
          obtain ⟨Y2, hY2⟩ : ∃ Y2, w2.alloc (Obj.cells #[.int .i64 at0, .slice (some ⟨g1, 0, none⟩) (partI l s c).length cp1] 47) = Y2 := ⟨_, rfl⟩
          rw [hY2]
          have hbY2 : Below w2.heap.size w2 Y2 := by rw [← hY2]; exact (Below.refl _ w2).alloc (Nat.le_refl _) _
          have hzY2 : Y2.heap.size = w2.heap.size + 1 := by rw [← hY2]; simp
          have hrY2 : RowAt (w2.heap.size + 1) Y2 (.slice (some ⟨w2.heap.size, 0, none⟩) 1 1) 1 [.int .i64 at0, .slice (some ⟨g1, 0, none⟩) (partI l s c).length cp1] := by rw [← hY2]; exact RowAt.lit w2 #[.int .i64 at0, .slice (some ⟨g1, 0, none⟩) (partI l s c).length cp1] 47 1 _ (by omega)
          clear hY2
          have hbX2 : Below X.heap.size X Y2 := hb2.trans (hbY2.mono hz2)
          have hHeld : Y2.cell? ⟨w.heap.size + 1, 0, none⟩ = some v := (h2.below hbX2 (by omega)).cell 0 rfl
          try simp only [Act.put, List.getElem_toArray, List.getElem_cons_zero, List.getElem_cons_succ, List.setIfInBounds_toArray, List.set_cons_zero, List.set_cons_succ]
          refine wpAny_ready (rs := [7]) (by kernel_rfl) (by simp) ?_
          refine AllReady.cons rfl (fun K hK => ?_) AllReady.nil
          rw [if_pos (by rfl)]
          have h3Y := owns_below h3 hbX2 (Nat.le_refl _)
          refine wp_append_rowO _ _ 44 rfl (w.heap.size + 14) Try.underlying44 infoP us.length (cellsOf s us) rfl h3Y (w2.heap.size + 1) 1 [.int .i64 at0, .slice (some ⟨g1, 0, none⟩) (partI l s c).length cp1] rfl hrY2 rfl (by intro u hu; simp at hu; rcases hu with rfl | rfl <;> rfl) (by unfold maxLen; omega) (by omega) (by omega) ?_
          intro v2 w3 ho2 hg2
          rw [show cellsOf s us ++ [Value.int .i64 at0, .slice (some ⟨g1, 0, none⟩) (partI l s c).length cp1] = cellsOf s (us ++ [.slice (some ⟨g1, 0, none⟩) (partI l s c).length cp1]) by rw [cellsOf_snoc, h1, hps]] at ho2
          obtain ⟨g2, cp2, rfl⟩ := ownsRow_succ ho2
          have hown3 := fun k (e : v.ownBlock = some k) => (owns_block h3Y k e).1
          have hb3 : Below (w.heap.size + 14) X w3 := (hbX2.mono (by omega)).grown hg2 (by omega) hown3
          have hz3 := hb3.size
          have far : ∀ {base m' : Nat} {u : Value} {ys : List Value}, Y2.ownsRow base 5 1 u m' ys → w3.ownsRow base 5 1 u m' ys := fun h => owns_far h h3Y (by decide) hg2
          have hox3 := far (owns_below hox hbX2 (Nat.le_refl _))
          have ho13 := far (owns_below ho1 hbY2 (Nat.le_refl _))
          have hus3 : ∀ (j : Nat) (h : j < us.length), ∃ g' cp' : Nat, us[j] = .slice (some ⟨g', 0, none⟩) (partI l s j).length cp' ∧ g' < Wp.heap.size ∧ w3.ownsRow (w.heap.size + 14) 5 1 us[j] (partI l s j).length (intVals .u8 (partI l s j)) := fun j hj => by
            obtain ⟨g', cp', e1, e2⟩ := h4' j hj
            refine ⟨g', cp', e1, ?_, far (owns_below (owns_keeps e2 hkX) hbX2 (Nat.le_refl _))⟩
            rw [e1] at e2
            exact (owns_slice e2).2.1
          have hb1 := h2.below hb3 (by omega)
          have hHeld : w3.cell? ⟨w.heap.size + 1, 0, none⟩ = some v := hb1.cell 0 rfl
          have hF3 := hb1.frozen 0
          have hEND := HEND g1 cp1 g2 cp2 w3 hb3 hox3 ho13 hg1lo ho2 hus3
          clear hg2 far hown3 h3Y hb1
          refine hK _ _ ?_
          clear hK K
          try simp only [Act.put, List.getElem_toArray, List.getElem_cons_zero, List.getElem_cons_succ, List.setIfInBounds_toArray, List.set_cons_zero, List.set_cons_succ]
          refine wpAny_ready (rs := [8]) (by kernel_rfl) (by simp) ?_
          refine AllReady.cons rfl (fun K hK => ?_) AllReady.nil
          go_simp
          refine hK _ _ ?_
          clear hK K
          refine wpAny_done (by kernel_rfl) ?_ _
          obtain ⟨z, hcz, hfz, hcl, hcm, hcl2, hN, hX⟩ := hEND
          clear hHeld hF3 hox3 ho13 hus3 ho2
          gi_wp2_with fail
          all_goals first
            | (have hc : (c : Int) + 1 = many := by first | assumption | (rename_i hcc; simpa using hcc)
               have h9 := hX (.int .u8 ((z + 1) % 256)) hc
               rw [hFin2] at h9
               exact ⟨h9.1, rfl, h9.2⟩)
            | (have hc : ¬ (c : Int) + 1 = many := by first | assumption | (rename_i hcc; simpa using hcc)
               have h9 := hN (.int .u8 ((z + 1) % 256)) hc
               rw [hFin1] at h9
               exact h9)
        · go_simp
          refine hK _ _ ?_
          clear hK K
          obtain ⟨Y2, hY2⟩ : ∃ Y2, w2.alloc (Obj.cells #[.int .i64 at0, .slice (some ⟨g1, 0, none⟩) (partI l s c).length cp1] 47) = Y2 := ⟨_, rfl⟩
          rw [hY2]
          have hbY2 : Below w2.heap.size w2 Y2 := by rw [← hY2]; exact (Below.refl _ w2).alloc (Nat.le_refl _) _
          have hzY2 : Y2.heap.size = w2.heap.size + 1 := by rw [← hY2]; simp
          have hrY2 : RowAt (w2.heap.size + 1) Y2 (.slice (some ⟨w2.heap.size, 0, none⟩) 1 1) 1 [.int .i64 at0, .slice (some ⟨g1, 0, none⟩) (partI l s c).length cp1] := by rw [← hY2]; exact RowAt.lit w2 #[.int .i64 at0, .slice (some ⟨g1, 0, none⟩) (partI l s c).length cp1] 47 1 _ (by omega)
          clear hY2
          have hbX2 : Below X.heap.size X Y2 := hb2.trans (hbY2.mono hz2)
          have hHeld : Y2.cell? ⟨w.heap.size + 1, 0, none⟩ = some v := (h2.below hbX2 (by omega)).cell 0 rfl
          try simp only [Act.put, List.getElem_toArray, List.getElem_cons_zero, List.getElem_cons_succ, List.setIfInBounds_toArray, List.set_cons_zero, List.set_cons_succ]
          refine wpAny_ready (rs := [0]) (by kernel_rfl) (by simp) ?_
          refine AllReady.cons rfl (fun K hK => ?_) AllReady.nil
          go_simp
          refine hK _ _ ?_
          clear hK K
          try simp only [Act.put, List.getElem_toArray, List.getElem_cons_zero, List.getElem_cons_succ, List.setIfInBounds_toArray, List.set_cons_zero, List.set_cons_succ]
          refine wpAny_ready (rs := [7]) (by kernel_rfl) (by simp) ?_
          refine AllReady.cons rfl (fun K hK => ?_) AllReady.nil
          rw [if_pos (by rfl)]
          have h3Y := owns_below h3 hbX2 (Nat.le_refl _)
          refine wp_append_rowO _ _ 44 rfl (w.heap.size + 14) Try.underlying44 infoP us.length (cellsOf s us) rfl h3Y (w2.heap.size + 1) 1 [.int .i64 at0, .slice (some ⟨g1, 0, none⟩) (partI l s c).length cp1] rfl hrY2 rfl (by intro u hu; simp at hu; rcases hu with rfl | rfl <;> rfl) (by unfold maxLen; omega) (by omega) (by omega) ?_
          intro v2 w3 ho2 hg2
          rw [show cellsOf s us ++ [Value.int .i64 at0, .slice (some ⟨g1, 0, none⟩) (partI l s c).length cp1] = cellsOf s (us ++ [.slice (some ⟨g1, 0, none⟩) (partI l s c).length cp1]) by rw [cellsOf_snoc, h1, hps]] at ho2
          obtain ⟨g2, cp2, rfl⟩ := ownsRow_succ ho2
          have hown3 := fun k (e : v.ownBlock = some k) => (owns_block h3Y k e).1
          have hb3 : Below (w.heap.size + 14) X w3 := (hbX2.mono (by omega)).grown hg2 (by omega) hown3
          have hz3 := hb3.size
          have far : ∀ {base m' : Nat} {u : Value} {ys : List Value}, Y2.ownsRow base 5 1 u m' ys → w3.ownsRow base 5 1 u m' ys := fun h => owns_far h h3Y (by decide) hg2
          have hox3 := far (owns_below hox hbX2 (Nat.le_refl _))
          have ho13 := far (owns_below ho1 hbY2 (Nat.le_refl _))
          have hus3 : ∀ (j : Nat) (h : j < us.length), ∃ g' cp' : Nat, us[j] = .slice (some ⟨g', 0, none⟩) (partI l s j).length cp' ∧ g' < Wp.heap.size ∧ w3.ownsRow (w.heap.size + 14) 5 1 us[j] (partI l s j).length (intVals .u8 (partI l s j)) := fun j hj => by
            obtain ⟨g', cp', e1, e2⟩ := h4' j hj
            refine ⟨g', cp', e1, ?_, far (owns_below (owns_keeps e2 hkX) hbX2 (Nat.le_refl _))⟩
            rw [e1] at e2
            exact (owns_slice e2).2.1
          have hb1 := h2.below hb3 (by omega)
          have hHeld : w3.cell? ⟨w.heap.size + 1, 0, none⟩ = some v := hb1.cell 0 rfl
          have hF3 := hb1.frozen 0
          have hEND := HEND g1 cp1 g2 cp2 w3 hb3 hox3 ho13 hg1lo ho2 hus3
          clear hg2 far hown3 h3Y hb1
          refine hK _ _ ?_
          clear hK K
          try simp only [Act.put, List.getElem_toArray, List.getElem_cons_zero, List.getElem_cons_succ, List.setIfInBounds_toArray, List.set_cons_zero, List.set_cons_succ]
          refine wpAny_ready (rs := [8]) (by kernel_rfl) (by simp) ?_
          refine AllReady.cons rfl (fun K hK => ?_) AllReady.nil
          go_simp
          refine hK _ _ ?_
          clear hK K
          refine wpAny_done (by kernel_rfl) ?_ _
          obtain ⟨z, hcz, hfz, hcl, hcm, hcl2, hN, hX⟩ := hEND
          clear hHeld hF3 hox3 ho13 hus3 ho2
          gi_wp2_with fail
          all_goals first
            | (have hc : (c : Int) + 1 = many := by first | assumption | (rename_i hcc; simpa using hcc)
               have h9 := hX (.int .u8 ((z + 1) % 256)) hc
               rw [hFin2] at h9
               exact ⟨h9.1, rfl, h9.2⟩)
            | (have hc : ¬ (c : Int) + 1 = many := by first | assumption | (rename_i hcc; simpa using hcc)
               have h9 := hN (.int .u8 ((z + 1) % 256)) hc
               rw [hFin1] at h9
               exact h9)
end Go.Proofs.Ytalaaembfgapfaa
