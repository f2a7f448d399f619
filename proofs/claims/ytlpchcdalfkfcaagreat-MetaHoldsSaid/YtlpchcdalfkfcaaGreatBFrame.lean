/-
 The frame of a law's statement: from a walk that ends in 'true' and turns nothing that lay before the call, to the row. No condition.
-/
import Derived.Test.YtlpchcdalfkfcaaGreatRows
import Derived.Test.YtlpchcdalfkfcaaGreatBCore
import Derived.ProofKit
import Derived.OpenShut
import Derived.JoinedCond
import Derived.Lib.SmallJoins
import Derived.MapKept
import Derived.Maps.RangeRun
import Derived.Carry
import Derived.Laws.Tables
namespace Go.Proofs.YtlpchcdalfkfcaaGreat
open Go.ChangeShapes Go.WideShapes Go.ChangeAt Go.RowKit

theorem trodAll_below {H : Type} {enc : TypeId × Value → H} {P : Program} (hl : laidOutB P = true) {W W' : World} (hb : Below W.heap.size W W') : ∀ {ts : List TypeId} {vs : List Value} {ds : List (DataW H)} {ps : List MemPlace},
  ts.all (fun t => P.readableRec t && decide (t < P.types.size)) = true → DataW.TrodAll enc P W 0 (fun _ => true) true ts vs ds ps → (∀ x ∈ ps, x.block < W.heap.size) →
  DataW.TrodAll enc P W' 0 (fun b => decide (b < W.heap.size)) true ts vs ds ps
 | [], [], [], _, _, h, _ => h
 | t :: ts, v :: vs, d :: ds, ps, ht, h, hlt => by
  obtain ⟨p, q, h1, h2, rfl⟩ := h
  simp only [List.all_cons, Bool.and_eq_true, decide_eq_true_eq] at ht
  exact ⟨p, q, Below.trod hl ht.1.1 ht.1.2 h1 hb (fun x hx => hlt x (List.mem_append_left _ hx)), trodAll_below hl hb (by simpa using ht.2) h2 (fun x hx => hlt x (List.mem_append_right _ hx)), rfl⟩
 | [], _ :: _, _, _, _, h, _ => h.elim
 | [], [], _ :: _, _, _, h, _ => h.elim
 | _ :: _, [], _, _, _, h, _ => h.elim
 | _ :: _, _ :: _, [], _, _, h, _ => h.elim

theorem law_post {H : Type} {enc : TypeId × Value → H} {P : Program} {f : Func} {s : ChangeSpec} {W W' : World} {args : Array Value} {ds : List (DataW H)} {before p : List MemPlace} {tb : TypeId}
  (hl : laidOutB P = true) (hps : f.params.toList.all (fun t => P.readableRec t && decide (t < P.types.size)) = true) (hres : f.resultTypes = #[tb]) (hb : P.underlying tb = some .bool)
  (hsr : (s.fn H ds).results = [.lit (.bool true)]) (hsa : (s.fn H ds).args = ds) (hsx : (s.fn H ds).vars = []) (hsv : s.vars = [])
  (hW : DataW.Whole enc P f.params.toList s.vars false W args.toList ds [] before) (hA : DataW.TrodAll enc P W 0 (fun _ => true) true f.params.toList args.toList ds p) (hp : ∀ x ∈ p, x.block < W.heap.size) (hbelow : Below W.heap.size W W') :
  s.post enc P f false true false false W args (.bool true) W' := by
 refine ⟨ds, [], before, [], p, [], hW, ?_, ?_, ?_, hbelow.frame _, fun h => by cases h⟩
 ·rw [List.append_nil, hsr, hres]
  exact trodAll_cons_mk (shut_bool hb _) trodAll_mk0
 ·rw [List.append_nil, hsa]
  exact trodAll_below hl hbelow hps hA hp
 ·rw [List.append_nil, hsx, hsv]; rfl

theorem u32_bd {n : Int} (h : (Lit.int .u32 n).wf = true) : 0 ≤ n ∧ n < 4294967296 := by
 have : 0 ≤ n ∧ n ≤ 4294967295 := by simpa [Lit.wf, IntKind.min, IntKind.max, IntKind.signed, IntKind.bits] using h
 omega
end Go.Proofs.YtlpchcdalfkfcaaGreat


/-
 Groundwork: a map with keys of the kind int, of the call's own, known whole: what look-up, store, delete, len and a range over it do. No condition.
-/
namespace Go.Proofs.YtlpchcdalfkfcaaGreat
open Go.RowKit Go.MapKept
variable {P : Program}

/-- What an entry says. -/
def entI (e : MapEntry) : Value × Value := (e.key, e.val)
def encI (p : Int × Value) : Value × Value := (.int .i64 p.1, p.2)
/-- Block b is a map that holds just m. -/
def MapI (W : World) (b : Nat) (m : List (Int × Value)) : Prop := ∃ es clock, W.heap[b]? = some (.map es clock) ∧ Stamped es clock ∧ es.toList.map entI = m.map encI
def getA (m : List (Int × Value)) (k : Int) : Option Value := (m.find? (fun p => p.1 == k)).map (·.2)
def hasA (m : List (Int × Value)) (k : Int) : Bool := m.any (fun p => p.1 == k)
def setA (m : List (Int × Value)) (k : Int) (v : Value) : List (Int × Value) := if hasA m k = true then m.map (fun p => if p.1 == k then (k, v) else p) else m ++ [(k, v)]
def delA (m : List (Int × Value)) (k : Int) : List (Int × Value) := m.filter (fun p => !(p.1 == k))
/-- Nothing turns but block b (and what is drawn). -/
structure Turn (b : Nat) (W W' : World) : Prop where
 os : W'.os = W.os
 tape : W'.tape = W.tape
 output : W'.output = W.output
 size : W'.heap.size = W.heap.size
 block : ∀ k, k ≠ b → W'.heap[k]? = W.heap[k]?
theorem Turn.below {b B : Nat} {W W' : World} (h : Turn b W W') (hB : B ≤ b) : Below B W W' := ⟨h.os, h.tape, h.output, Nat.le_of_eq h.size.symm, fun k hk => h.block k (by omega)⟩
theorem turn_set (b : Nat) (W : World) (o : Obj) : Turn b W { W with heap := W.heap.setIfInBounds b o } := ⟨rfl, rfl, rfl, by simp, fun k hk => by simp [Ne.symm hk]⟩
theorem MapI.lt {W : World} {b : Nat} {m : List (Int × Value)} (h : MapI W b m) : b < W.heap.size := by
 obtain ⟨es, clock, hb, _⟩ := h
 exact (Array.getElem?_eq_some_iff.1 hb).1
theorem MapI.of_block {W W' : World} {b : Nat} {m : List (Int × Value)} (h : MapI W b m) (hb : W'.heap[b]? = W.heap[b]?) : MapI W' b m := by
 obtain ⟨es, clock, h1, h2⟩ := h
 exact ⟨es, clock, hb.trans h1, h2⟩
theorem MapI.below {W W' : World} {b n : Nat} {m : List (Int × Value)} (h : MapI W b m) (hb : Below n W W') (hn : b < n) : MapI W' b m := h.of_block (hb.block b hn)
theorem MapI.alloc {W : World} {b : Nat} {m : List (Int × Value)} (h : MapI W b m) (o : Obj) : MapI (W.alloc o) b m := h.of_block (Below.heap_alloc W o b h.lt)
theorem MapI.turn {W W' : World} {b c : Nat} {m : List (Int × Value)} (h : MapI W b m) (ht : Turn c W W') (hne : b ≠ c) : MapI W' b m := h.of_block (ht.block b hne)
theorem MapI.setCell {W : World} {b : Nat} {m : List (Int × Value)} (h : MapI W b m) (a : Addr) (v : Value) (hne : b ≠ a.block) : MapI (W.setCell a v) b m := h.of_block (Below.heap_setCell W a v b hne)
theorem MapI.new (W : World) : MapI (W.alloc (.map #[] 0)) W.heap.size [] := ⟨#[], 0, World.alloc_heap_new W _, stamped_empty 0, rfl⟩

theorem mem_ent {es : List MapEntry} {m : List (Int × Value)} (h : es.map entI = m.map encI) {e : MapEntry} (he : e ∈ es) : ∃ p ∈ m, e.key = .int .i64 p.1 ∧ e.val = p.2 := by
 have : entI e ∈ m.map encI := by rw [← h]; exact List.mem_map_of_mem he
 obtain ⟨p, hp, hpe⟩ := List.mem_map.1 this
 exact ⟨p, hp, (congrArg Prod.fst hpe).symm, (congrArg Prod.snd hpe).symm⟩
theorem keys_ent {es : List MapEntry} {m : List (Int × Value)} (h : es.map entI = m.map encI) : es.map (·.key) = m.map (fun p => Value.int .i64 p.1) := by
 have := congrArg (List.map Prod.fst) h
 simpa [List.map_map, Function.comp_def, entI, encI] using this
theorem nodup_ent {es : Array MapEntry} {clock : Nat} {m : List (Int × Value)} (hs : Stamped es clock) (h : es.toList.map entI = m.map encI) : (m.map (·.1)).Nodup := by
 have h3 := hs.2.2
 rw [keys_ent h] at h3
 exact List.pairwise_map.2 ((List.pairwise_map.1 h3).imp fun h e => h (by rw [e]))
theorem MapI.nodup {W : World} {b : Nat} {m : List (Int × Value)} (h : MapI W b m) : (m.map (·.1)).Nodup := by
 obtain ⟨es, clock, _, hs, he⟩ := h
 exact nodup_ent hs he
/-- What is found, of lists that are one. -/
theorem find_ent {kt : TypeId} (hk : P.underlying kt = some (.int .i64)) {k : Int} : ∀ {es : List MapEntry} {m : List (Int × Value)}, es.map entI = m.map encI → ∀ i : Nat,
  (Instr.findNow (.int .i64) (.int .i64 k) es i = some none ∧ getA m k = none ∧ hasA m k = false) ∨
  ∃ j e, Instr.findNow (.int .i64) (.int .i64 k) es i = some (some (i + j, e.val)) ∧ es[j]? = some e ∧ e.key = .int .i64 k ∧ getA m k = some e.val ∧ hasA m k = true := by
 intro es
 induction es with
 | nil =>
  intro m h i
  have : m = [] := by simpa using h.symm
  subst this
  exact .inl ⟨rfl, rfl, rfl⟩
 | cons e es ih =>
  intro m h i
  match m, h with
  | p :: m, h =>
   simp only [List.map_cons, List.cons.injEq] at h
   obtain ⟨h1, h2⟩ := h
   have hkey : e.key = .int .i64 p.1 := congrArg Prod.fst h1
   have hval : e.val = p.2 := congrArg Prod.snd h1
   by_cases hp : p.1 = k
   ·refine .inr ⟨0, e, ?_, rfl, by rw [hkey, hp], ?_, ?_⟩
    ·simp [Instr.findNow, hkey, Instr.sameNow, hp]
    ·simp [getA, hp, hval]
    ·simp [hasA, hp]
   ·have hp' : (k == p.1) = false := by simpa using fun e => hp e.symm
    rcases ih h2 (i + 1) with ⟨a1, a2, a3⟩ | ⟨j, e', a1, a2, a3, a4, a5⟩
    ·refine .inl ⟨?_, ?_, ?_⟩
     ·simp [Instr.findNow, hkey, Instr.sameNow, hp', a1]
     ·simpa [getA, List.find?_cons, hp] using a2
     ·simpa [hasA, hp] using a3
    ·refine .inr ⟨j + 1, e', ?_, by simpa using a2, a3, ?_, ?_⟩
     ·simp [Instr.findNow, hkey, Instr.sameNow, hp', a1]; omega
     ·simpa [getA, List.find?_cons, hp] using a4
     ·simpa [hasA, hp] using a5
theorem MapI.lookup {W : World} {b : Nat} {m : List (Int × Value)} {t kt et : TypeId} (h : MapI W b m) (ht : P.underlying t = some (.map kt et)) (hk : P.underlying kt = some (.int .i64)) {z : Value} (hz : (zeroValue et).run P W = .ok z W) (k : Int) :
  (Instr.lookup t (.map (some b)) (.int .i64 k) false).run P W = .ok ((getA m k).getD z) W ∧ (Instr.lookup t (.map (some b)) (.int .i64 k) true).run P W = .ok (.tuple #[(getA m k).getD z, .bool (hasA m k)]) W := by
 obtain ⟨es, clock, hb, hs, he⟩ := h
 have hc : ∀ e, (Instr.checkKey e 10000 kt (.int .i64 k)).run P W = .ok () W := fun e => run_checkKey (k := .int .i64 k) hk (show IsKey (.int .i64) (.int .i64 k) from rfl) e 9999
 rcases find_ent (P := P) hk (k := k) he 0 with ⟨a1, a2, a3⟩ | ⟨j, e, a1, a2, a3, a4, a5⟩
 ·have hf := run_findKey (w := W) hk a1
  constructor <;> simp [Instr.lookup, run_underlying ht, MapKept.run_getObj_map hb, hc, hf, hz, a2, a3]
 ·have hf := run_findKey (w := W) hk a1
  constructor <;> simp [Instr.lookup, run_underlying ht, MapKept.run_getObj_map hb, hc, hf, a4, a5]
theorem at_ent {es : List MapEntry} {m : List (Int × Value)} (h : es.map entI = m.map encI) (i : Nat) : (es[i]?).map entI = (m[i]?).map encI := by
 have := congrArg (fun l => l[i]?) h
 simpa using this
theorem set_ent {es : List MapEntry} {m : List (Int × Value)} (h : es.map entI = m.map encI) (hn : (m.map (·.1)).Nodup) {j : Nat} {e : MapEntry} (hj : es[j]? = some e) {k : Int} (hk : e.key = .int .i64 k) (v : Value) :
  (es.modify j fun e => { e with key := .int .i64 k, val := v }).map entI = (m.map (fun p => if p.1 == k then (k, v) else p)).map encI := by
 have hmj : ∃ p, m[j]? = some p ∧ p.1 = k := by
  have := at_ent h j
  rw [hj] at this
  cases hm : m[j]? with
  | none => rw [hm] at this; simp at this
  | some p =>
   rw [hm] at this
   simp only [Option.map_some, Option.some.injEq] at this
   have h1 := congrArg Prod.fst this
   simp only [entI, encI, hk, Value.int.injEq, true_and] at h1
   exact ⟨p, rfl, h1.symm⟩
 obtain ⟨pj, hmj, hpj⟩ := hmj
 apply List.ext_getElem?
 intro i
 rw [List.getElem?_map, List.getElem?_modify, List.map_map, List.getElem?_map]
 have hi := at_ent h i
 cases he : es[i]? with
 | none =>
  rw [he] at hi
  cases hm : m[i]? with
  | none => simp
  | some p => rw [hm] at hi; simp at hi
 | some ei =>
  rw [he] at hi
  cases hm : m[i]? with
  | none => rw [hm] at hi; simp at hi
  | some p =>
   rw [hm] at hi
   simp only [Option.map_some, Option.some.injEq] at hi
   by_cases hij : j = i
   ·subst hij
    rw [hm] at hmj
    cases hmj
    simp [entI, encI, hpj]
   ·have hne : p.1 ≠ k := by
     intro e9
     have h1 : (m.map (·.1))[i]? = some k := by simp [hm, e9]
     have h2 : (m.map (·.1))[j]? = some k := by simp [hmj, hpj]
     have hil : i < (m.map (·.1)).length := (List.getElem?_eq_some_iff.1 h1).1
     exact hij ((List.getElem?_inj hil hn).1 (h1.trans h2.symm)).symm
    simp [hij, hne, hi]
theorem erase_eq (k : Int) : ∀ (m : List (Int × Value)) (j : Nat) (p : Int × Value), (m.map (·.1)).Nodup → m[j]? = some p → p.1 = k → delA m k = m.eraseIdx j := by
 intro m
 induction m with
 | nil => intro j p _ h; simp at h
 | cons q m ih =>
  intro j p hn hj hp
  simp only [List.map_cons, List.nodup_cons] at hn
  cases j with
  | zero =>
   simp only [List.getElem?_cons_zero, Option.some.injEq] at hj
   subst hj
   have hall : delA m k = m := by
    refine List.filter_eq_self.2 fun x hx => ?_
    have : x.1 ≠ k := fun e => hn.1 (by rw [hp, ← e]; exact List.mem_map_of_mem hx)
    simpa using this
   simp only [List.eraseIdx_zero, List.tail_cons]
   conv => rhs; rw [← hall]
   unfold delA
   rw [List.filter_cons, if_neg (by simp [hp])]
  | succ j =>
   simp only [List.getElem?_cons_succ] at hj
   have hq : q.1 ≠ k := fun e => hn.1 (by rw [e, ← hp]; exact List.mem_map_of_mem (List.mem_of_getElem? hj))
   have := ih j p hn.2 hj hp
   unfold delA at this ⊢
   rw [List.filter_cons, if_pos (by simpa using hq), this]
   rfl
theorem er_map {α β : Type} (f : α → β) : ∀ (l : List α) (i : Nat), (l.eraseIdx i).map f = (l.map f).eraseIdx i
 | [], i => by simp
 | a :: l, 0 => by simp
 | a :: l, i + 1 => by simp [er_map f l i]
theorem del_ent {es : List MapEntry} {m : List (Int × Value)} (h : es.map entI = m.map encI) (hn : (m.map (·.1)).Nodup) {j : Nat} {e : MapEntry} (hj : es[j]? = some e) {k : Int} (hk : e.key = .int .i64 k) :
  (es.eraseIdx j).map entI = (delA m k).map encI := by
 have hmj : ∃ p, m[j]? = some p ∧ p.1 = k := by
  have := at_ent h j
  rw [hj] at this
  cases hm : m[j]? with
  | none => rw [hm] at this; simp at this
  | some p =>
   rw [hm] at this
   simp only [Option.map_some, Option.some.injEq] at this
   have h1 := congrArg Prod.fst this
   simp only [entI, encI, hk, Value.int.injEq, true_and] at h1
   exact ⟨p, rfl, h1.symm⟩
 obtain ⟨pj, hmj, hpj⟩ := hmj
 rw [erase_eq k m j pj hn hmj hpj, er_map, er_map, h]
theorem MapI.store {W : World} {b : Nat} {m : List (Int × Value)} {t kt et : TypeId} (h : MapI W b m) (ht : P.underlying t = some (.map kt et)) (hk : P.underlying kt = some (.int .i64)) (k : Int) (v : Value) :
  ∃ W', (Instr.mapUpdate t (.map (some b)) (.int .i64 k) v).run P W = .ok () W' ∧ MapI W' b (setA m k v) ∧ Turn b W W' := by
 have hnd := h.nodup
 obtain ⟨es, clock, hb, hs, he⟩ := h
 have hc : ∀ e, (Instr.checkKey e 10000 kt (.int .i64 k)).run P W = .ok () W := fun e => run_checkKey (k := .int .i64 k) hk (show IsKey (.int .i64) (.int .i64 k) from rfl) e 9999
 rcases find_ent (P := P) hk (k := k) he 0 with ⟨a1, a2, a3⟩ | ⟨j, e, a1, a2, a3, a4, a5⟩
 ·have hf := run_findKey (w := W) hk a1
  refine ⟨_, by simp [Instr.mapUpdate, run_underlying ht, MapKept.run_getObj_map hb, hc, hf, MapKept.run_setObj_map _ hb], ⟨es.push { key := .int .i64 k, val := v, born := clock }, clock + 1, (heap_set hb).1, stamped_push hs ?_, ?_⟩, turn_set _ _ _⟩
  ·intro x hx
   obtain ⟨p, hp, hpk, _⟩ := mem_ent he hx
   rw [hpk]
   intro e9
   simp only [Value.int.injEq, true_and] at e9
   have : hasA m k = true := List.any_eq_true.2 ⟨p, hp, by simp [e9]⟩
   rw [a3] at this; cases this
  ·simp [setA, a3, he, entI, encI]
 ·have hf := run_findKey (w := W) hk a1
  have hel : es[j]? = some e := by rw [← Array.getElem?_toList]; exact a2
  have hst : (Instr.keyThatStays (.int .i64 k) (.int .i64 k)).run P W = .ok (.int .i64 k) W := run_keyThatStays (d := .int .i64) rfl
  have hok : ((es[j]?).map (·.key)).getD (.int .i64 k) = .int .i64 k := by simp [hel, a3]
  refine ⟨_, by simp [Instr.mapUpdate, run_underlying ht, MapKept.run_getObj_map hb, hc, hf, hel, a3, hst, MapKept.run_setObj_map _ hb], ⟨es.modify j fun e => { e with key := .int .i64 k, val := v }, clock, (heap_set hb).1, stamped_modify hs j _ (fun _ _ => rfl) ?_, ?_⟩, turn_set _ _ _⟩
  ·intro e' _ he'
   rw [hel] at he'; cases he'
   exact a3.symm
  ·rw [Array.toList_modify, set_ent he hnd a2 a3 v]
   simp [setA, a5]
theorem MapI.drop {W : World} {b : Nat} {m : List (Int × Value)} {t kt et : TypeId} (h : MapI W b m) (ht : P.underlying t = some (.map kt et)) (hk : P.underlying kt = some (.int .i64)) (k : Int) (kt' ty : TypeId) :
  ∃ W', (Builtin.delete_ #[t, kt'] ty #[.map (some b), .int .i64 k]).run P W = .ok (.tuple #[]) W' ∧ MapI W' b (delA m k) ∧ Turn b W W' := by
 have hnd := h.nodup
 obtain ⟨es, clock, hb, hs, he⟩ := h
 have hc : ∀ e, (Instr.checkKey e 10000 kt (.int .i64 k)).run P W = .ok () W := fun e => run_checkKey (k := .int .i64 k) hk (show IsKey (.int .i64) (.int .i64 k) from rfl) e 9999
 rcases find_ent (P := P) hk (k := k) he 0 with ⟨a1, a2, a3⟩ | ⟨j, e, a1, a2, a3, a4, a5⟩
 ·have hf := run_findKey (w := W) hk a1
  refine ⟨_, by simp [Builtin.delete_, run_underlying ht, MapKept.run_getObj_map hb, hc, hf, MapKept.run_setObj_map _ hb], ⟨es, clock, (heap_set hb).1, hs, ?_⟩, turn_set _ _ _⟩
  rw [he]
  congr 1
  refine (List.filter_eq_self.2 fun x hx => ?_).symm
  have : x.1 ≠ k := fun e9 => by
   have : hasA m k = true := List.any_eq_true.2 ⟨x, hx, by simp [e9]⟩
   rw [a3] at this; cases this
  simpa using this
 ·have hf := run_findKey (w := W) hk a1
  refine ⟨_, by simp [Builtin.delete_, run_underlying ht, MapKept.run_getObj_map hb, hc, hf, MapKept.run_setObj_map _ hb], ⟨es.eraseIdxIfInBounds j, clock, (heap_set hb).1, stamped_erase hs j, ?_⟩, turn_set _ _ _⟩
  have hlt : j < es.size := by have := (List.getElem?_eq_some_iff.1 a2).1; simpa using this
  rw [Array.eraseIdxIfInBounds, dif_pos hlt, Array.toList_eraseIdx]
  exact del_ent he hnd a2 a3

/-! ### A range over a map -/
/-- Block r goes over block b's map: left is what has not come. -/
def RangeI (W : World) (r b : Nat) (m left : List (Int × Value)) : Prop := ∃ es clock since seen c0, W.heap[r]? = some (.mapIter (some b) since seen c0) ∧ W.heap[b]? = some (.map es clock) ∧ Stamped es clock ∧
 es.toList.map entI = m.map encI ∧ (∀ x ∈ es.toList, x.born < since) ∧ since ≤ c0 ∧ since ≤ clock ∧ (leftOf es seen).toList.map entI = left.map encI ∧ seen.size + left.length = m.length
theorem RangeI.of_block {W W' : World} {r b : Nat} {m left : List (Int × Value)} (h : RangeI W r b m left) (hr : W'.heap[r]? = W.heap[r]?) (hb : W'.heap[b]? = W.heap[b]?) : RangeI W' r b m left := by
 obtain ⟨es, clock, since, seen, c0, h1, h2, h3⟩ := h
 exact ⟨es, clock, since, seen, c0, hr.trans h1, hb.trans h2, h3⟩
theorem RangeI.lt {W : World} {r b : Nat} {m left : List (Int × Value)} (h : RangeI W r b m left) : r < W.heap.size ∧ b < W.heap.size := by
 obtain ⟨es, clock, since, seen, c0, h1, h2, h3⟩ := h
 exact ⟨(Array.getElem?_eq_some_iff.1 h1).1, (Array.getElem?_eq_some_iff.1 h2).1⟩
theorem RangeI.below {W W' : World} {r b n : Nat} {m left : List (Int × Value)} (h : RangeI W r b m left) (hb : Below n W W') (h1 : r < n) (h2 : b < n) : RangeI W' r b m left := h.of_block (hb.block r h1) (hb.block b h2)
theorem MapI.range {W : World} {b : Nat} {m : List (Int × Value)} {t kt et : TypeId} (h : MapI W b m) (ht : P.underlying t = some (.map kt et)) :
  ∃ o, (Instr.range t (.map (some b))).run P W = .ok (.pointer (some ⟨W.heap.size, 0, none⟩)) (W.alloc o) ∧ RangeI (W.alloc o) W.heap.size b m m := by
 have hlt := h.lt
 obtain ⟨es, clock, hb, hs, he⟩ := h
 refine ⟨.mapIter (some b) clock #[] clock, by simp [Instr.range, run_underlying ht, MapKept.run_getObj_map hb], es, clock, clock, #[], clock, World.alloc_heap_new W _, (Below.heap_alloc W _ b hlt).trans hb, hs, he, hs.1, Nat.le_refl _, Nat.le_refl _, ?_, by simp⟩
 rw [← he]
 congr 1
 simp [leftOf]
theorem inj_of_nodup {α β : Type} {f : α → β} : ∀ {l : List α}, (l.map f).Nodup → ∀ {x y : α}, x ∈ l → y ∈ l → f x = f y → x = y := by
 intro l
 induction l with
 | nil => intro _ x y hx; simp at hx
 | cons a l ih =>
  intro hn x y hx hy he
  simp only [List.map_cons, List.nodup_cons] at hn
  rcases List.mem_cons.1 hx with rfl | hx'
  ·rcases List.mem_cons.1 hy with rfl | hy'
   ·rfl
   ·exact absurd (he ▸ List.mem_map_of_mem hy') hn.1
  ·rcases List.mem_cons.1 hy with rfl | hy'
   ·exact absurd (he ▸ List.mem_map_of_mem hx') hn.1
   ·exact ih hn.2 hx' hy' he
theorem filter_ent (g : MapEntry → Bool) (k : Int) : ∀ (L : List MapEntry) (left : List (Int × Value)), L.map entI = left.map encI → (∀ x ∈ L, ∀ q : Int × Value, entI x = encI q → g x = !(q.1 == k)) → (L.filter g).map entI = (delA left k).map encI := by
 intro L
 induction L with
 | nil =>
  intro left h _
  have : left = [] := by simpa using h.symm
  subst this; rfl
 | cons x L ih =>
  intro left h hg
  match left, h with
  | q :: left, h =>
   simp only [List.map_cons, List.cons.injEq] at h
   have h1 := ih left h.2 fun y hy => hg y (List.mem_cons_of_mem _ hy)
   have h2 := hg x List.mem_cons_self q h.1
   unfold delA at h1 ⊢
   rw [List.filter_cons, List.filter_cons, h2]
   by_cases e : q.1 = k
   ·simp [e, h1]
   ·simp [e, h1, h.1]
theorem len_delA : ∀ (l : List (Int × Value)) (p : Int × Value), (l.map (·.1)).Nodup → p ∈ l → (delA l p.1).length + 1 = l.length := by
 intro l
 induction l with
 | nil => intro p _ h; simp at h
 | cons q l ih =>
  intro p hn hp
  simp only [List.map_cons, List.nodup_cons] at hn
  unfold delA at ih ⊢
  rw [List.filter_cons]
  rcases List.mem_cons.1 hp with rfl | hp'
  ·rw [if_neg (by simp), List.filter_eq_self.2 fun z hz => by
    have : z.1 ≠ p.1 := fun e => hn.1 (by rw [← e]; exact List.mem_map_of_mem hz)
    simpa using this]
   rfl
  ·have hne : q.1 ≠ p.1 := fun e => hn.1 (by rw [e]; exact List.mem_map_of_mem hp')
   rw [if_pos (by simpa using hne), List.length_cons, ih p hn.2 hp', List.length_cons]
/-- How many are left, as the iterator's own record says. -/
def rangeN (n r : Nat) (W : World) : Nat := match W.heap[r]? with
 | some (.mapIter _ _ seen _) => n - seen.size
 | _ => 0
theorem RangeI.count {W : World} {r b : Nat} {m left : List (Int × Value)} (h : RangeI W r b m left) : rangeN m.length r W = left.length := by
 obtain ⟨es, clock, since, seen, c0, h1, h2, h3, h4, h5, h6, h7, h8, h9⟩ := h
 unfold rangeN
 rw [h1]
 dsimp only
 omega
theorem RangeI.next {W : World} {r b : Nat} {m left : List (Int × Value)} (h : RangeI W r b m left) (hne : r ≠ b) (ty : TypeId) :
  (left = [] ∧ (Instr.next (.pointer (some ⟨r, 0, none⟩)) false ty).run P W = .ok (.tuple #[.bool false]) W) ∨
  ∃ p ∈ left, ∃ W', (Instr.next (.pointer (some ⟨r, 0, none⟩)) false ty).run P W = .ok (.tuple #[.bool true, .int .i64 p.1, p.2]) W' ∧ RangeI W' r b m (delA left p.1) ∧ Turn r W W' ∧
   (Instr.entry (.pointer (some ⟨r, 0, none⟩))).run P W' = .ok (.tuple #[.int .i64 p.1, p.2]) W' := by
 obtain ⟨es, clock, since, seen, c0, h1, h2, h3, h4, h5, h6, h7, h8, h9⟩ := h
 rcases run_next_at (P := P) W ty r b since c0 seen es clock h1 h2 h5 h6 with ⟨hz, hrun⟩ | ⟨e, hel, w1, hw1, hrun⟩
 ·refine .inl ⟨?_, hrun⟩
  have : (leftOf es seen).toList = [] := by simpa using hz
  rw [this] at h8
  simpa using h8.symm
 ·obtain ⟨p, hp, hpk, hpv⟩ := mem_ent h8 hel
  have hmem : e ∈ es.toList := by
   have := hel
   simp only [leftOf, Array.toList_filter, List.mem_filter] at this
   exact this.1
  have b1 : w1.heap = W.heap := by rcases hw1 with rfl | rfl <;> rfl
  have hr1 : w1.heap[r]? = some (.mapIter (some b) since seen c0) := by rw [b1]; exact h1
  have g1 : (ChangeMaps.setBlock w1 r (.mapIter (some b) since (seen.push e.born) clock)).heap[r]? = some (.mapIter (some b) since (seen.push e.born) clock) := (heap_set hr1).1
  have g2 : (ChangeMaps.setBlock w1 r (.mapIter (some b) since (seen.push e.born) clock)).heap[b]? = some (.map es clock) := ((heap_set hr1).2 b (Ne.symm hne)).trans (by rw [b1]; exact h2)
  refine .inr ⟨p, hp, _, by rw [hrun, hpk, hpv], ⟨es, clock, since, seen.push e.born, clock, g1, g2, h3, h4, h5, h7, h7, ?_, ?_⟩, ?_, ?_⟩
  ·have hsub : (leftOf es (seen.push e.born)).toList = (leftOf es seen).toList.filter (fun x => !(x.born == e.born)) := by
    simp only [leftOf, Array.toList_filter, List.filter_filter]
    refine List.filter_congr fun x _ => ?_
    rw [Array.contains_push, Bool.not_or, Bool.and_comm]
   rw [hsub]
   refine filter_ent _ _ _ _ h8 fun x hx q hq => ?_
   have hxm : x ∈ es.toList := by
    have := hx
    simp only [leftOf, Array.toList_filter, List.mem_filter] at this
    exact this.1
   congr 1
   rw [Bool.eq_iff_iff, beq_iff_eq, beq_iff_eq]
   have hqk : x.key = .int .i64 q.1 := congrArg Prod.fst hq
   constructor
   ·intro hb9
    have := inj_of_nodup h3.2.1 hxm hmem hb9
    subst this
    rw [hqk] at hpk
    simpa using hpk
   ·intro hk9
    have hke : x.key = e.key := by rw [hqk, hpk, hk9]
    rw [inj_of_nodup h3.2.2 hxm hmem hke]
  ·have hnl : (left.map (·.1)).Nodup := by
    have h10 : ((leftOf es seen).toList.map (·.key)).Nodup := by
     have hsub : (leftOf es seen).toList.Sublist es.toList := by simp only [leftOf, Array.toList_filter]; exact List.filter_sublist
     exact (hsub.map _).nodup h3.2.2
    rw [keys_ent h8] at h10
    exact List.pairwise_map.2 ((List.pairwise_map.1 h10).imp fun h e => h (by rw [e]))
   have := len_delA left p hnl hp
   rw [Array.size_push]
   omega
  ·refine ⟨?_, ?_, ?_, ?_, ?_⟩
   ·rcases hw1 with rfl | rfl <;> rfl
   ·rcases hw1 with rfl | rfl <;> rfl
   ·rcases hw1 with rfl | rfl <;> rfl
   ·simp [ChangeMaps.setBlock, b1]
   ·intro k hk
    exact ((heap_set hr1).2 k hk).trans (by rw [b1])
  ·have := run_entry_at (P := P) _ r b since seen es clock e g1 g2 hmem h3.2.1
   rw [this, hpk, hpv]
/-! ### A struct of many cells, laid and filled at once -/
theorem alloc_setRow (w : World) (old cs : Array Value) (t : TypeId) : (w.alloc (.cells old t)).setRow w.heap.size cs = w.alloc (.cells cs t) := by
 unfold World.setRow World.alloc
 congr 1
 apply Array.ext
 ·simp
 ·intro k h1 h2
  simp only [Array.size_modify, Array.size_push] at h1
  rw [Array.getElem_modify]
  by_cases e : w.heap.size = k
  ·subst e; simp
  ·simp only [e, if_false]
   rw [Array.getElem_push_lt (by omega), Array.getElem_push_lt (by omega)]
theorem run_fill (w : World) (old : Array Value) (cs : List Value) (t : TypeId) (hs : cs.length = old.size) (h1 : ∀ v ∈ cs, v.oneCell' = true) :
  (storeCells ⟨w.heap.size, 0, none⟩ cs).run P (w.alloc (.cells old t)) = .ok () (w.alloc (.cells cs.toArray t)) := by
 have := run_storeCells_from (P := P) w.heap.size t cs 0 old (w.alloc (.cells old t)) (World.alloc_heap_new w _) (by omega) h1
 rw [this]
 simp [alloc_setRow]
end Go.Proofs.YtlpchcdalfkfcaaGreat

