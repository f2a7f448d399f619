/-
  Package frame: what a pool is in memory; its questions; how many frames an owner has; how many are unreserved. Conditions: a pool that is one; bounds of sums.
-/
import Derived.Test.YtleclclncgnelaaBFrO
import Derived.Deep.RegionHeld
import Derived.BigRegion
namespace Go.Proofs.Ytleclclncgnelaa
open Go.RowKit
attribute [local go_sem] Oper.semAt_some
set_option maxHeartbeats 1000000
set_option maxRecDepth 4000

/-- A frame that is somebody's: its number, its owner, its bytes. -/
abbrev Fr := Int × Int × List Int
def takenA (o : Int) (bs : List Int) : Array Value := (Value.int .i64 o :: intVals .u8 bs).toArray
def encF (F : List Fr) : List (Int × Value) := F.map fun x => (x.1, .agg (takenA x.2.1 x.2.2))
def encRF (R : List (Int × Int)) : List (Int × Value) := R.map fun x => (x.1, .int .i64 x.2)
structure PoolAt (W : World) (b bf br : Nat) (many : Int) (F : List Fr) (R : List (Int × Int)) : Prop where
  blk : Blk W b #[.map (some bf), .map (some br), .int .i64 many] 71
  fr : MapI W bf (encF F)
  re : MapI W br (encRF R)
  ne : bf ≠ br
section
variable {W W' : World} {b bf br : Nat} {many : Int} {F : List Fr} {R : List (Int × Int)}
theorem PoolAt.below {n : Nat} (h : PoolAt W b bf br many F R) (k : Below n W W') (h1 : b < n) (h2 : bf < n) (h3 : br < n) : PoolAt W' b bf br many F R := ⟨h.blk.below k h1, h.fr.below k h2, h.re.below k h3, h.ne⟩
theorem PoolAt.step (h : PoolAt W b bf br many F R) (k : Below W.heap.size W W') : PoolAt W' b bf br many F R := h.below k h.blk.lt h.fr.lt h.re.lt
theorem PoolAt.alloc (h : PoolAt W b bf br many F R) (o : Obj) : PoolAt (W.alloc o) b bf br many F R := h.step ((Below.refl _ W).alloc (Nat.le_refl _) o)
theorem PoolAt.cells (h : PoolAt W b bf br many F R) : W.cell? ⟨b, 0, none⟩ = some (.map (some bf)) ∧ W.cell? ⟨b, 1, none⟩ = some (.map (some br)) ∧ W.cell? ⟨b, 2, none⟩ = some (.int .i64 many) := ⟨h.blk.cell 0 rfl, h.blk.cell 1 rfl, h.blk.cell 2 rfl⟩
end
theorem is_calls (p : Option Addr) (w : World) : Calls Try.prog 32 #[.pointer p] w fun e w' => e = .returned (.agg #[.func (.func 61) #[.pointer p] #[], .int .i64 1]) ∧ Below w.heap.size w w' := by
  go_enter Try.func32, Try.ntmps32
  go_wp2_with fail
  exact bodyPost_ret (v := .agg #[.func (.func 61) #[.pointer p] #[], .int .i64 1]) (by simp [results, Try.results32, go_sem]) rfl ⟨rfl, (Below.refl _ w).alloc (Nat.le_refl _) _⟩
theorem owner_calls (n : Int) (w : World) : Calls Try.prog 33 #[.int .i64 n] w fun e w' => e = .returned (.agg #[.func (.func 62) #[] #[.pointer (some ⟨w.heap.size, 0, none⟩)], .int .i64 2]) ∧ Blk w' w.heap.size #[.int .i64 n] 3 ∧ Below w.heap.size w w' := by
  go_enter Try.func33, Try.ntmps33
  go_wp2_with fail
  exact bodyPost_ret (v := .agg #[.func (.func 62) #[] #[.pointer (some ⟨w.heap.size, 0, none⟩)], .int .i64 2]) (by simp [results, Try.results33, go_sem]) rfl ⟨rfl, (Blk.new w _ _).alloc _, ((Below.refl _ w).alloc (Nat.le_refl _) _).alloc (by simp) _⟩
def badOwner (n : Int) : Bool := decide (n < 0 ∨ 64 ≤ n)
theorem owner1_calls (n : Int) (p : Nat) (w : World) (hp : w.cell? ⟨p, 0, none⟩ = some (.int .i64 n)) : Calls Try.prog 62 #[.pointer (some ⟨p, 0, none⟩)] w fun e w' => e = .returned (.bool (badOwner n)) ∧ Below w.heap.size w w' := by
  by_cases h1 : n < 0
  · have hb : badOwner n = true := by simp [badOwner, h1]
    go_enter Try.func62, Try.ntmps62
    go_wp2_with fail
    go_ret
    exact ⟨by first | rfl | (rw [hb]; rfl), Below.refl _ _⟩
  · by_cases h2 : 64 ≤ n
    · have hb : badOwner n = true := by simp [badOwner, h2]
      go_enter Try.func62, Try.ntmps62
      go_wp2_with fail
      go_ret
      exact ⟨by first | rfl | (rw [hb]; rfl), Below.refl _ _⟩
    · have hb : badOwner n = false := by simp [badOwner]; omega
      go_enter Try.func62, Try.ntmps62
      go_wp2_with fail
      go_ret
      exact ⟨by first | rfl | (rw [hb]; rfl), Below.refl _ _⟩
theorem run_eql_map_nil {P : Program} {t k e : TypeId} (ht : P.underlying t = some (.map k e)) (b : Nat) (w : World) : (binOp .eql t (.map (some b)) (.map none)).run P w = .ok (.bool false) w := by
  have h1 : ∀ d : Nat, (Op.equalIn (d + 1) t (.map (some b)) (.map none)).run P w = .ok false w := fun d => by simp [Op.equalIn, run_underlying ht]
  simp only [binOp]
  simp [Op.equal, Op.maxDepth, h1 9999]
theorem none_live {w : World} {b bf br : Nat} {many : Int} {F : List Fr} {R : List (Int × Int)} (h : PoolAt w b bf br many F R) : Calls Try.prog 61 #[.pointer (some ⟨b, 0, none⟩)] w fun e w' => e = .returned (.bool false) ∧ Below w.heap.size w w' := by
  obtain ⟨c0, c1, c2⟩ := h.cells
  have he := run_eql_map_nil (P := Try.prog) Try.underlying66 bf w
  go_enter Try.func61, Try.ntmps61
  go_wp2_with fail
  go_ret
  exact ⟨rfl, Below.refl _ _⟩
theorem New_calls (many : Int) (h0 : 0 ≤ many) (h1 : many ≤ 16384) (w : World) : Calls Try.prog 14 #[.int .i64 many] w fun e w' => ∃ b bf br : Nat, e = .returned (.tuple #[.pointer (some ⟨b, 0, none⟩), .int .i64 0]) ∧ PoolAt w' b bf br many [] [] ∧ w.heap.size ≤ bf ∧ w.heap.size ≤ br ∧ w.heap.size ≤ b ∧ Below w.heap.size w w' := by
  have hmm := @run_makeMap Try.prog
  go_enter Try.func14, Try.ntmps14
  go_wp2_with fail
  go_ret2
  refine ⟨w.heap.size + 2, w.heap.size, w.heap.size + 1, rfl, ⟨Blk.newAt _ _ _ (by simp), ((MapI.new w).alloc _).alloc _, ?_, by omega⟩, Nat.le_refl _, by omega, by omega, (((Below.refl _ w).alloc (Nat.le_refl _) _).alloc (by simp) _).alloc (by simp; omega) _⟩
  have h : MapI (((w.alloc (.map #[] 0)).alloc (.map #[] 0)).alloc (.cells #[.map (some w.heap.size), .map (some (w.heap.size + 1)), .int .i64 many] 71)) (w.heap.size + 1) [] := by
    have := (MapI.new (w.alloc (.map #[] 0))).alloc (.cells #[.map (some w.heap.size), .map (some (w.heap.size + 1)), .int .i64 many] 71)
    simpa using this
  exact h
theorem New_no (many : Int) (h : many < 0 ∨ 16384 < many) (w : World) : Calls Try.prog 14 #[.int .i64 many] w fun e w' => e = .returned (.tuple #[.pointer none, .int .i64 2]) ∧ Below w.heap.size w w' := by
  by_cases h1 : many < 0
  · go_enter Try.func14, Try.ntmps14
    go_wp2_with fail
    go_ret2
    exact ⟨rfl, Below.refl _ _⟩
  · have h2 : 16384 < many := by omega
    clear h
    go_enter Try.func14, Try.ntmps14
    go_wp2_with fail
    go_ret2
    exact ⟨rfl, Below.refl _ _⟩
/-! ### How many -/
def hasF (F : List Fr) (who : Int) : Nat := (F.filter fun x => x.2.1 == who).length
theorem delA_encF (F : List Fr) (k : Int) : delA (encF F) k = encF (F.filter fun x => !(x.1 == k)) := by
  induction F with
  | nil => rfl
  | cons x F ih =>
    unfold delA encF at ih ⊢
    rw [List.map_cons, List.filter_cons, List.filter_cons]
    by_cases e : x.1 = k
    · simp [e, ih]
    · simp [e, ih]
theorem cnt_del {α : Type} (P : Int × α → Bool) : ∀ (l : List (Int × α)) (x : Int × α), (l.map (·.1)).Nodup → x ∈ l → (l.filter P).length = ((l.filter fun y => !(y.1 == x.1)).filter P).length + (if P x = true then 1 else 0) := by
  intro l
  induction l with
  | nil => intro x _ hx; simp at hx
  | cons y l ih =>
    intro x hn hx
    simp only [List.map_cons, List.nodup_cons] at hn
    rcases List.mem_cons.1 hx with rfl | hx'
    · have hall : (l.filter fun y => !(y.1 == x.1)) = l := List.filter_eq_self.2 fun z hz => by
        have : z.1 ≠ x.1 := fun e => hn.1 (by rw [← e]; exact List.mem_map_of_mem hz)
        simpa using this
      rw [List.filter_cons (p := fun (y : Int × α) => !(y.1 == x.1)), if_neg (by simp), hall, List.filter_cons]
      split <;> simp
    · have hne : y.1 ≠ x.1 := fun e => hn.1 (by rw [e]; exact List.mem_map_of_mem hx')
      have := ih x hn.2 hx'
      rw [List.filter_cons (p := fun (y : Int × α) => !(y.1 == x.1)), if_pos (by simpa using hne), List.filter_cons, List.filter_cons]
      split
      · simp only [List.length_cons]; omega
      · exact this
theorem has1_calls (o who : Int) (bs : List Int) (p : Nat) (w : World) (hp : w.cell? ⟨p, 0, none⟩ = some (.int .i64 who)) :
    Calls Try.prog 64 #[.agg (takenA o bs), .pointer (some ⟨p, 0, none⟩)] w fun e w' => e = .returned (.bool (o == who)) ∧ Below w.heap.size w w' := by
  have hpl := World.block_lt_of_cell? w _ hp
  obtain ⟨w0, hw0⟩ : ∃ w0, w.alloc (.cells (takenA o bs) 96) = w0 := ⟨_, rfl⟩
  have hX : Blk w0 w.heap.size (takenA o bs) 96 := by rw [← hw0]; exact Blk.new w _ _
  have hb0 : Below w.heap.size w w0 := by rw [← hw0]; exact (Below.refl _ w).alloc (Nat.le_refl _) _
  have c0 : w0.cell? ⟨w.heap.size, 0, none⟩ = some (.int .i64 o) := hX.cell 0 (by simp [takenA])
  have c1 : w0.cell? ⟨p, 0, none⟩ = some (.int .i64 who) := (hb0.cell (p := ⟨p, 0, none⟩) hpl).trans hp
  go_enter Try.func64, Try.ntmps64
  go_wp2_with fail
  go_ret
  exact ⟨rfl, hb0⟩
theorem takenA_size (o : Int) (bs : List Int) (hb : bs.length = 256) : (takenA o bs).size = 257 := by simp [takenA, intVals, hb]
theorem fill_taken (w : World) (o : Int) (bs : List Int) (hb : bs.length = 256) :
    (storeCells ⟨w.heap.size, 0, none⟩ (takenA o bs).toList).run Try.prog (w.alloc (.cells Try.zeroCells96 96)) = .ok () (w.alloc (.cells (takenA o bs) 96)) := by
  have hz : Try.zeroCells96.size = 257 := by kernel_rfl
  have := run_fill (P := Try.prog) w Try.zeroCells96 (takenA o bs).toList 96 (by rw [hz]; simpa using takenA_size o bs hb) (by
    intro v hv
    simp only [takenA, List.mem_cons] at hv
    rcases hv with rfl | hv
    · rfl
    · exact intVals_one _ _ v hv)
  simpa using this
end Go.Proofs.Ytleclclncgnelaa
