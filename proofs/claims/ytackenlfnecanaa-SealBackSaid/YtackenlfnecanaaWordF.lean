/-
  Package pinfoldlaw01: lent, kept, works.
-/
import Derived.Test.YtackenlfnecanaaWordE
import Derived.Laws.BytesArg
namespace Go.Proofs.Ytackenlfnecanaa
open Go.RowKit
set_option maxHeartbeats 400000

/-- string(b) of a slice that is read. -/
theorem run_convert_row {P : Program} {B : Nat} {w : World} {v : Value} (xs : List Int) (h : RowAt B w v xs.length (intVals .u8 xs)) {src e dst : TypeId} (hs : P.underlying src = some (.slice e)) (he : P.underlying e = some (.int .u8)) (hd : P.underlying dst = some .string) :
    (convert src dst v).run P w = .ok (.string (strOfNums xs)) w := by
  obtain ⟨a, cap, rfl, ⟨_, hn⟩, hc⟩ := h
  rcases hc with h0 | ⟨b, off, rfl, _, hc⟩
  · obtain rfl : xs = [] := by simpa [intVals] using h0
    cases a with
    | none => exact run_convert_bytes_nil w src e hs he _ _ dst hd
    | some a =>
      rw [run_convert_bytes_string w src dst e _ _ cap hs he hd]
      have := run_loadCells_list (P := P) (w := w) a [] (by intro j v hj; simp at hj)
      rw [run_bytesToString w a _ cap [] (by simpa using this)]
      rfl
  · refine run_convert_bytes_arg w src e hs he b off _ cap xs rfl (fun i hi => ?_) dst hd
    rw [hc i (by simpa [intVals] using hi), intVals_get _ _ _ hi]
    simp [List.getD, hi]

theorem lit_row (w : World) (xs : List Int) (t : TypeId) (n B : Nat) (hn : n = xs.length) (hB : w.heap.size < B) : RowAt B (w.alloc (.cells (intVals .u8 xs).toArray t)) (.slice (some ⟨w.heap.size, 0, none⟩) n n) xs.length (intVals .u8 xs) := by
  subst hn
  have := RowAt.lit w (intVals .u8 xs).toArray t xs.length B hB
  simpa using this
theorem lit_row' (w : World) (xs : List Int) (t : TypeId) (n B b : Nat) (hn : n = xs.length) (hb : w.heap.size = b) (hB : b < B) : RowAt B (w.alloc (.cells (intVals .u8 xs).toArray t)) (.slice (some ⟨b, 0, none⟩) n n) xs.length (intVals .u8 xs) := by
  subst hb; exact lit_row w xs t n B hn hB
end Go.Proofs.Ytackenlfnecanaa
