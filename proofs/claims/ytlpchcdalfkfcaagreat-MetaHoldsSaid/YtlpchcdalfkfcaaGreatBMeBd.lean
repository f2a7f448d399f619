/-
 Package meta: getting a great record that is refused. Conditions: a memory's books in order.
-/
import Derived.Test.YtlpchcdalfkfcaaGreatBMeBc
import Derived.Test.YtlpchcdalfkfcaaGreatBMeY
namespace Go.Proofs.YtlpchcdalfkfcaaGreat
open Go.RowKit Go.ChangeShapes
attribute [local go_sem] Oper.semAt_some
set_option maxHeartbeats 8000000
set_option maxRecDepth 8000

variable {w0 w : World} {k : Mb} {s : Ms}
theorem ret_g2 {fn : Func} {R : Ending → World → Prop} {a : Act} {w : World} {p u : Tmp} (h : fn.results = #[.cell p 54, .tmp u]) (g : Nat) {cs : Array Value} {t : TypeId} (hp : a.tmps.getD p undef = .pointer (some ⟨g, 0, none⟩))
  (hB : Blk w g cs t) (hs : cs.size = 4) (hd : a.defers = []) (hR : R (.returned (.tuple #[.agg cs, a.tmps.getD u undef])) w) : bodyPost Tryz.prog fn R .ret a w := by
 refine bodyPost_ret (v := .tuple #[.agg cs, a.tmps.getD u undef]) ?_ hd hR
 have hp' : a.tmps[p]?.getD undef = .pointer (some ⟨g, 0, none⟩) := by simpa using hp
 have hl : (loadVar 54 ⟨g, 0, none⟩).run Tryz.prog w = .ok (.agg cs) w := run_loadVar_row w g t _ cs (0, 0) _ hB Tryz.underlying54 rfl (by rw [hs]; exact grt_info)
 simp [results, h, hp', asAddr, hl]
end Go.Proofs.YtlpchcdalfkfcaaGreat

