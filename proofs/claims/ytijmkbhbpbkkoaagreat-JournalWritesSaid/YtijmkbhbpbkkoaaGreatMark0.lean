/- peatbankkit: mark. -/
import Derived.Test.YtijmkbhbpbkkoaaGreatRows
import Derived.Test.YtijmkbhbpbkkoaaGreatKitB
import Derived.Deep.LoopGhost
import Derived.Deep.DeepCutAuto
import Derived.BigQuiet
import Derived.Laws.Bits64
import Derived.Laws.BitsLemmas
namespace Go.Proofs.YtijmkbhbpbkkoaaGreat
open Go.RowKit

def mk0 (k i : Int) : Int := 1000003 * (k + 7) + i
set_option maxHeartbeats 400000 in
theorem mark_any (k i : Int) (w : World) (k0 : 0 ≤ k) (k1 : k ≤ 1000) (i0 : 0 ≤ i) (i1 : i ≤ 281474976710656) :
    Calls Tryz.prog 49 #[.int .i64 k, .int .i64 i] w fun r w' => r = .returned (.int .i64 (mk0 k i)) ∧ w = w' := by
  go_enter Tryz.func49, Tryz.ntmps49
  go_wp2
  go_ret
  exact ⟨rfl, rfl⟩
end Go.Proofs.YtijmkbhbpbkkoaaGreat
