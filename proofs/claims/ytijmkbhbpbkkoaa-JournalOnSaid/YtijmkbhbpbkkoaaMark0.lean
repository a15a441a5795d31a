/- peatbankkit: mark. -/
import Derived.Test.YtijmkbhbpbkkoaaRows
import Derived.Test.YtijmkbhbpbkkoaaKitB
import Derived.Deep.LoopGhost
import Derived.Deep.DeepCutAuto
import Derived.BigQuiet
import Derived.Laws.Bits64
import Derived.Laws.BitsLemmas
namespace Go.Proofs.Ytijmkbhbpbkkoaa
open Go.RowKit

def mk0 (k i : Int) : Int := 1000003 * (k + 7) + i
end Go.Proofs.Ytijmkbhbpbkkoaa
