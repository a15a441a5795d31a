/- peatbankkit over bytes: markByte, LentBytes, KeptBytes. -/
import Derived.Test.YtijmkbhbpbkkoaaMark0
import Derived.Test.YtijmkbhbpbkkoaaKitB
import Derived.Deep.LoopGhost
import Derived.Deep.DeepCutAuto
import Derived.BigQuiet
import Derived.Laws.Bits64
import Derived.Laws.BitsLemmas
namespace Go.Proofs.Ytijmkbhbpbkkoaa
open Go.RowKit

theorem info_u8 : (Try.prog.info? 5).map (fun i => (i.zero, i.size, i.bytes)) = some (some (.int .u8 0), 1, 1) := by kernel_rfl
def mb (k i : Int) : Int := (mk0 k i * 11400714819323198485 % 18446744073709551616) / 72057594037927936
def mks (k : Int) (m : Nat) : List Int := (List.range m).map (fun i : Nat => mb k i)
theorem mks_succ (k : Int) (m : Nat) : mks k (m + 1) = mks k m ++ [mb k m] := by unfold mks; rw [List.range_succ, List.map_append]; rfl
theorem mks_len (k : Int) (m : Nat) : (mks k m).length = m := by simp [mks]

end Go.Proofs.Ytijmkbhbpbkkoaa
