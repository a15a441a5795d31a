/- The document's frames (peatbankref10): Get, the walk. -/
import Derived.Test.YtijmkbhbpbkkoaaGreatFrG
import Derived.Deep.DeepCutAuto
import Derived.Deep.CutBlock
namespace Go.Proofs.YtijmkbhbpbkkoaaGreat
open Go.RowKit

theorem exec_conv_str {P : Program} {w : World} {A : Option Addr} {n c : Nat} {l : List Nat} {o : Oper} {a : Act} (src e dst : TypeId) (x : Operand) (ho : o.op = .convert src dst x) (hs : P.underlying src = some (.slice e)) (he : P.underlying e = some (.int .u8)) (hd : P.underlying dst = some .string)
    (hx : a.eval x = .slice A n c) (hr : Rd w A n (bv l)) : (execOp a.eval o).run P w = .ok (.value (.string (bstr l))) w := by
  simp [execOp, ho, hx, conv_str src e dst hs he hd hr, Result.andThen]
section
variable {w : World} {A : Option Addr} {n c : Nat} {l : List Nat}
end
end Go.Proofs.YtijmkbhbpbkkoaaGreat
