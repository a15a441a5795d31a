/- '==' of keys. -/
import Derived.Test.YtkcpmkeckcnobaaGreatTr0
import Derived.Test.YtkcpmkeckcnobaaGreatKitF
import Derived.Test.YtkcpmkeckcnobaaGreatRows
namespace Go.Proofs.YtkcpmkeckcnobaaGreat
open Go.RowKit

theorem eqK3 {w : World} {l k : List Nat} (hl : l.length = 40) (hk : k.length = 40) (hz : ∀ z ∈ l, z < 256) (kz : ∀ z ∈ k, z < 256) : (Op.equalIn 10000 40 (.agg (bv l).toArray) (.agg (bv k).toArray)).run Tryz.prog w = .ok (decide (l = k)) w :=
  equal_bytes (P := Tryz.prog) (w := w) 9998 40 5 40 Tryz.underlying40 Tryz.underlying5 (fun w => by kernel_rfl) hl hk hz kz
end Go.Proofs.YtkcpmkeckcnobaaGreat
