/- '==' of keys. -/
import Derived.Test.YtkcpmkeckcnobaaTr0
import Derived.Test.YtkcpmkeckcnobaaKitF
import Derived.Test.YtkcpmkeckcnobaaRows
namespace Go.Proofs.Ytkcpmkeckcnobaa
open Go.RowKit

theorem eqK3 {w : World} {l k : List Nat} (hl : l.length = 40) (hk : k.length = 40) (hz : ∀ z ∈ l, z < 256) (kz : ∀ z ∈ k, z < 256) : (Op.equalIn 10000 23 (.agg (bv l).toArray) (.agg (bv k).toArray)).run Try.prog w = .ok (decide (l = k)) w :=
  equal_bytes (P := Try.prog) (w := w) 9998 23 5 40 Try.underlying23 Try.underlying5 (fun w => by kernel_rfl) hl hk hz kz
end Go.Proofs.Ytkcpmkeckcnobaa
