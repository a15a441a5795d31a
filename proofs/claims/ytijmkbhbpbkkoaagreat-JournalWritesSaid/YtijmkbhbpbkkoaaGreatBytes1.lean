/- peatbankkit: Pick. -/
import Derived.Test.YtijmkbhbpbkkoaaGreatBytesSm
namespace Go.Proofs.YtijmkbhbpbkkoaaGreat
open Go.RowKit

def pick (x n : Int) : Int := if n < 1 then 0 else if x.tmod n < 0 then x.tmod n + n else x.tmod n
theorem pick_range (x n : Int) (hn : 1 ≤ n) : 0 ≤ pick x n ∧ pick x n < n := by
  have h1 := Int.tmod_lt_of_pos x (show 0 < n by omega)
  have h2 : -n < x.tmod n := by
    have := Int.natAbs_tmod x n
    have h3 : (x.natAbs % n.natAbs) < n.natAbs := Nat.mod_lt _ (by omega)
    omega
  unfold pick
  rw [if_neg (by omega)]
  split <;> omega

end Go.Proofs.YtijmkbhbpbkkoaaGreat
