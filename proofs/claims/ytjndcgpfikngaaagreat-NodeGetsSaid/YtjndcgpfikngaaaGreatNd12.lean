/- node.Get of any bytes. -/
import Derived.Test.YtjndcgpfikngaaaGreatNd9
import Derived.Test.YtjndcgpfikngaaaGreatNd10
import Derived.Test.YtjndcgpfikngaaaGreatNd11
namespace Go.Proofs.YtjndcgpfikngaaaGreat
open Go.RowKit

theorem nget_any {w : World} {A : Option Addr} {n c : Nat} {l : List Nat} (hr : Rd w A n (bv l)) (hc : n ≤ c) (hz : ∀ z ∈ l, z < 256) : Calls Tryz.prog 18 #[.slice A n c] w (GetP w l) := by
  by_cases hn : n = 1024
  · by_cases hcnt : cntOk l
    · by_cases hlf : l.getD 0 0 = 1
      · exact nget_leaf hr hn hc hz hcnt hlf
      · exact nget_inner hr hn hc hz hcnt hlf
    · by_cases h20 : 20 < l.getD 1 0
      · by_cases hlf : l.getD 0 0 = 1
        · exact nget_c1 hr hn hc hz hcnt hlf h20
        · exact nget_c3 hr hn hc hz hcnt hlf h20
      · have h : l.getD 0 0 = 1 ∧ 12 < l.getD 1 0 := by
          refine Classical.byContradiction fun h => hcnt ⟨by omega, fun h1 => ?_⟩
          exact Nat.le_of_not_lt fun h2 => h ⟨h1, h2⟩
        exact nget_c2 hr hn hc hz hcnt h.1 ⟨h.2, by omega⟩
  · exact nget_len hr hn
end Go.Proofs.YtjndcgpfikngaaaGreat
