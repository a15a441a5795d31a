/- peatbankref15.Get of any bytes. -/
import Derived.Test.YtjndcgpfikngaaaGreatNdR6
import Derived.Test.YtjndcgpfikngaaaGreatNdR7
namespace Go.Proofs.YtjndcgpfikngaaaGreat
open Go.RowKit

theorem rget_any {w : World} {A : Option Addr} {n c : Nat} {l : List Nat} (hr : Rd w A n (bv l)) (hc : n ≤ c) (hz : ∀ z ∈ l, z < 256) : Calls Tryz.prog 21 #[.slice A n c] w (GetP w l) := by
  by_cases hn : n = 1024
  · by_cases h0 : l.getD 0 0 = 0
    · exact rget_b0 hr hn hc hz h0
    by_cases h2 : 2 < l.getD 0 0
    · exact rget_b2 hr hn hc hz h2
    by_cases h20 : 20 < l.getD 1 0
    · exact rget_b20 hr hn hc hz ⟨by omega, by omega, h20⟩
    by_cases h1 : l.getD 0 0 = 1
    · by_cases h12 : 12 < l.getD 1 0
      · exact rget_b12 hr hn hc hz ⟨h1, by omega, h12⟩
      · exact rget_leaf hr hn hc hz ⟨by omega, fun _ => by omega⟩ h1
    · exact rget_inner hr hn hc hz ⟨by omega, fun h => (h1 h).elim⟩ (by omega)
  · exact rget_len hr hn
end Go.Proofs.YtjndcgpfikngaaaGreat
