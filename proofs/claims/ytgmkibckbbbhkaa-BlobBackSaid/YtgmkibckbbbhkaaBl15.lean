/- peatbanklaw20.BlobBack: all ways. -/
import Derived.Test.YtgmkibckbbbhkaaBl14
import Derived.Test.YtgmkibckbbbhkaaBl14b
import Derived.Test.YtgmkibckbbbhkaaBl14c
import Derived.Test.YtgmkibckbbbhkaaBl14d
namespace Go.Proofs.Ytgmkibckbbbhkaa
open Go.RowKit

theorem bback_any (w : World) (x0 x1 x2 x3 bb : Int) (hbb : 0 ≤ bb ∧ bb ≤ 255) :
    Calls Try.prog 17 #[.int .i64 x0, .int .i64 x1, .int .i64 x2, .int .i64 x3, .int .u8 bb] w fun e w' => e = .returned (.bool true) ∧ Mod Nn w w' := by
  have h0 := pick_range x0 13 (by omega)
  obtain ⟨at_, hat⟩ : ∃ k : Nat, pick x0 13 = k := ⟨(pick x0 13).toNat, by omega⟩
  have h1 := pick_range x1 (13 - (at_ : Int)) (by omega)
  obtain ⟨n, hn⟩ : ∃ k : Nat, pick x1 (13 - (at_ : Int)) = k := ⟨(pick x1 (13 - (at_ : Int))).toNat, by omega⟩
  have h2 := pick_range x2 ((n : Int) + 1) (by omega)
  obtain ⟨cut, hcut⟩ : ∃ k : Nat, pick x2 ((n : Int) + 1) = k := ⟨(pick x2 ((n : Int) + 1)).toNat, by omega⟩
  have h3 := pick_range x3 15 (by omega)
  obtain ⟨r, hr⟩ : ∃ k : Nat, pick x3 15 = k := ⟨(pick x3 15).toNat, by omega⟩
  by_cases c1 : (1 : Int) ≤ r
  · by_cases c2 : (r : Int) ≤ n
    · cases c3 : ((r : Int) == n) with
      | true => exact back_A1 w x0 x1 x2 x3 bb hbb hat hn hcut hr (by omega) (by omega) (by omega) c1 c2 c3
      | false => exact back_A2 w x0 x1 x2 x3 bb hbb hat hn hcut hr (by omega) (by omega) (by omega) c1 c2 c3
    · exact back_C w x0 x1 x2 x3 bb hbb hat hn hcut hr (by omega) (by omega) (by omega) c1 c2 (by omega)
  · exact back_B w x0 x1 x2 x3 bb hbb hat hn hcut hr (by omega) (by omega) (by omega) c1 (by omega)
end Go.Proofs.Ytgmkibckbbbhkaa
