/- Both devices: Of of fewer bytes than a sector holds is nil. -/
import Derived.Test.YtgmkibckbbbhkaaDevO2
namespace Go.Proofs.Ytgmkibckbbbhkaa
open Go.RowKit

set_option maxRecDepth 100000 in
set_option maxHeartbeats 1600000 in
theorem of_zero {w : World} {A : Option Addr} {c m : Nat} (hn : m / 512 = 0) (hc : m ≤ c) (hcm : c ≤ maxLen) :
    Calls Try.prog 37 #[.slice A m c] w fun e w' => e = .returned (.pointer none) ∧ w' = w := by
  have hq : (m : Int) / 512 = 0 := by omega
  have hcm' : c ≤ 9223372036854775807 := by unfold maxLen at hcm; omega
  clear hcm
  go_enter Try.func37, Try.ntmps37
  go_wp2_with fail
  refine (new_none 0 _ (.inl (by omega))).mono ?_
  rintro r w1 ⟨rfl, h⟩
  subst h
  go_wp2
  go_loopw [4] (fun i wr => i = .int .i64 0 ∧ wr = w) (fun _ _ => 0)
  case atStart => exact ⟨rfl, rfl⟩
  case round =>
    obtain ⟨rfl, rfl⟩ := hrel
    go_wp2
    go_ret
    exact ⟨rfl, rfl⟩

set_option maxRecDepth 100000 in
set_option maxHeartbeats 1600000 in
theorem rof_zero {w : World} {A : Option Addr} {c m : Nat} (hn : m / 512 = 0) (hc : m ≤ c) (hcm : c ≤ maxLen) :
    Calls Try.prog 38 #[.slice A m c] w fun e w' => e = .returned (.pointer none) ∧ w' = w := by
  have hq : (m : Int) / 512 = 0 := by omega
  have hcm' : c ≤ 9223372036854775807 := by unfold maxLen at hcm; omega
  clear hcm
  go_enter Try.func38, Try.ntmps38
  go_wp2_with fail
  refine (rnew_none 0 _ (.inl (by omega))).mono ?_
  rintro r w1 ⟨rfl, h⟩
  subst h
  go_wp2
  go_ret
  exact ⟨rfl, rfl⟩
end Go.Proofs.Ytgmkibckbbbhkaa
