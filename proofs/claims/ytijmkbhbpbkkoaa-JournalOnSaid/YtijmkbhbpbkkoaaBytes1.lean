/- peatbankkit: Pick. -/
import Derived.Test.YtijmkbhbpbkkoaaBytesSm
namespace Go.Proofs.Ytijmkbhbpbkkoaa
open Go.RowKit

def pick (x n : Int) : Int := if n < 1 then 0 else if x.tmod n < 0 then x.tmod n + n else x.tmod n
theorem pick_range (x n : Int) (hn : 1 ≤ n) : 0 ≤ pick x n ∧ pick x n < n := by
  have h1 := Int.tmod_lt_of_pos x (show 0 < n by omega)
  have h2 : -n < x.tmod n := by
    have := Int.natAbs_tmod x n
    have h3 : (x.natAbs % n.natAbs) < n.natAbs := Nat.mod_lt _ (by omega)
    omega
  unfold pick
  rw [if_neg (by omega)]
  split <;> omega

set_option maxHeartbeats 400000 in
theorem pick_any (x n : Int) (w : World) (hn : n ≤ 9223372036854775807) :
    Calls Try.prog 17 #[.int .i64 x, .int .i64 n] w fun e w' => e = .returned (.int .i64 (pick x n)) ∧ w = w' := by
  by_cases h1 : n < 1
  · have HP := Lib.hid (show pick x n = 0 by unfold pick; rw [if_pos h1])
    go_enter Try.func17, Try.ntmps17
    go_wp2
    go_ret
    rw [HP.out]
    exact ⟨rfl, rfl⟩
  · have hr := pick_range x n (by omega)
    have h3 : n ≠ 0 := by omega
    have hlt := Int.tmod_lt_of_pos x (show 0 < n by omega)
    by_cases h2 : x.tmod n < 0
    · have HP := Lib.hid (show pick x n = x.tmod n + n by unfold pick; rw [if_neg h1, if_pos h2])
      rw [HP.out] at hr
      go_enter Try.func17, Try.ntmps17
      go_wp2
      go_ret
      rw [HP.out]
      exact ⟨rfl, rfl⟩
    · have HP := Lib.hid (show pick x n = x.tmod n by unfold pick; rw [if_neg h1, if_neg h2])
      go_enter Try.func17, Try.ntmps17
      go_wp2
      go_ret
      rw [HP.out]
      exact ⟨rfl, rfl⟩

end Go.Proofs.Ytijmkbhbpbkkoaa
