/- frame.Put: the walk. -/
import Derived.Test.YtijmkbhbpbkkoaaFrE
import Derived.Test.YtijmkbhbpbkkoaaCrc5
namespace Go.Proofs.Ytijmkbhbpbkkoaa
open Go.RowKit

theorem fmay_yes (n : Int) (w : World) (h0 : 0 ≤ n) (h1 : n ≤ 1099511627776) : Calls Try.prog 49 #[.int .i64 n] w fun e w' => e = .returned (.bool true) ∧ w = w' := by
  have := fmay_any n w
  rwa [decide_eq_true ⟨h0, h1⟩] at this
theorem fmay_no (n : Int) (w : World) (h : n < 0 ∨ 1099511627776 < n) : Calls Try.prog 49 #[.int .i64 n] w fun e w' => e = .returned (.bool false) ∧ w = w' := by
  have := fmay_any n w
  rwa [decide_eq_false (fun h' => by omega)] at this
/-- a frame's value -/
def frV (k e s : Int) (A : Option Addr) (n c : Nat) : Value := .agg #[.int .i64 k, .int .i64 e, .int .i64 s, .slice A n c]
section
variable {w : World} {A : Option Addr} {n c : Nat} {D : List Nat}
set_option maxRecDepth 100000 in
set_option maxHeartbeats 1600000 in
theorem fput_arg (k e s : Int) (A : Option Addr) (n c : Nat) (w : World) (h : k < 0 ∨ 255 < k ∨ e < 0 ∨ 1099511627776 < e ∨ s < 0 ∨ 1099511627776 < s) :
    Calls Try.prog 32 #[frV k e s A n c] w fun r w' => r = .returned (.tuple #[.slice none 0 0, .int .i64 2]) ∧ Mod Nn w w' := by
  unfold frV
  have M : Mod Nn w (w.alloc (.cells #[.int .i64 k, .int .i64 e, .int .i64 s, .slice A n c] 65)) := (Mod.refl Nn w).alloc _
  have HM := Lib.hid M; clear M
  by_cases h1 : k < 0
  · go_enter Try.func32, Try.ntmps32
    go_wp2
    go_ret2
    exact ⟨rfl, HM.out⟩
  by_cases h2 : 255 < k
  · go_enter Try.func32, Try.ntmps32
    go_wp2
    go_ret2
    exact ⟨rfl, HM.out⟩
  have h2' : ¬ k > 255 := by omega
  by_cases h3 : e < 0 ∨ 1099511627776 < e
  · clear h
    go_enter Try.func32, Try.ntmps32
    go_wp2_with ((with_reducible refine (fmay_no _ _ h3).mono ?_); rintro r w' ⟨rfl, rfl⟩)
    go_ret2
    exact ⟨rfl, HM.out⟩
  have h4 : s < 0 ∨ 1099511627776 < s := by omega
  have h5 : 0 ≤ e := by omega
  have h6 : e ≤ 1099511627776 := by omega
  clear h
  go_enter Try.func32, Try.ntmps32
  go_wp2_with (first | ((with_reducible refine (fmay_yes e _ h5 h6).mono ?_); rintro r w' ⟨rfl, rfl⟩) | ((with_reducible refine (fmay_no s _ h4).mono ?_); rintro r w' ⟨rfl, rfl⟩))
  go_ret2
  exact ⟨rfl, HM.out⟩
set_option maxRecDepth 100000 in
set_option maxHeartbeats 1600000 in
theorem fput_long (k e s : Int) (A : Option Addr) (n c : Nat) (w : World) (hk0 : 0 ≤ k) (hk1 : k ≤ 255) (he0 : 0 ≤ e) (he1 : e ≤ 1099511627776) (hs0 : 0 ≤ s) (hs1 : s ≤ 1099511627776) (hn : 32768 < n) :
    Calls Try.prog 32 #[frV k e s A n c] w fun r w' => r = .returned (.tuple #[.slice none 0 0, .int .i64 3]) ∧ Mod Nn w w' := by
  unfold frV
  have M : Mod Nn w (w.alloc (.cells #[.int .i64 k, .int .i64 e, .int .i64 s, .slice A n c] 65)) := (Mod.refl Nn w).alloc _
  have HM := Lib.hid M; clear M
  have hn' : (32768 : Int) < n := by omega
  go_enter Try.func32, Try.ntmps32
  go_wp2_with (first | ((with_reducible refine (fmay_yes e _ he0 he1).mono ?_); rintro r w' ⟨rfl, rfl⟩) | ((with_reducible refine (fmay_yes s _ hs0 hs1).mono ?_); rintro r w' ⟨rfl, rfl⟩))
  go_ret2
  exact ⟨rfl, HM.out⟩
end
end Go.Proofs.Ytijmkbhbpbkkoaa
