/- The document's frames (peatbankref10): Put, the walk. -/
import Derived.Test.YtijmkbhbpbkkoaaFrQ
import Derived.Lib.SlBytesConst
namespace Go.Proofs.Ytijmkbhbpbkkoaa
open Go.RowKit

section
variable {w : World} {A : Option Addr} {n c : Nat}
set_option maxRecDepth 100000 in
set_option maxHeartbeats 1600000 in
theorem rput_arg (k e s : Int) (A : Option Addr) (n c : Nat) (w : World) (h : k < 0 ∨ 255 < k ∨ e < 0 ∨ 1099511627776 < e ∨ s < 0 ∨ 1099511627776 < s) :
    Calls Try.prog 58 #[frV k e s A n c] w fun r w' => r = .returned (.tuple #[.slice none 0 0, .int .i64 2]) ∧ Mod Nn w w' := by
  unfold frV
  have M : Mod Nn w (w.alloc (.cells #[.int .i64 k, .int .i64 e, .int .i64 s, .slice A n c] 65)) := (Mod.refl Nn w).alloc _
  have HM := Lib.hid M; clear M
  by_cases h1 : k < 0
  · go_enter Try.func58, Try.ntmps58
    go_wp2
    go_ret2
    exact ⟨rfl, HM.out⟩
  by_cases h2 : 255 < k
  · go_enter Try.func58, Try.ntmps58
    go_wp2
    go_ret2
    exact ⟨rfl, HM.out⟩
  by_cases h3 : e < 0
  · go_enter Try.func58, Try.ntmps58
    go_wp2
    go_ret2
    exact ⟨rfl, HM.out⟩
  by_cases h4 : 1099511627776 < e
  · go_enter Try.func58, Try.ntmps58
    go_wp2
    go_ret2
    exact ⟨rfl, HM.out⟩
  by_cases h5 : s < 0
  · go_enter Try.func58, Try.ntmps58
    go_wp2
    go_ret2
    exact ⟨rfl, HM.out⟩
  have h6 : 1099511627776 < s := by omega
  clear h
  go_enter Try.func58, Try.ntmps58
  go_wp2
  go_ret2
  exact ⟨rfl, HM.out⟩
set_option maxRecDepth 100000 in
set_option maxHeartbeats 1600000 in
theorem rput_long (k e s : Int) (A : Option Addr) (n c : Nat) (w : World) (hk0 : 0 ≤ k) (hk1 : k ≤ 255) (he0 : 0 ≤ e) (he1 : e ≤ 1099511627776) (hs0 : 0 ≤ s) (hs1 : s ≤ 1099511627776) (hn : 32768 < n) :
    Calls Try.prog 58 #[frV k e s A n c] w fun r w' => r = .returned (.tuple #[.slice none 0 0, .int .i64 3]) ∧ Mod Nn w w' := by
  unfold frV
  have M : Mod Nn w (w.alloc (.cells #[.int .i64 k, .int .i64 e, .int .i64 s, .slice A n c] 65)) := (Mod.refl Nn w).alloc _
  have HM := Lib.hid M; clear M
  have hn' : (32768 : Int) < n := by omega
  have e1 : ¬ k < 0 := by omega
  have e2 : ¬ 255 < k := by omega
  have e3 : ¬ e < 0 := by omega
  have e4 : ¬ 1099511627776 < e := by omega
  have e5 : ¬ s < 0 := by omega
  have e6 : ¬ 1099511627776 < s := by omega
  go_enter Try.func58, Try.ntmps58
  go_wp2
  go_ret2
  exact ⟨rfl, HM.out⟩
end
end Go.Proofs.Ytijmkbhbpbkkoaa
