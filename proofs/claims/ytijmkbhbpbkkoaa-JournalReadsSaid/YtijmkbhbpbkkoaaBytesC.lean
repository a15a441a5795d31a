/- peatbankkit: CopyBytes. -/
import Derived.Test.YtijmkbhbpbkkoaaBytes2
namespace Go.Proofs.Ytijmkbhbpbkkoaa
open Go.RowKit

set_option maxRecDepth 100000 in
set_option maxHeartbeats 800000 in
theorem copy_any {w : World} {A : Option Addr} {n c : Nat} {xs : List Int} (hr : Rd w A n (xs.map (Value.int .u8))) (hn : n ≤ 1099511627776) :
    Calls Try.prog 20 #[.slice A n c] w fun r w' => ∃ v, r = .returned v ∧ w'.ownsRow w.heap.size 5 1 v n (xs.map (Value.int .u8)) ∧ Mod Nn w w' := by
  have hown := World.ownsRow_nil w w.heap.size 5 1
  go_enter Try.func20, Try.ntmps20
  go_wp2_with (first
    | (with_reducible change wpList _ _ _ (⟨some 6, _, _, _, _, _⟩ :: _) _ _
       go_must (refine wpList_append_rd 38 _ _ rfl rfl w.heap.size 5 (.int .u8 0) 1 1 Try.underlying38 info_u8 rfl (by omega) (.slice none 0 0) 0 [] rfl hown A n c (xs.map (Value.int .u8)) rfl hr.toC (ints_oneCell _ _) (by omega) (by omega) (Nat.le_refl _) ?_)
       intro v w2 own2 gr2 ob2))
  have M2 : Mod Nn w w2 := (Mod.refl _ _).grown gr2 (fun g h => by cases h)
  simp only [Nat.zero_add, List.nil_append] at own2
  clear hown
  go_ret
  exact ⟨v, rfl, own2, M2⟩
end Go.Proofs.Ytijmkbhbpbkkoaa
