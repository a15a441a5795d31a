/- slices.Clone of entries and of keys: an own row (printed by wip/gen/sliceso.py). -/
import Derived.Test.YtkcpmkeckcnobaaSlA
namespace Go.Proofs.Ytkcpmkeckcnobaa
open Go.RowKit

section
variable {w : World} {A : Option Addr} {n c : Nat} {xs : List Value}
set_option maxRecDepth 100000 in
set_option maxHeartbeats 3200000 in
theorem scloneE_own (h : RdC w A n 80 xs) (hx1 : ∀ v ∈ xs, v.oneCell' = true) (hn : n ≤ 1099511627776) :
    Calls Try.prog 66 #[.slice A n c] w fun r w' => ∃ A' c', r = .returned (.slice A' n c') ∧ w'.ownsRow w.heap.size 28 80 (.slice A' n c') n xs ∧ Mod Nn w w' := by
  have uu := uuE
  cases A with
  | none =>
    have hn0 : n = 0 := by
      rcases Nat.eq_zero_or_pos n with h0 | h0
      · exact h0
      · obtain ⟨_, _, e, _⟩ := h.2 h0; cases e
    subst hn0
    have hx : xs = [] := List.eq_nil_of_length_eq_zero (by have := h.1; omega)
    subst hx
    clear h hx1
    go_enter Try.func66, Try.ntmps66
    go_wp2
    rw [run_eql_nil _ 40 _ _ _ uu]
    simp only [Result.andThen]
    rw [Oper.upon_value]
    go_wp2
    go_ret
    exact ⟨none, 0, rfl, World.ownsRow_nil _ _ _ _, Mod.refl _ _⟩
  | some a =>
    have HH := Lib.hid (And.intro h hx1)
    have m1 : Mod Nn w (w.alloc (.cells #[] 28)) := (Mod.refl Nn w).alloc _
    have h1 : (w.alloc (.cells #[] 28)).ownsRow w.heap.size 28 80 (.slice (some ⟨w.heap.size, 0, none⟩) 0 0) 0 [] := World.ownsRow_made (base := w.heap.size) (e := 28) (size := 80) w #[] 0 (Nat.le_refl _) (by simp) rfl
    have H1 := Lib.hid (And.intro h1 m1)
    clear h hx1 m1 h1
    go_enter Try.func66, Try.ntmps66
    go_wp2_with fail
    rw [run_eql_nil _ 40 _ _ _ uu]
    simp only [Result.andThen]
    rw [Oper.upon_value]
    go_wp2_with (first
      | (with_reducible change wpList _ _ _ (⟨some 5, Op.buildSlice _ _ _, _, _, _, _⟩ :: _) _ _
         go_must (refine wpList_val rfl (exec_bslice0 (P := Try.prog) 40 28 rfl uu sizeE) ?_))
      | (with_reducible change wpList _ _ _ (⟨some 7, _, _, _, _, _⟩ :: _) _ _
         go_must (refine wpList_append_rd 40 _ _ rfl rfl w.heap.size 28 zE 80 80 uu infoE zsE (by omega) _ 0 [] rfl H1.out.1 _ n _ xs rfl (HH.out.1.md (by omega) H1.out.2 (fun _ _ f => f)) HH.out.2 (by omega) (by omega) (by have := H1.out.2.size; omega) ?_)
         intro v5 w5 own5 gr5 ob5
         rw [Nat.zero_add, List.nil_append] at own5
         have m5 : Mod (fun g => g = w.heap.size) (w.alloc (.cells #[] 28)) w5 := (Mod.refl _ _).grown gr5 (fun g hg => by injection hg with hg; exact .inr hg.symm)
         have H5 := Lib.hid (And.intro own5 (H1.out.2.new_ m5 (Nat.le_refl _)))
         clear own5 gr5 ob5 m5))
    go_ret
    obtain ⟨A', c', rfl, _⟩ := own_form H5.out.1
    exact ⟨A', c', rfl, H5.out.1, H5.out.2⟩
set_option maxRecDepth 100000 in
set_option maxHeartbeats 3200000 in
theorem scloneK_own (h : RdC w A n 40 xs) (hx1 : ∀ v ∈ xs, v.oneCell' = true) (hn : n ≤ 1099511627776) :
    Calls Try.prog 67 #[.slice A n c] w fun r w' => ∃ A' c', r = .returned (.slice A' n c') ∧ w'.ownsRow w.heap.size 23 40 (.slice A' n c') n xs ∧ Mod Nn w w' := by
  have uu := uuK
  cases A with
  | none =>
    have hn0 : n = 0 := by
      rcases Nat.eq_zero_or_pos n with h0 | h0
      · exact h0
      · obtain ⟨_, _, e, _⟩ := h.2 h0; cases e
    subst hn0
    have hx : xs = [] := List.eq_nil_of_length_eq_zero (by have := h.1; omega)
    subst hx
    clear h hx1
    go_enter Try.func67, Try.ntmps67
    go_wp2
    rw [run_eql_nil _ 75 _ _ _ uu]
    simp only [Result.andThen]
    rw [Oper.upon_value]
    go_wp2
    go_ret
    exact ⟨none, 0, rfl, World.ownsRow_nil _ _ _ _, Mod.refl _ _⟩
  | some a =>
    have HH := Lib.hid (And.intro h hx1)
    have m1 : Mod Nn w (w.alloc (.cells #[] 23)) := (Mod.refl Nn w).alloc _
    have h1 : (w.alloc (.cells #[] 23)).ownsRow w.heap.size 23 40 (.slice (some ⟨w.heap.size, 0, none⟩) 0 0) 0 [] := World.ownsRow_made (base := w.heap.size) (e := 23) (size := 40) w #[] 0 (Nat.le_refl _) (by simp) rfl
    have H1 := Lib.hid (And.intro h1 m1)
    clear h hx1 m1 h1
    go_enter Try.func67, Try.ntmps67
    go_wp2_with fail
    rw [run_eql_nil _ 75 _ _ _ uu]
    simp only [Result.andThen]
    rw [Oper.upon_value]
    go_wp2_with (first
      | (with_reducible change wpList _ _ _ (⟨some 5, Op.buildSlice _ _ _, _, _, _, _⟩ :: _) _ _
         go_must (refine wpList_val rfl (exec_bslice0 (P := Try.prog) 75 23 rfl uu sizeK) ?_))
      | (with_reducible change wpList _ _ _ (⟨some 7, _, _, _, _, _⟩ :: _) _ _
         go_must (refine wpList_append_rd 75 _ _ rfl rfl w.heap.size 23 zK 40 40 uu infoK zsK (by omega) _ 0 [] rfl H1.out.1 _ n _ xs rfl (HH.out.1.md (by omega) H1.out.2 (fun _ _ f => f)) HH.out.2 (by omega) (by omega) (by have := H1.out.2.size; omega) ?_)
         intro v5 w5 own5 gr5 ob5
         rw [Nat.zero_add, List.nil_append] at own5
         have m5 : Mod (fun g => g = w.heap.size) (w.alloc (.cells #[] 23)) w5 := (Mod.refl _ _).grown gr5 (fun g hg => by injection hg with hg; exact .inr hg.symm)
         have H5 := Lib.hid (And.intro own5 (H1.out.2.new_ m5 (Nat.le_refl _)))
         clear own5 gr5 ob5 m5))
    go_ret
    obtain ⟨A', c', rfl, _⟩ := own_form H5.out.1
    exact ⟨A', c', rfl, H5.out.1, H5.out.2⟩
end
end Go.Proofs.Ytkcpmkeckcnobaa
