/- layout.Right. -/
import Derived.Test.YtijmkbhbpbkkoaaHd1
namespace Go.Proofs.Ytijmkbhbpbkkoaa
open Go.RowKit

section
variable {w : World}
set_option maxRecDepth 100000 in
set_option maxHeartbeats 3200000 in
theorem lright_any (g : Geo) (w : World) : Calls Try.prog 35 #[gV g] w fun e w' => e = .returned (.bool (decide g.right)) ∧ Mod Nn w w' := by
  by_cases c0 : 8 ≤ g.v ∧ g.v ≤ 4096
  case neg =>
    rw [show decide g.right = false from decide_eq_false (fun h => by obtain ⟨⟨a1, a2, a3, a4, a5, a6, a7, a8, a9, a10, a11, a12⟩, a13⟩ := h; omega)]
    unfold gV at *
    obtain ⟨v, S, s, u, j⟩ := g
    simp only at *
    have HM := Lib.hid (show Mod Nn w (w.alloc (.cells #[.int .i64 v, .int .i64 S, .int .i64 s, .int .i64 u, .int .i64 j] 23)) from (Mod.refl Nn w).alloc _)
    go_enter Try.func35, Try.ntmps35
    go_wp2_with (first | ((with_reducible refine (lfrom_no v 8 4096 _ c0).mono ?_); rintro r w' ⟨rfl, rfl⟩))
    go_ret
    exact ⟨rfl, HM.out⟩
  by_cases c1 : g.v % 8 = 0
  case neg =>
    rw [show decide g.right = false from decide_eq_false (fun h => by obtain ⟨⟨a1, a2, a3, a4, a5, a6, a7, a8, a9, a10, a11, a12⟩, a13⟩ := h; omega)]
    unfold gV at *
    obtain ⟨v, S, s, u, j⟩ := g
    simp only at *
    have HM := Lib.hid (show Mod Nn w (w.alloc (.cells #[.int .i64 v, .int .i64 S, .int .i64 s, .int .i64 u, .int .i64 j] 23)) from (Mod.refl Nn w).alloc _)
    go_enter Try.func35, Try.ntmps35
    go_wp2_with (first | ((with_reducible refine (lfrom_yes v 8 4096 _ c0.1 c0.2).mono ?_); rintro r w' ⟨rfl, rfl⟩))
    go_ret
    exact ⟨rfl, HM.out⟩
  by_cases c2 : 2 ≤ g.S ∧ g.S ≤ 256
  case neg =>
    rw [show decide g.right = false from decide_eq_false (fun h => by obtain ⟨⟨a1, a2, a3, a4, a5, a6, a7, a8, a9, a10, a11, a12⟩, a13⟩ := h; omega)]
    unfold gV at *
    obtain ⟨v, S, s, u, j⟩ := g
    simp only at *
    have HM := Lib.hid (show Mod Nn w (w.alloc (.cells #[.int .i64 v, .int .i64 S, .int .i64 s, .int .i64 u, .int .i64 j] 23)) from (Mod.refl Nn w).alloc _)
    go_enter Try.func35, Try.ntmps35
    go_wp2_with (first | ((with_reducible refine (lfrom_yes v 8 4096 _ c0.1 c0.2).mono ?_); rintro r w' ⟨rfl, rfl⟩) | ((with_reducible refine (lfrom_no S 2 256 _ c2).mono ?_); rintro r w' ⟨rfl, rfl⟩))
    go_ret
    exact ⟨rfl, HM.out⟩
  by_cases c3 : 1 ≤ g.u ∧ g.u ≤ 16
  case neg =>
    rw [show decide g.right = false from decide_eq_false (fun h => by obtain ⟨⟨a1, a2, a3, a4, a5, a6, a7, a8, a9, a10, a11, a12⟩, a13⟩ := h; omega)]
    unfold gV at *
    obtain ⟨v, S, s, u, j⟩ := g
    simp only at *
    have HM := Lib.hid (show Mod Nn w (w.alloc (.cells #[.int .i64 v, .int .i64 S, .int .i64 s, .int .i64 u, .int .i64 j] 23)) from (Mod.refl Nn w).alloc _)
    go_enter Try.func35, Try.ntmps35
    go_wp2_with (first | ((with_reducible refine (lfrom_yes v 8 4096 _ c0.1 c0.2).mono ?_); rintro r w' ⟨rfl, rfl⟩) | ((with_reducible refine (lfrom_yes S 2 256 _ c2.1 c2.2).mono ?_); rintro r w' ⟨rfl, rfl⟩) | ((with_reducible refine (lfrom_no u 1 16 _ c3).mono ?_); rintro r w' ⟨rfl, rfl⟩))
    go_ret
    exact ⟨rfl, HM.out⟩
  by_cases c4 : max 16 (2 * (8 * g.u + 1)) ≤ g.s ∧ g.s ≤ 1024
  case neg =>
    rw [show decide g.right = false from decide_eq_false (fun h => by obtain ⟨⟨a1, a2, a3, a4, a5, a6, a7, a8, a9, a10, a11, a12⟩, a13⟩ := h; omega)]
    unfold gV at *
    obtain ⟨v, S, s, u, j⟩ := g
    simp only at *
    have HM := Lib.hid (show Mod Nn w (w.alloc (.cells #[.int .i64 v, .int .i64 S, .int .i64 s, .int .i64 u, .int .i64 j] 23)) from (Mod.refl Nn w).alloc _)
    go_enter Try.func35, Try.ntmps35
    go_wp2_with (first | ((with_reducible refine (lfrom_yes v 8 4096 _ c0.1 c0.2).mono ?_); rintro r w' ⟨rfl, rfl⟩) | ((with_reducible refine (lfrom_yes S 2 256 _ c2.1 c2.2).mono ?_); rintro r w' ⟨rfl, rfl⟩) | ((with_reducible refine (lfrom_yes u 1 16 _ c3.1 c3.2).mono ?_); rintro r w' ⟨rfl, rfl⟩) | ((with_reducible refine (lfrom_no s (max 16 (2 * (8 * u + 1))) 1024 _ c4).mono ?_); rintro r w' ⟨rfl, rfl⟩))
    go_ret
    exact ⟨rfl, HM.out⟩
  by_cases c5 : 8 ≤ g.j ∧ g.j ≤ 64
  case neg =>
    rw [show decide g.right = false from decide_eq_false (fun h => by obtain ⟨⟨a1, a2, a3, a4, a5, a6, a7, a8, a9, a10, a11, a12⟩, a13⟩ := h; omega)]
    unfold gV at *
    obtain ⟨v, S, s, u, j⟩ := g
    simp only at *
    have HM := Lib.hid (show Mod Nn w (w.alloc (.cells #[.int .i64 v, .int .i64 S, .int .i64 s, .int .i64 u, .int .i64 j] 23)) from (Mod.refl Nn w).alloc _)
    go_enter Try.func35, Try.ntmps35
    go_wp2_with (first | ((with_reducible refine (lfrom_yes v 8 4096 _ c0.1 c0.2).mono ?_); rintro r w' ⟨rfl, rfl⟩) | ((with_reducible refine (lfrom_yes S 2 256 _ c2.1 c2.2).mono ?_); rintro r w' ⟨rfl, rfl⟩) | ((with_reducible refine (lfrom_yes u 1 16 _ c3.1 c3.2).mono ?_); rintro r w' ⟨rfl, rfl⟩) | ((with_reducible refine (lfrom_yes s (max 16 (2 * (8 * u + 1))) 1024 _ c4.1 c4.2).mono ?_); rintro r w' ⟨rfl, rfl⟩) | ((with_reducible refine (lfrom_no j 8 64 _ c5).mono ?_); rintro r w' ⟨rfl, rfl⟩))
    go_ret
    exact ⟨rfl, HM.out⟩
  have hf : g.fields := by unfold Geo.fields; omega
  have HPL := Lib.hid (fun w => lplan_any g w hf)
  have hix : ∀ w : World, (Instr.index 68 (plan4 g) (.int .i64 3)).run Try.prog w = .ok (.int .i64 g.sectors) w := fun _ => by kernel_rfl
  generalize plan4 g = PL at *
  rw [show decide g.right = decide (g.sectors ≤ 262144) from by
    by_cases h : g.sectors ≤ 262144
    · rw [decide_eq_true h, decide_eq_true (show g.right from ⟨hf, h⟩)]
    · rw [decide_eq_false h, decide_eq_false (fun h' : g.right => h h'.2)]]
  generalize g.sectors = X at *
  clear hf
  unfold gV at *
  obtain ⟨v, S, s, u, j⟩ := g
  simp only at *
  have HM := Lib.hid (show Mod Nn w (w.alloc (.cells #[.int .i64 v, .int .i64 S, .int .i64 s, .int .i64 u, .int .i64 j] 23)) from (Mod.refl Nn w).alloc _)
  go_enter Try.func35, Try.ntmps35
  go_wp2_with (first | ((with_reducible refine (lfrom_yes v 8 4096 _ c0.1 c0.2).mono ?_); rintro r w' ⟨rfl, rfl⟩) | ((with_reducible refine (lfrom_yes S 2 256 _ c2.1 c2.2).mono ?_); rintro r w' ⟨rfl, rfl⟩) | ((with_reducible refine (lfrom_yes u 1 16 _ c3.1 c3.2).mono ?_); rintro r w' ⟨rfl, rfl⟩) | ((with_reducible refine (lfrom_yes s (max 16 (2 * (8 * u + 1))) 1024 _ c4.1 c4.2).mono ?_); rintro r w' ⟨rfl, rfl⟩) | ((with_reducible refine (lfrom_yes j 8 64 _ c5.1 c5.2).mono ?_); rintro r w' ⟨rfl, rfl⟩) | ((with_reducible refine (HPL.out _).mono ?_); rintro r w9 ⟨rfl, m9⟩; have HM9 := Lib.hid (HM.out.nn_ m9); clear m9))
  go_ret
  exact ⟨rfl, HM9.out⟩
theorem lright_yes (g : Geo) (w : World) (h : g.right) : Calls Try.prog 35 #[gV g] w fun e w' => e = .returned (.bool true) ∧ Mod Nn w w' := by
  have := lright_any g w
  rwa [decide_eq_true h] at this
theorem lright_no (g : Geo) (w : World) (h : ¬ g.right) : Calls Try.prog 35 #[gV g] w fun e w' => e = .returned (.bool false) ∧ Mod Nn w w' := by
  have := lright_any g w
  rwa [decide_eq_false h] at this
end
end Go.Proofs.Ytijmkbhbpbkkoaa
