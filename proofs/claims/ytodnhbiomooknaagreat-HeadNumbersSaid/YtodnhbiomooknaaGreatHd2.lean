/- layout.Right, Pages. -/
import Derived.Test.YtodnhbiomooknaaGreatHd1
namespace Go.Proofs.YtodnhbiomooknaaGreat
open Go.RowKit

section
variable {w : World}
set_option maxRecDepth 100000 in
set_option maxHeartbeats 3200000 in
theorem lright_any (g : Geo) (w : World) : Calls Tryz.prog 66 #[gV g] w fun e w' => e = .returned (.bool (decide g.right)) ∧ Mod Nn w w' := by
  by_cases c0 : 8 ≤ g.v ∧ g.v ≤ 4096
  case neg =>
    rw [show decide g.right = false from decide_eq_false (fun h => by obtain ⟨⟨a1, a2, a3, a4, a5, a6, a7, a8, a9, a10, a11, a12⟩, a13⟩ := h; omega)]
    unfold gV at *
    obtain ⟨v, S, s, u, j⟩ := g
    simp only at *
    have HM := Lib.hid (show Mod Nn w (w.alloc (.cells #[.int .i64 v, .int .i64 S, .int .i64 s, .int .i64 u, .int .i64 j] 23)) from (Mod.refl Nn w).alloc _)
    go_enter Tryz.func66, Tryz.ntmps66
    go_wp2_with (first | ((with_reducible refine (lfrom_no v 8 4096 _ c0).mono ?_); rintro r w' ⟨rfl, rfl⟩))
    go_ret
    exact ⟨rfl, HM.out⟩
  by_cases c1 : g.v % 8 = 0
  case neg =>
    rw [show decide g.right = false from decide_eq_false (fun h => by obtain ⟨⟨a1, a2, a3, a4, a5, a6, a7, a8, a9, a10, a11, a12⟩, a13⟩ := h; omega)]
    unfold gV at *
    obtain ⟨v, S, s, u, j⟩ := g
    simp only at *
    have HM := Lib.hid (show Mod Nn w (w.alloc (.cells #[.int .i64 v, .int .i64 S, .int .i64 s, .int .i64 u, .int .i64 j] 23)) from (Mod.refl Nn w).alloc _)
    go_enter Tryz.func66, Tryz.ntmps66
    go_wp2_with (first | ((with_reducible refine (lfrom_yes v 8 4096 _ c0.1 c0.2).mono ?_); rintro r w' ⟨rfl, rfl⟩))
    go_ret
    exact ⟨rfl, HM.out⟩
  by_cases c2 : 2 ≤ g.S ∧ g.S ≤ 256
  case neg =>
    rw [show decide g.right = false from decide_eq_false (fun h => by obtain ⟨⟨a1, a2, a3, a4, a5, a6, a7, a8, a9, a10, a11, a12⟩, a13⟩ := h; omega)]
    unfold gV at *
    obtain ⟨v, S, s, u, j⟩ := g
    simp only at *
    have HM := Lib.hid (show Mod Nn w (w.alloc (.cells #[.int .i64 v, .int .i64 S, .int .i64 s, .int .i64 u, .int .i64 j] 23)) from (Mod.refl Nn w).alloc _)
    go_enter Tryz.func66, Tryz.ntmps66
    go_wp2_with (first | ((with_reducible refine (lfrom_yes v 8 4096 _ c0.1 c0.2).mono ?_); rintro r w' ⟨rfl, rfl⟩) | ((with_reducible refine (lfrom_no S 2 256 _ c2).mono ?_); rintro r w' ⟨rfl, rfl⟩))
    go_ret
    exact ⟨rfl, HM.out⟩
  by_cases c3 : 1 ≤ g.u ∧ g.u ≤ 16
  case neg =>
    rw [show decide g.right = false from decide_eq_false (fun h => by obtain ⟨⟨a1, a2, a3, a4, a5, a6, a7, a8, a9, a10, a11, a12⟩, a13⟩ := h; omega)]
    unfold gV at *
    obtain ⟨v, S, s, u, j⟩ := g
    simp only at *
    have HM := Lib.hid (show Mod Nn w (w.alloc (.cells #[.int .i64 v, .int .i64 S, .int .i64 s, .int .i64 u, .int .i64 j] 23)) from (Mod.refl Nn w).alloc _)
    go_enter Tryz.func66, Tryz.ntmps66
    go_wp2_with (first | ((with_reducible refine (lfrom_yes v 8 4096 _ c0.1 c0.2).mono ?_); rintro r w' ⟨rfl, rfl⟩) | ((with_reducible refine (lfrom_yes S 2 256 _ c2.1 c2.2).mono ?_); rintro r w' ⟨rfl, rfl⟩) | ((with_reducible refine (lfrom_no u 1 16 _ c3).mono ?_); rintro r w' ⟨rfl, rfl⟩))
    go_ret
    exact ⟨rfl, HM.out⟩
  by_cases c4 : max 16 (2 * (8 * g.u + 1)) ≤ g.s ∧ g.s ≤ 1024
  case neg =>
    rw [show decide g.right = false from decide_eq_false (fun h => by obtain ⟨⟨a1, a2, a3, a4, a5, a6, a7, a8, a9, a10, a11, a12⟩, a13⟩ := h; omega)]
    unfold gV at *
    obtain ⟨v, S, s, u, j⟩ := g
    simp only at *
    have HM := Lib.hid (show Mod Nn w (w.alloc (.cells #[.int .i64 v, .int .i64 S, .int .i64 s, .int .i64 u, .int .i64 j] 23)) from (Mod.refl Nn w).alloc _)
    go_enter Tryz.func66, Tryz.ntmps66
    go_wp2_with (first | ((with_reducible refine (lfrom_yes v 8 4096 _ c0.1 c0.2).mono ?_); rintro r w' ⟨rfl, rfl⟩) | ((with_reducible refine (lfrom_yes S 2 256 _ c2.1 c2.2).mono ?_); rintro r w' ⟨rfl, rfl⟩) | ((with_reducible refine (lfrom_yes u 1 16 _ c3.1 c3.2).mono ?_); rintro r w' ⟨rfl, rfl⟩) | ((with_reducible refine (lfrom_no s (max 16 (2 * (8 * u + 1))) 1024 _ c4).mono ?_); rintro r w' ⟨rfl, rfl⟩))
    go_ret
    exact ⟨rfl, HM.out⟩
  by_cases c5 : 8 ≤ g.j ∧ g.j ≤ 64
  case neg =>
    rw [show decide g.right = false from decide_eq_false (fun h => by obtain ⟨⟨a1, a2, a3, a4, a5, a6, a7, a8, a9, a10, a11, a12⟩, a13⟩ := h; omega)]
    unfold gV at *
    obtain ⟨v, S, s, u, j⟩ := g
    simp only at *
    have HM := Lib.hid (show Mod Nn w (w.alloc (.cells #[.int .i64 v, .int .i64 S, .int .i64 s, .int .i64 u, .int .i64 j] 23)) from (Mod.refl Nn w).alloc _)
    go_enter Tryz.func66, Tryz.ntmps66
    go_wp2_with (first | ((with_reducible refine (lfrom_yes v 8 4096 _ c0.1 c0.2).mono ?_); rintro r w' ⟨rfl, rfl⟩) | ((with_reducible refine (lfrom_yes S 2 256 _ c2.1 c2.2).mono ?_); rintro r w' ⟨rfl, rfl⟩) | ((with_reducible refine (lfrom_yes u 1 16 _ c3.1 c3.2).mono ?_); rintro r w' ⟨rfl, rfl⟩) | ((with_reducible refine (lfrom_yes s (max 16 (2 * (8 * u + 1))) 1024 _ c4.1 c4.2).mono ?_); rintro r w' ⟨rfl, rfl⟩) | ((with_reducible refine (lfrom_no j 8 64 _ c5).mono ?_); rintro r w' ⟨rfl, rfl⟩))
    go_ret
    exact ⟨rfl, HM.out⟩
  have hf : g.fields := by unfold Geo.fields; omega
  have HPL := Lib.hid (fun w => lplan_any g w hf)
  have hix : ∀ w : World, (Instr.index 192 (plan4 g) (.int .i64 3)).run Tryz.prog w = .ok (.int .i64 g.sectors) w := fun _ => by kernel_rfl
  generalize plan4 g = PL at *
  rw [show decide g.right = decide (g.sectors ≤ 262144) from by
    by_cases h : g.sectors ≤ 262144
    · rw [decide_eq_true h, decide_eq_true (show g.right from ⟨hf, h⟩)]
    · rw [decide_eq_false h, decide_eq_false (fun h' : g.right => h h'.2)]]
  generalize g.sectors = X at *
  clear hf
  unfold gV at *
  obtain ⟨v, S, s, u, j⟩ := g
  simp only at *
  have HM := Lib.hid (show Mod Nn w (w.alloc (.cells #[.int .i64 v, .int .i64 S, .int .i64 s, .int .i64 u, .int .i64 j] 23)) from (Mod.refl Nn w).alloc _)
  go_enter Tryz.func66, Tryz.ntmps66
  go_wp2_with (first | ((with_reducible refine (lfrom_yes v 8 4096 _ c0.1 c0.2).mono ?_); rintro r w' ⟨rfl, rfl⟩) | ((with_reducible refine (lfrom_yes S 2 256 _ c2.1 c2.2).mono ?_); rintro r w' ⟨rfl, rfl⟩) | ((with_reducible refine (lfrom_yes u 1 16 _ c3.1 c3.2).mono ?_); rintro r w' ⟨rfl, rfl⟩) | ((with_reducible refine (lfrom_yes s (max 16 (2 * (8 * u + 1))) 1024 _ c4.1 c4.2).mono ?_); rintro r w' ⟨rfl, rfl⟩) | ((with_reducible refine (lfrom_yes j 8 64 _ c5.1 c5.2).mono ?_); rintro r w' ⟨rfl, rfl⟩) | ((with_reducible refine (HPL.out _).mono ?_); rintro r w9 ⟨rfl, m9⟩; have HM9 := Lib.hid (HM.out.nn_ m9); clear m9))
  go_ret
  exact ⟨rfl, HM9.out⟩
theorem lright_yes (g : Geo) (w : World) (h : g.right) : Calls Tryz.prog 66 #[gV g] w fun e w' => e = .returned (.bool true) ∧ Mod Nn w w' := by
  have := lright_any g w
  rwa [decide_eq_true h] at this
theorem lright_no (g : Geo) (w : World) (h : ¬ g.right) : Calls Tryz.prog 66 #[gV g] w fun e w' => e = .returned (.bool false) ∧ Mod Nn w w' := by
  have := lright_any g w
  rwa [decide_eq_false h] at this
set_option maxRecDepth 100000 in
theorem lnpages_any (g : Geo) (w : World) : Calls Tryz.prog 31 #[gV g] w fun e w' => e = .returned (.int .i64 g.npages) ∧ Mod Nn w w' := by
  have m1 : Mod Nn w (w.alloc (.cells (gC g) 23)) := (Mod.refl Nn w).alloc _
  have b1 : Blk (w.alloc (.cells (gC g) 23)) w.heap.size 23 (gC g) := Blk.new _ _ _
  have H1 := Lib.hid (And.intro m1 b1)
  clear m1 b1
  by_cases h : g.right
  · rw [show g.npages = g.pages from if_pos h]
    have HR := Lib.hid (fun w => lright_yes g w h)
    have HP := Lib.hid (fun w => lpages_any g w h.1)
    generalize g.pages = X at *
    unfold gV gC at *
    go_enter Tryz.func31, Tryz.ntmps31
    go_wp2_with (first
      | (with_reducible change wpList _ _ _ (⟨some 3, Op.load _ _, _, _, _, _⟩ :: _) _ _
         go_must (refine wpList_load_var 23 _ rfl rfl w.heap.size #[.int .i64 g.v, .int .i64 g.S, .int .i64 g.s, .int .i64 g.u, .int .i64 g.j] _ _ rfl H1.out.2 Tryz.underlying23 rfl size_geo ?_))
      | ((with_reducible refine (HR.out _).mono ?_); rintro r w2 ⟨rfl, m2⟩
         have H2 := Lib.hid (And.intro (H1.out.1.nn_ m2) (H1.out.2.mod m2 (fun f => f))); clear m2)
      | (with_reducible change wpList _ _ _ (⟨some 6, Op.load _ _, _, _, _, _⟩ :: _) _ _
         go_must (refine wpList_load_var 23 _ rfl rfl w.heap.size #[.int .i64 g.v, .int .i64 g.S, .int .i64 g.s, .int .i64 g.u, .int .i64 g.j] _ _ rfl H2.out.2 Tryz.underlying23 rfl size_geo ?_))
      | ((with_reducible refine (HP.out _).mono ?_); rintro r w3 ⟨rfl, m3⟩
         have H3 := Lib.hid (H2.out.1.nn_ m3); clear m3))
    go_ret
    exact ⟨rfl, H3.out⟩
  · rw [show g.npages = 0 from if_neg h]
    have HR := Lib.hid (fun w => lright_no g w h)
    unfold gV gC at *
    go_enter Tryz.func31, Tryz.ntmps31
    go_wp2_with (first
      | (with_reducible change wpList _ _ _ (⟨some 3, Op.load _ _, _, _, _, _⟩ :: _) _ _
         go_must (refine wpList_load_var 23 _ rfl rfl w.heap.size #[.int .i64 g.v, .int .i64 g.S, .int .i64 g.s, .int .i64 g.u, .int .i64 g.j] _ _ rfl H1.out.2 Tryz.underlying23 rfl size_geo ?_))
      | ((with_reducible refine (HR.out _).mono ?_); rintro r w2 ⟨rfl, m2⟩
         have H2 := Lib.hid (H1.out.1.nn_ m2); clear m2))
    go_ret
    exact ⟨rfl, H2.out⟩
end
end Go.Proofs.YtodnhbiomooknaaGreat
