/- peatbankref11: pages, sectors, fields, Right (printed by wip/gen/hdref.py). -/
import Derived.Test.YtijmkbhbpbkkoaaHd2
namespace Go.Proofs.Ytijmkbhbpbkkoaa
open Go.RowKit

section
variable {w : World}
set_option maxRecDepth 100000 in
theorem rpages_any (g : Geo) (w : World) (h : g.fields) : Calls Try.prog 42 #[gV g] w fun e w' => e = .returned (.int .i64 g.pages) ∧ Mod Nn w w' := by
  have hp := Geo.prod h
  have hP : g.pages = 2 + (g.S * g.s + 9 * (g.v / 8) + 8) / 4 := rfl
  obtain ⟨h1, h2, h3, h4, h5, h6, h7, h8, h9, h10, h11, h12⟩ := h
  obtain ⟨v, S, s, u, j⟩ := g
  rw [hP]
  unfold gV
  simp only at *
  have M : Mod Nn w (w.alloc (.cells #[.int .i64 v, .int .i64 S, .int .i64 s, .int .i64 u, .int .i64 j] 23)) := (Mod.refl Nn w).alloc _
  have HM := Lib.hid M
  clear hP M
  go_enter Try.func42, Try.ntmps42
  go_wp2
  go_ret
  exact ⟨rfl, HM.out⟩
set_option maxRecDepth 100000 in
set_option maxHeartbeats 1600000 in
theorem rsectors_any (g : Geo) (w : World) (h : g.fields) : Calls Try.prog 27 #[gV g] w fun e w' => e = .returned (.int .i64 g.sectors) ∧ Mod Nn w w' := by
  have hp := Geo.prod h
  have hpg := Geo.pages_le h
  have hP : g.sectors = 2 + 2 * g.j + 4 * g.pages + g.S * g.s := rfl
  have HPG := Lib.hid (fun w => rpages_any g w h)
  obtain ⟨_, _, _, h4, h5, _, _, h8, _, h10, h11, h12⟩ := h
  rw [hP]
  generalize g.pages = pg at *
  generalize hps : g.S * g.s = ps at *
  have HPS := Lib.hid hps
  clear hps hP
  unfold gV at *
  obtain ⟨v, S, s, u, j⟩ := g
  simp only at *
  have m1 : Mod Nn w (w.alloc (.cells #[.int .i64 v, .int .i64 S, .int .i64 s, .int .i64 u, .int .i64 j] 23)) := (Mod.refl Nn w).alloc _
  have b1 : Blk (w.alloc (.cells #[.int .i64 v, .int .i64 S, .int .i64 s, .int .i64 u, .int .i64 j] 23)) w.heap.size 23 #[.int .i64 v, .int .i64 S, .int .i64 s, .int .i64 u, .int .i64 j] := Blk.new _ _ _
  have H1 := Lib.hid (And.intro m1 b1)
  clear m1 b1
  go_enter Try.func27, Try.ntmps27
  go_wp2_with fail
  refine wp_region_planC (fun w' => Blk w' w.heap.size 23 #[.int .i64 v, .int .i64 S, .int .i64 s, .int .i64 u, .int .i64 j]) [(0, true), (1, true), (2, true), (3, true), (4, true), (8, true), (9, true), (10, true), (11, true), (12, true), (5, false), (6, true), (7, true), (13, true), (14, true)] (by kernel_rfl) (by kernel_rfl) H1.out.2.drew ?_
  iterate 1 (refine pc_pure rfl rfl (fun K hK => ?_); go_simp; refine hK _ ?_; clear hK K)
  refine pc_take (.int .i64 j) rfl rfl (fun w' hS => exec_load1 (P := Try.prog) 3 _ rfl rfl (hS.cell 4) Try.underlying3 rfl) (fun K hK => ?_); go_simp; refine hK _ ?_; clear hK K
  iterate 2 (refine pc_pure rfl rfl (fun K hK => ?_); go_simp; refine hK _ ?_; clear hK K)
  refine pc_take _ rfl rfl (fun w' hS => exec_load_row (P := Try.prog) 23 _ rfl rfl hS Try.underlying23 rfl size_geo) (fun K hK => ?_); go_simp; refine hK _ ?_; clear hK K
  iterate 1 (refine pc_pure rfl rfl (fun K hK => ?_); go_simp; refine hK _ ?_; clear hK K)
  refine pc_take (.int .i64 S) rfl rfl (fun w' hS => exec_load1 (P := Try.prog) 3 _ rfl rfl (hS.cell 1) Try.underlying3 rfl) (fun K hK => ?_); go_simp; refine hK _ ?_; clear hK K
  iterate 1 (refine pc_pure rfl rfl (fun K hK => ?_); go_simp; refine hK _ ?_; clear hK K)
  refine pc_take (.int .i64 s) rfl rfl (fun w' hS => exec_load1 (P := Try.prog) 3 _ rfl rfl (hS.cell 2) Try.underlying3 rfl) (fun K hK => ?_); go_simp; refine hK _ ?_; clear hK K
  iterate 1 (refine pc_pure rfl rfl (fun K hK => ?_); go_simp; refine hK _ ?_; clear hK K)
  rw [show IntKind.i64.wrap (S * s) = ps from by rw [HPS.out, IntKind.wrap_i64]; omega]
  refine pc_call rfl rfl (fun K hK => ?_); go_simp; refine ⟨_, _, ⟨rfl, rfl⟩, hK _ _ _ ?_⟩; clear hK K
  refine (HPG.out _).mono ?_
  rintro r w4 ⟨rfl, m4⟩
  refine ⟨_, rfl, H1.out.2.drew.mod m4 (fun f => f), ?_⟩
  iterate 4 (refine pc_pure rfl rfl (fun K hK => ?_); go_simp; refine hK _ ?_; clear hK K)
  refine pc_nil ?_
  have HM := Lib.hid (H1.out.1.drew.nn_ m4)
  have HW := Lib.hid (show IntKind.i64.wrap (IntKind.i64.wrap (IntKind.i64.wrap (2 + IntKind.i64.wrap (2 * j)) + IntKind.i64.wrap (4 * pg)) + ps) = 2 + 2 * j + 4 * pg + ps from by simp only [IntKind.wrap_i64]; omega)
  go_wp2
  rw [HW.out]
  go_ret
  exact ⟨rfl, HM.out⟩
set_option maxRecDepth 100000 in
set_option maxHeartbeats 6400000 in
theorem rfields_any (g : Geo) (w : World) : Calls Try.prog 41 #[gV g] w fun e w' => e = .returned (.bool (decide g.fields)) ∧ Mod Nn w w' := by
  have HF := Lib.hid (show g.fields ↔ 8 ≤ g.v ∧ g.v ≤ 4096 ∧ g.v % 8 = 0 ∧ 2 ≤ g.S ∧ g.S ≤ 256 ∧ 1 ≤ g.u ∧ g.u ≤ 16 ∧ 16 ≤ g.s ∧ 2 * (8 * g.u + 1) ≤ g.s ∧ g.s ≤ 1024 ∧ 8 ≤ g.j ∧ g.j ≤ 64 from Iff.rfl)
  obtain ⟨F, hF⟩ : ∃ F, decide g.fields = F := ⟨_, rfl⟩
  rw [hF]
  have HFF := Lib.hid hF
  clear hF
  unfold gV at *
  obtain ⟨v, S, s, u, j⟩ := g
  have HM := Lib.hid (show Mod Nn w (w.alloc (.cells #[.int .i64 v, .int .i64 S, .int .i64 s, .int .i64 u, .int .i64 j] 23)) from (Mod.refl Nn w).alloc _)
  simp only at *
  by_cases c0 : v < 8
  · obtain rfl : F = false := by rw [← HFF.out]; exact decide_eq_false (fun h => by have := HF.out.1 h; omega)
    go_enter Try.func41, Try.ntmps41
    go_wp2
    go_ret
    exact ⟨rfl, HM.out⟩
  by_cases c1 : 4096 < v
  · obtain rfl : F = false := by rw [← HFF.out]; exact decide_eq_false (fun h => by have := HF.out.1 h; omega)
    have e1 : v > 4096 := c1
    go_enter Try.func41, Try.ntmps41
    go_wp2
    go_ret
    exact ⟨rfl, HM.out⟩
  have e1 : ¬ v > 4096 := c1
  by_cases c2 : v % 8 ≠ 0
  · obtain rfl : F = false := by rw [← HFF.out]; exact decide_eq_false (fun h => by have := HF.out.1 h; omega)
    go_enter Try.func41, Try.ntmps41
    go_wp2
    go_ret
    exact ⟨rfl, HM.out⟩
  have d2 : v % 8 = 0 := Decidable.not_not.1 c2
  by_cases c3 : S < 2
  · obtain rfl : F = false := by rw [← HFF.out]; exact decide_eq_false (fun h => by have := HF.out.1 h; omega)
    go_enter Try.func41, Try.ntmps41
    go_wp2
    go_ret
    exact ⟨rfl, HM.out⟩
  by_cases c4 : 256 < S
  · obtain rfl : F = false := by rw [← HFF.out]; exact decide_eq_false (fun h => by have := HF.out.1 h; omega)
    have e4 : S > 256 := c4
    go_enter Try.func41, Try.ntmps41
    go_wp2
    go_ret
    exact ⟨rfl, HM.out⟩
  have e4 : ¬ S > 256 := c4
  by_cases c5 : u < 1
  · obtain rfl : F = false := by rw [← HFF.out]; exact decide_eq_false (fun h => by have := HF.out.1 h; omega)
    go_enter Try.func41, Try.ntmps41
    go_wp2
    go_ret
    exact ⟨rfl, HM.out⟩
  by_cases c6 : 16 < u
  · obtain rfl : F = false := by rw [← HFF.out]; exact decide_eq_false (fun h => by have := HF.out.1 h; omega)
    have e6 : u > 16 := c6
    go_enter Try.func41, Try.ntmps41
    go_wp2
    go_ret
    exact ⟨rfl, HM.out⟩
  have e6 : ¬ u > 16 := c6
  by_cases c7 : s < 16
  · obtain rfl : F = false := by rw [← HFF.out]; exact decide_eq_false (fun h => by have := HF.out.1 h; omega)
    go_enter Try.func41, Try.ntmps41
    go_wp2
    go_ret
    exact ⟨rfl, HM.out⟩
  by_cases c8 : 1024 < s
  · obtain rfl : F = false := by rw [← HFF.out]; exact decide_eq_false (fun h => by have := HF.out.1 h; omega)
    have e8 : s > 1024 := c8
    go_enter Try.func41, Try.ntmps41
    go_wp2
    go_ret
    exact ⟨rfl, HM.out⟩
  have e8 : ¬ s > 1024 := c8
  by_cases c9 : s < 2 * (8 * u + 1)
  · obtain rfl : F = false := by rw [← HFF.out]; exact decide_eq_false (fun h => by have := HF.out.1 h; omega)
    go_enter Try.func41, Try.ntmps41
    go_wp2
    go_ret
    exact ⟨rfl, HM.out⟩
  by_cases c10 : ¬ 8 ≤ j
  · obtain rfl : F = false := by rw [← HFF.out]; exact decide_eq_false (fun h => by have := HF.out.1 h; omega)
    have e10 : ¬ j ≥ 8 := c10
    go_enter Try.func41, Try.ntmps41
    go_wp2
    go_ret
    exact ⟨rfl, HM.out⟩
  have d10 : 8 ≤ j := Decidable.not_not.1 c10
  by_cases c11 : ¬ j ≤ 64
  · obtain rfl : F = false := by rw [← HFF.out]; exact decide_eq_false (fun h => by have := HF.out.1 h; omega)
    go_enter Try.func41, Try.ntmps41
    go_wp2
    go_ret
    exact ⟨rfl, HM.out⟩
  have d11 : j ≤ 64 := Decidable.not_not.1 c11
  obtain rfl : F = true := by rw [← HFF.out]; exact decide_eq_true (HF.out.2 (by omega))
  go_enter Try.func41, Try.ntmps41
  go_wp2
  go_ret
  exact ⟨rfl, HM.out⟩
set_option maxRecDepth 100000 in
theorem r11right_any (g : Geo) (w : World) : Calls Try.prog 26 #[gV g] w fun e w' => e = .returned (.bool (decide g.right)) ∧ Mod Nn w w' := by
  have m1 : Mod Nn w (w.alloc (.cells (gC g) 23)) := (Mod.refl Nn w).alloc _
  have b1 : Blk (w.alloc (.cells (gC g) 23)) w.heap.size 23 (gC g) := Blk.new _ _ _
  have H1 := Lib.hid (And.intro m1 b1)
  clear m1 b1
  have HR := Lib.hid (fun w => rfields_any g w)
  by_cases h : g.fields
  · have HP := Lib.hid (fun w => rsectors_any g w h)
    rw [decide_eq_true h] at HR
    rw [show decide g.right = decide (g.sectors ≤ 262144) from by
      by_cases e : g.sectors ≤ 262144
      · rw [decide_eq_true e, decide_eq_true (show g.right from ⟨h, e⟩)]
      · rw [decide_eq_false e, decide_eq_false (fun h' : g.right => e h'.2)]]
    generalize g.sectors = X at *
    unfold gV gC at *
    go_enter Try.func26, Try.ntmps26
    go_wp2_with (first
      | (with_reducible change wpList _ _ _ (⟨some 3, Op.load _ _, _, _, _, _⟩ :: _) _ _
         go_must (refine wpList_load_var 23 _ rfl rfl w.heap.size #[.int .i64 g.v, .int .i64 g.S, .int .i64 g.s, .int .i64 g.u, .int .i64 g.j] _ _ rfl H1.out.2 Try.underlying23 rfl size_geo ?_))
      | ((with_reducible refine (HR.out _).mono ?_); rintro r w2 ⟨rfl, m2⟩
         have C0 : w2.cell? ⟨w.heap.size, 0, none⟩ = some (.int .i64 g.v) := (H1.out.2.mod m2 (fun f => f)).cell 0
         have C1 : w2.cell? ⟨w.heap.size, 1, none⟩ = some (.int .i64 g.S) := (H1.out.2.mod m2 (fun f => f)).cell 1
         have C2 : w2.cell? ⟨w.heap.size, 2, none⟩ = some (.int .i64 g.s) := (H1.out.2.mod m2 (fun f => f)).cell 2
         have C3 : w2.cell? ⟨w.heap.size, 3, none⟩ = some (.int .i64 g.u) := (H1.out.2.mod m2 (fun f => f)).cell 3
         have C4 : w2.cell? ⟨w.heap.size, 4, none⟩ = some (.int .i64 g.j) := (H1.out.2.mod m2 (fun f => f)).cell 4
         have H2 := Lib.hid (And.intro (H1.out.1.nn_ m2) (H1.out.2.mod m2 (fun f => f))); clear m2)
      | ((with_reducible refine (HP.out _).mono ?_); rintro r w3 ⟨rfl, m3⟩
         have H3 := Lib.hid (H2.out.1.nn_ m3); clear m3))
    go_ret
    exact ⟨rfl, H3.out⟩
  · rw [decide_eq_false h] at HR
    rw [show decide g.right = false from decide_eq_false (fun h' => h h'.1)]
    unfold gV gC at *
    go_enter Try.func26, Try.ntmps26
    go_wp2_with (first
      | (with_reducible change wpList _ _ _ (⟨some 3, Op.load _ _, _, _, _, _⟩ :: _) _ _
         go_must (refine wpList_load_var 23 _ rfl rfl w.heap.size #[.int .i64 g.v, .int .i64 g.S, .int .i64 g.s, .int .i64 g.u, .int .i64 g.j] _ _ rfl H1.out.2 Try.underlying23 rfl size_geo ?_))
      | ((with_reducible refine (HR.out _).mono ?_); rintro r w2 ⟨rfl, m2⟩
         have H2 := Lib.hid (H1.out.1.nn_ m2); clear m2))
    go_ret
    exact ⟨rfl, H2.out⟩
end
end Go.Proofs.Ytijmkbhbpbkkoaa
