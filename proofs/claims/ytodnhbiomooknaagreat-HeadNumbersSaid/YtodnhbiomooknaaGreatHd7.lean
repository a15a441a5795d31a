/- peatbankref12.Right (printed by wip/gen/hdref2.py). -/
import Derived.Test.YtodnhbiomooknaaGreatHd6
namespace Go.Proofs.YtodnhbiomooknaaGreat
open Go.RowKit

section
variable {w : World}
set_option maxRecDepth 100000 in
set_option maxHeartbeats 6400000 in
theorem r12right_any (h : Hd) (w : World) : Calls Tryz.prog 19 #[hdV h] w fun e w' => e = .returned (.bool (decide h.right)) ∧ Mod Nn w w' := by
  unfold hdV
  have m1 : Mod Nn w (w.alloc (.cells (hC h) 25)) := (Mod.refl Nn w).alloc _
  have b1 : Blk (w.alloc (.cells (hC h) 25)) w.heap.size 25 (hC h) := Blk.new _ _ _
  have H1 := Lib.hid (And.intro m1 b1)
  have HN := Lib.hid (npages_le h.g)
  have HG := Lib.hid (drop_geo h)
  clear m1 b1
  have HR := Lib.hid (fun w => r11right_any h.g w)
  unfold gV at HR
  obtain ⟨F, hF⟩ : ∃ F, decide h.right = F := ⟨_, rfl⟩
  rw [hF]
  have HF := Lib.hid hF
  clear hF
  by_cases c0 : h.g.right
  case neg =>
    obtain rfl : F = false := by rw [← HF.out]; exact decide_eq_false (fun e => c0 e.1.1)
    rw [decide_eq_false c0] at HR
    go_enter Tryz.func19, Tryz.ntmps19
    go_wp2_with (first
        | (with_reducible change wpList _ _ _ (⟨some 4, Op.load _ _, _, _, _, _⟩ :: _) _ _
           go_must (refine wpList_val rfl (exec_load_cells (P := Tryz.prog) 23 _ rfl rfl (fun j v hj => (H1.out.2.cell (0 + j)).trans (HG.out j v hj)) Tryz.underlying23 rfl size_geo) ?_))
        | ((with_reducible refine (HR.out _).mono ?_); rintro r w2 ⟨rfl, m2⟩
           have C5 : w2.cell? ⟨w.heap.size, 5, none⟩ = some (.int .i64 h.n) := (H1.out.2.mod m2 (fun f => f)).cell 5
           have C8 : w2.cell? ⟨w.heap.size, 8, none⟩ = some (.int .i64 h.k) := (H1.out.2.mod m2 (fun f => f)).cell 8
           have H2 := Lib.hid (And.intro (H1.out.1.nn_ m2) (H1.out.2.mod m2 (fun f => f))); clear m2))
    go_ret
    exact ⟨rfl, H2.out.1⟩
  rw [decide_eq_true c0] at HR
  by_cases c1 : h.n < 0
  case pos =>
    obtain rfl : F = false := by rw [← HF.out]; exact decide_eq_false (fun e => by obtain ⟨⟨_, _, _, _, _, _, _⟩, _, _⟩ := e; omega)
    go_enter Tryz.func19, Tryz.ntmps19
    go_wp2_with (first
        | (with_reducible change wpList _ _ _ (⟨some 4, Op.load _ _, _, _, _, _⟩ :: _) _ _
           go_must (refine wpList_val rfl (exec_load_cells (P := Tryz.prog) 23 _ rfl rfl (fun j v hj => (H1.out.2.cell (0 + j)).trans (HG.out j v hj)) Tryz.underlying23 rfl size_geo) ?_))
        | ((with_reducible refine (HR.out _).mono ?_); rintro r w2 ⟨rfl, m2⟩
           have C5 : w2.cell? ⟨w.heap.size, 5, none⟩ = some (.int .i64 h.n) := (H1.out.2.mod m2 (fun f => f)).cell 5
           have C8 : w2.cell? ⟨w.heap.size, 8, none⟩ = some (.int .i64 h.k) := (H1.out.2.mod m2 (fun f => f)).cell 8
           have H2 := Lib.hid (And.intro (H1.out.1.nn_ m2) (H1.out.2.mod m2 (fun f => f))); clear m2))
    go_ret
    exact ⟨rfl, H2.out.1⟩
  by_cases c2 : 1099511627776 < h.n
  case pos =>
    obtain rfl : F = false := by rw [← HF.out]; exact decide_eq_false (fun e => by obtain ⟨⟨_, _, _, _, _, _, _⟩, _, _⟩ := e; omega)
    have e2 : h.n > 1099511627776 := c2
    go_enter Tryz.func19, Tryz.ntmps19
    go_wp2_with (first
        | (with_reducible change wpList _ _ _ (⟨some 4, Op.load _ _, _, _, _, _⟩ :: _) _ _
           go_must (refine wpList_val rfl (exec_load_cells (P := Tryz.prog) 23 _ rfl rfl (fun j v hj => (H1.out.2.cell (0 + j)).trans (HG.out j v hj)) Tryz.underlying23 rfl size_geo) ?_))
        | ((with_reducible refine (HR.out _).mono ?_); rintro r w2 ⟨rfl, m2⟩
           have C5 : w2.cell? ⟨w.heap.size, 5, none⟩ = some (.int .i64 h.n) := (H1.out.2.mod m2 (fun f => f)).cell 5
           have C8 : w2.cell? ⟨w.heap.size, 8, none⟩ = some (.int .i64 h.k) := (H1.out.2.mod m2 (fun f => f)).cell 8
           have H2 := Lib.hid (And.intro (H1.out.1.nn_ m2) (H1.out.2.mod m2 (fun f => f))); clear m2))
    go_ret
    exact ⟨rfl, H2.out.1⟩
  have e2 : ¬ h.n > 1099511627776 := c2
  by_cases c3 : h.k < 1
  case pos =>
    obtain rfl : F = false := by rw [← HF.out]; exact decide_eq_false (fun e => by obtain ⟨⟨_, _, _, _, _, _, _⟩, _, _⟩ := e; omega)
    go_enter Tryz.func19, Tryz.ntmps19
    go_wp2_with (first
        | (with_reducible change wpList _ _ _ (⟨some 4, Op.load _ _, _, _, _, _⟩ :: _) _ _
           go_must (refine wpList_val rfl (exec_load_cells (P := Tryz.prog) 23 _ rfl rfl (fun j v hj => (H1.out.2.cell (0 + j)).trans (HG.out j v hj)) Tryz.underlying23 rfl size_geo) ?_))
        | ((with_reducible refine (HR.out _).mono ?_); rintro r w2 ⟨rfl, m2⟩
           have C5 : w2.cell? ⟨w.heap.size, 5, none⟩ = some (.int .i64 h.n) := (H1.out.2.mod m2 (fun f => f)).cell 5
           have C8 : w2.cell? ⟨w.heap.size, 8, none⟩ = some (.int .i64 h.k) := (H1.out.2.mod m2 (fun f => f)).cell 8
           have H2 := Lib.hid (And.intro (H1.out.1.nn_ m2) (H1.out.2.mod m2 (fun f => f))); clear m2))
    go_ret
    exact ⟨rfl, H2.out.1⟩
  by_cases c4 : 1073741824 < h.k
  case pos =>
    obtain rfl : F = false := by rw [← HF.out]; exact decide_eq_false (fun e => by obtain ⟨⟨_, _, _, _, _, _, _⟩, _, _⟩ := e; omega)
    have e4 : h.k > 1073741824 := c4
    go_enter Tryz.func19, Tryz.ntmps19
    go_wp2_with (first
        | (with_reducible change wpList _ _ _ (⟨some 4, Op.load _ _, _, _, _, _⟩ :: _) _ _
           go_must (refine wpList_val rfl (exec_load_cells (P := Tryz.prog) 23 _ rfl rfl (fun j v hj => (H1.out.2.cell (0 + j)).trans (HG.out j v hj)) Tryz.underlying23 rfl size_geo) ?_))
        | ((with_reducible refine (HR.out _).mono ?_); rintro r w2 ⟨rfl, m2⟩
           have C5 : w2.cell? ⟨w.heap.size, 5, none⟩ = some (.int .i64 h.n) := (H1.out.2.mod m2 (fun f => f)).cell 5
           have C8 : w2.cell? ⟨w.heap.size, 8, none⟩ = some (.int .i64 h.k) := (H1.out.2.mod m2 (fun f => f)).cell 8
           have H2 := Lib.hid (And.intro (H1.out.1.nn_ m2) (H1.out.2.mod m2 (fun f => f))); clear m2))
    go_ret
    exact ⟨rfl, H2.out.1⟩
  have e4 : ¬ h.k > 1073741824 := c4
  by_cases q1 : 1 ≤ h.p
  case neg =>
    obtain rfl : F = false := by rw [← HF.out]; exact decide_eq_false (fun e => by have := (inner_iff h).1 e.1; omega)
    have r1 : ¬ h.p ≥ 1 := q1
    go_enter Tryz.func19, Tryz.ntmps19
    go_wp2_with (first
        | (with_reducible change wpList _ _ _ (⟨some 4, Op.load _ _, _, _, _, _⟩ :: _) _ _
           go_must (refine wpList_val rfl (exec_load_cells (P := Tryz.prog) 23 _ rfl rfl (fun j v hj => (H1.out.2.cell (0 + j)).trans (HG.out j v hj)) Tryz.underlying23 rfl size_geo) ?_))
        | ((with_reducible refine (HR.out _).mono ?_); rintro r w2 ⟨rfl, m2⟩
           have C5 : w2.cell? ⟨w.heap.size, 5, none⟩ = some (.int .i64 h.n) := (H1.out.2.mod m2 (fun f => f)).cell 5
           have C8 : w2.cell? ⟨w.heap.size, 8, none⟩ = some (.int .i64 h.k) := (H1.out.2.mod m2 (fun f => f)).cell 8
           have H2 := Lib.hid (And.intro (H1.out.1.nn_ m2) (H1.out.2.mod m2 (fun f => f))); clear m2))
    refine wp_region_planC (fun w' => Blk w' w.heap.size 25 (hC h)) [(0, true), (1, true), (2, true), (3, true), (4, true), (5, true), (6, true), (7, true), (8, false), (9, true), (10, true), (11, true), (12, true), (13, true), (14, true), (15, true), (16, true), (17, true), (18, true), (19, true), (20, true), (21, true), (22, true), (23, true)] (by kernel_rfl) (by kernel_rfl) H2.out.2.drew ?_
    iterate 1 (refine pc_pure rfl rfl (fun K hK => ?_); go_simp; refine hK _ ?_; clear hK K)
    refine pc_take (.int .i64 h.p) rfl rfl (fun w' hS => exec_load1 (P := Tryz.prog) 3 _ rfl rfl (hS.cell 6) Tryz.underlying3 rfl) (fun K hK => ?_); go_simp; refine hK _ ?_; clear hK K
    iterate 1 (refine pc_pure rfl rfl (fun K hK => ?_); go_simp; refine hK _ ?_; clear hK K)
    try (first | rw [show decide (1 ≤ h.p) = false from decide_eq_false (by omega)] | rw [show decide (h.p ≥ 1) = false from decide_eq_false (by omega)])
    iterate 1 (refine pc_pure rfl rfl (fun K hK => ?_); go_simp; refine hK _ ?_; clear hK K)
    iterate 4 (refine pc_skip rfl rfl (fun K hK => ?_); go_simp; refine hK _ ?_; clear hK K)
    refine pc_skipD rfl rfl (fun K hK => ?_); go_simp; refine hK _ ?_; clear hK K
    refine pc_skip rfl rfl (fun K hK => ?_); go_simp; refine hK _ ?_; clear hK K
    iterate 2 (refine pc_pure rfl rfl (fun K hK => ?_); go_simp; refine hK _ ?_; clear hK K)
    iterate 3 (refine pc_skip rfl rfl (fun K hK => ?_); go_simp; refine hK _ ?_; clear hK K)
    iterate 2 (refine pc_pure rfl rfl (fun K hK => ?_); go_simp; refine hK _ ?_; clear hK K)
    iterate 5 (refine pc_skip rfl rfl (fun K hK => ?_); go_simp; refine hK _ ?_; clear hK K)
    iterate 2 (refine pc_pure rfl rfl (fun K hK => ?_); go_simp; refine hK _ ?_; clear hK K)
    refine pc_nil ?_
    go_wp2
    go_ret
    exact ⟨rfl, H2.out.1.drew⟩
  have r1 : h.p ≥ 1 := q1
  by_cases q2 : h.p ≤ h.g.npages
  case neg =>
    obtain rfl : F = false := by rw [← HF.out]; exact decide_eq_false (fun e => by have := (inner_iff h).1 e.1; omega)
    go_enter Tryz.func19, Tryz.ntmps19
    go_wp2_with (first
        | (with_reducible change wpList _ _ _ (⟨some 4, Op.load _ _, _, _, _, _⟩ :: _) _ _
           go_must (refine wpList_val rfl (exec_load_cells (P := Tryz.prog) 23 _ rfl rfl (fun j v hj => (H1.out.2.cell (0 + j)).trans (HG.out j v hj)) Tryz.underlying23 rfl size_geo) ?_))
        | ((with_reducible refine (HR.out _).mono ?_); rintro r w2 ⟨rfl, m2⟩
           have C5 : w2.cell? ⟨w.heap.size, 5, none⟩ = some (.int .i64 h.n) := (H1.out.2.mod m2 (fun f => f)).cell 5
           have C8 : w2.cell? ⟨w.heap.size, 8, none⟩ = some (.int .i64 h.k) := (H1.out.2.mod m2 (fun f => f)).cell 8
           have H2 := Lib.hid (And.intro (H1.out.1.nn_ m2) (H1.out.2.mod m2 (fun f => f))); clear m2))
    refine wp_region_planC (fun w' => Blk w' w.heap.size 25 (hC h)) [(0, true), (1, true), (2, true), (3, true), (4, true), (5, true), (6, true), (7, true), (8, false), (9, true), (10, true), (11, true), (12, true), (13, true), (14, true), (15, true), (16, true), (17, true), (18, true), (19, true), (20, true), (21, true), (22, true), (23, true)] (by kernel_rfl) (by kernel_rfl) H2.out.2.drew ?_
    iterate 1 (refine pc_pure rfl rfl (fun K hK => ?_); go_simp; refine hK _ ?_; clear hK K)
    refine pc_take (.int .i64 h.p) rfl rfl (fun w' hS => exec_load1 (P := Tryz.prog) 3 _ rfl rfl (hS.cell 6) Tryz.underlying3 rfl) (fun K hK => ?_); go_simp; refine hK _ ?_; clear hK K
    iterate 1 (refine pc_pure rfl rfl (fun K hK => ?_); go_simp; refine hK _ ?_; clear hK K)
    try (first | rw [show decide (1 ≤ h.p) = true from decide_eq_true (by omega)] | rw [show decide (h.p ≥ 1) = true from decide_eq_true (by omega)])
    iterate 1 (refine pc_pure rfl rfl (fun K hK => ?_); go_simp; refine hK _ ?_; clear hK K)
    iterate 1 (refine pc_pure rfl rfl (fun K hK => ?_); go_simp; refine hK _ ?_; clear hK K)
    refine pc_take (.int .i64 h.p) rfl rfl (fun w' hS => exec_load1 (P := Tryz.prog) 3 _ rfl rfl (hS.cell 6) Tryz.underlying3 rfl) (fun K hK => ?_); go_simp; refine hK _ ?_; clear hK K
    iterate 1 (refine pc_pure rfl rfl (fun K hK => ?_); go_simp; refine hK _ ?_; clear hK K)
    refine pc_take _ rfl rfl (fun w' hS => exec_load_cells (P := Tryz.prog) 23 _ rfl rfl (fun j v hj => (hS.cell (0 + j)).trans (HG.out j v hj)) Tryz.underlying23 rfl size_geo) (fun K hK => ?_); go_simp; refine hK _ ?_; clear hK K
    refine pc_call rfl rfl (fun K hK => ?_); go_simp; refine ⟨_, _, ⟨rfl, rfl⟩, hK _ _ _ ?_⟩; clear hK K
    refine (r11pages_any h.g _).mono ?_
    rintro r w3 ⟨rfl, m3⟩
    have H3 := Lib.hid (And.intro (H2.out.1.drew.nn_ m3) (H2.out.2.drew.mod m3 (fun f => f)))
    clear m3
    refine ⟨_, rfl, H3.out.2, ?_⟩
    iterate 1 (refine pc_pure rfl rfl (fun K hK => ?_); go_simp; refine hK _ ?_; clear hK K)
    try (first | rw [show decide (h.p ≤ h.g.npages) = false from decide_eq_false (by omega)])
    iterate 2 (refine pc_pure rfl rfl (fun K hK => ?_); go_simp; refine hK _ ?_; clear hK K)
    iterate 3 (refine pc_skip rfl rfl (fun K hK => ?_); go_simp; refine hK _ ?_; clear hK K)
    iterate 2 (refine pc_pure rfl rfl (fun K hK => ?_); go_simp; refine hK _ ?_; clear hK K)
    iterate 5 (refine pc_skip rfl rfl (fun K hK => ?_); go_simp; refine hK _ ?_; clear hK K)
    iterate 2 (refine pc_pure rfl rfl (fun K hK => ?_); go_simp; refine hK _ ?_; clear hK K)
    refine pc_nil ?_
    go_wp2
    go_ret
    exact ⟨rfl, H3.out.1⟩
  by_cases q3 : 0 ≤ h.r
  case neg =>
    obtain rfl : F = false := by rw [← HF.out]; exact decide_eq_false (fun e => by have := (inner_iff h).1 e.1; omega)
    have r3 : ¬ h.r ≥ 0 := q3
    go_enter Tryz.func19, Tryz.ntmps19
    go_wp2_with (first
        | (with_reducible change wpList _ _ _ (⟨some 4, Op.load _ _, _, _, _, _⟩ :: _) _ _
           go_must (refine wpList_val rfl (exec_load_cells (P := Tryz.prog) 23 _ rfl rfl (fun j v hj => (H1.out.2.cell (0 + j)).trans (HG.out j v hj)) Tryz.underlying23 rfl size_geo) ?_))
        | ((with_reducible refine (HR.out _).mono ?_); rintro r w2 ⟨rfl, m2⟩
           have C5 : w2.cell? ⟨w.heap.size, 5, none⟩ = some (.int .i64 h.n) := (H1.out.2.mod m2 (fun f => f)).cell 5
           have C8 : w2.cell? ⟨w.heap.size, 8, none⟩ = some (.int .i64 h.k) := (H1.out.2.mod m2 (fun f => f)).cell 8
           have H2 := Lib.hid (And.intro (H1.out.1.nn_ m2) (H1.out.2.mod m2 (fun f => f))); clear m2))
    refine wp_region_planC (fun w' => Blk w' w.heap.size 25 (hC h)) [(0, true), (1, true), (2, true), (3, true), (4, true), (5, true), (6, true), (7, true), (8, false), (9, true), (10, true), (11, true), (12, true), (13, true), (14, true), (15, true), (16, true), (17, true), (18, true), (19, true), (20, true), (21, true), (22, true), (23, true)] (by kernel_rfl) (by kernel_rfl) H2.out.2.drew ?_
    iterate 1 (refine pc_pure rfl rfl (fun K hK => ?_); go_simp; refine hK _ ?_; clear hK K)
    refine pc_take (.int .i64 h.p) rfl rfl (fun w' hS => exec_load1 (P := Tryz.prog) 3 _ rfl rfl (hS.cell 6) Tryz.underlying3 rfl) (fun K hK => ?_); go_simp; refine hK _ ?_; clear hK K
    iterate 1 (refine pc_pure rfl rfl (fun K hK => ?_); go_simp; refine hK _ ?_; clear hK K)
    try (first | rw [show decide (1 ≤ h.p) = true from decide_eq_true (by omega)] | rw [show decide (h.p ≥ 1) = true from decide_eq_true (by omega)])
    iterate 1 (refine pc_pure rfl rfl (fun K hK => ?_); go_simp; refine hK _ ?_; clear hK K)
    iterate 1 (refine pc_pure rfl rfl (fun K hK => ?_); go_simp; refine hK _ ?_; clear hK K)
    refine pc_take (.int .i64 h.p) rfl rfl (fun w' hS => exec_load1 (P := Tryz.prog) 3 _ rfl rfl (hS.cell 6) Tryz.underlying3 rfl) (fun K hK => ?_); go_simp; refine hK _ ?_; clear hK K
    iterate 1 (refine pc_pure rfl rfl (fun K hK => ?_); go_simp; refine hK _ ?_; clear hK K)
    refine pc_take _ rfl rfl (fun w' hS => exec_load_cells (P := Tryz.prog) 23 _ rfl rfl (fun j v hj => (hS.cell (0 + j)).trans (HG.out j v hj)) Tryz.underlying23 rfl size_geo) (fun K hK => ?_); go_simp; refine hK _ ?_; clear hK K
    refine pc_call rfl rfl (fun K hK => ?_); go_simp; refine ⟨_, _, ⟨rfl, rfl⟩, hK _ _ _ ?_⟩; clear hK K
    refine (r11pages_any h.g _).mono ?_
    rintro r w3 ⟨rfl, m3⟩
    have H3 := Lib.hid (And.intro (H2.out.1.drew.nn_ m3) (H2.out.2.drew.mod m3 (fun f => f)))
    clear m3
    refine ⟨_, rfl, H3.out.2, ?_⟩
    iterate 1 (refine pc_pure rfl rfl (fun K hK => ?_); go_simp; refine hK _ ?_; clear hK K)
    try (first | rw [show decide (h.p ≤ h.g.npages) = true from decide_eq_true (by omega)])
    iterate 2 (refine pc_pure rfl rfl (fun K hK => ?_); go_simp; refine hK _ ?_; clear hK K)
    iterate 1 (refine pc_pure rfl rfl (fun K hK => ?_); go_simp; refine hK _ ?_; clear hK K)
    refine pc_take (.int .i64 h.r) rfl rfl (fun w' hS => exec_load1 (P := Tryz.prog) 3 _ rfl rfl (hS.cell 7) Tryz.underlying3 rfl) (fun K hK => ?_); go_simp; refine hK _ ?_; clear hK K
    iterate 1 (refine pc_pure rfl rfl (fun K hK => ?_); go_simp; refine hK _ ?_; clear hK K)
    try (first | rw [show decide (0 ≤ h.r) = false from decide_eq_false (by omega)] | rw [show decide (h.r ≥ 0) = false from decide_eq_false (by omega)])
    iterate 2 (refine pc_pure rfl rfl (fun K hK => ?_); go_simp; refine hK _ ?_; clear hK K)
    iterate 5 (refine pc_skip rfl rfl (fun K hK => ?_); go_simp; refine hK _ ?_; clear hK K)
    iterate 2 (refine pc_pure rfl rfl (fun K hK => ?_); go_simp; refine hK _ ?_; clear hK K)
    refine pc_nil ?_
    go_wp2
    go_ret
    exact ⟨rfl, H3.out.1⟩
  have r3 : h.r ≥ 0 := q3
  by_cases q4 : h.r < h.p
  case neg =>
    obtain rfl : F = false := by rw [← HF.out]; exact decide_eq_false (fun e => by have := (inner_iff h).1 e.1; omega)
    go_enter Tryz.func19, Tryz.ntmps19
    go_wp2_with (first
        | (with_reducible change wpList _ _ _ (⟨some 4, Op.load _ _, _, _, _, _⟩ :: _) _ _
           go_must (refine wpList_val rfl (exec_load_cells (P := Tryz.prog) 23 _ rfl rfl (fun j v hj => (H1.out.2.cell (0 + j)).trans (HG.out j v hj)) Tryz.underlying23 rfl size_geo) ?_))
        | ((with_reducible refine (HR.out _).mono ?_); rintro r w2 ⟨rfl, m2⟩
           have C5 : w2.cell? ⟨w.heap.size, 5, none⟩ = some (.int .i64 h.n) := (H1.out.2.mod m2 (fun f => f)).cell 5
           have C8 : w2.cell? ⟨w.heap.size, 8, none⟩ = some (.int .i64 h.k) := (H1.out.2.mod m2 (fun f => f)).cell 8
           have H2 := Lib.hid (And.intro (H1.out.1.nn_ m2) (H1.out.2.mod m2 (fun f => f))); clear m2))
    refine wp_region_planC (fun w' => Blk w' w.heap.size 25 (hC h)) [(0, true), (1, true), (2, true), (3, true), (4, true), (5, true), (6, true), (7, true), (8, false), (9, true), (10, true), (11, true), (12, true), (13, true), (14, true), (15, true), (16, true), (17, true), (18, true), (19, true), (20, true), (21, true), (22, true), (23, true)] (by kernel_rfl) (by kernel_rfl) H2.out.2.drew ?_
    iterate 1 (refine pc_pure rfl rfl (fun K hK => ?_); go_simp; refine hK _ ?_; clear hK K)
    refine pc_take (.int .i64 h.p) rfl rfl (fun w' hS => exec_load1 (P := Tryz.prog) 3 _ rfl rfl (hS.cell 6) Tryz.underlying3 rfl) (fun K hK => ?_); go_simp; refine hK _ ?_; clear hK K
    iterate 1 (refine pc_pure rfl rfl (fun K hK => ?_); go_simp; refine hK _ ?_; clear hK K)
    try (first | rw [show decide (1 ≤ h.p) = true from decide_eq_true (by omega)] | rw [show decide (h.p ≥ 1) = true from decide_eq_true (by omega)])
    iterate 1 (refine pc_pure rfl rfl (fun K hK => ?_); go_simp; refine hK _ ?_; clear hK K)
    iterate 1 (refine pc_pure rfl rfl (fun K hK => ?_); go_simp; refine hK _ ?_; clear hK K)
    refine pc_take (.int .i64 h.p) rfl rfl (fun w' hS => exec_load1 (P := Tryz.prog) 3 _ rfl rfl (hS.cell 6) Tryz.underlying3 rfl) (fun K hK => ?_); go_simp; refine hK _ ?_; clear hK K
    iterate 1 (refine pc_pure rfl rfl (fun K hK => ?_); go_simp; refine hK _ ?_; clear hK K)
    refine pc_take _ rfl rfl (fun w' hS => exec_load_cells (P := Tryz.prog) 23 _ rfl rfl (fun j v hj => (hS.cell (0 + j)).trans (HG.out j v hj)) Tryz.underlying23 rfl size_geo) (fun K hK => ?_); go_simp; refine hK _ ?_; clear hK K
    refine pc_call rfl rfl (fun K hK => ?_); go_simp; refine ⟨_, _, ⟨rfl, rfl⟩, hK _ _ _ ?_⟩; clear hK K
    refine (r11pages_any h.g _).mono ?_
    rintro r w3 ⟨rfl, m3⟩
    have H3 := Lib.hid (And.intro (H2.out.1.drew.nn_ m3) (H2.out.2.drew.mod m3 (fun f => f)))
    clear m3
    refine ⟨_, rfl, H3.out.2, ?_⟩
    iterate 1 (refine pc_pure rfl rfl (fun K hK => ?_); go_simp; refine hK _ ?_; clear hK K)
    try (first | rw [show decide (h.p ≤ h.g.npages) = true from decide_eq_true (by omega)])
    iterate 2 (refine pc_pure rfl rfl (fun K hK => ?_); go_simp; refine hK _ ?_; clear hK K)
    iterate 1 (refine pc_pure rfl rfl (fun K hK => ?_); go_simp; refine hK _ ?_; clear hK K)
    refine pc_take (.int .i64 h.r) rfl rfl (fun w' hS => exec_load1 (P := Tryz.prog) 3 _ rfl rfl (hS.cell 7) Tryz.underlying3 rfl) (fun K hK => ?_); go_simp; refine hK _ ?_; clear hK K
    iterate 1 (refine pc_pure rfl rfl (fun K hK => ?_); go_simp; refine hK _ ?_; clear hK K)
    try (first | rw [show decide (0 ≤ h.r) = true from decide_eq_true (by omega)] | rw [show decide (h.r ≥ 0) = true from decide_eq_true (by omega)])
    iterate 2 (refine pc_pure rfl rfl (fun K hK => ?_); go_simp; refine hK _ ?_; clear hK K)
    iterate 1 (refine pc_pure rfl rfl (fun K hK => ?_); go_simp; refine hK _ ?_; clear hK K)
    refine pc_take (.int .i64 h.r) rfl rfl (fun w' hS => exec_load1 (P := Tryz.prog) 3 _ rfl rfl (hS.cell 7) Tryz.underlying3 rfl) (fun K hK => ?_); go_simp; refine hK _ ?_; clear hK K
    iterate 1 (refine pc_pure rfl rfl (fun K hK => ?_); go_simp; refine hK _ ?_; clear hK K)
    refine pc_take (.int .i64 h.p) rfl rfl (fun w' hS => exec_load1 (P := Tryz.prog) 3 _ rfl rfl (hS.cell 6) Tryz.underlying3 rfl) (fun K hK => ?_); go_simp; refine hK _ ?_; clear hK K
    iterate 1 (refine pc_pure rfl rfl (fun K hK => ?_); go_simp; refine hK _ ?_; clear hK K)
    try (first | rw [show decide (h.r < h.p) = false from decide_eq_false (by omega)])
    iterate 2 (refine pc_pure rfl rfl (fun K hK => ?_); go_simp; refine hK _ ?_; clear hK K)
    refine pc_nil ?_
    go_wp2
    go_ret
    exact ⟨rfl, H3.out.1⟩
  obtain rfl : F = true := by rw [← HF.out]; exact decide_eq_true ⟨(inner_iff h).2 ⟨⟨q1, q2⟩, ⟨q3, by omega⟩, by omega, by omega⟩, by omega, by omega⟩
  go_enter Tryz.func19, Tryz.ntmps19
  go_wp2_with (first
      | (with_reducible change wpList _ _ _ (⟨some 4, Op.load _ _, _, _, _, _⟩ :: _) _ _
         go_must (refine wpList_val rfl (exec_load_cells (P := Tryz.prog) 23 _ rfl rfl (fun j v hj => (H1.out.2.cell (0 + j)).trans (HG.out j v hj)) Tryz.underlying23 rfl size_geo) ?_))
      | ((with_reducible refine (HR.out _).mono ?_); rintro r w2 ⟨rfl, m2⟩
         have C5 : w2.cell? ⟨w.heap.size, 5, none⟩ = some (.int .i64 h.n) := (H1.out.2.mod m2 (fun f => f)).cell 5
         have C8 : w2.cell? ⟨w.heap.size, 8, none⟩ = some (.int .i64 h.k) := (H1.out.2.mod m2 (fun f => f)).cell 8
         have H2 := Lib.hid (And.intro (H1.out.1.nn_ m2) (H1.out.2.mod m2 (fun f => f))); clear m2))
  refine wp_region_planC (fun w' => Blk w' w.heap.size 25 (hC h)) [(0, true), (1, true), (2, true), (3, true), (4, true), (5, true), (6, true), (7, true), (8, false), (9, true), (10, true), (11, true), (12, true), (13, true), (14, true), (15, true), (16, true), (17, true), (18, true), (19, true), (20, true), (21, true), (22, true), (23, true)] (by kernel_rfl) (by kernel_rfl) H2.out.2.drew ?_
  iterate 1 (refine pc_pure rfl rfl (fun K hK => ?_); go_simp; refine hK _ ?_; clear hK K)
  refine pc_take (.int .i64 h.p) rfl rfl (fun w' hS => exec_load1 (P := Tryz.prog) 3 _ rfl rfl (hS.cell 6) Tryz.underlying3 rfl) (fun K hK => ?_); go_simp; refine hK _ ?_; clear hK K
  iterate 1 (refine pc_pure rfl rfl (fun K hK => ?_); go_simp; refine hK _ ?_; clear hK K)
  try (first | rw [show decide (1 ≤ h.p) = true from decide_eq_true (by omega)] | rw [show decide (h.p ≥ 1) = true from decide_eq_true (by omega)])
  iterate 1 (refine pc_pure rfl rfl (fun K hK => ?_); go_simp; refine hK _ ?_; clear hK K)
  iterate 1 (refine pc_pure rfl rfl (fun K hK => ?_); go_simp; refine hK _ ?_; clear hK K)
  refine pc_take (.int .i64 h.p) rfl rfl (fun w' hS => exec_load1 (P := Tryz.prog) 3 _ rfl rfl (hS.cell 6) Tryz.underlying3 rfl) (fun K hK => ?_); go_simp; refine hK _ ?_; clear hK K
  iterate 1 (refine pc_pure rfl rfl (fun K hK => ?_); go_simp; refine hK _ ?_; clear hK K)
  refine pc_take _ rfl rfl (fun w' hS => exec_load_cells (P := Tryz.prog) 23 _ rfl rfl (fun j v hj => (hS.cell (0 + j)).trans (HG.out j v hj)) Tryz.underlying23 rfl size_geo) (fun K hK => ?_); go_simp; refine hK _ ?_; clear hK K
  refine pc_call rfl rfl (fun K hK => ?_); go_simp; refine ⟨_, _, ⟨rfl, rfl⟩, hK _ _ _ ?_⟩; clear hK K
  refine (r11pages_any h.g _).mono ?_
  rintro r w3 ⟨rfl, m3⟩
  have H3 := Lib.hid (And.intro (H2.out.1.drew.nn_ m3) (H2.out.2.drew.mod m3 (fun f => f)))
  clear m3
  refine ⟨_, rfl, H3.out.2, ?_⟩
  iterate 1 (refine pc_pure rfl rfl (fun K hK => ?_); go_simp; refine hK _ ?_; clear hK K)
  try (first | rw [show decide (h.p ≤ h.g.npages) = true from decide_eq_true (by omega)])
  iterate 2 (refine pc_pure rfl rfl (fun K hK => ?_); go_simp; refine hK _ ?_; clear hK K)
  iterate 1 (refine pc_pure rfl rfl (fun K hK => ?_); go_simp; refine hK _ ?_; clear hK K)
  refine pc_take (.int .i64 h.r) rfl rfl (fun w' hS => exec_load1 (P := Tryz.prog) 3 _ rfl rfl (hS.cell 7) Tryz.underlying3 rfl) (fun K hK => ?_); go_simp; refine hK _ ?_; clear hK K
  iterate 1 (refine pc_pure rfl rfl (fun K hK => ?_); go_simp; refine hK _ ?_; clear hK K)
  try (first | rw [show decide (0 ≤ h.r) = true from decide_eq_true (by omega)] | rw [show decide (h.r ≥ 0) = true from decide_eq_true (by omega)])
  iterate 2 (refine pc_pure rfl rfl (fun K hK => ?_); go_simp; refine hK _ ?_; clear hK K)
  iterate 1 (refine pc_pure rfl rfl (fun K hK => ?_); go_simp; refine hK _ ?_; clear hK K)
  refine pc_take (.int .i64 h.r) rfl rfl (fun w' hS => exec_load1 (P := Tryz.prog) 3 _ rfl rfl (hS.cell 7) Tryz.underlying3 rfl) (fun K hK => ?_); go_simp; refine hK _ ?_; clear hK K
  iterate 1 (refine pc_pure rfl rfl (fun K hK => ?_); go_simp; refine hK _ ?_; clear hK K)
  refine pc_take (.int .i64 h.p) rfl rfl (fun w' hS => exec_load1 (P := Tryz.prog) 3 _ rfl rfl (hS.cell 6) Tryz.underlying3 rfl) (fun K hK => ?_); go_simp; refine hK _ ?_; clear hK K
  iterate 1 (refine pc_pure rfl rfl (fun K hK => ?_); go_simp; refine hK _ ?_; clear hK K)
  try (first | rw [show decide (h.r < h.p) = true from decide_eq_true (by omega)])
  iterate 2 (refine pc_pure rfl rfl (fun K hK => ?_); go_simp; refine hK _ ?_; clear hK K)
  refine pc_nil ?_
  go_wp2
  go_ret
  exact ⟨rfl, H3.out.1⟩
end
end Go.Proofs.YtodnhbiomooknaaGreat
