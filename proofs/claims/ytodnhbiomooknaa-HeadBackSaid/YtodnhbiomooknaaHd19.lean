/- peatbanklaw12.HeadBack (printed by wip/gen/hdback.py). -/
import Derived.Test.YtodnhbiomooknaaHd17
import Derived.Test.YtodnhbiomooknaaFrK0
import Derived.Test.YtodnhbiomooknaaBytes1
import Derived.Deep.CutBlock
namespace Go.Proofs.Ytodnhbiomooknaa
open Go.RowKit

section
variable {w : World} {A : Option Addr} {n c : Nat} {l : List Nat}
set_option maxRecDepth 100000 in
set_option maxHeartbeats 12800000 in
theorem hback_any (h : Hd) (x : Int) (hr : Rd w A n (bv l)) (hl : ∀ z ∈ l, z < 256) (hc : n ≤ c) (hcm : c ≤ maxLen) :
    Calls Try.prog 4 #[hdV h, .slice A n c, .int .i64 x] w fun r w' => r = .returned (.bool true) ∧ Mod Nn w w' := by
  unfold hdV
  have hL : l.length = n := by have := hr.1; rwa [bv_len] at this
  have m0 : Mod Nn w (w.alloc (.cells (hC h) 28)) := (Mod.refl Nn w).alloc _
  have b0 : Blk (w.alloc (.cells (hC h) 28)) w.heap.size 28 (hC h) := Blk.new _ _ _
  have H0 := Lib.hid (And.intro m0 b0)
  have HR := Lib.hid (And.intro hr (And.intro hl (And.intro hc (And.intro hcm hL))))
  have HG := Lib.hid (drop_geo h)
  clear m0 b0 hr hl hc hcm hL
  by_cases h1 : 40000 < n
  case pos =>
    have d1 : (40000 : Int) < n := by omega
    go_enter Try.func4, Try.ntmps4
    go_wp2_with fail
    refine (hd_awake _).mono ?_
    rintro r w1 ⟨rfl, m1⟩
    have H1 := Lib.hid (And.intro (H0.out.1.nn_ m1) (H0.out.2.mod m1 (fun f => f)))
    clear m1
    go_wp2
    go_ret
    exact ⟨rfl, H1.out.1⟩
  have d1 : ¬ (40000 : Int) < n := by omega
  obtain ⟨y, f, G⟩ := hget_of l
  have HGL := Lib.hid G
  clear G
  by_cases rh : h.right
  case neg =>
    go_enter Try.func4, Try.ntmps4
    go_wp2_with fail
    refine (hd_awake _).mono ?_
    rintro r w1 ⟨rfl, m1⟩
    have H1 := Lib.hid (And.intro (H0.out.1.nn_ m1) (H0.out.2.mod m1 (fun f => f)))
    clear m1
    go_wp2_with (first
      | (with_reducible change wpList _ _ _ (⟨some 24, Op.load _ _, _, _, _, _⟩ :: _) _ _
         go_must (refine wpList_load_var 28 _ rfl rfl w.heap.size (hC h) _ _ rfl H1.out.2 Try.underlying28 rfl size_head ?_))
    )
    refine (hput_wrong rh _).mono ?_
    rintro r w2 ⟨v2, rfl, m2⟩
    have H2 := Lib.hid (And.intro (H1.out.1.nn_ m2) (And.intro (H1.out.2.mod m2 (fun f => f)) (HR.out.1.mod (H1.out.1.nn_ m2) (fun _ _ f => f))))
    clear m2
    have hir : h.right ↔ (h.g.right ∧ (1 ≤ h.p ∧ h.p ≤ h.g.npages) ∧ (0 ≤ h.r ∧ h.r ≤ h.p - 1) ∧ (1 ≤ h.k ∧ h.k ≤ 1073741824)) ∧ 0 ≤ h.n ∧ h.n ≤ 1099511627776 := by
      have hi := inner_iff h
      constructor
      · intro e; exact ⟨⟨e.1.1, hi.1 e.1⟩, e.2⟩
      · intro e; exact ⟨hi.2 e.1.2, e.2⟩
    go_wp2_with fail
    go_cut [9] from 28 to 75 (fun v wx => v = .bool false ∧ Mod Nn w wx ∧ Rd wx A n (bv l))
    case first =>
      by_cases gr : h.g.right
      case neg =>
        refine wp_region_planC (fun w' => Blk w' w.heap.size 28 (hC h)) [(0, true), (1, true), (2, false), (3, true), (4, true), (5, true), (6, true), (7, true), (8, true), (9, true), (10, true), (11, true), (12, true), (13, true), (14, true), (15, true), (16, true), (17, true), (18, true), (19, true), (20, true), (21, true), (22, true), (23, false), (24, true), (25, true), (26, true), (27, true), (28, true), (29, true), (30, true), (31, true), (32, true), (33, true), (34, true), (35, true), (36, true), (37, true), (38, true), (39, true), (40, true), (41, true), (42, true), (43, true), (44, true), (45, true), (46, true), (47, true), (48, true)] (by kernel_rfl) (by kernel_rfl) H2.out.2.1.drew ?_
        iterate 1 (refine pc_pure rfl rfl (fun K hK => ?_); go_simp; refine hK _ ?_; clear hK K)
        refine pc_take _ rfl rfl (fun w' hS => exec_load_cells (P := Try.prog) 26 _ rfl rfl (fun j v hj => (hS.cell (0 + j)).trans (HG.out j v hj)) Try.underlying26 rfl size_geo) (fun K hK => ?_); go_simp; refine hK _ ?_; clear hK K
        refine pc_call rfl rfl (fun K hK => ?_); go_simp; refine ⟨_, _, ⟨rfl, rfl⟩, hK _ _ _ ?_⟩; clear hK K
        refine (lright_no h.g _ gr).mono ?_
        rintro r w8 ⟨rfl, m8⟩
        have HP := Lib.hid (And.intro (H2.out.1.drew.nn_ m8) (And.intro (H2.out.2.1.drew.mod m8 (fun f => f)) ((H2.out.2.2.drew).mod m8 (fun _ _ f => f))))
        clear m8
        refine ⟨_, rfl, HP.out.2.1, ?_⟩
        iterate 1 (refine pc_pure rfl rfl (fun K hK => ?_); go_simp; refine hK _ ?_; clear hK K)
        refine pc_skip rfl rfl (fun K hK => ?_); go_simp; refine hK _ ?_; clear hK K
        refine pc_skip rfl rfl (fun K hK => ?_); go_simp; refine hK _ ?_; clear hK K
        refine pc_skip rfl rfl (fun K hK => ?_); go_simp; refine hK _ ?_; clear hK K
        iterate 2 (refine pc_pure rfl rfl (fun K hK => ?_); go_simp; refine hK _ ?_; clear hK K)
        refine pc_skip rfl rfl (fun K hK => ?_); go_simp; refine hK _ ?_; clear hK K
        refine pc_skip rfl rfl (fun K hK => ?_); go_simp; refine hK _ ?_; clear hK K
        refine pc_skip rfl rfl (fun K hK => ?_); go_simp; refine hK _ ?_; clear hK K
        iterate 2 (refine pc_pure rfl rfl (fun K hK => ?_); go_simp; refine hK _ ?_; clear hK K)
        refine pc_skip rfl rfl (fun K hK => ?_); go_simp; refine hK _ ?_; clear hK K
        refine pc_skip rfl rfl (fun K hK => ?_); go_simp; refine hK _ ?_; clear hK K
        refine pc_skip rfl rfl (fun K hK => ?_); go_simp; refine hK _ ?_; clear hK K
        iterate 2 (refine pc_pure rfl rfl (fun K hK => ?_); go_simp; refine hK _ ?_; clear hK K)
        refine pc_skip rfl rfl (fun K hK => ?_); go_simp; refine hK _ ?_; clear hK K
        refine pc_skip rfl rfl (fun K hK => ?_); go_simp; refine hK _ ?_; clear hK K
        refine pc_skip rfl rfl (fun K hK => ?_); go_simp; refine hK _ ?_; clear hK K
        refine pc_skip rfl rfl (fun K hK => ?_); go_simp; refine hK _ ?_; clear hK K
        refine pc_skipD rfl rfl (fun K hK => ?_); go_simp; refine hK _ ?_; clear hK K
        refine pc_skip rfl rfl (fun K hK => ?_); go_simp; refine hK _ ?_; clear hK K
        iterate 2 (refine pc_pure rfl rfl (fun K hK => ?_); go_simp; refine hK _ ?_; clear hK K)
        refine pc_skip rfl rfl (fun K hK => ?_); go_simp; refine hK _ ?_; clear hK K
        refine pc_skip rfl rfl (fun K hK => ?_); go_simp; refine hK _ ?_; clear hK K
        refine pc_skip rfl rfl (fun K hK => ?_); go_simp; refine hK _ ?_; clear hK K
        iterate 2 (refine pc_pure rfl rfl (fun K hK => ?_); go_simp; refine hK _ ?_; clear hK K)
        refine pc_skip rfl rfl (fun K hK => ?_); go_simp; refine hK _ ?_; clear hK K
        refine pc_skip rfl rfl (fun K hK => ?_); go_simp; refine hK _ ?_; clear hK K
        refine pc_skip rfl rfl (fun K hK => ?_); go_simp; refine hK _ ?_; clear hK K
        refine pc_skip rfl rfl (fun K hK => ?_); go_simp; refine hK _ ?_; clear hK K
        refine pc_skip rfl rfl (fun K hK => ?_); go_simp; refine hK _ ?_; clear hK K
        iterate 2 (refine pc_pure rfl rfl (fun K hK => ?_); go_simp; refine hK _ ?_; clear hK K)
        refine pc_skip rfl rfl (fun K hK => ?_); go_simp; refine hK _ ?_; clear hK K
        refine pc_skip rfl rfl (fun K hK => ?_); go_simp; refine hK _ ?_; clear hK K
        refine pc_skip rfl rfl (fun K hK => ?_); go_simp; refine hK _ ?_; clear hK K
        iterate 2 (refine pc_pure rfl rfl (fun K hK => ?_); go_simp; refine hK _ ?_; clear hK K)
        refine pc_skip rfl rfl (fun K hK => ?_); go_simp; refine hK _ ?_; clear hK K
        refine pc_skip rfl rfl (fun K hK => ?_); go_simp; refine hK _ ?_; clear hK K
        refine pc_skip rfl rfl (fun K hK => ?_); go_simp; refine hK _ ?_; clear hK K
        iterate 2 (refine pc_pure rfl rfl (fun K hK => ?_); go_simp; refine hK _ ?_; clear hK K)
        refine pc_nil ?_
        go_wp2
        go_meet
        exact ⟨rfl, HP.out.1, HP.out.2.2⟩
      by_cases q1 : 0 ≤ h.n
      case neg =>
        refine wp_region_planC (fun w' => Blk w' w.heap.size 28 (hC h)) [(0, true), (1, true), (2, false), (3, true), (4, true), (5, true), (6, true), (7, true), (8, true), (9, true), (10, true), (11, true), (12, true), (13, true), (14, true), (15, true), (16, true), (17, true), (18, true), (19, true), (20, true), (21, true), (22, true), (23, false), (24, true), (25, true), (26, true), (27, true), (28, true), (29, true), (30, true), (31, true), (32, true), (33, true), (34, true), (35, true), (36, true), (37, true), (38, true), (39, true), (40, true), (41, true), (42, true), (43, true), (44, true), (45, true), (46, true), (47, true), (48, true)] (by kernel_rfl) (by kernel_rfl) H2.out.2.1.drew ?_
        iterate 1 (refine pc_pure rfl rfl (fun K hK => ?_); go_simp; refine hK _ ?_; clear hK K)
        refine pc_take _ rfl rfl (fun w' hS => exec_load_cells (P := Try.prog) 26 _ rfl rfl (fun j v hj => (hS.cell (0 + j)).trans (HG.out j v hj)) Try.underlying26 rfl size_geo) (fun K hK => ?_); go_simp; refine hK _ ?_; clear hK K
        refine pc_call rfl rfl (fun K hK => ?_); go_simp; refine ⟨_, _, ⟨rfl, rfl⟩, hK _ _ _ ?_⟩; clear hK K
        refine (lright_yes h.g _ gr).mono ?_
        rintro r w8 ⟨rfl, m8⟩
        have HP := Lib.hid (And.intro (H2.out.1.drew.nn_ m8) (And.intro (H2.out.2.1.drew.mod m8 (fun f => f)) ((H2.out.2.2.drew).mod m8 (fun _ _ f => f))))
        clear m8
        refine ⟨_, rfl, HP.out.2.1, ?_⟩
        iterate 1 (refine pc_pure rfl rfl (fun K hK => ?_); go_simp; refine hK _ ?_; clear hK K)
        iterate 1 (refine pc_pure rfl rfl (fun K hK => ?_); go_simp; refine hK _ ?_; clear hK K)
        refine pc_take (.int .i64 h.n) rfl rfl (fun w' hS => exec_load1 (P := Try.prog) 3 _ rfl rfl (hS.cell 5) Try.underlying3 rfl) (fun K hK => ?_); go_simp; refine hK _ ?_; clear hK K
        iterate 1 (refine pc_pure rfl rfl (fun K hK => ?_); go_simp; refine hK _ ?_; clear hK K)
        try (first | rw [show decide (0 ≤ h.n) = false from decide_eq_false (by omega)] | rw [show decide (h.n ≥ 0) = false from decide_eq_false (by omega)])
        iterate 2 (refine pc_pure rfl rfl (fun K hK => ?_); go_simp; refine hK _ ?_; clear hK K)
        refine pc_skip rfl rfl (fun K hK => ?_); go_simp; refine hK _ ?_; clear hK K
        refine pc_skip rfl rfl (fun K hK => ?_); go_simp; refine hK _ ?_; clear hK K
        refine pc_skip rfl rfl (fun K hK => ?_); go_simp; refine hK _ ?_; clear hK K
        iterate 2 (refine pc_pure rfl rfl (fun K hK => ?_); go_simp; refine hK _ ?_; clear hK K)
        refine pc_skip rfl rfl (fun K hK => ?_); go_simp; refine hK _ ?_; clear hK K
        refine pc_skip rfl rfl (fun K hK => ?_); go_simp; refine hK _ ?_; clear hK K
        refine pc_skip rfl rfl (fun K hK => ?_); go_simp; refine hK _ ?_; clear hK K
        iterate 2 (refine pc_pure rfl rfl (fun K hK => ?_); go_simp; refine hK _ ?_; clear hK K)
        refine pc_skip rfl rfl (fun K hK => ?_); go_simp; refine hK _ ?_; clear hK K
        refine pc_skip rfl rfl (fun K hK => ?_); go_simp; refine hK _ ?_; clear hK K
        refine pc_skip rfl rfl (fun K hK => ?_); go_simp; refine hK _ ?_; clear hK K
        refine pc_skip rfl rfl (fun K hK => ?_); go_simp; refine hK _ ?_; clear hK K
        refine pc_skipD rfl rfl (fun K hK => ?_); go_simp; refine hK _ ?_; clear hK K
        refine pc_skip rfl rfl (fun K hK => ?_); go_simp; refine hK _ ?_; clear hK K
        iterate 2 (refine pc_pure rfl rfl (fun K hK => ?_); go_simp; refine hK _ ?_; clear hK K)
        refine pc_skip rfl rfl (fun K hK => ?_); go_simp; refine hK _ ?_; clear hK K
        refine pc_skip rfl rfl (fun K hK => ?_); go_simp; refine hK _ ?_; clear hK K
        refine pc_skip rfl rfl (fun K hK => ?_); go_simp; refine hK _ ?_; clear hK K
        iterate 2 (refine pc_pure rfl rfl (fun K hK => ?_); go_simp; refine hK _ ?_; clear hK K)
        refine pc_skip rfl rfl (fun K hK => ?_); go_simp; refine hK _ ?_; clear hK K
        refine pc_skip rfl rfl (fun K hK => ?_); go_simp; refine hK _ ?_; clear hK K
        refine pc_skip rfl rfl (fun K hK => ?_); go_simp; refine hK _ ?_; clear hK K
        refine pc_skip rfl rfl (fun K hK => ?_); go_simp; refine hK _ ?_; clear hK K
        refine pc_skip rfl rfl (fun K hK => ?_); go_simp; refine hK _ ?_; clear hK K
        iterate 2 (refine pc_pure rfl rfl (fun K hK => ?_); go_simp; refine hK _ ?_; clear hK K)
        refine pc_skip rfl rfl (fun K hK => ?_); go_simp; refine hK _ ?_; clear hK K
        refine pc_skip rfl rfl (fun K hK => ?_); go_simp; refine hK _ ?_; clear hK K
        refine pc_skip rfl rfl (fun K hK => ?_); go_simp; refine hK _ ?_; clear hK K
        iterate 2 (refine pc_pure rfl rfl (fun K hK => ?_); go_simp; refine hK _ ?_; clear hK K)
        refine pc_skip rfl rfl (fun K hK => ?_); go_simp; refine hK _ ?_; clear hK K
        refine pc_skip rfl rfl (fun K hK => ?_); go_simp; refine hK _ ?_; clear hK K
        refine pc_skip rfl rfl (fun K hK => ?_); go_simp; refine hK _ ?_; clear hK K
        iterate 2 (refine pc_pure rfl rfl (fun K hK => ?_); go_simp; refine hK _ ?_; clear hK K)
        refine pc_nil ?_
        go_wp2
        go_meet
        exact ⟨rfl, HP.out.1, HP.out.2.2⟩
      by_cases q2 : h.n ≤ 1099511627776
      case neg =>
        refine wp_region_planC (fun w' => Blk w' w.heap.size 28 (hC h)) [(0, true), (1, true), (2, false), (3, true), (4, true), (5, true), (6, true), (7, true), (8, true), (9, true), (10, true), (11, true), (12, true), (13, true), (14, true), (15, true), (16, true), (17, true), (18, true), (19, true), (20, true), (21, true), (22, true), (23, false), (24, true), (25, true), (26, true), (27, true), (28, true), (29, true), (30, true), (31, true), (32, true), (33, true), (34, true), (35, true), (36, true), (37, true), (38, true), (39, true), (40, true), (41, true), (42, true), (43, true), (44, true), (45, true), (46, true), (47, true), (48, true)] (by kernel_rfl) (by kernel_rfl) H2.out.2.1.drew ?_
        iterate 1 (refine pc_pure rfl rfl (fun K hK => ?_); go_simp; refine hK _ ?_; clear hK K)
        refine pc_take _ rfl rfl (fun w' hS => exec_load_cells (P := Try.prog) 26 _ rfl rfl (fun j v hj => (hS.cell (0 + j)).trans (HG.out j v hj)) Try.underlying26 rfl size_geo) (fun K hK => ?_); go_simp; refine hK _ ?_; clear hK K
        refine pc_call rfl rfl (fun K hK => ?_); go_simp; refine ⟨_, _, ⟨rfl, rfl⟩, hK _ _ _ ?_⟩; clear hK K
        refine (lright_yes h.g _ gr).mono ?_
        rintro r w8 ⟨rfl, m8⟩
        have HP := Lib.hid (And.intro (H2.out.1.drew.nn_ m8) (And.intro (H2.out.2.1.drew.mod m8 (fun f => f)) ((H2.out.2.2.drew).mod m8 (fun _ _ f => f))))
        clear m8
        refine ⟨_, rfl, HP.out.2.1, ?_⟩
        iterate 1 (refine pc_pure rfl rfl (fun K hK => ?_); go_simp; refine hK _ ?_; clear hK K)
        iterate 1 (refine pc_pure rfl rfl (fun K hK => ?_); go_simp; refine hK _ ?_; clear hK K)
        refine pc_take (.int .i64 h.n) rfl rfl (fun w' hS => exec_load1 (P := Try.prog) 3 _ rfl rfl (hS.cell 5) Try.underlying3 rfl) (fun K hK => ?_); go_simp; refine hK _ ?_; clear hK K
        iterate 1 (refine pc_pure rfl rfl (fun K hK => ?_); go_simp; refine hK _ ?_; clear hK K)
        try (first | rw [show decide (0 ≤ h.n) = true from decide_eq_true (by omega)] | rw [show decide (h.n ≥ 0) = true from decide_eq_true (by omega)])
        iterate 2 (refine pc_pure rfl rfl (fun K hK => ?_); go_simp; refine hK _ ?_; clear hK K)
        iterate 1 (refine pc_pure rfl rfl (fun K hK => ?_); go_simp; refine hK _ ?_; clear hK K)
        refine pc_take (.int .i64 h.n) rfl rfl (fun w' hS => exec_load1 (P := Try.prog) 3 _ rfl rfl (hS.cell 5) Try.underlying3 rfl) (fun K hK => ?_); go_simp; refine hK _ ?_; clear hK K
        iterate 1 (refine pc_pure rfl rfl (fun K hK => ?_); go_simp; refine hK _ ?_; clear hK K)
        try (first | rw [show decide (h.n ≤ 1099511627776) = false from decide_eq_false (by omega)])
        iterate 2 (refine pc_pure rfl rfl (fun K hK => ?_); go_simp; refine hK _ ?_; clear hK K)
        refine pc_skip rfl rfl (fun K hK => ?_); go_simp; refine hK _ ?_; clear hK K
        refine pc_skip rfl rfl (fun K hK => ?_); go_simp; refine hK _ ?_; clear hK K
        refine pc_skip rfl rfl (fun K hK => ?_); go_simp; refine hK _ ?_; clear hK K
        iterate 2 (refine pc_pure rfl rfl (fun K hK => ?_); go_simp; refine hK _ ?_; clear hK K)
        refine pc_skip rfl rfl (fun K hK => ?_); go_simp; refine hK _ ?_; clear hK K
        refine pc_skip rfl rfl (fun K hK => ?_); go_simp; refine hK _ ?_; clear hK K
        refine pc_skip rfl rfl (fun K hK => ?_); go_simp; refine hK _ ?_; clear hK K
        refine pc_skip rfl rfl (fun K hK => ?_); go_simp; refine hK _ ?_; clear hK K
        refine pc_skipD rfl rfl (fun K hK => ?_); go_simp; refine hK _ ?_; clear hK K
        refine pc_skip rfl rfl (fun K hK => ?_); go_simp; refine hK _ ?_; clear hK K
        iterate 2 (refine pc_pure rfl rfl (fun K hK => ?_); go_simp; refine hK _ ?_; clear hK K)
        refine pc_skip rfl rfl (fun K hK => ?_); go_simp; refine hK _ ?_; clear hK K
        refine pc_skip rfl rfl (fun K hK => ?_); go_simp; refine hK _ ?_; clear hK K
        refine pc_skip rfl rfl (fun K hK => ?_); go_simp; refine hK _ ?_; clear hK K
        iterate 2 (refine pc_pure rfl rfl (fun K hK => ?_); go_simp; refine hK _ ?_; clear hK K)
        refine pc_skip rfl rfl (fun K hK => ?_); go_simp; refine hK _ ?_; clear hK K
        refine pc_skip rfl rfl (fun K hK => ?_); go_simp; refine hK _ ?_; clear hK K
        refine pc_skip rfl rfl (fun K hK => ?_); go_simp; refine hK _ ?_; clear hK K
        refine pc_skip rfl rfl (fun K hK => ?_); go_simp; refine hK _ ?_; clear hK K
        refine pc_skip rfl rfl (fun K hK => ?_); go_simp; refine hK _ ?_; clear hK K
        iterate 2 (refine pc_pure rfl rfl (fun K hK => ?_); go_simp; refine hK _ ?_; clear hK K)
        refine pc_skip rfl rfl (fun K hK => ?_); go_simp; refine hK _ ?_; clear hK K
        refine pc_skip rfl rfl (fun K hK => ?_); go_simp; refine hK _ ?_; clear hK K
        refine pc_skip rfl rfl (fun K hK => ?_); go_simp; refine hK _ ?_; clear hK K
        iterate 2 (refine pc_pure rfl rfl (fun K hK => ?_); go_simp; refine hK _ ?_; clear hK K)
        refine pc_skip rfl rfl (fun K hK => ?_); go_simp; refine hK _ ?_; clear hK K
        refine pc_skip rfl rfl (fun K hK => ?_); go_simp; refine hK _ ?_; clear hK K
        refine pc_skip rfl rfl (fun K hK => ?_); go_simp; refine hK _ ?_; clear hK K
        iterate 2 (refine pc_pure rfl rfl (fun K hK => ?_); go_simp; refine hK _ ?_; clear hK K)
        refine pc_nil ?_
        go_wp2
        go_meet
        exact ⟨rfl, HP.out.1, HP.out.2.2⟩
      by_cases q3 : 1 ≤ h.p
      case neg =>
        refine wp_region_planC (fun w' => Blk w' w.heap.size 28 (hC h)) [(0, true), (1, true), (2, false), (3, true), (4, true), (5, true), (6, true), (7, true), (8, true), (9, true), (10, true), (11, true), (12, true), (13, true), (14, true), (15, true), (16, true), (17, true), (18, true), (19, true), (20, true), (21, true), (22, true), (23, false), (24, true), (25, true), (26, true), (27, true), (28, true), (29, true), (30, true), (31, true), (32, true), (33, true), (34, true), (35, true), (36, true), (37, true), (38, true), (39, true), (40, true), (41, true), (42, true), (43, true), (44, true), (45, true), (46, true), (47, true), (48, true)] (by kernel_rfl) (by kernel_rfl) H2.out.2.1.drew ?_
        iterate 1 (refine pc_pure rfl rfl (fun K hK => ?_); go_simp; refine hK _ ?_; clear hK K)
        refine pc_take _ rfl rfl (fun w' hS => exec_load_cells (P := Try.prog) 26 _ rfl rfl (fun j v hj => (hS.cell (0 + j)).trans (HG.out j v hj)) Try.underlying26 rfl size_geo) (fun K hK => ?_); go_simp; refine hK _ ?_; clear hK K
        refine pc_call rfl rfl (fun K hK => ?_); go_simp; refine ⟨_, _, ⟨rfl, rfl⟩, hK _ _ _ ?_⟩; clear hK K
        refine (lright_yes h.g _ gr).mono ?_
        rintro r w8 ⟨rfl, m8⟩
        have HP := Lib.hid (And.intro (H2.out.1.drew.nn_ m8) (And.intro (H2.out.2.1.drew.mod m8 (fun f => f)) ((H2.out.2.2.drew).mod m8 (fun _ _ f => f))))
        clear m8
        refine ⟨_, rfl, HP.out.2.1, ?_⟩
        iterate 1 (refine pc_pure rfl rfl (fun K hK => ?_); go_simp; refine hK _ ?_; clear hK K)
        iterate 1 (refine pc_pure rfl rfl (fun K hK => ?_); go_simp; refine hK _ ?_; clear hK K)
        refine pc_take (.int .i64 h.n) rfl rfl (fun w' hS => exec_load1 (P := Try.prog) 3 _ rfl rfl (hS.cell 5) Try.underlying3 rfl) (fun K hK => ?_); go_simp; refine hK _ ?_; clear hK K
        iterate 1 (refine pc_pure rfl rfl (fun K hK => ?_); go_simp; refine hK _ ?_; clear hK K)
        try (first | rw [show decide (0 ≤ h.n) = true from decide_eq_true (by omega)] | rw [show decide (h.n ≥ 0) = true from decide_eq_true (by omega)])
        iterate 2 (refine pc_pure rfl rfl (fun K hK => ?_); go_simp; refine hK _ ?_; clear hK K)
        iterate 1 (refine pc_pure rfl rfl (fun K hK => ?_); go_simp; refine hK _ ?_; clear hK K)
        refine pc_take (.int .i64 h.n) rfl rfl (fun w' hS => exec_load1 (P := Try.prog) 3 _ rfl rfl (hS.cell 5) Try.underlying3 rfl) (fun K hK => ?_); go_simp; refine hK _ ?_; clear hK K
        iterate 1 (refine pc_pure rfl rfl (fun K hK => ?_); go_simp; refine hK _ ?_; clear hK K)
        try (first | rw [show decide (h.n ≤ 1099511627776) = true from decide_eq_true (by omega)])
        iterate 2 (refine pc_pure rfl rfl (fun K hK => ?_); go_simp; refine hK _ ?_; clear hK K)
        iterate 1 (refine pc_pure rfl rfl (fun K hK => ?_); go_simp; refine hK _ ?_; clear hK K)
        refine pc_take (.int .i64 h.p) rfl rfl (fun w' hS => exec_load1 (P := Try.prog) 3 _ rfl rfl (hS.cell 6) Try.underlying3 rfl) (fun K hK => ?_); go_simp; refine hK _ ?_; clear hK K
        iterate 1 (refine pc_pure rfl rfl (fun K hK => ?_); go_simp; refine hK _ ?_; clear hK K)
        try (first | rw [show decide (1 ≤ h.p) = false from decide_eq_false (by omega)] | rw [show decide (h.p ≥ 1) = false from decide_eq_false (by omega)])
        iterate 2 (refine pc_pure rfl rfl (fun K hK => ?_); go_simp; refine hK _ ?_; clear hK K)
        refine pc_skip rfl rfl (fun K hK => ?_); go_simp; refine hK _ ?_; clear hK K
        refine pc_skip rfl rfl (fun K hK => ?_); go_simp; refine hK _ ?_; clear hK K
        refine pc_skip rfl rfl (fun K hK => ?_); go_simp; refine hK _ ?_; clear hK K
        refine pc_skip rfl rfl (fun K hK => ?_); go_simp; refine hK _ ?_; clear hK K
        refine pc_skipD rfl rfl (fun K hK => ?_); go_simp; refine hK _ ?_; clear hK K
        refine pc_skip rfl rfl (fun K hK => ?_); go_simp; refine hK _ ?_; clear hK K
        iterate 2 (refine pc_pure rfl rfl (fun K hK => ?_); go_simp; refine hK _ ?_; clear hK K)
        refine pc_skip rfl rfl (fun K hK => ?_); go_simp; refine hK _ ?_; clear hK K
        refine pc_skip rfl rfl (fun K hK => ?_); go_simp; refine hK _ ?_; clear hK K
        refine pc_skip rfl rfl (fun K hK => ?_); go_simp; refine hK _ ?_; clear hK K
        iterate 2 (refine pc_pure rfl rfl (fun K hK => ?_); go_simp; refine hK _ ?_; clear hK K)
        refine pc_skip rfl rfl (fun K hK => ?_); go_simp; refine hK _ ?_; clear hK K
        refine pc_skip rfl rfl (fun K hK => ?_); go_simp; refine hK _ ?_; clear hK K
        refine pc_skip rfl rfl (fun K hK => ?_); go_simp; refine hK _ ?_; clear hK K
        refine pc_skip rfl rfl (fun K hK => ?_); go_simp; refine hK _ ?_; clear hK K
        refine pc_skip rfl rfl (fun K hK => ?_); go_simp; refine hK _ ?_; clear hK K
        iterate 2 (refine pc_pure rfl rfl (fun K hK => ?_); go_simp; refine hK _ ?_; clear hK K)
        refine pc_skip rfl rfl (fun K hK => ?_); go_simp; refine hK _ ?_; clear hK K
        refine pc_skip rfl rfl (fun K hK => ?_); go_simp; refine hK _ ?_; clear hK K
        refine pc_skip rfl rfl (fun K hK => ?_); go_simp; refine hK _ ?_; clear hK K
        iterate 2 (refine pc_pure rfl rfl (fun K hK => ?_); go_simp; refine hK _ ?_; clear hK K)
        refine pc_skip rfl rfl (fun K hK => ?_); go_simp; refine hK _ ?_; clear hK K
        refine pc_skip rfl rfl (fun K hK => ?_); go_simp; refine hK _ ?_; clear hK K
        refine pc_skip rfl rfl (fun K hK => ?_); go_simp; refine hK _ ?_; clear hK K
        iterate 2 (refine pc_pure rfl rfl (fun K hK => ?_); go_simp; refine hK _ ?_; clear hK K)
        refine pc_nil ?_
        go_wp2
        go_meet
        exact ⟨rfl, HP.out.1, HP.out.2.2⟩
      by_cases q4 : h.p ≤ h.g.npages
      case neg =>
        refine wp_region_planC (fun w' => Blk w' w.heap.size 28 (hC h)) [(0, true), (1, true), (2, false), (3, true), (4, true), (5, true), (6, true), (7, true), (8, true), (9, true), (10, true), (11, true), (12, true), (13, true), (14, true), (15, true), (16, true), (17, true), (18, true), (19, true), (20, true), (21, true), (22, true), (23, false), (24, true), (25, true), (26, true), (27, true), (28, true), (29, true), (30, true), (31, true), (32, true), (33, true), (34, true), (35, true), (36, true), (37, true), (38, true), (39, true), (40, true), (41, true), (42, true), (43, true), (44, true), (45, true), (46, true), (47, true), (48, true)] (by kernel_rfl) (by kernel_rfl) H2.out.2.1.drew ?_
        iterate 1 (refine pc_pure rfl rfl (fun K hK => ?_); go_simp; refine hK _ ?_; clear hK K)
        refine pc_take _ rfl rfl (fun w' hS => exec_load_cells (P := Try.prog) 26 _ rfl rfl (fun j v hj => (hS.cell (0 + j)).trans (HG.out j v hj)) Try.underlying26 rfl size_geo) (fun K hK => ?_); go_simp; refine hK _ ?_; clear hK K
        refine pc_call rfl rfl (fun K hK => ?_); go_simp; refine ⟨_, _, ⟨rfl, rfl⟩, hK _ _ _ ?_⟩; clear hK K
        refine (lright_yes h.g _ gr).mono ?_
        rintro r w8 ⟨rfl, m8⟩
        have HP := Lib.hid (And.intro (H2.out.1.drew.nn_ m8) (And.intro (H2.out.2.1.drew.mod m8 (fun f => f)) ((H2.out.2.2.drew).mod m8 (fun _ _ f => f))))
        clear m8
        refine ⟨_, rfl, HP.out.2.1, ?_⟩
        iterate 1 (refine pc_pure rfl rfl (fun K hK => ?_); go_simp; refine hK _ ?_; clear hK K)
        iterate 1 (refine pc_pure rfl rfl (fun K hK => ?_); go_simp; refine hK _ ?_; clear hK K)
        refine pc_take (.int .i64 h.n) rfl rfl (fun w' hS => exec_load1 (P := Try.prog) 3 _ rfl rfl (hS.cell 5) Try.underlying3 rfl) (fun K hK => ?_); go_simp; refine hK _ ?_; clear hK K
        iterate 1 (refine pc_pure rfl rfl (fun K hK => ?_); go_simp; refine hK _ ?_; clear hK K)
        try (first | rw [show decide (0 ≤ h.n) = true from decide_eq_true (by omega)] | rw [show decide (h.n ≥ 0) = true from decide_eq_true (by omega)])
        iterate 2 (refine pc_pure rfl rfl (fun K hK => ?_); go_simp; refine hK _ ?_; clear hK K)
        iterate 1 (refine pc_pure rfl rfl (fun K hK => ?_); go_simp; refine hK _ ?_; clear hK K)
        refine pc_take (.int .i64 h.n) rfl rfl (fun w' hS => exec_load1 (P := Try.prog) 3 _ rfl rfl (hS.cell 5) Try.underlying3 rfl) (fun K hK => ?_); go_simp; refine hK _ ?_; clear hK K
        iterate 1 (refine pc_pure rfl rfl (fun K hK => ?_); go_simp; refine hK _ ?_; clear hK K)
        try (first | rw [show decide (h.n ≤ 1099511627776) = true from decide_eq_true (by omega)])
        iterate 2 (refine pc_pure rfl rfl (fun K hK => ?_); go_simp; refine hK _ ?_; clear hK K)
        iterate 1 (refine pc_pure rfl rfl (fun K hK => ?_); go_simp; refine hK _ ?_; clear hK K)
        refine pc_take (.int .i64 h.p) rfl rfl (fun w' hS => exec_load1 (P := Try.prog) 3 _ rfl rfl (hS.cell 6) Try.underlying3 rfl) (fun K hK => ?_); go_simp; refine hK _ ?_; clear hK K
        iterate 1 (refine pc_pure rfl rfl (fun K hK => ?_); go_simp; refine hK _ ?_; clear hK K)
        try (first | rw [show decide (1 ≤ h.p) = true from decide_eq_true (by omega)] | rw [show decide (h.p ≥ 1) = true from decide_eq_true (by omega)])
        iterate 2 (refine pc_pure rfl rfl (fun K hK => ?_); go_simp; refine hK _ ?_; clear hK K)
        iterate 1 (refine pc_pure rfl rfl (fun K hK => ?_); go_simp; refine hK _ ?_; clear hK K)
        refine pc_take (.int .i64 h.p) rfl rfl (fun w' hS => exec_load1 (P := Try.prog) 3 _ rfl rfl (hS.cell 6) Try.underlying3 rfl) (fun K hK => ?_); go_simp; refine hK _ ?_; clear hK K
        iterate 1 (refine pc_pure rfl rfl (fun K hK => ?_); go_simp; refine hK _ ?_; clear hK K)
        refine pc_take _ rfl rfl (fun w' hS => exec_load_cells (P := Try.prog) 26 _ rfl rfl (fun j v hj => (hS.cell (0 + j)).trans (HG.out j v hj)) Try.underlying26 rfl size_geo) (fun K hK => ?_); go_simp; refine hK _ ?_; clear hK K
        refine pc_call rfl rfl (fun K hK => ?_); go_simp; refine ⟨_, _, ⟨rfl, rfl⟩, hK _ _ _ ?_⟩; clear hK K
        refine (lnpages_any h.g _).mono ?_
        rintro r w9 ⟨rfl, m9⟩
        have HQ := Lib.hid (And.intro (HP.out.1.nn_ m9) (And.intro (HP.out.2.1.mod m9 (fun f => f)) (HP.out.2.2.mod m9 (fun _ _ f => f))))
        clear m9
        refine ⟨_, rfl, HQ.out.2.1, ?_⟩
        iterate 1 (refine pc_pure rfl rfl (fun K hK => ?_); go_simp; refine hK _ ?_; clear hK K)
        try (first | rw [show decide (h.p ≤ h.g.npages) = false from decide_eq_false (by omega)])
        iterate 2 (refine pc_pure rfl rfl (fun K hK => ?_); go_simp; refine hK _ ?_; clear hK K)
        refine pc_skip rfl rfl (fun K hK => ?_); go_simp; refine hK _ ?_; clear hK K
        refine pc_skip rfl rfl (fun K hK => ?_); go_simp; refine hK _ ?_; clear hK K
        refine pc_skip rfl rfl (fun K hK => ?_); go_simp; refine hK _ ?_; clear hK K
        iterate 2 (refine pc_pure rfl rfl (fun K hK => ?_); go_simp; refine hK _ ?_; clear hK K)
        refine pc_skip rfl rfl (fun K hK => ?_); go_simp; refine hK _ ?_; clear hK K
        refine pc_skip rfl rfl (fun K hK => ?_); go_simp; refine hK _ ?_; clear hK K
        refine pc_skip rfl rfl (fun K hK => ?_); go_simp; refine hK _ ?_; clear hK K
        refine pc_skip rfl rfl (fun K hK => ?_); go_simp; refine hK _ ?_; clear hK K
        refine pc_skip rfl rfl (fun K hK => ?_); go_simp; refine hK _ ?_; clear hK K
        iterate 2 (refine pc_pure rfl rfl (fun K hK => ?_); go_simp; refine hK _ ?_; clear hK K)
        refine pc_skip rfl rfl (fun K hK => ?_); go_simp; refine hK _ ?_; clear hK K
        refine pc_skip rfl rfl (fun K hK => ?_); go_simp; refine hK _ ?_; clear hK K
        refine pc_skip rfl rfl (fun K hK => ?_); go_simp; refine hK _ ?_; clear hK K
        iterate 2 (refine pc_pure rfl rfl (fun K hK => ?_); go_simp; refine hK _ ?_; clear hK K)
        refine pc_skip rfl rfl (fun K hK => ?_); go_simp; refine hK _ ?_; clear hK K
        refine pc_skip rfl rfl (fun K hK => ?_); go_simp; refine hK _ ?_; clear hK K
        refine pc_skip rfl rfl (fun K hK => ?_); go_simp; refine hK _ ?_; clear hK K
        iterate 2 (refine pc_pure rfl rfl (fun K hK => ?_); go_simp; refine hK _ ?_; clear hK K)
        refine pc_nil ?_
        go_wp2
        go_meet
        exact ⟨rfl, HQ.out.1, HQ.out.2.2⟩
      by_cases q5 : 0 ≤ h.r
      case neg =>
        refine wp_region_planC (fun w' => Blk w' w.heap.size 28 (hC h)) [(0, true), (1, true), (2, false), (3, true), (4, true), (5, true), (6, true), (7, true), (8, true), (9, true), (10, true), (11, true), (12, true), (13, true), (14, true), (15, true), (16, true), (17, true), (18, true), (19, true), (20, true), (21, true), (22, true), (23, false), (24, true), (25, true), (26, true), (27, true), (28, true), (29, true), (30, true), (31, true), (32, true), (33, true), (34, true), (35, true), (36, true), (37, true), (38, true), (39, true), (40, true), (41, true), (42, true), (43, true), (44, true), (45, true), (46, true), (47, true), (48, true)] (by kernel_rfl) (by kernel_rfl) H2.out.2.1.drew ?_
        iterate 1 (refine pc_pure rfl rfl (fun K hK => ?_); go_simp; refine hK _ ?_; clear hK K)
        refine pc_take _ rfl rfl (fun w' hS => exec_load_cells (P := Try.prog) 26 _ rfl rfl (fun j v hj => (hS.cell (0 + j)).trans (HG.out j v hj)) Try.underlying26 rfl size_geo) (fun K hK => ?_); go_simp; refine hK _ ?_; clear hK K
        refine pc_call rfl rfl (fun K hK => ?_); go_simp; refine ⟨_, _, ⟨rfl, rfl⟩, hK _ _ _ ?_⟩; clear hK K
        refine (lright_yes h.g _ gr).mono ?_
        rintro r w8 ⟨rfl, m8⟩
        have HP := Lib.hid (And.intro (H2.out.1.drew.nn_ m8) (And.intro (H2.out.2.1.drew.mod m8 (fun f => f)) ((H2.out.2.2.drew).mod m8 (fun _ _ f => f))))
        clear m8
        refine ⟨_, rfl, HP.out.2.1, ?_⟩
        iterate 1 (refine pc_pure rfl rfl (fun K hK => ?_); go_simp; refine hK _ ?_; clear hK K)
        iterate 1 (refine pc_pure rfl rfl (fun K hK => ?_); go_simp; refine hK _ ?_; clear hK K)
        refine pc_take (.int .i64 h.n) rfl rfl (fun w' hS => exec_load1 (P := Try.prog) 3 _ rfl rfl (hS.cell 5) Try.underlying3 rfl) (fun K hK => ?_); go_simp; refine hK _ ?_; clear hK K
        iterate 1 (refine pc_pure rfl rfl (fun K hK => ?_); go_simp; refine hK _ ?_; clear hK K)
        try (first | rw [show decide (0 ≤ h.n) = true from decide_eq_true (by omega)] | rw [show decide (h.n ≥ 0) = true from decide_eq_true (by omega)])
        iterate 2 (refine pc_pure rfl rfl (fun K hK => ?_); go_simp; refine hK _ ?_; clear hK K)
        iterate 1 (refine pc_pure rfl rfl (fun K hK => ?_); go_simp; refine hK _ ?_; clear hK K)
        refine pc_take (.int .i64 h.n) rfl rfl (fun w' hS => exec_load1 (P := Try.prog) 3 _ rfl rfl (hS.cell 5) Try.underlying3 rfl) (fun K hK => ?_); go_simp; refine hK _ ?_; clear hK K
        iterate 1 (refine pc_pure rfl rfl (fun K hK => ?_); go_simp; refine hK _ ?_; clear hK K)
        try (first | rw [show decide (h.n ≤ 1099511627776) = true from decide_eq_true (by omega)])
        iterate 2 (refine pc_pure rfl rfl (fun K hK => ?_); go_simp; refine hK _ ?_; clear hK K)
        iterate 1 (refine pc_pure rfl rfl (fun K hK => ?_); go_simp; refine hK _ ?_; clear hK K)
        refine pc_take (.int .i64 h.p) rfl rfl (fun w' hS => exec_load1 (P := Try.prog) 3 _ rfl rfl (hS.cell 6) Try.underlying3 rfl) (fun K hK => ?_); go_simp; refine hK _ ?_; clear hK K
        iterate 1 (refine pc_pure rfl rfl (fun K hK => ?_); go_simp; refine hK _ ?_; clear hK K)
        try (first | rw [show decide (1 ≤ h.p) = true from decide_eq_true (by omega)] | rw [show decide (h.p ≥ 1) = true from decide_eq_true (by omega)])
        iterate 2 (refine pc_pure rfl rfl (fun K hK => ?_); go_simp; refine hK _ ?_; clear hK K)
        iterate 1 (refine pc_pure rfl rfl (fun K hK => ?_); go_simp; refine hK _ ?_; clear hK K)
        refine pc_take (.int .i64 h.p) rfl rfl (fun w' hS => exec_load1 (P := Try.prog) 3 _ rfl rfl (hS.cell 6) Try.underlying3 rfl) (fun K hK => ?_); go_simp; refine hK _ ?_; clear hK K
        iterate 1 (refine pc_pure rfl rfl (fun K hK => ?_); go_simp; refine hK _ ?_; clear hK K)
        refine pc_take _ rfl rfl (fun w' hS => exec_load_cells (P := Try.prog) 26 _ rfl rfl (fun j v hj => (hS.cell (0 + j)).trans (HG.out j v hj)) Try.underlying26 rfl size_geo) (fun K hK => ?_); go_simp; refine hK _ ?_; clear hK K
        refine pc_call rfl rfl (fun K hK => ?_); go_simp; refine ⟨_, _, ⟨rfl, rfl⟩, hK _ _ _ ?_⟩; clear hK K
        refine (lnpages_any h.g _).mono ?_
        rintro r w9 ⟨rfl, m9⟩
        have HQ := Lib.hid (And.intro (HP.out.1.nn_ m9) (And.intro (HP.out.2.1.mod m9 (fun f => f)) (HP.out.2.2.mod m9 (fun _ _ f => f))))
        clear m9
        refine ⟨_, rfl, HQ.out.2.1, ?_⟩
        iterate 1 (refine pc_pure rfl rfl (fun K hK => ?_); go_simp; refine hK _ ?_; clear hK K)
        try (first | rw [show decide (h.p ≤ h.g.npages) = true from decide_eq_true (by omega)])
        iterate 2 (refine pc_pure rfl rfl (fun K hK => ?_); go_simp; refine hK _ ?_; clear hK K)
        iterate 1 (refine pc_pure rfl rfl (fun K hK => ?_); go_simp; refine hK _ ?_; clear hK K)
        refine pc_take (.int .i64 h.r) rfl rfl (fun w' hS => exec_load1 (P := Try.prog) 3 _ rfl rfl (hS.cell 7) Try.underlying3 rfl) (fun K hK => ?_); go_simp; refine hK _ ?_; clear hK K
        iterate 1 (refine pc_pure rfl rfl (fun K hK => ?_); go_simp; refine hK _ ?_; clear hK K)
        try (first | rw [show decide (0 ≤ h.r) = false from decide_eq_false (by omega)] | rw [show decide (h.r ≥ 0) = false from decide_eq_false (by omega)])
        iterate 2 (refine pc_pure rfl rfl (fun K hK => ?_); go_simp; refine hK _ ?_; clear hK K)
        refine pc_skip rfl rfl (fun K hK => ?_); go_simp; refine hK _ ?_; clear hK K
        refine pc_skip rfl rfl (fun K hK => ?_); go_simp; refine hK _ ?_; clear hK K
        refine pc_skip rfl rfl (fun K hK => ?_); go_simp; refine hK _ ?_; clear hK K
        refine pc_skip rfl rfl (fun K hK => ?_); go_simp; refine hK _ ?_; clear hK K
        refine pc_skip rfl rfl (fun K hK => ?_); go_simp; refine hK _ ?_; clear hK K
        iterate 2 (refine pc_pure rfl rfl (fun K hK => ?_); go_simp; refine hK _ ?_; clear hK K)
        refine pc_skip rfl rfl (fun K hK => ?_); go_simp; refine hK _ ?_; clear hK K
        refine pc_skip rfl rfl (fun K hK => ?_); go_simp; refine hK _ ?_; clear hK K
        refine pc_skip rfl rfl (fun K hK => ?_); go_simp; refine hK _ ?_; clear hK K
        iterate 2 (refine pc_pure rfl rfl (fun K hK => ?_); go_simp; refine hK _ ?_; clear hK K)
        refine pc_skip rfl rfl (fun K hK => ?_); go_simp; refine hK _ ?_; clear hK K
        refine pc_skip rfl rfl (fun K hK => ?_); go_simp; refine hK _ ?_; clear hK K
        refine pc_skip rfl rfl (fun K hK => ?_); go_simp; refine hK _ ?_; clear hK K
        iterate 2 (refine pc_pure rfl rfl (fun K hK => ?_); go_simp; refine hK _ ?_; clear hK K)
        refine pc_nil ?_
        go_wp2
        go_meet
        exact ⟨rfl, HQ.out.1, HQ.out.2.2⟩
      by_cases q6 : h.r < h.p
      case neg =>
        refine wp_region_planC (fun w' => Blk w' w.heap.size 28 (hC h)) [(0, true), (1, true), (2, false), (3, true), (4, true), (5, true), (6, true), (7, true), (8, true), (9, true), (10, true), (11, true), (12, true), (13, true), (14, true), (15, true), (16, true), (17, true), (18, true), (19, true), (20, true), (21, true), (22, true), (23, false), (24, true), (25, true), (26, true), (27, true), (28, true), (29, true), (30, true), (31, true), (32, true), (33, true), (34, true), (35, true), (36, true), (37, true), (38, true), (39, true), (40, true), (41, true), (42, true), (43, true), (44, true), (45, true), (46, true), (47, true), (48, true)] (by kernel_rfl) (by kernel_rfl) H2.out.2.1.drew ?_
        iterate 1 (refine pc_pure rfl rfl (fun K hK => ?_); go_simp; refine hK _ ?_; clear hK K)
        refine pc_take _ rfl rfl (fun w' hS => exec_load_cells (P := Try.prog) 26 _ rfl rfl (fun j v hj => (hS.cell (0 + j)).trans (HG.out j v hj)) Try.underlying26 rfl size_geo) (fun K hK => ?_); go_simp; refine hK _ ?_; clear hK K
        refine pc_call rfl rfl (fun K hK => ?_); go_simp; refine ⟨_, _, ⟨rfl, rfl⟩, hK _ _ _ ?_⟩; clear hK K
        refine (lright_yes h.g _ gr).mono ?_
        rintro r w8 ⟨rfl, m8⟩
        have HP := Lib.hid (And.intro (H2.out.1.drew.nn_ m8) (And.intro (H2.out.2.1.drew.mod m8 (fun f => f)) ((H2.out.2.2.drew).mod m8 (fun _ _ f => f))))
        clear m8
        refine ⟨_, rfl, HP.out.2.1, ?_⟩
        iterate 1 (refine pc_pure rfl rfl (fun K hK => ?_); go_simp; refine hK _ ?_; clear hK K)
        iterate 1 (refine pc_pure rfl rfl (fun K hK => ?_); go_simp; refine hK _ ?_; clear hK K)
        refine pc_take (.int .i64 h.n) rfl rfl (fun w' hS => exec_load1 (P := Try.prog) 3 _ rfl rfl (hS.cell 5) Try.underlying3 rfl) (fun K hK => ?_); go_simp; refine hK _ ?_; clear hK K
        iterate 1 (refine pc_pure rfl rfl (fun K hK => ?_); go_simp; refine hK _ ?_; clear hK K)
        try (first | rw [show decide (0 ≤ h.n) = true from decide_eq_true (by omega)] | rw [show decide (h.n ≥ 0) = true from decide_eq_true (by omega)])
        iterate 2 (refine pc_pure rfl rfl (fun K hK => ?_); go_simp; refine hK _ ?_; clear hK K)
        iterate 1 (refine pc_pure rfl rfl (fun K hK => ?_); go_simp; refine hK _ ?_; clear hK K)
        refine pc_take (.int .i64 h.n) rfl rfl (fun w' hS => exec_load1 (P := Try.prog) 3 _ rfl rfl (hS.cell 5) Try.underlying3 rfl) (fun K hK => ?_); go_simp; refine hK _ ?_; clear hK K
        iterate 1 (refine pc_pure rfl rfl (fun K hK => ?_); go_simp; refine hK _ ?_; clear hK K)
        try (first | rw [show decide (h.n ≤ 1099511627776) = true from decide_eq_true (by omega)])
        iterate 2 (refine pc_pure rfl rfl (fun K hK => ?_); go_simp; refine hK _ ?_; clear hK K)
        iterate 1 (refine pc_pure rfl rfl (fun K hK => ?_); go_simp; refine hK _ ?_; clear hK K)
        refine pc_take (.int .i64 h.p) rfl rfl (fun w' hS => exec_load1 (P := Try.prog) 3 _ rfl rfl (hS.cell 6) Try.underlying3 rfl) (fun K hK => ?_); go_simp; refine hK _ ?_; clear hK K
        iterate 1 (refine pc_pure rfl rfl (fun K hK => ?_); go_simp; refine hK _ ?_; clear hK K)
        try (first | rw [show decide (1 ≤ h.p) = true from decide_eq_true (by omega)] | rw [show decide (h.p ≥ 1) = true from decide_eq_true (by omega)])
        iterate 2 (refine pc_pure rfl rfl (fun K hK => ?_); go_simp; refine hK _ ?_; clear hK K)
        iterate 1 (refine pc_pure rfl rfl (fun K hK => ?_); go_simp; refine hK _ ?_; clear hK K)
        refine pc_take (.int .i64 h.p) rfl rfl (fun w' hS => exec_load1 (P := Try.prog) 3 _ rfl rfl (hS.cell 6) Try.underlying3 rfl) (fun K hK => ?_); go_simp; refine hK _ ?_; clear hK K
        iterate 1 (refine pc_pure rfl rfl (fun K hK => ?_); go_simp; refine hK _ ?_; clear hK K)
        refine pc_take _ rfl rfl (fun w' hS => exec_load_cells (P := Try.prog) 26 _ rfl rfl (fun j v hj => (hS.cell (0 + j)).trans (HG.out j v hj)) Try.underlying26 rfl size_geo) (fun K hK => ?_); go_simp; refine hK _ ?_; clear hK K
        refine pc_call rfl rfl (fun K hK => ?_); go_simp; refine ⟨_, _, ⟨rfl, rfl⟩, hK _ _ _ ?_⟩; clear hK K
        refine (lnpages_any h.g _).mono ?_
        rintro r w9 ⟨rfl, m9⟩
        have HQ := Lib.hid (And.intro (HP.out.1.nn_ m9) (And.intro (HP.out.2.1.mod m9 (fun f => f)) (HP.out.2.2.mod m9 (fun _ _ f => f))))
        clear m9
        refine ⟨_, rfl, HQ.out.2.1, ?_⟩
        iterate 1 (refine pc_pure rfl rfl (fun K hK => ?_); go_simp; refine hK _ ?_; clear hK K)
        try (first | rw [show decide (h.p ≤ h.g.npages) = true from decide_eq_true (by omega)])
        iterate 2 (refine pc_pure rfl rfl (fun K hK => ?_); go_simp; refine hK _ ?_; clear hK K)
        iterate 1 (refine pc_pure rfl rfl (fun K hK => ?_); go_simp; refine hK _ ?_; clear hK K)
        refine pc_take (.int .i64 h.r) rfl rfl (fun w' hS => exec_load1 (P := Try.prog) 3 _ rfl rfl (hS.cell 7) Try.underlying3 rfl) (fun K hK => ?_); go_simp; refine hK _ ?_; clear hK K
        iterate 1 (refine pc_pure rfl rfl (fun K hK => ?_); go_simp; refine hK _ ?_; clear hK K)
        try (first | rw [show decide (0 ≤ h.r) = true from decide_eq_true (by omega)] | rw [show decide (h.r ≥ 0) = true from decide_eq_true (by omega)])
        iterate 2 (refine pc_pure rfl rfl (fun K hK => ?_); go_simp; refine hK _ ?_; clear hK K)
        iterate 1 (refine pc_pure rfl rfl (fun K hK => ?_); go_simp; refine hK _ ?_; clear hK K)
        refine pc_take (.int .i64 h.r) rfl rfl (fun w' hS => exec_load1 (P := Try.prog) 3 _ rfl rfl (hS.cell 7) Try.underlying3 rfl) (fun K hK => ?_); go_simp; refine hK _ ?_; clear hK K
        iterate 1 (refine pc_pure rfl rfl (fun K hK => ?_); go_simp; refine hK _ ?_; clear hK K)
        refine pc_take (.int .i64 h.p) rfl rfl (fun w' hS => exec_load1 (P := Try.prog) 3 _ rfl rfl (hS.cell 6) Try.underlying3 rfl) (fun K hK => ?_); go_simp; refine hK _ ?_; clear hK K
        iterate 1 (refine pc_pure rfl rfl (fun K hK => ?_); go_simp; refine hK _ ?_; clear hK K)
        try (first | rw [show decide (h.r < h.p) = false from decide_eq_false (by omega)])
        iterate 2 (refine pc_pure rfl rfl (fun K hK => ?_); go_simp; refine hK _ ?_; clear hK K)
        refine pc_skip rfl rfl (fun K hK => ?_); go_simp; refine hK _ ?_; clear hK K
        refine pc_skip rfl rfl (fun K hK => ?_); go_simp; refine hK _ ?_; clear hK K
        refine pc_skip rfl rfl (fun K hK => ?_); go_simp; refine hK _ ?_; clear hK K
        iterate 2 (refine pc_pure rfl rfl (fun K hK => ?_); go_simp; refine hK _ ?_; clear hK K)
        refine pc_skip rfl rfl (fun K hK => ?_); go_simp; refine hK _ ?_; clear hK K
        refine pc_skip rfl rfl (fun K hK => ?_); go_simp; refine hK _ ?_; clear hK K
        refine pc_skip rfl rfl (fun K hK => ?_); go_simp; refine hK _ ?_; clear hK K
        iterate 2 (refine pc_pure rfl rfl (fun K hK => ?_); go_simp; refine hK _ ?_; clear hK K)
        refine pc_nil ?_
        go_wp2
        go_meet
        exact ⟨rfl, HQ.out.1, HQ.out.2.2⟩
      by_cases q7 : 1 ≤ h.k
      case neg =>
        refine wp_region_planC (fun w' => Blk w' w.heap.size 28 (hC h)) [(0, true), (1, true), (2, false), (3, true), (4, true), (5, true), (6, true), (7, true), (8, true), (9, true), (10, true), (11, true), (12, true), (13, true), (14, true), (15, true), (16, true), (17, true), (18, true), (19, true), (20, true), (21, true), (22, true), (23, false), (24, true), (25, true), (26, true), (27, true), (28, true), (29, true), (30, true), (31, true), (32, true), (33, true), (34, true), (35, true), (36, true), (37, true), (38, true), (39, true), (40, true), (41, true), (42, true), (43, true), (44, true), (45, true), (46, true), (47, true), (48, true)] (by kernel_rfl) (by kernel_rfl) H2.out.2.1.drew ?_
        iterate 1 (refine pc_pure rfl rfl (fun K hK => ?_); go_simp; refine hK _ ?_; clear hK K)
        refine pc_take _ rfl rfl (fun w' hS => exec_load_cells (P := Try.prog) 26 _ rfl rfl (fun j v hj => (hS.cell (0 + j)).trans (HG.out j v hj)) Try.underlying26 rfl size_geo) (fun K hK => ?_); go_simp; refine hK _ ?_; clear hK K
        refine pc_call rfl rfl (fun K hK => ?_); go_simp; refine ⟨_, _, ⟨rfl, rfl⟩, hK _ _ _ ?_⟩; clear hK K
        refine (lright_yes h.g _ gr).mono ?_
        rintro r w8 ⟨rfl, m8⟩
        have HP := Lib.hid (And.intro (H2.out.1.drew.nn_ m8) (And.intro (H2.out.2.1.drew.mod m8 (fun f => f)) ((H2.out.2.2.drew).mod m8 (fun _ _ f => f))))
        clear m8
        refine ⟨_, rfl, HP.out.2.1, ?_⟩
        iterate 1 (refine pc_pure rfl rfl (fun K hK => ?_); go_simp; refine hK _ ?_; clear hK K)
        iterate 1 (refine pc_pure rfl rfl (fun K hK => ?_); go_simp; refine hK _ ?_; clear hK K)
        refine pc_take (.int .i64 h.n) rfl rfl (fun w' hS => exec_load1 (P := Try.prog) 3 _ rfl rfl (hS.cell 5) Try.underlying3 rfl) (fun K hK => ?_); go_simp; refine hK _ ?_; clear hK K
        iterate 1 (refine pc_pure rfl rfl (fun K hK => ?_); go_simp; refine hK _ ?_; clear hK K)
        try (first | rw [show decide (0 ≤ h.n) = true from decide_eq_true (by omega)] | rw [show decide (h.n ≥ 0) = true from decide_eq_true (by omega)])
        iterate 2 (refine pc_pure rfl rfl (fun K hK => ?_); go_simp; refine hK _ ?_; clear hK K)
        iterate 1 (refine pc_pure rfl rfl (fun K hK => ?_); go_simp; refine hK _ ?_; clear hK K)
        refine pc_take (.int .i64 h.n) rfl rfl (fun w' hS => exec_load1 (P := Try.prog) 3 _ rfl rfl (hS.cell 5) Try.underlying3 rfl) (fun K hK => ?_); go_simp; refine hK _ ?_; clear hK K
        iterate 1 (refine pc_pure rfl rfl (fun K hK => ?_); go_simp; refine hK _ ?_; clear hK K)
        try (first | rw [show decide (h.n ≤ 1099511627776) = true from decide_eq_true (by omega)])
        iterate 2 (refine pc_pure rfl rfl (fun K hK => ?_); go_simp; refine hK _ ?_; clear hK K)
        iterate 1 (refine pc_pure rfl rfl (fun K hK => ?_); go_simp; refine hK _ ?_; clear hK K)
        refine pc_take (.int .i64 h.p) rfl rfl (fun w' hS => exec_load1 (P := Try.prog) 3 _ rfl rfl (hS.cell 6) Try.underlying3 rfl) (fun K hK => ?_); go_simp; refine hK _ ?_; clear hK K
        iterate 1 (refine pc_pure rfl rfl (fun K hK => ?_); go_simp; refine hK _ ?_; clear hK K)
        try (first | rw [show decide (1 ≤ h.p) = true from decide_eq_true (by omega)] | rw [show decide (h.p ≥ 1) = true from decide_eq_true (by omega)])
        iterate 2 (refine pc_pure rfl rfl (fun K hK => ?_); go_simp; refine hK _ ?_; clear hK K)
        iterate 1 (refine pc_pure rfl rfl (fun K hK => ?_); go_simp; refine hK _ ?_; clear hK K)
        refine pc_take (.int .i64 h.p) rfl rfl (fun w' hS => exec_load1 (P := Try.prog) 3 _ rfl rfl (hS.cell 6) Try.underlying3 rfl) (fun K hK => ?_); go_simp; refine hK _ ?_; clear hK K
        iterate 1 (refine pc_pure rfl rfl (fun K hK => ?_); go_simp; refine hK _ ?_; clear hK K)
        refine pc_take _ rfl rfl (fun w' hS => exec_load_cells (P := Try.prog) 26 _ rfl rfl (fun j v hj => (hS.cell (0 + j)).trans (HG.out j v hj)) Try.underlying26 rfl size_geo) (fun K hK => ?_); go_simp; refine hK _ ?_; clear hK K
        refine pc_call rfl rfl (fun K hK => ?_); go_simp; refine ⟨_, _, ⟨rfl, rfl⟩, hK _ _ _ ?_⟩; clear hK K
        refine (lnpages_any h.g _).mono ?_
        rintro r w9 ⟨rfl, m9⟩
        have HQ := Lib.hid (And.intro (HP.out.1.nn_ m9) (And.intro (HP.out.2.1.mod m9 (fun f => f)) (HP.out.2.2.mod m9 (fun _ _ f => f))))
        clear m9
        refine ⟨_, rfl, HQ.out.2.1, ?_⟩
        iterate 1 (refine pc_pure rfl rfl (fun K hK => ?_); go_simp; refine hK _ ?_; clear hK K)
        try (first | rw [show decide (h.p ≤ h.g.npages) = true from decide_eq_true (by omega)])
        iterate 2 (refine pc_pure rfl rfl (fun K hK => ?_); go_simp; refine hK _ ?_; clear hK K)
        iterate 1 (refine pc_pure rfl rfl (fun K hK => ?_); go_simp; refine hK _ ?_; clear hK K)
        refine pc_take (.int .i64 h.r) rfl rfl (fun w' hS => exec_load1 (P := Try.prog) 3 _ rfl rfl (hS.cell 7) Try.underlying3 rfl) (fun K hK => ?_); go_simp; refine hK _ ?_; clear hK K
        iterate 1 (refine pc_pure rfl rfl (fun K hK => ?_); go_simp; refine hK _ ?_; clear hK K)
        try (first | rw [show decide (0 ≤ h.r) = true from decide_eq_true (by omega)] | rw [show decide (h.r ≥ 0) = true from decide_eq_true (by omega)])
        iterate 2 (refine pc_pure rfl rfl (fun K hK => ?_); go_simp; refine hK _ ?_; clear hK K)
        iterate 1 (refine pc_pure rfl rfl (fun K hK => ?_); go_simp; refine hK _ ?_; clear hK K)
        refine pc_take (.int .i64 h.r) rfl rfl (fun w' hS => exec_load1 (P := Try.prog) 3 _ rfl rfl (hS.cell 7) Try.underlying3 rfl) (fun K hK => ?_); go_simp; refine hK _ ?_; clear hK K
        iterate 1 (refine pc_pure rfl rfl (fun K hK => ?_); go_simp; refine hK _ ?_; clear hK K)
        refine pc_take (.int .i64 h.p) rfl rfl (fun w' hS => exec_load1 (P := Try.prog) 3 _ rfl rfl (hS.cell 6) Try.underlying3 rfl) (fun K hK => ?_); go_simp; refine hK _ ?_; clear hK K
        iterate 1 (refine pc_pure rfl rfl (fun K hK => ?_); go_simp; refine hK _ ?_; clear hK K)
        try (first | rw [show decide (h.r < h.p) = true from decide_eq_true (by omega)])
        iterate 2 (refine pc_pure rfl rfl (fun K hK => ?_); go_simp; refine hK _ ?_; clear hK K)
        iterate 1 (refine pc_pure rfl rfl (fun K hK => ?_); go_simp; refine hK _ ?_; clear hK K)
        refine pc_take (.int .i64 h.k) rfl rfl (fun w' hS => exec_load1 (P := Try.prog) 3 _ rfl rfl (hS.cell 8) Try.underlying3 rfl) (fun K hK => ?_); go_simp; refine hK _ ?_; clear hK K
        iterate 1 (refine pc_pure rfl rfl (fun K hK => ?_); go_simp; refine hK _ ?_; clear hK K)
        try (first | rw [show decide (1 ≤ h.k) = false from decide_eq_false (by omega)] | rw [show decide (h.k ≥ 1) = false from decide_eq_false (by omega)])
        iterate 2 (refine pc_pure rfl rfl (fun K hK => ?_); go_simp; refine hK _ ?_; clear hK K)
        refine pc_skip rfl rfl (fun K hK => ?_); go_simp; refine hK _ ?_; clear hK K
        refine pc_skip rfl rfl (fun K hK => ?_); go_simp; refine hK _ ?_; clear hK K
        refine pc_skip rfl rfl (fun K hK => ?_); go_simp; refine hK _ ?_; clear hK K
        iterate 2 (refine pc_pure rfl rfl (fun K hK => ?_); go_simp; refine hK _ ?_; clear hK K)
        refine pc_nil ?_
        go_wp2
        go_meet
        exact ⟨rfl, HQ.out.1, HQ.out.2.2⟩
      by_cases q8 : h.k ≤ 1073741824
      case neg =>
        refine wp_region_planC (fun w' => Blk w' w.heap.size 28 (hC h)) [(0, true), (1, true), (2, false), (3, true), (4, true), (5, true), (6, true), (7, true), (8, true), (9, true), (10, true), (11, true), (12, true), (13, true), (14, true), (15, true), (16, true), (17, true), (18, true), (19, true), (20, true), (21, true), (22, true), (23, false), (24, true), (25, true), (26, true), (27, true), (28, true), (29, true), (30, true), (31, true), (32, true), (33, true), (34, true), (35, true), (36, true), (37, true), (38, true), (39, true), (40, true), (41, true), (42, true), (43, true), (44, true), (45, true), (46, true), (47, true), (48, true)] (by kernel_rfl) (by kernel_rfl) H2.out.2.1.drew ?_
        iterate 1 (refine pc_pure rfl rfl (fun K hK => ?_); go_simp; refine hK _ ?_; clear hK K)
        refine pc_take _ rfl rfl (fun w' hS => exec_load_cells (P := Try.prog) 26 _ rfl rfl (fun j v hj => (hS.cell (0 + j)).trans (HG.out j v hj)) Try.underlying26 rfl size_geo) (fun K hK => ?_); go_simp; refine hK _ ?_; clear hK K
        refine pc_call rfl rfl (fun K hK => ?_); go_simp; refine ⟨_, _, ⟨rfl, rfl⟩, hK _ _ _ ?_⟩; clear hK K
        refine (lright_yes h.g _ gr).mono ?_
        rintro r w8 ⟨rfl, m8⟩
        have HP := Lib.hid (And.intro (H2.out.1.drew.nn_ m8) (And.intro (H2.out.2.1.drew.mod m8 (fun f => f)) ((H2.out.2.2.drew).mod m8 (fun _ _ f => f))))
        clear m8
        refine ⟨_, rfl, HP.out.2.1, ?_⟩
        iterate 1 (refine pc_pure rfl rfl (fun K hK => ?_); go_simp; refine hK _ ?_; clear hK K)
        iterate 1 (refine pc_pure rfl rfl (fun K hK => ?_); go_simp; refine hK _ ?_; clear hK K)
        refine pc_take (.int .i64 h.n) rfl rfl (fun w' hS => exec_load1 (P := Try.prog) 3 _ rfl rfl (hS.cell 5) Try.underlying3 rfl) (fun K hK => ?_); go_simp; refine hK _ ?_; clear hK K
        iterate 1 (refine pc_pure rfl rfl (fun K hK => ?_); go_simp; refine hK _ ?_; clear hK K)
        try (first | rw [show decide (0 ≤ h.n) = true from decide_eq_true (by omega)] | rw [show decide (h.n ≥ 0) = true from decide_eq_true (by omega)])
        iterate 2 (refine pc_pure rfl rfl (fun K hK => ?_); go_simp; refine hK _ ?_; clear hK K)
        iterate 1 (refine pc_pure rfl rfl (fun K hK => ?_); go_simp; refine hK _ ?_; clear hK K)
        refine pc_take (.int .i64 h.n) rfl rfl (fun w' hS => exec_load1 (P := Try.prog) 3 _ rfl rfl (hS.cell 5) Try.underlying3 rfl) (fun K hK => ?_); go_simp; refine hK _ ?_; clear hK K
        iterate 1 (refine pc_pure rfl rfl (fun K hK => ?_); go_simp; refine hK _ ?_; clear hK K)
        try (first | rw [show decide (h.n ≤ 1099511627776) = true from decide_eq_true (by omega)])
        iterate 2 (refine pc_pure rfl rfl (fun K hK => ?_); go_simp; refine hK _ ?_; clear hK K)
        iterate 1 (refine pc_pure rfl rfl (fun K hK => ?_); go_simp; refine hK _ ?_; clear hK K)
        refine pc_take (.int .i64 h.p) rfl rfl (fun w' hS => exec_load1 (P := Try.prog) 3 _ rfl rfl (hS.cell 6) Try.underlying3 rfl) (fun K hK => ?_); go_simp; refine hK _ ?_; clear hK K
        iterate 1 (refine pc_pure rfl rfl (fun K hK => ?_); go_simp; refine hK _ ?_; clear hK K)
        try (first | rw [show decide (1 ≤ h.p) = true from decide_eq_true (by omega)] | rw [show decide (h.p ≥ 1) = true from decide_eq_true (by omega)])
        iterate 2 (refine pc_pure rfl rfl (fun K hK => ?_); go_simp; refine hK _ ?_; clear hK K)
        iterate 1 (refine pc_pure rfl rfl (fun K hK => ?_); go_simp; refine hK _ ?_; clear hK K)
        refine pc_take (.int .i64 h.p) rfl rfl (fun w' hS => exec_load1 (P := Try.prog) 3 _ rfl rfl (hS.cell 6) Try.underlying3 rfl) (fun K hK => ?_); go_simp; refine hK _ ?_; clear hK K
        iterate 1 (refine pc_pure rfl rfl (fun K hK => ?_); go_simp; refine hK _ ?_; clear hK K)
        refine pc_take _ rfl rfl (fun w' hS => exec_load_cells (P := Try.prog) 26 _ rfl rfl (fun j v hj => (hS.cell (0 + j)).trans (HG.out j v hj)) Try.underlying26 rfl size_geo) (fun K hK => ?_); go_simp; refine hK _ ?_; clear hK K
        refine pc_call rfl rfl (fun K hK => ?_); go_simp; refine ⟨_, _, ⟨rfl, rfl⟩, hK _ _ _ ?_⟩; clear hK K
        refine (lnpages_any h.g _).mono ?_
        rintro r w9 ⟨rfl, m9⟩
        have HQ := Lib.hid (And.intro (HP.out.1.nn_ m9) (And.intro (HP.out.2.1.mod m9 (fun f => f)) (HP.out.2.2.mod m9 (fun _ _ f => f))))
        clear m9
        refine ⟨_, rfl, HQ.out.2.1, ?_⟩
        iterate 1 (refine pc_pure rfl rfl (fun K hK => ?_); go_simp; refine hK _ ?_; clear hK K)
        try (first | rw [show decide (h.p ≤ h.g.npages) = true from decide_eq_true (by omega)])
        iterate 2 (refine pc_pure rfl rfl (fun K hK => ?_); go_simp; refine hK _ ?_; clear hK K)
        iterate 1 (refine pc_pure rfl rfl (fun K hK => ?_); go_simp; refine hK _ ?_; clear hK K)
        refine pc_take (.int .i64 h.r) rfl rfl (fun w' hS => exec_load1 (P := Try.prog) 3 _ rfl rfl (hS.cell 7) Try.underlying3 rfl) (fun K hK => ?_); go_simp; refine hK _ ?_; clear hK K
        iterate 1 (refine pc_pure rfl rfl (fun K hK => ?_); go_simp; refine hK _ ?_; clear hK K)
        try (first | rw [show decide (0 ≤ h.r) = true from decide_eq_true (by omega)] | rw [show decide (h.r ≥ 0) = true from decide_eq_true (by omega)])
        iterate 2 (refine pc_pure rfl rfl (fun K hK => ?_); go_simp; refine hK _ ?_; clear hK K)
        iterate 1 (refine pc_pure rfl rfl (fun K hK => ?_); go_simp; refine hK _ ?_; clear hK K)
        refine pc_take (.int .i64 h.r) rfl rfl (fun w' hS => exec_load1 (P := Try.prog) 3 _ rfl rfl (hS.cell 7) Try.underlying3 rfl) (fun K hK => ?_); go_simp; refine hK _ ?_; clear hK K
        iterate 1 (refine pc_pure rfl rfl (fun K hK => ?_); go_simp; refine hK _ ?_; clear hK K)
        refine pc_take (.int .i64 h.p) rfl rfl (fun w' hS => exec_load1 (P := Try.prog) 3 _ rfl rfl (hS.cell 6) Try.underlying3 rfl) (fun K hK => ?_); go_simp; refine hK _ ?_; clear hK K
        iterate 1 (refine pc_pure rfl rfl (fun K hK => ?_); go_simp; refine hK _ ?_; clear hK K)
        try (first | rw [show decide (h.r < h.p) = true from decide_eq_true (by omega)])
        iterate 2 (refine pc_pure rfl rfl (fun K hK => ?_); go_simp; refine hK _ ?_; clear hK K)
        iterate 1 (refine pc_pure rfl rfl (fun K hK => ?_); go_simp; refine hK _ ?_; clear hK K)
        refine pc_take (.int .i64 h.k) rfl rfl (fun w' hS => exec_load1 (P := Try.prog) 3 _ rfl rfl (hS.cell 8) Try.underlying3 rfl) (fun K hK => ?_); go_simp; refine hK _ ?_; clear hK K
        iterate 1 (refine pc_pure rfl rfl (fun K hK => ?_); go_simp; refine hK _ ?_; clear hK K)
        try (first | rw [show decide (1 ≤ h.k) = true from decide_eq_true (by omega)] | rw [show decide (h.k ≥ 1) = true from decide_eq_true (by omega)])
        iterate 2 (refine pc_pure rfl rfl (fun K hK => ?_); go_simp; refine hK _ ?_; clear hK K)
        iterate 1 (refine pc_pure rfl rfl (fun K hK => ?_); go_simp; refine hK _ ?_; clear hK K)
        refine pc_take (.int .i64 h.k) rfl rfl (fun w' hS => exec_load1 (P := Try.prog) 3 _ rfl rfl (hS.cell 8) Try.underlying3 rfl) (fun K hK => ?_); go_simp; refine hK _ ?_; clear hK K
        iterate 1 (refine pc_pure rfl rfl (fun K hK => ?_); go_simp; refine hK _ ?_; clear hK K)
        try (first | rw [show decide (h.k ≤ 1073741824) = false from decide_eq_false (by omega)])
        iterate 2 (refine pc_pure rfl rfl (fun K hK => ?_); go_simp; refine hK _ ?_; clear hK K)
        refine pc_nil ?_
        go_wp2
        go_meet
        exact ⟨rfl, HQ.out.1, HQ.out.2.2⟩
      exact (rh (hir.2 ⟨⟨gr, ⟨q3, q4⟩, ⟨q5, by omega⟩, q7, q8⟩, q1, q2⟩)).elim
    case rest =>
      obtain ⟨rfl, m3, r3⟩ := hcut
      have H3 := Lib.hid (And.intro m3 r3)
      clear m3 r3 hir
      go_wp2_with fail
      refine (hget_any (w := _) HGL.out H3.out.2 HR.out.2.1 (by omega) HR.out.2.2.1 HR.out.2.2.2.1).mono ?_
      rintro r wt ⟨rfl, mt⟩
      have HT1 := Lib.hid (And.intro (H3.out.1.nn_ mt) (H3.out.2.mod mt (fun _ _ f => f)))
      clear mt
      rcases HGL.out.iff.2.1 with hf | hf
      case inl =>
        obtain ⟨hH, hyy, _⟩ : HoldsH l ∧ y = hdOf l ∧ f = 0 := by
          rcases HGL.out with e | ⟨_, _, e⟩
          · exact e
          · rw [e] at hf; exact absurd hf (by decide)
        have hyr : y.right := by rw [hyy]; exact hH.2.2.2.1
        have hyb : y.fr.bytes = l := by rw [hyy]; exact hH.2.2.2.2
        have hn5 : n = 512 := by rw [← HR.out.2.2.2.2]; exact hH.1
        have HY := Lib.hid (And.intro hyr (And.intro hyb hn5))
        clear hH hyy hyr hyb hn5
        subst hf
        go_wp2_with (first
          | (with_reducible change wpList _ _ _ (⟨some 14, Op.alloc _, _, _, _, _⟩ :: _) _ _
             go_must (refine wpList_alloc_var 28 rfl rfl zero_head ?_)
             intro wa ba ma za
             clear za
             have HA := Lib.hid (And.intro ba ma)
             clear ba ma)
          | (with_reducible change wpList _ _ _ (⟨none, Op.store _ (Operand.tmp 14) _, _, _, _, _⟩ :: _) _ _
             go_must (refine wpList_store_var 28 _ _ rfl rfl wt.heap.size (hC y) _ _ rfl rfl HA.out.1 size_head rfl (hC_one _) ?_)
             intro wu bb mb zb
             clear zb
             have mm := HA.out.2.new_ mb (Nat.le_refl _)
             have hszwu : wt.heap.size < wu.heap.size := bb.lt
             have HT2 := Lib.hid (And.intro (HT1.out.1.nn_ mm) (And.intro (HT1.out.2.mod mm (fun _ _ f => f)) bb))
             clear bb mb mm HA)
          | (with_reducible change wpList _ _ _ (⟨some 136, Op.load _ _, _, _, _, _⟩ :: _) _ _
             go_must (refine wpList_load_var 28 _ rfl rfl wt.heap.size (hC y) _ _ rfl HT2.out.2.2 Try.underlying28 rfl size_head ?_))
        )
        refine (hput_right HY.out.1 _).mono ?_
        rintro r wv ⟨gv, cv, rfl, rv, hcv, hmv, mv⟩
        have HT3 := Lib.hid (And.intro (HT2.out.1.nn_ mv) (And.intro (HT2.out.2.1.mod mv (fun _ _ f => f)) rv))
        clear mv rv hcv hmv
        go_wp2_with fail
        have hsm := sameb_yes (c := c) (d := cv) (l := l) (n := n) HT3.out.2.1 (by have e := HT3.out.2.2; rw [HY.out.2.1] at e; rw [HY.out.2.2]; exact e) (by omega)
        have hs5 : n = 512 := HY.out.2.2
        rw [show (Value.slice (some ⟨gv, 0, none⟩) 512 cv) = .slice (some ⟨gv, 0, none⟩) n cv from by rw [hs5]]
        clear hs5
        refine hsm.mono ?_
        rintro r wx ⟨rfl, mx⟩
        have HT4 := Lib.hid (HT3.out.1.nn_ mx)
        clear mx hsm
        go_wp2
        go_ret
        exact ⟨rfl, HT4.out⟩
      case inr =>
        obtain ⟨_, rfl, _⟩ : ¬ HoldsH l ∧ y = hd0 ∧ f = 4 := by
          rcases HGL.out with ⟨_, _, e⟩ | e
          · rw [e] at hf; exact absurd hf (by decide)
          · exact e
        subst hf
        go_wp2_with (first
          | (with_reducible change wpList _ _ _ (⟨some 14, Op.alloc _, _, _, _, _⟩ :: _) _ _
             go_must (refine wpList_alloc_var 28 rfl rfl zero_head ?_)
             intro wa ba ma za
             clear za
             have HA := Lib.hid (And.intro ba ma)
             clear ba ma)
          | (with_reducible change wpList _ _ _ (⟨none, Op.store _ (Operand.tmp 14) _, _, _, _, _⟩ :: _) _ _
             go_must (refine wpList_store_var 28 _ _ rfl rfl wt.heap.size (hC hd0) _ _ rfl rfl HA.out.1 size_head rfl (hC_one _) ?_)
             intro wu bb mb zb
             clear zb
             have mm := HA.out.2.new_ mb (Nat.le_refl _)
             have hszwu : wt.heap.size < wu.heap.size := bb.lt
             have HT2 := Lib.hid (And.intro (HT1.out.1.nn_ mm) bb)
             have Z0 : wu.cell? ⟨wt.heap.size, 0, none⟩ = some (.int .i64 0) := HT2.out.2.cell 0
             have Z1 : wu.cell? ⟨wt.heap.size, 1, none⟩ = some (.int .i64 0) := HT2.out.2.cell 1
             have Z2 : wu.cell? ⟨wt.heap.size, 2, none⟩ = some (.int .i64 0) := HT2.out.2.cell 2
             have Z3 : wu.cell? ⟨wt.heap.size, 3, none⟩ = some (.int .i64 0) := HT2.out.2.cell 3
             have Z4 : wu.cell? ⟨wt.heap.size, 4, none⟩ = some (.int .i64 0) := HT2.out.2.cell 4
             have Z5 : wu.cell? ⟨wt.heap.size, 5, none⟩ = some (.int .i64 0) := HT2.out.2.cell 5
             have Z6 : wu.cell? ⟨wt.heap.size, 6, none⟩ = some (.int .i64 0) := HT2.out.2.cell 6
             have Z7 : wu.cell? ⟨wt.heap.size, 7, none⟩ = some (.int .i64 0) := HT2.out.2.cell 7
             have Z8 : wu.cell? ⟨wt.heap.size, 8, none⟩ = some (.int .i64 0) := HT2.out.2.cell 8
             clear bb mb mm HA))
        go_ret
        exact ⟨rfl, HT2.out.1⟩
  have HRH := Lib.hid rh
  have gr : h.g.right := rh.1.1
  have hi := (inner_iff h).1 rh.1
  have hn9 := rh.2
  clear rh
  go_enter Try.func4, Try.ntmps4
  go_wp2_with fail
  refine (hd_awake _).mono ?_
  rintro r w1 ⟨rfl, m1⟩
  have H1 := Lib.hid (And.intro (H0.out.1.nn_ m1) (H0.out.2.mod m1 (fun f => f)))
  clear m1
  go_wp2_with (first
    | (with_reducible change wpList _ _ _ (⟨some 24, Op.load _ _, _, _, _, _⟩ :: _) _ _
       go_must (refine wpList_load_var 28 _ rfl rfl w.heap.size (hC h) _ _ rfl H1.out.2 Try.underlying28 rfl size_head ?_))
  )
  refine (hput_own HRH.out _).mono ?_
  rintro r w2 ⟨g, cc, rfl, o2, hc2, hm2, hg2, m2⟩
  have H2 := Lib.hid (And.intro (H1.out.1.nn_ m2) (And.intro (H1.out.2.mod m2 (fun f => f)) o2))
  have HC2 := Lib.hid (And.intro hc2 (And.intro hm2 (Nat.le_trans H1.out.1.size hg2)))
  have hwg : w.heap.size < g := Nat.lt_of_lt_of_le H1.out.2.lt hg2
  clear m2 o2 hm2 hg2
  go_wp2_with fail
  refine wp_region_planC (fun w' => Blk w' w.heap.size 28 (hC h)) [(0, true), (1, true), (2, false), (3, true), (4, true), (5, true), (6, true), (7, true), (8, true), (9, true), (10, true), (11, true), (12, true), (13, true), (14, true), (15, true), (16, true), (17, true), (18, true), (19, true), (20, true), (21, true), (22, true), (23, false), (24, true), (25, true), (26, true), (27, true), (28, true), (29, true), (30, true), (31, true), (32, true), (33, true), (34, true), (35, true), (36, true), (37, true), (38, true), (39, true), (40, true), (41, true), (42, true), (43, true), (44, true), (45, true), (46, true), (47, true), (48, true)] (by kernel_rfl) (by kernel_rfl) H2.out.2.1.drew ?_
  iterate 1 (refine pc_pure rfl rfl (fun K hK => ?_); go_simp; refine hK _ ?_; clear hK K)
  refine pc_take _ rfl rfl (fun w' hS => exec_load_cells (P := Try.prog) 26 _ rfl rfl (fun j v hj => (hS.cell (0 + j)).trans (HG.out j v hj)) Try.underlying26 rfl size_geo) (fun K hK => ?_); go_simp; refine hK _ ?_; clear hK K
  refine pc_call rfl rfl (fun K hK => ?_); go_simp; refine ⟨_, _, ⟨rfl, rfl⟩, hK _ _ _ ?_⟩; clear hK K
  refine (lright_yes h.g _ gr).mono ?_
  rintro r w8 ⟨rfl, m8⟩
  have HP := Lib.hid (And.intro (H2.out.1.drew.nn_ m8) (And.intro (H2.out.2.1.drew.mod m8 (fun f => f)) (own_mod (own_mod H2.out.2.2 (Mod.refl Nn w2).drew (fun _ _ f => f)) m8 (fun _ _ f => f))))
  clear m8
  refine ⟨_, rfl, HP.out.2.1, ?_⟩
  iterate 1 (refine pc_pure rfl rfl (fun K hK => ?_); go_simp; refine hK _ ?_; clear hK K)
  iterate 1 (refine pc_pure rfl rfl (fun K hK => ?_); go_simp; refine hK _ ?_; clear hK K)
  refine pc_take (.int .i64 h.n) rfl rfl (fun w' hS => exec_load1 (P := Try.prog) 3 _ rfl rfl (hS.cell 5) Try.underlying3 rfl) (fun K hK => ?_); go_simp; refine hK _ ?_; clear hK K
  iterate 1 (refine pc_pure rfl rfl (fun K hK => ?_); go_simp; refine hK _ ?_; clear hK K)
  try (first | rw [show decide (0 ≤ h.n) = true from decide_eq_true (by omega)] | rw [show decide (h.n ≥ 0) = true from decide_eq_true (by omega)])
  iterate 2 (refine pc_pure rfl rfl (fun K hK => ?_); go_simp; refine hK _ ?_; clear hK K)
  iterate 1 (refine pc_pure rfl rfl (fun K hK => ?_); go_simp; refine hK _ ?_; clear hK K)
  refine pc_take (.int .i64 h.n) rfl rfl (fun w' hS => exec_load1 (P := Try.prog) 3 _ rfl rfl (hS.cell 5) Try.underlying3 rfl) (fun K hK => ?_); go_simp; refine hK _ ?_; clear hK K
  iterate 1 (refine pc_pure rfl rfl (fun K hK => ?_); go_simp; refine hK _ ?_; clear hK K)
  try (first | rw [show decide (h.n ≤ 1099511627776) = true from decide_eq_true (by omega)])
  iterate 2 (refine pc_pure rfl rfl (fun K hK => ?_); go_simp; refine hK _ ?_; clear hK K)
  iterate 1 (refine pc_pure rfl rfl (fun K hK => ?_); go_simp; refine hK _ ?_; clear hK K)
  refine pc_take (.int .i64 h.p) rfl rfl (fun w' hS => exec_load1 (P := Try.prog) 3 _ rfl rfl (hS.cell 6) Try.underlying3 rfl) (fun K hK => ?_); go_simp; refine hK _ ?_; clear hK K
  iterate 1 (refine pc_pure rfl rfl (fun K hK => ?_); go_simp; refine hK _ ?_; clear hK K)
  try (first | rw [show decide (1 ≤ h.p) = true from decide_eq_true (by omega)] | rw [show decide (h.p ≥ 1) = true from decide_eq_true (by omega)])
  iterate 2 (refine pc_pure rfl rfl (fun K hK => ?_); go_simp; refine hK _ ?_; clear hK K)
  iterate 1 (refine pc_pure rfl rfl (fun K hK => ?_); go_simp; refine hK _ ?_; clear hK K)
  refine pc_take (.int .i64 h.p) rfl rfl (fun w' hS => exec_load1 (P := Try.prog) 3 _ rfl rfl (hS.cell 6) Try.underlying3 rfl) (fun K hK => ?_); go_simp; refine hK _ ?_; clear hK K
  iterate 1 (refine pc_pure rfl rfl (fun K hK => ?_); go_simp; refine hK _ ?_; clear hK K)
  refine pc_take _ rfl rfl (fun w' hS => exec_load_cells (P := Try.prog) 26 _ rfl rfl (fun j v hj => (hS.cell (0 + j)).trans (HG.out j v hj)) Try.underlying26 rfl size_geo) (fun K hK => ?_); go_simp; refine hK _ ?_; clear hK K
  refine pc_call rfl rfl (fun K hK => ?_); go_simp; refine ⟨_, _, ⟨rfl, rfl⟩, hK _ _ _ ?_⟩; clear hK K
  refine (lnpages_any h.g _).mono ?_
  rintro r w9 ⟨rfl, m9⟩
  have HQ := Lib.hid (And.intro (HP.out.1.nn_ m9) (And.intro (HP.out.2.1.mod m9 (fun f => f)) (own_mod HP.out.2.2 m9 (fun _ _ f => f))))
  clear m9
  refine ⟨_, rfl, HQ.out.2.1, ?_⟩
  iterate 1 (refine pc_pure rfl rfl (fun K hK => ?_); go_simp; refine hK _ ?_; clear hK K)
  try (first | rw [show decide (h.p ≤ h.g.npages) = true from decide_eq_true (by omega)])
  iterate 2 (refine pc_pure rfl rfl (fun K hK => ?_); go_simp; refine hK _ ?_; clear hK K)
  iterate 1 (refine pc_pure rfl rfl (fun K hK => ?_); go_simp; refine hK _ ?_; clear hK K)
  refine pc_take (.int .i64 h.r) rfl rfl (fun w' hS => exec_load1 (P := Try.prog) 3 _ rfl rfl (hS.cell 7) Try.underlying3 rfl) (fun K hK => ?_); go_simp; refine hK _ ?_; clear hK K
  iterate 1 (refine pc_pure rfl rfl (fun K hK => ?_); go_simp; refine hK _ ?_; clear hK K)
  try (first | rw [show decide (0 ≤ h.r) = true from decide_eq_true (by omega)] | rw [show decide (h.r ≥ 0) = true from decide_eq_true (by omega)])
  iterate 2 (refine pc_pure rfl rfl (fun K hK => ?_); go_simp; refine hK _ ?_; clear hK K)
  iterate 1 (refine pc_pure rfl rfl (fun K hK => ?_); go_simp; refine hK _ ?_; clear hK K)
  refine pc_take (.int .i64 h.r) rfl rfl (fun w' hS => exec_load1 (P := Try.prog) 3 _ rfl rfl (hS.cell 7) Try.underlying3 rfl) (fun K hK => ?_); go_simp; refine hK _ ?_; clear hK K
  iterate 1 (refine pc_pure rfl rfl (fun K hK => ?_); go_simp; refine hK _ ?_; clear hK K)
  refine pc_take (.int .i64 h.p) rfl rfl (fun w' hS => exec_load1 (P := Try.prog) 3 _ rfl rfl (hS.cell 6) Try.underlying3 rfl) (fun K hK => ?_); go_simp; refine hK _ ?_; clear hK K
  iterate 1 (refine pc_pure rfl rfl (fun K hK => ?_); go_simp; refine hK _ ?_; clear hK K)
  try (first | rw [show decide (h.r < h.p) = true from decide_eq_true (by omega)])
  iterate 2 (refine pc_pure rfl rfl (fun K hK => ?_); go_simp; refine hK _ ?_; clear hK K)
  iterate 1 (refine pc_pure rfl rfl (fun K hK => ?_); go_simp; refine hK _ ?_; clear hK K)
  refine pc_take (.int .i64 h.k) rfl rfl (fun w' hS => exec_load1 (P := Try.prog) 3 _ rfl rfl (hS.cell 8) Try.underlying3 rfl) (fun K hK => ?_); go_simp; refine hK _ ?_; clear hK K
  iterate 1 (refine pc_pure rfl rfl (fun K hK => ?_); go_simp; refine hK _ ?_; clear hK K)
  try (first | rw [show decide (1 ≤ h.k) = true from decide_eq_true (by omega)] | rw [show decide (h.k ≥ 1) = true from decide_eq_true (by omega)])
  iterate 2 (refine pc_pure rfl rfl (fun K hK => ?_); go_simp; refine hK _ ?_; clear hK K)
  iterate 1 (refine pc_pure rfl rfl (fun K hK => ?_); go_simp; refine hK _ ?_; clear hK K)
  refine pc_take (.int .i64 h.k) rfl rfl (fun w' hS => exec_load1 (P := Try.prog) 3 _ rfl rfl (hS.cell 8) Try.underlying3 rfl) (fun K hK => ?_); go_simp; refine hK _ ?_; clear hK K
  iterate 1 (refine pc_pure rfl rfl (fun K hK => ?_); go_simp; refine hK _ ?_; clear hK K)
  try (first | rw [show decide (h.k ≤ 1073741824) = true from decide_eq_true (by omega)])
  iterate 2 (refine pc_pure rfl rfl (fun K hK => ?_); go_simp; refine hK _ ?_; clear hK K)
  refine pc_nil ?_
  clear hi hn9
  go_wp2_with fail
  refine (hget_any (w := w9) (hget_bytes HRH.out) (Rd.of_own HQ.out.2.2) (h.fr.bytes_lt h.data_lt) (by omega) HC2.out.1 HC2.out.2.1).mono ?_
  rintro r w3 ⟨rfl, m3⟩
  have H3 := Lib.hid (And.intro (HQ.out.1.nn_ m3) (And.intro (HQ.out.2.1.mod m3 (fun f => f)) (own_mod HQ.out.2.2 m3 (fun _ _ f => f))))
  clear m3
  go_wp2_with (first
    | (with_reducible change wpList _ _ _ (⟨some 10, Op.alloc _, _, _, _, _⟩ :: _) _ _
       go_must (refine wpList_alloc_var 28 rfl rfl zero_head ?_)
       intro wa ba ma za
       clear za
       have HA := Lib.hid (And.intro ba ma)
       clear ba ma)
    | (with_reducible change wpList _ _ _ (⟨none, Op.store _ (Operand.tmp 10) _, _, _, _, _⟩ :: _) _ _
       go_must (refine wpList_store_var 28 _ _ rfl rfl w3.heap.size (hC h) _ _ rfl rfl HA.out.1 size_head rfl (hC_one _) ?_)
       intro w4 bb mb zb
       clear zb
       have mm := HA.out.2.new_ mb (Nat.le_refl _)
       have hszw4 : w3.heap.size < w4.heap.size := bb.lt
       have H4 := Lib.hid (And.intro (H3.out.1.nn_ mm) (And.intro (H3.out.2.1.mod mm (fun f => f)) (And.intro (own_mod H3.out.2.2 mm (fun _ _ f => f)) bb)))
       have X0 : w4.cell? ⟨w3.heap.size, 0, none⟩ = some (.int .i64 h.g.v) := H4.out.2.2.2.cell 0
       have X1 : w4.cell? ⟨w3.heap.size, 1, none⟩ = some (.int .i64 h.g.S) := H4.out.2.2.2.cell 1
       have X2 : w4.cell? ⟨w3.heap.size, 2, none⟩ = some (.int .i64 h.g.s) := H4.out.2.2.2.cell 2
       have X3 : w4.cell? ⟨w3.heap.size, 3, none⟩ = some (.int .i64 h.g.u) := H4.out.2.2.2.cell 3
       have X4 : w4.cell? ⟨w3.heap.size, 4, none⟩ = some (.int .i64 h.g.j) := H4.out.2.2.2.cell 4
       have X5 : w4.cell? ⟨w3.heap.size, 5, none⟩ = some (.int .i64 h.n) := H4.out.2.2.2.cell 5
       have X6 : w4.cell? ⟨w3.heap.size, 6, none⟩ = some (.int .i64 h.p) := H4.out.2.2.2.cell 6
       have X7 : w4.cell? ⟨w3.heap.size, 7, none⟩ = some (.int .i64 h.r) := H4.out.2.2.2.cell 7
       have X8 : w4.cell? ⟨w3.heap.size, 8, none⟩ = some (.int .i64 h.k) := H4.out.2.2.2.cell 8
       have Y0 : w4.cell? ⟨w.heap.size, 0, none⟩ = some (.int .i64 h.g.v) := H4.out.2.1.cell 0
       have Y1 : w4.cell? ⟨w.heap.size, 1, none⟩ = some (.int .i64 h.g.S) := H4.out.2.1.cell 1
       have Y2 : w4.cell? ⟨w.heap.size, 2, none⟩ = some (.int .i64 h.g.s) := H4.out.2.1.cell 2
       have Y3 : w4.cell? ⟨w.heap.size, 3, none⟩ = some (.int .i64 h.g.u) := H4.out.2.1.cell 3
       have Y4 : w4.cell? ⟨w.heap.size, 4, none⟩ = some (.int .i64 h.g.j) := H4.out.2.1.cell 4
       have Y5 : w4.cell? ⟨w.heap.size, 5, none⟩ = some (.int .i64 h.n) := H4.out.2.1.cell 5
       have Y6 : w4.cell? ⟨w.heap.size, 6, none⟩ = some (.int .i64 h.p) := H4.out.2.1.cell 6
       have Y7 : w4.cell? ⟨w.heap.size, 7, none⟩ = some (.int .i64 h.r) := H4.out.2.1.cell 7
       have Y8 : w4.cell? ⟨w.heap.size, 8, none⟩ = some (.int .i64 h.k) := H4.out.2.1.cell 8
       clear bb mb mm HA))
  refine (pick_any x 4096 _ (by omega)).mono ?_
  rintro r w5 ⟨rfl, rfl⟩
  have hpr := pick_range x 4096 (by omega)
  obtain ⟨i, hi⟩ : ∃ i : Nat, pick x 4096 = i := ⟨(pick x 4096).toNat, by omega⟩
  rw [hi] at hpr ⊢
  clear hi
  obtain ⟨qi, hqi⟩ : ∃ qi : Nat, i / 8 = qi := ⟨_, rfl⟩
  obtain ⟨ri, hri⟩ : ∃ ri : Nat, i % 8 = ri := ⟨_, rfl⟩
  have hr8 : ri < 8 := by omega
  have hq5 : qi < 512 := by omega
  obtain ⟨z, hz⟩ : ∃ z, h.fr.bytes[qi]? = some z := ⟨_, List.getElem?_eq_getElem (by rw [h.bytes_len]; exact hq5)⟩
  have hz8 : z < 256 := h.fr.bytes_lt h.data_lt z (List.mem_of_getElem? hz)
  have hx8 := xor8_lt z (2 ^ ri) hz8 (pow_lt8 ri hr8)
  have hcz : w4.cell? ⟨g, qi, none⟩ = some (.int .u8 (z : Int)) := own_cell H4.out.2.2.1 (by unfold bv; rw [List.getElem?_map, hz]; rfl)
  have hfz := own_free H4.out.2.2.1 qi
  have hxo := hxor_u8 z (2 ^ ri) hz8 (pow_lt8 ri hr8)
  have ho6 := own_set H4.out.2.2.1 qi (.int .u8 ((z ^^^ 2 ^ ri : Nat) : Int))
  rw [hbv_set] at ho6
  have hl6 : ∀ u ∈ h.fr.bytes.set qi (z ^^^ 2 ^ ri), u < 256 := fun u hu => by
    rcases List.mem_or_eq_of_mem_set hu with e | e
    · exact h.fr.bytes_lt h.data_lt u e
    · rw [e]; exact hx8
  have hturn := hget_turned HRH.out qi ri z hq5 hr8 hz
  have M6 : Mod Nn w (w4.setCell ⟨g, qi, none⟩ (.int .u8 ((z ^^^ 2 ^ ri : Nat) : Int))) := H4.out.1.setCell (.inl HC2.out.2.2) _
  have HX := Lib.hid (And.intro ho6 (And.intro hl6 (And.intro M6 hturn)))
  have hw2 : (i : Int) / 8 = qi := by omega
  have hw3 : (i : Int) % 8 = ri := by omega
  have hr8' : (ri : Int) < 8 := by omega
  have hqC' : (qi : Int) < 512 := by omega
  have HXO := Lib.hid hxo
  clear ho6 hl6 M6 hz hz8 hx8 hxo hturn hqi hri X0 X1 X2 X3 X4 X5 X6 X7 X8 Y0 Y1 Y2 Y3 Y4 Y5 Y6 Y7 Y8
  go_wp2_with fail
  have hp8 := pow_lt8 ri hr8
  have hsh : ((2 : Int) ^ ri % 256) = ((2 ^ ri : Nat) : Int) := by
    rw [Int.natCast_pow] at *
    have : ((2 ^ ri : Nat) : Int) < 256 := by omega
    rw [Int.natCast_pow] at this
    exact Int.emod_eq_of_lt (Int.pow_nonneg (by omega)) this
  rw [hsh, HXO.out]
  clear hsh hp8
  generalize w4.setCell ⟨g, qi, none⟩ (.int .u8 ((z ^^^ 2 ^ ri : Nat) : Int)) = w6 at *
  clear hcz hfz
  refine (hget_any HX.out.2.2.2 (Rd.of_own HX.out.1) HX.out.2.1 (by omega) HC2.out.1 HC2.out.2.1).mono ?_
  rintro r w7 ⟨rfl, m7⟩
  have H7 := Lib.hid (HX.out.2.2.1.nn_ m7)
  clear m7
  go_wp2_with (first
    | (with_reducible change wpList _ _ _ (⟨some 12, Op.alloc _, _, _, _, _⟩ :: _) _ _
       go_must (refine wpList_alloc_var 28 rfl rfl zero_head ?_)
       intro wa ba ma za
       clear za
       have HA := Lib.hid (And.intro ba ma)
       clear ba ma)
    | (with_reducible change wpList _ _ _ (⟨none, Op.store _ (Operand.tmp 12) _, _, _, _, _⟩ :: _) _ _
       go_must (refine wpList_store_var 28 _ _ rfl rfl w7.heap.size (hC hd0) _ _ rfl rfl HA.out.1 size_head rfl (hC_one _) ?_)
       intro wb bb mb zb
       clear zb
       have mm := HA.out.2.new_ mb (Nat.le_refl _)
       have hszwb : w7.heap.size < wb.heap.size := bb.lt
       have H8 := Lib.hid (And.intro (H7.out.nn_ mm) (HR.out.1.mod (H7.out.nn_ mm) (fun _ _ f => f)))
       clear bb mb mm HA))
  refine (hget_any (w := _) HGL.out H8.out.2 HR.out.2.1 (by omega) HR.out.2.2.1 HR.out.2.2.2.1).mono ?_
  rintro r wt ⟨rfl, mt⟩
  have HT1 := Lib.hid (And.intro (H8.out.1.nn_ mt) (H8.out.2.mod mt (fun _ _ f => f)))
  clear mt
  rcases HGL.out.iff.2.1 with hf | hf
  case inl =>
    obtain ⟨hH, hyy, _⟩ : HoldsH l ∧ y = hdOf l ∧ f = 0 := by
      rcases HGL.out with e | ⟨_, _, e⟩
      · exact e
      · rw [e] at hf; exact absurd hf (by decide)
    have hyr : y.right := by rw [hyy]; exact hH.2.2.2.1
    have hyb : y.fr.bytes = l := by rw [hyy]; exact hH.2.2.2.2
    have hn5 : n = 512 := by rw [← HR.out.2.2.2.2]; exact hH.1
    have HY := Lib.hid (And.intro hyr (And.intro hyb hn5))
    clear hH hyy hyr hyb hn5
    subst hf
    go_wp2_with (first
      | (with_reducible change wpList _ _ _ (⟨some 14, Op.alloc _, _, _, _, _⟩ :: _) _ _
         go_must (refine wpList_alloc_var 28 rfl rfl zero_head ?_)
         intro wa ba ma za
         clear za
         have HA := Lib.hid (And.intro ba ma)
         clear ba ma)
      | (with_reducible change wpList _ _ _ (⟨none, Op.store _ (Operand.tmp 14) _, _, _, _, _⟩ :: _) _ _
         go_must (refine wpList_store_var 28 _ _ rfl rfl wt.heap.size (hC y) _ _ rfl rfl HA.out.1 size_head rfl (hC_one _) ?_)
         intro wu bb mb zb
         clear zb
         have mm := HA.out.2.new_ mb (Nat.le_refl _)
         have hszwu : wt.heap.size < wu.heap.size := bb.lt
         have HT2 := Lib.hid (And.intro (HT1.out.1.nn_ mm) (And.intro (HT1.out.2.mod mm (fun _ _ f => f)) bb))
         clear bb mb mm HA)
      | (with_reducible change wpList _ _ _ (⟨some 136, Op.load _ _, _, _, _, _⟩ :: _) _ _
         go_must (refine wpList_load_var 28 _ rfl rfl wt.heap.size (hC y) _ _ rfl HT2.out.2.2 Try.underlying28 rfl size_head ?_))
    )
    refine (hput_right HY.out.1 _).mono ?_
    rintro r wv ⟨gv, cv, rfl, rv, hcv, hmv, mv⟩
    have HT3 := Lib.hid (And.intro (HT2.out.1.nn_ mv) (And.intro (HT2.out.2.1.mod mv (fun _ _ f => f)) rv))
    clear mv rv hcv hmv
    go_wp2_with fail
    have hsm := sameb_yes (c := c) (d := cv) (l := l) (n := n) HT3.out.2.1 (by have e := HT3.out.2.2; rw [HY.out.2.1] at e; rw [HY.out.2.2]; exact e) (by omega)
    have hs5 : n = 512 := HY.out.2.2
    rw [show (Value.slice (some ⟨gv, 0, none⟩) 512 cv) = .slice (some ⟨gv, 0, none⟩) n cv from by rw [hs5]]
    clear hs5
    refine hsm.mono ?_
    rintro r wx ⟨rfl, mx⟩
    have HT4 := Lib.hid (HT3.out.1.nn_ mx)
    clear mx hsm
    go_wp2
    go_ret
    exact ⟨rfl, HT4.out⟩
  case inr =>
    obtain ⟨_, rfl, _⟩ : ¬ HoldsH l ∧ y = hd0 ∧ f = 4 := by
      rcases HGL.out with ⟨_, _, e⟩ | e
      · rw [e] at hf; exact absurd hf (by decide)
      · exact e
    subst hf
    go_wp2_with (first
      | (with_reducible change wpList _ _ _ (⟨some 14, Op.alloc _, _, _, _, _⟩ :: _) _ _
         go_must (refine wpList_alloc_var 28 rfl rfl zero_head ?_)
         intro wa ba ma za
         clear za
         have HA := Lib.hid (And.intro ba ma)
         clear ba ma)
      | (with_reducible change wpList _ _ _ (⟨none, Op.store _ (Operand.tmp 14) _, _, _, _, _⟩ :: _) _ _
         go_must (refine wpList_store_var 28 _ _ rfl rfl wt.heap.size (hC hd0) _ _ rfl rfl HA.out.1 size_head rfl (hC_one _) ?_)
         intro wu bb mb zb
         clear zb
         have mm := HA.out.2.new_ mb (Nat.le_refl _)
         have hszwu : wt.heap.size < wu.heap.size := bb.lt
         have HT2 := Lib.hid (And.intro (HT1.out.1.nn_ mm) bb)
         have Z0 : wu.cell? ⟨wt.heap.size, 0, none⟩ = some (.int .i64 0) := HT2.out.2.cell 0
         have Z1 : wu.cell? ⟨wt.heap.size, 1, none⟩ = some (.int .i64 0) := HT2.out.2.cell 1
         have Z2 : wu.cell? ⟨wt.heap.size, 2, none⟩ = some (.int .i64 0) := HT2.out.2.cell 2
         have Z3 : wu.cell? ⟨wt.heap.size, 3, none⟩ = some (.int .i64 0) := HT2.out.2.cell 3
         have Z4 : wu.cell? ⟨wt.heap.size, 4, none⟩ = some (.int .i64 0) := HT2.out.2.cell 4
         have Z5 : wu.cell? ⟨wt.heap.size, 5, none⟩ = some (.int .i64 0) := HT2.out.2.cell 5
         have Z6 : wu.cell? ⟨wt.heap.size, 6, none⟩ = some (.int .i64 0) := HT2.out.2.cell 6
         have Z7 : wu.cell? ⟨wt.heap.size, 7, none⟩ = some (.int .i64 0) := HT2.out.2.cell 7
         have Z8 : wu.cell? ⟨wt.heap.size, 8, none⟩ = some (.int .i64 0) := HT2.out.2.cell 8
         clear bb mb mm HA))
    go_ret
    exact ⟨rfl, HT2.out.1⟩
end
end Go.Proofs.Ytodnhbiomooknaa
