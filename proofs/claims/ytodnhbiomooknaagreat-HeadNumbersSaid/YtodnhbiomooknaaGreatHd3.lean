/- head.right, head.numbers. -/
import Derived.Test.YtodnhbiomooknaaGreatHd2
namespace Go.Proofs.YtodnhbiomooknaaGreat
open Go.RowKit

def hC (h : Hd) : Array Value := #[.int .i64 h.g.v, .int .i64 h.g.S, .int .i64 h.g.s, .int .i64 h.g.u, .int .i64 h.g.j, .int .i64 h.n, .int .i64 h.p, .int .i64 h.r, .int .i64 h.k]
def hdV (h : Hd) : Value := .agg (hC h)
theorem size_head : (Tryz.prog.info? 25).map (·.size) = some 9 := by kernel_rfl
theorem zero_head : (Tryz.prog.info? 25).map (fun i => (i.zero, i.size)) = some (some (.agg #[.int .i64 0, .int .i64 0, .int .i64 0, .int .i64 0, .int .i64 0, .int .i64 0, .int .i64 0, .int .i64 0, .int .i64 0]), 9) := by kernel_rfl
theorem hC_one (h : Hd) : (hC h).all (·.oneCell') = true := by simp [hC, Value.oneCell']
section
variable {w : World}
set_option maxRecDepth 100000 in
theorem hwithin_any (n a b : Int) (w : World) : Calls Tryz.prog 30 #[.int .i64 n, .int .i64 a, .int .i64 b] w fun e w' => e = .returned (.bool (decide (a ≤ n ∧ n ≤ b))) ∧ w = w' := by
  by_cases h0 : a ≤ n
  · by_cases h1 : n ≤ b
    · rw [decide_eq_true ⟨h0, h1⟩]
      go_enter Tryz.func30, Tryz.ntmps30
      go_wp2
      go_ret
      exact ⟨rfl, rfl⟩
    · rw [decide_eq_false (fun h => h1 h.2)]
      go_enter Tryz.func30, Tryz.ntmps30
      go_wp2
      go_ret
      exact ⟨rfl, rfl⟩
  · rw [decide_eq_false (fun h => h0 h.1)]
    go_enter Tryz.func30, Tryz.ntmps30
    go_wp2
    go_ret
    exact ⟨rfl, rfl⟩
theorem hwithin_yes (n a b : Int) (w : World) (h : a ≤ n ∧ n ≤ b) : Calls Tryz.prog 30 #[.int .i64 n, .int .i64 a, .int .i64 b] w fun e w' => e = .returned (.bool true) ∧ w = w' := by
  have := hwithin_any n a b w
  rwa [decide_eq_true h] at this
theorem hwithin_no (n a b : Int) (w : World) (h : ¬ (a ≤ n ∧ n ≤ b)) : Calls Tryz.prog 30 #[.int .i64 n, .int .i64 a, .int .i64 b] w fun e w' => e = .returned (.bool false) ∧ w = w' := by
  have := hwithin_any n a b w
  rwa [decide_eq_false h] at this
theorem npages_le (g : Geo) : g.npages ≤ 70000 := by
  unfold Geo.npages
  split
  · next h => exact (Geo.pages_le h.1).2
  · omega
theorem inner_iff (h : Hd) : h.inner ↔ (1 ≤ h.p ∧ h.p ≤ h.g.npages) ∧ (0 ≤ h.r ∧ h.r ≤ h.p - 1) ∧ (1 ≤ h.k ∧ h.k ≤ 1073741824) := by
  unfold Hd.inner Geo.npages
  by_cases hg : h.g.right
  · rw [if_pos hg]
    constructor
    · rintro ⟨_, a, b, c, d, e, f⟩; exact ⟨⟨a, b⟩, ⟨c, by omega⟩, e, f⟩
    · rintro ⟨⟨a, b⟩, ⟨c, d⟩, e, f⟩; exact ⟨hg, a, b, c, by omega, e, f⟩
  · rw [if_neg hg]
    constructor
    · exact fun h => (hg h.1).elim
    · rintro ⟨⟨a, b⟩, _⟩; omega
theorem drop_geo (h : Hd) : ∀ j v, ([.int .i64 h.g.v, .int .i64 h.g.S, .int .i64 h.g.s, .int .i64 h.g.u, .int .i64 h.g.j] : List Value)[j]? = some v → (hC h)[0 + j]? = some v
  | 0, _, e => e
  | 1, _, e => e
  | 2, _, e => e
  | 3, _, e => e
  | 4, _, e => e
  | j + 5, _, e => by simp at e
set_option maxRecDepth 100000 in
set_option maxHeartbeats 3200000 in
theorem hright_any (h : Hd) (w : World) : Calls Tryz.prog 16 #[hdV h] w fun e w' => e = .returned (.bool (decide h.inner)) ∧ Mod Nn w w' := by
  unfold hdV
  have m1 : Mod Nn w (w.alloc (.cells (hC h) 25)) := (Mod.refl Nn w).alloc _
  have b1 : Blk (w.alloc (.cells (hC h) 25)) w.heap.size 25 (hC h) := Blk.new _ _ _
  have H1 := Lib.hid (And.intro m1 b1)
  have HN := Lib.hid (npages_le h.g)
  have HG := Lib.hid (drop_geo h)
  clear m1 b1
  by_cases c1 : 1 ≤ h.p ∧ h.p ≤ h.g.npages
  case neg =>
    rw [show decide h.inner = false from decide_eq_false (fun e => c1 ((inner_iff h).1 e).1)]
    go_enter Tryz.func16, Tryz.ntmps16
    go_wp2_with fail
    refine wp_region_planC (fun w' => Blk w' w.heap.size 25 (hC h)) [(0, true), (1, true), (2, true), (3, true), (4, true), (5, false), (6, false), (7, true), (8, true), (9, true), (10, true), (11, true), (12, true), (13, true), (14, false), (15, true), (16, true), (17, true), (18, true), (19, true), (20, false), (21, true), (22, true)] (by kernel_rfl) (by kernel_rfl) H1.out.2.drew ?_
    iterate 2 (refine pc_pure rfl rfl (fun K hK => ?_); go_simp; refine hK _ ?_; clear hK K)
    refine pc_take (.int .i64 h.p) rfl rfl (fun w' hS => exec_load1 (P := Tryz.prog) 3 _ rfl rfl (hS.cell 6) Tryz.underlying3 rfl) (fun K hK => ?_); go_simp; refine hK _ ?_; clear hK K
    iterate 1 (refine pc_pure rfl rfl (fun K hK => ?_); go_simp; refine hK _ ?_; clear hK K)
    refine pc_take _ rfl rfl (fun w' hS => exec_load_cells (P := Tryz.prog) 23 _ rfl rfl (fun j v hj => (hS.cell (0 + j)).trans (HG.out j v hj)) Tryz.underlying23 rfl size_geo) (fun K hK => ?_); go_simp; refine hK _ ?_; clear hK K
    refine pc_call rfl rfl (fun K hK => ?_); go_simp; refine ⟨_, _, ⟨rfl, rfl⟩, hK _ _ _ ?_⟩; clear hK K
    refine (lnpages_any h.g _).mono ?_
    rintro r w2 ⟨rfl, m2⟩
    have H2 := Lib.hid (And.intro (H1.out.1.drew.nn_ m2) (H1.out.2.drew.mod m2 (fun f => f)))
    clear m2
    refine ⟨_, rfl, H2.out.2, ?_⟩
    refine pc_call rfl rfl (fun K hK => ?_); go_simp; refine ⟨_, _, ⟨rfl, rfl⟩, hK _ _ _ ?_⟩; clear hK K
    refine (hwithin_no h.p 1 h.g.npages _ c1).mono ?_
    rintro r w3 ⟨rfl, rfl⟩
    refine ⟨_, rfl, H2.out.2, ?_⟩
    iterate 1 (refine pc_pure rfl rfl (fun K hK => ?_); go_simp; refine hK _ ?_; clear hK K)
    iterate 6 (refine pc_skip rfl rfl (fun K hK => ?_); go_simp; refine hK _ ?_; clear hK K)
    refine pc_skipD rfl rfl (fun K hK => ?_); go_simp; refine hK _ ?_; clear hK K
    iterate 2 (refine pc_pure rfl rfl (fun K hK => ?_); go_simp; refine hK _ ?_; clear hK K)
    iterate 3 (refine pc_skip rfl rfl (fun K hK => ?_); go_simp; refine hK _ ?_; clear hK K)
    refine pc_skipD rfl rfl (fun K hK => ?_); go_simp; refine hK _ ?_; clear hK K
    iterate 2 (refine pc_pure rfl rfl (fun K hK => ?_); go_simp; refine hK _ ?_; clear hK K)
    refine pc_nil ?_
    go_wp2
    go_ret
    exact ⟨rfl, H2.out.1⟩
  have hp70 := HN.out
  by_cases c2 : 0 ≤ h.r ∧ h.r ≤ h.p - 1
  case neg =>
    rw [show decide h.inner = false from decide_eq_false (fun e => c2 ((inner_iff h).1 e).2.1)]
    go_enter Tryz.func16, Tryz.ntmps16
    go_wp2_with fail
    refine wp_region_planC (fun w' => Blk w' w.heap.size 25 (hC h)) [(0, true), (1, true), (2, true), (3, true), (4, true), (5, false), (6, false), (7, true), (8, true), (9, true), (10, true), (11, true), (12, true), (13, true), (14, false), (15, true), (16, true), (17, true), (18, true), (19, true), (20, false), (21, true), (22, true)] (by kernel_rfl) (by kernel_rfl) H1.out.2.drew ?_
    iterate 2 (refine pc_pure rfl rfl (fun K hK => ?_); go_simp; refine hK _ ?_; clear hK K)
    refine pc_take (.int .i64 h.p) rfl rfl (fun w' hS => exec_load1 (P := Tryz.prog) 3 _ rfl rfl (hS.cell 6) Tryz.underlying3 rfl) (fun K hK => ?_); go_simp; refine hK _ ?_; clear hK K
    iterate 1 (refine pc_pure rfl rfl (fun K hK => ?_); go_simp; refine hK _ ?_; clear hK K)
    refine pc_take _ rfl rfl (fun w' hS => exec_load_cells (P := Tryz.prog) 23 _ rfl rfl (fun j v hj => (hS.cell (0 + j)).trans (HG.out j v hj)) Tryz.underlying23 rfl size_geo) (fun K hK => ?_); go_simp; refine hK _ ?_; clear hK K
    refine pc_call rfl rfl (fun K hK => ?_); go_simp; refine ⟨_, _, ⟨rfl, rfl⟩, hK _ _ _ ?_⟩; clear hK K
    refine (lnpages_any h.g _).mono ?_
    rintro r w2 ⟨rfl, m2⟩
    have H2 := Lib.hid (And.intro (H1.out.1.drew.nn_ m2) (H1.out.2.drew.mod m2 (fun f => f)))
    clear m2
    refine ⟨_, rfl, H2.out.2, ?_⟩
    refine pc_call rfl rfl (fun K hK => ?_); go_simp; refine ⟨_, _, ⟨rfl, rfl⟩, hK _ _ _ ?_⟩; clear hK K
    refine (hwithin_yes h.p 1 h.g.npages _ c1).mono ?_
    rintro r w3 ⟨rfl, rfl⟩
    refine ⟨_, rfl, H2.out.2, ?_⟩
    iterate 3 (refine pc_pure rfl rfl (fun K hK => ?_); go_simp; refine hK _ ?_; clear hK K)
    refine pc_take (.int .i64 h.r) rfl rfl (fun w' hS => exec_load1 (P := Tryz.prog) 3 _ rfl rfl (hS.cell 7) Tryz.underlying3 rfl) (fun K hK => ?_); go_simp; refine hK _ ?_; clear hK K
    iterate 1 (refine pc_pure rfl rfl (fun K hK => ?_); go_simp; refine hK _ ?_; clear hK K)
    refine pc_take (.int .i64 h.p) rfl rfl (fun w' hS => exec_load1 (P := Tryz.prog) 3 _ rfl rfl (hS.cell 6) Tryz.underlying3 rfl) (fun K hK => ?_); go_simp; refine hK _ ?_; clear hK K
    iterate 1 (refine pc_pure rfl rfl (fun K hK => ?_); go_simp; refine hK _ ?_; clear hK K)
    rw [show IntKind.i64.wrap (h.p - 1) = h.p - 1 from by rw [IntKind.wrap_i64]; omega]
    refine pc_call rfl rfl (fun K hK => ?_); go_simp; refine ⟨_, _, ⟨rfl, rfl⟩, hK _ _ _ ?_⟩; clear hK K
    refine (hwithin_no h.r 0 (h.p - 1) _ c2).mono ?_
    rintro r w3 ⟨rfl, rfl⟩
    refine ⟨_, rfl, H2.out.2, ?_⟩
    iterate 2 (refine pc_pure rfl rfl (fun K hK => ?_); go_simp; refine hK _ ?_; clear hK K)
    iterate 3 (refine pc_skip rfl rfl (fun K hK => ?_); go_simp; refine hK _ ?_; clear hK K)
    refine pc_skipD rfl rfl (fun K hK => ?_); go_simp; refine hK _ ?_; clear hK K
    iterate 2 (refine pc_pure rfl rfl (fun K hK => ?_); go_simp; refine hK _ ?_; clear hK K)
    refine pc_nil ?_
    go_wp2
    go_ret
    exact ⟨rfl, H2.out.1⟩
  rw [show decide h.inner = decide (1 ≤ h.k ∧ h.k ≤ 1073741824) from by
    by_cases e : 1 ≤ h.k ∧ h.k ≤ 1073741824
    · rw [decide_eq_true e, decide_eq_true ((inner_iff h).2 ⟨c1, c2, e⟩)]
    · rw [decide_eq_false e, decide_eq_false (fun e' => e ((inner_iff h).1 e').2.2)]]
  have HW := Lib.hid (fun w => hwithin_any h.k 1 1073741824 w)
  generalize decide (1 ≤ h.k ∧ h.k ≤ 1073741824) = R at *
  go_enter Tryz.func16, Tryz.ntmps16
  go_wp2_with fail
  refine wp_region_planC (fun w' => Blk w' w.heap.size 25 (hC h)) [(0, true), (1, true), (2, true), (3, true), (4, true), (5, false), (6, false), (7, true), (8, true), (9, true), (10, true), (11, true), (12, true), (13, true), (14, false), (15, true), (16, true), (17, true), (18, true), (19, true), (20, false), (21, true), (22, true)] (by kernel_rfl) (by kernel_rfl) H1.out.2.drew ?_
  iterate 2 (refine pc_pure rfl rfl (fun K hK => ?_); go_simp; refine hK _ ?_; clear hK K)
  refine pc_take (.int .i64 h.p) rfl rfl (fun w' hS => exec_load1 (P := Tryz.prog) 3 _ rfl rfl (hS.cell 6) Tryz.underlying3 rfl) (fun K hK => ?_); go_simp; refine hK _ ?_; clear hK K
  iterate 1 (refine pc_pure rfl rfl (fun K hK => ?_); go_simp; refine hK _ ?_; clear hK K)
  refine pc_take _ rfl rfl (fun w' hS => exec_load_cells (P := Tryz.prog) 23 _ rfl rfl (fun j v hj => (hS.cell (0 + j)).trans (HG.out j v hj)) Tryz.underlying23 rfl size_geo) (fun K hK => ?_); go_simp; refine hK _ ?_; clear hK K
  refine pc_call rfl rfl (fun K hK => ?_); go_simp; refine ⟨_, _, ⟨rfl, rfl⟩, hK _ _ _ ?_⟩; clear hK K
  refine (lnpages_any h.g _).mono ?_
  rintro r w2 ⟨rfl, m2⟩
  have H2 := Lib.hid (And.intro (H1.out.1.drew.nn_ m2) (H1.out.2.drew.mod m2 (fun f => f)))
  clear m2
  refine ⟨_, rfl, H2.out.2, ?_⟩
  refine pc_call rfl rfl (fun K hK => ?_); go_simp; refine ⟨_, _, ⟨rfl, rfl⟩, hK _ _ _ ?_⟩; clear hK K
  refine (hwithin_yes h.p 1 h.g.npages _ c1).mono ?_
  rintro r w3 ⟨rfl, rfl⟩
  refine ⟨_, rfl, H2.out.2, ?_⟩
  iterate 3 (refine pc_pure rfl rfl (fun K hK => ?_); go_simp; refine hK _ ?_; clear hK K)
  refine pc_take (.int .i64 h.r) rfl rfl (fun w' hS => exec_load1 (P := Tryz.prog) 3 _ rfl rfl (hS.cell 7) Tryz.underlying3 rfl) (fun K hK => ?_); go_simp; refine hK _ ?_; clear hK K
  iterate 1 (refine pc_pure rfl rfl (fun K hK => ?_); go_simp; refine hK _ ?_; clear hK K)
  refine pc_take (.int .i64 h.p) rfl rfl (fun w' hS => exec_load1 (P := Tryz.prog) 3 _ rfl rfl (hS.cell 6) Tryz.underlying3 rfl) (fun K hK => ?_); go_simp; refine hK _ ?_; clear hK K
  iterate 1 (refine pc_pure rfl rfl (fun K hK => ?_); go_simp; refine hK _ ?_; clear hK K)
  rw [show IntKind.i64.wrap (h.p - 1) = h.p - 1 from by rw [IntKind.wrap_i64]; omega]
  refine pc_call rfl rfl (fun K hK => ?_); go_simp; refine ⟨_, _, ⟨rfl, rfl⟩, hK _ _ _ ?_⟩; clear hK K
  refine (hwithin_yes h.r 0 (h.p - 1) _ c2).mono ?_
  rintro r w3 ⟨rfl, rfl⟩
  refine ⟨_, rfl, H2.out.2, ?_⟩
  iterate 4 (refine pc_pure rfl rfl (fun K hK => ?_); go_simp; refine hK _ ?_; clear hK K)
  refine pc_take (.int .i64 h.k) rfl rfl (fun w' hS => exec_load1 (P := Tryz.prog) 3 _ rfl rfl (hS.cell 8) Tryz.underlying3 rfl) (fun K hK => ?_); go_simp; refine hK _ ?_; clear hK K
  refine pc_call rfl rfl (fun K hK => ?_); go_simp; refine ⟨_, _, ⟨rfl, rfl⟩, hK _ _ _ ?_⟩; clear hK K
  refine (HW.out _).mono ?_
  rintro r w3 ⟨rfl, rfl⟩
  refine ⟨_, rfl, H2.out.2, ?_⟩
  iterate 2 (refine pc_pure rfl rfl (fun K hK => ?_); go_simp; refine hK _ ?_; clear hK K)
  refine pc_nil ?_
  go_wp2
  go_ret
  exact ⟨rfl, H2.out.1⟩
end
end Go.Proofs.YtodnhbiomooknaaGreat
