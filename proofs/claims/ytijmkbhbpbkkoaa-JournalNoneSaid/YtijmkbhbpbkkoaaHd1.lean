/- layout.pages, plan, Right, Pages. -/
import Derived.Test.YtijmkbhbpbkkoaaHd0
import Derived.Test.YtijmkbhbpbkkoaaKitD
import Derived.Test.YtijmkbhbpbkkoaaKitB
import Derived.Test.YtijmkbhbpbkkoaaRows
import Derived.Lib.MinMax
namespace Go.Proofs.Ytijmkbhbpbkkoaa
open Go.RowKit

def gV (g : Geo) : Value := .agg #[.int .i64 g.v, .int .i64 g.S, .int .i64 g.s, .int .i64 g.u, .int .i64 g.j]
def gC (g : Geo) : Array Value := #[.int .i64 g.v, .int .i64 g.S, .int .i64 g.s, .int .i64 g.u, .int .i64 g.j]
theorem size_geo : (Try.prog.info? 23).map (·.size) = some 5 := by kernel_rfl
section
variable {w : World}
set_option maxRecDepth 100000 in
theorem lpages_any (g : Geo) (w : World) (h : g.fields) : Calls Try.prog 56 #[gV g] w fun e w' => e = .returned (.int .i64 g.pages) ∧ Mod Nn w w' := by
  have hp := Geo.prod h
  have hP : g.pages = 2 + (g.S * g.s + 9 * (g.v / 8) + 8) / 4 := rfl
  obtain ⟨h1, h2, h3, h4, h5, h6, h7, h8, h9, h10, h11, h12⟩ := h
  obtain ⟨v, S, s, u, j⟩ := g
  rw [hP]
  unfold gV
  simp only at *
  have M : Mod Nn w (w.alloc (.cells #[.int .i64 v, .int .i64 S, .int .i64 s, .int .i64 u, .int .i64 j] 23)) := (Mod.refl Nn w).alloc _
  have HM := Lib.hid M
  clear hP M
  go_enter Try.func56, Try.ntmps56
  go_wp2
  go_ret
  exact ⟨rfl, HM.out⟩
set_option maxRecDepth 100000 in
theorem lfrom_any (n a b : Int) (w : World) : Calls Try.prog 55 #[.int .i64 n, .int .i64 a, .int .i64 b] w fun e w' => e = .returned (.bool (decide (a ≤ n ∧ n ≤ b))) ∧ w = w' := by
  by_cases h0 : a ≤ n
  · by_cases h1 : n ≤ b
    · rw [decide_eq_true ⟨h0, h1⟩]
      go_enter Try.func55, Try.ntmps55
      go_wp2
      go_ret
      exact ⟨rfl, rfl⟩
    · rw [decide_eq_false (fun h => h1 h.2)]
      go_enter Try.func55, Try.ntmps55
      go_wp2
      go_ret
      exact ⟨rfl, rfl⟩
  · rw [decide_eq_false (fun h => h0 h.1)]
    go_enter Try.func55, Try.ntmps55
    go_wp2
    go_ret
    exact ⟨rfl, rfl⟩
theorem lfrom_yes (n a b : Int) (w : World) (h0 : a ≤ n) (h1 : n ≤ b) : Calls Try.prog 55 #[.int .i64 n, .int .i64 a, .int .i64 b] w fun e w' => e = .returned (.bool true) ∧ w = w' := by
  have := lfrom_any n a b w
  rwa [decide_eq_true ⟨h0, h1⟩] at this
theorem lfrom_no (n a b : Int) (w : World) (h : ¬ (a ≤ n ∧ n ≤ b)) : Calls Try.prog 55 #[.int .i64 n, .int .i64 a, .int .i64 b] w fun e w' => e = .returned (.bool false) ∧ w = w' := by
  have := lfrom_any n a b w
  rwa [decide_eq_false h] at this
/-- the four places, as far as they stand -/
def plans (a b c d : Int) : Nat → Array Value
  | 0 => #[.int .i64 0, .int .i64 0, .int .i64 0, .int .i64 0]
  | 1 => #[.int .i64 a, .int .i64 0, .int .i64 0, .int .i64 0]
  | 2 => #[.int .i64 a, .int .i64 b, .int .i64 0, .int .i64 0]
  | _ => #[.int .i64 a, .int .i64 b, .int .i64 c, .int .i64 0]
def plan4 (g : Geo) : Value := .agg #[.int .i64 2, .int .i64 (2 + 2 * g.j), .int .i64 (2 + 2 * g.j + 4 * g.pages), .int .i64 g.sectors]
theorem size_pl : (Try.prog.info? 68).map (·.size) = some 4 := by kernel_rfl
theorem zero_pl : (Try.prog.info? 68).map (fun i => (i.zero, i.size)) = some (some (.agg #[.int .i64 0, .int .i64 0, .int .i64 0, .int .i64 0]), 4) := by kernel_rfl
theorem size_int : (Try.prog.info? 3).map (·.size) = some 1 := by kernel_rfl
set_option maxRecDepth 100000 in
set_option maxHeartbeats 1600000 in
theorem lplan_any (g : Geo) (w : World) (h : g.fields) : Calls Try.prog 36 #[gV g] w fun e w' => e = .returned (plan4 g) ∧ Mod Nn w w' := by
  have hp := Geo.prod h
  have hpg := Geo.pages_le h
  have hP : plan4 g = .agg #[.int .i64 2, .int .i64 (2 + 2 * g.j), .int .i64 (2 + 2 * g.j + 4 * g.pages), .int .i64 (2 + 2 * g.j + 4 * g.pages + g.S * g.s)] := rfl
  have HPG := Lib.hid (fun w => lpages_any g w h)
  obtain ⟨_, _, _, h4, h5, _, _, h8, _, h10, h11, h12⟩ := h
  rw [hP]
  generalize g.pages = pg at *
  generalize hps : g.S * g.s = ps at *
  have HPS := Lib.hid hps
  clear hps hP
  unfold gV at *
  obtain ⟨v, S, s, u, j⟩ := g
  simp only at *
  have m1 : Mod Nn w (w.alloc (.cells #[.int .i64 v, .int .i64 S, .int .i64 s, .int .i64 u, .int .i64 j] 23)) := (Mod.refl Nn w).alloc _
  have b1 : Blk (w.alloc (.cells #[.int .i64 v, .int .i64 S, .int .i64 s, .int .i64 u, .int .i64 j] 23)) w.heap.size 23 #[.int .i64 v, .int .i64 S, .int .i64 s, .int .i64 u, .int .i64 j] := Blk.new _ _ _
  have z1 : (w.alloc (.cells #[.int .i64 v, .int .i64 S, .int .i64 s, .int .i64 u, .int .i64 j] 23)).heap.size = w.heap.size + 1 := by simp
  have H1 := Lib.hid (And.intro m1 (And.intro b1 z1))
  clear m1 b1 z1
  go_enter Try.func36, Try.ntmps36
  go_wp2_with (first
    | (with_reducible change wpList _ _ _ (⟨some 2, Op.alloc _, _, _, _, _⟩ :: _) _ _
       go_must (refine wpList_alloc_var 68 rfl rfl zero_pl ?_)
       intro w2 b2 m2 z2
       rw [H1.out.2.2] at b2 z2 ⊢
       have H2 := Lib.hid (And.intro (H1.out.1.trans m2) (And.intro (H1.out.2.1.mod m2 (fun f => f)) (And.intro b2 z2)))
       clear b2 m2 z2)
    | (with_reducible change wpList _ _ _ (⟨some 3, Op.alloc _, _, _, _, _⟩ :: _) _ _
       go_must (refine wpList_alloc_var 68 rfl rfl zero_pl ?_)
       intro w3 b3 m3 z3
       rw [H2.out.2.2.2] at b3 z3 ⊢
       have H3 := Lib.hid (And.intro (H2.out.1.trans m3) (And.intro (H2.out.2.1.mod m3 (fun f => f)) (And.intro (H2.out.2.2.1.mod m3 (fun f => f)) b3)))
       clear b3 m3 z3))
  refine wp_region_planC (fun w' => Blk w' w.heap.size 23 #[.int .i64 v, .int .i64 S, .int .i64 s, .int .i64 u, .int .i64 j]) [(0, true), (1, true), (2, true), (3, true), (6, true), (7, true), (8, true), (9, true), (10, true), (12, true), (4, false), (5, true), (11, true)] (by kernel_rfl) (by kernel_rfl) H3.out.2.1.drew ?_
  iterate 1 (refine pc_pure rfl rfl (fun K hK => ?_); go_simp; refine hK _ ?_; clear hK K)
  refine pc_take _ rfl rfl (fun w' hS => exec_load1 (P := Try.prog) 3 _ rfl rfl (hS.cell 4) Try.underlying3 rfl) (fun K hK => ?_); go_simp; refine hK _ ?_; clear hK K
  iterate 1 (refine pc_pure rfl rfl (fun K hK => ?_); go_simp; refine hK _ ?_; clear hK K)
  refine pc_take _ rfl rfl (fun w' hS => exec_load_row (P := Try.prog) 23 _ rfl rfl hS Try.underlying23 rfl size_geo) (fun K hK => ?_); go_simp; refine hK _ ?_; clear hK K
  iterate 1 (refine pc_pure rfl rfl (fun K hK => ?_); go_simp; refine hK _ ?_; clear hK K)
  refine pc_take _ rfl rfl (fun w' hS => exec_load1 (P := Try.prog) 3 _ rfl rfl (hS.cell 1) Try.underlying3 rfl) (fun K hK => ?_); go_simp; refine hK _ ?_; clear hK K
  iterate 1 (refine pc_pure rfl rfl (fun K hK => ?_); go_simp; refine hK _ ?_; clear hK K)
  refine pc_take _ rfl rfl (fun w' hS => exec_load1 (P := Try.prog) 3 _ rfl rfl (hS.cell 2) Try.underlying3 rfl) (fun K hK => ?_); go_simp; refine hK _ ?_; clear hK K
  iterate 2 (refine pc_pure rfl rfl (fun K hK => ?_); go_simp; refine hK _ ?_; clear hK K)
  rw [show IntKind.i64.wrap (S * s) = ps from by rw [HPS.out, IntKind.wrap_i64]; omega]
  refine pc_call rfl rfl (fun K hK => ?_); go_simp; refine ⟨_, _, ⟨rfl, rfl⟩, hK _ _ _ ?_⟩; clear hK K
  refine (HPG.out _).mono ?_
  rintro r w4 ⟨rfl, m4⟩
  refine ⟨_, rfl, H3.out.2.1.drew.mod m4 (fun f => f), ?_⟩
  iterate 2 (refine pc_pure rfl rfl (fun K hK => ?_); go_simp; refine hK _ ?_; clear hK K)
  rw [show IntKind.i64.wrap (2 * j) = 2 * j from by rw [IntKind.wrap_i64]; omega, show IntKind.i64.wrap (4 * pg) = 4 * pg from by rw [IntKind.wrap_i64]; omega]
  refine pc_nil ?_
  have H4 := Lib.hid (And.intro (H3.out.1.drew.nn_ m4) (And.intro (H3.out.2.2.1.drew.mod m4 (fun f => f)) (H3.out.2.2.2.drew.mod m4 (fun f => f))))
  clear m4
  go_wp2_with fail
  go_loopw [4, 19] (fun q i wr => ∃ k : Nat, k ≤ 3 ∧ i = .int .i64 k ∧ (q = match k with | 0 => .int .i64 2 | 1 => .int .i64 (2 + 2 * j) | 2 => .int .i64 (2 + 2 * j + 4 * pg) | _ => .int .i64 (2 + 2 * j + 4 * pg + ps)) ∧ Mod Nn w wr ∧ Blk wr (w.heap.size + 1) 68 #[.int .i64 0, .int .i64 0, .int .i64 0, .int .i64 0] ∧ Blk wr (w.heap.size + 2) 68 (plans 2 (2 + 2 * j) (2 + 2 * j + 4 * pg) 0 k)) (fun _ i _ => 3 - (intOf i).toNat)
  case atStart => exact ⟨0, by omega, rfl, rfl, H4.out.1, H4.out.2.1, H4.out.2.2⟩
  case round =>
    obtain ⟨k, hk, rfl, rfl, hm, hb1, hb2⟩ := hrel
    have HX := Lib.hid (And.intro hm (And.intro hb1 hb2))
    have h3 : k = 0 ∨ k = 1 ∨ k = 2 ∨ k = 3 := by omega
    rcases h3 with rfl | rfl | rfl | rfl
    · have hix : ∀ w : World, (Instr.index 101 (.agg #[.int .i64 (2 * j), .int .i64 (4 * pg), .int .i64 ps]) (.int .i64 0)).run Try.prog w = .ok (.int .i64 (2 * j)) w := fun _ => by kernel_rfl
      clear hm hb1 hb2
      go_wp2_with (first
        | (with_reducible change wpList _ _ _ (⟨none, Op.store _ _ _, _, _, _, _⟩ :: _) _ _
           go_must (refine wpList_unit rfl (exec_store1 (P := Try.prog) (v := .int .i64 (2)) 3 _ _ rfl rfl rfl (show _ = some (.int .i64 0) from HX.out.2.2.cell 0) (HX.out.2.2.frozen _) rfl rfl rfl size_int) ?_)))
      go_roundw
      case rel => exact ⟨1, by omega, rfl, rfl, HX.out.1.new_ (Mod.cellAt _ _ _ _) (by omega), HX.out.2.1.far (show w.heap.size + 1 ≠ w.heap.size + 2 by omega) _, HX.out.2.2.set_ _ _⟩
      case measure => simp [intOf]
    · have hix : ∀ w : World, (Instr.index 101 (.agg #[.int .i64 (2 * j), .int .i64 (4 * pg), .int .i64 ps]) (.int .i64 1)).run Try.prog w = .ok (.int .i64 (4 * pg)) w := fun _ => by kernel_rfl
      clear hm hb1 hb2
      go_wp2_with (first
        | (with_reducible change wpList _ _ _ (⟨none, Op.store _ _ _, _, _, _, _⟩ :: _) _ _
           go_must (refine wpList_unit rfl (exec_store1 (P := Try.prog) (v := .int .i64 (2 + 2 * j)) 3 _ _ rfl rfl rfl (show _ = some (.int .i64 0) from HX.out.2.2.cell 1) (HX.out.2.2.frozen _) rfl rfl rfl size_int) ?_)))
      go_roundw
      case rel => exact ⟨2, by omega, rfl, rfl, HX.out.1.new_ (Mod.cellAt _ _ _ _) (by omega), HX.out.2.1.far (show w.heap.size + 1 ≠ w.heap.size + 2 by omega) _, HX.out.2.2.set_ _ _⟩
      case measure => simp [intOf]
    · have hix : ∀ w : World, (Instr.index 101 (.agg #[.int .i64 (2 * j), .int .i64 (4 * pg), .int .i64 ps]) (.int .i64 2)).run Try.prog w = .ok (.int .i64 (ps)) w := fun _ => by kernel_rfl
      clear hm hb1 hb2
      go_wp2_with (first
        | (with_reducible change wpList _ _ _ (⟨none, Op.store _ _ _, _, _, _, _⟩ :: _) _ _
           go_must (refine wpList_unit rfl (exec_store1 (P := Try.prog) (v := .int .i64 (2 + 2 * j + 4 * pg)) 3 _ _ rfl rfl rfl (show _ = some (.int .i64 0) from HX.out.2.2.cell 2) (HX.out.2.2.frozen _) rfl rfl rfl size_int) ?_)))
      go_roundw
      case rel => exact ⟨3, by omega, rfl, rfl, HX.out.1.new_ (Mod.cellAt _ _ _ _) (by omega), HX.out.2.1.far (show w.heap.size + 1 ≠ w.heap.size + 2 by omega) _, HX.out.2.2.set_ _ _⟩
      case measure => simp [intOf]
    · clear hm hb1 hb2
      go_wp2_with (first
        | (with_reducible change wpList _ _ _ (⟨none, Op.store _ (Operand.tmp 31) _, _, _, _, _⟩ :: _) _ _
           go_must (refine wpList_unit rfl (exec_store1 (P := Try.prog) (v := .int .i64 (2 + 2 * j + 4 * pg + ps)) 3 _ _ rfl rfl rfl (show _ = some (.int .i64 0) from HX.out.2.2.cell 3) (HX.out.2.2.frozen _) rfl rfl rfl size_int) ?_)
           have b5 := HX.out.2.2.set_ 3 (.int .i64 (2 + 2 * j + 4 * pg + ps))
           have m5 := HX.out.1.new_ (Mod.cellAt _ (w.heap.size + 2) 3 (.int .i64 (2 + 2 * j + 4 * pg + ps))) (by omega)
           have r5 := HX.out.2.1.far (show w.heap.size + 1 ≠ w.heap.size + 2 by omega) (p := ⟨w.heap.size + 2, 3, none⟩) (.int .i64 (2 + 2 * j + 4 * pg + ps))
           generalize World.setCell _ ⟨w.heap.size + 2, 3, none⟩ (.int .i64 (2 + 2 * j + 4 * pg + ps)) = w5 at *
           have H5 := Lib.hid (And.intro m5 (And.intro r5 b5))
           clear m5 r5 b5)
        | (with_reducible change wpList _ _ _ (⟨some 32, Op.load _ _, _, _, _, _⟩ :: _) _ _
           go_must (refine wpList_load_var 68 _ rfl rfl (w.heap.size + 2) #[.int .i64 2, .int .i64 (2 + 2 * j), .int .i64 (2 + 2 * j + 4 * pg), .int .i64 (2 + 2 * j + 4 * pg + ps)] _ _ rfl H5.out.2.2 Try.underlying68 rfl size_pl ?_))
        | (with_reducible change wpList _ _ _ (⟨none, Op.store _ (Operand.tmp 2) _, _, _, _, _⟩ :: _) _ _
           go_must (refine wpList_store_var 68 _ _ rfl rfl (w.heap.size + 1) #[.int .i64 2, .int .i64 (2 + 2 * j), .int .i64 (2 + 2 * j + 4 * pg), .int .i64 (2 + 2 * j + 4 * pg + ps)] #[.int .i64 0, .int .i64 0, .int .i64 0, .int .i64 0] _ rfl rfl H5.out.2.1 size_pl rfl (by simp [Value.oneCell']) ?_)
           intro w6 b6 m6 z6))
      exact bodyPost_ret (results_cell_row (P := Try.prog) rfl _ w6 _ _ _ (0, 0) _ rfl b6 Try.underlying68 rfl size_pl) rfl ⟨rfl, H5.out.1.new_ m6 (by omega)⟩
end
end Go.Proofs.Ytijmkbhbpbkkoaa
