/- Hashes that aren't there: Write, Sum; peatbanklaw01.ShaNone: the walk. -/
import Derived.Test.YtbocdgmkiajihaaDoorSha14
namespace Go.Proofs.YtbocdgmkiajihaaDoor
open Go.RowKit

set_option maxRecDepth 100000 in
theorem exec_buildK {o : Oper} {a : Act} {w : World} (ho : o.op = .build 26 #[]) :
    (execOp a.eval o).run Tryd.prog w = .ok (.value (.agg (u8s (List.replicate 32 0)).toArray)) w := by
  have hb : Tryd.prog.built 26 (#[] : Array (Nat × Value)).toList = some (u8s (List.replicate 32 0)).toArray := by kernel_rfl
  have hr := run_build (P := Tryd.prog) w 26 _ _ hb
  simp only [execOp, ho]
  simp [hr, Result.andThen]
set_option maxRecDepth 100000 in
theorem exec_build0H {o : Oper} {a : Act} {w : World} (ho : o.op = .build 48 #[]) :
    (execOp a.eval o).run Tryd.prog w = .ok (.value (.agg (hashC (.pointer none) (.slice none 0 0) 0 0 0 false z32))) w := by
  have hb : Tryd.prog.built 48 (#[] : Array (Nat × Value)).toList = some (hashC (.pointer none) (.slice none 0 0) 0 0 0 false z32) := by kernel_rfl
  have hr := run_build (P := Tryd.prog) w 48 _ _ hb
  simp only [execOp, ho]
  simp [hr, Result.andThen]
theorem zeroK_lt : ∀ z ∈ List.replicate 32 0, z < 256 := fun z hz => by rw [List.eq_of_mem_replicate hz]; omega
/-- no hash stands there -/
def NoH (w : World) (p : Option Addr) : Prop := p = none ∨ ∃ g, p = some ⟨g, 0, none⟩ ∧ w.cell? ⟨g, 0, none⟩ = some (.pointer none)
set_option maxRecDepth 100000 in
theorem wnone_any {w : World} {p : Option Addr} (h : NoH w p) (v : Value) : Calls Tryd.prog 14 #[.pointer p, v] w fun e w' => e = .returned (.int .i64 1) ∧ Mod Nn w w' := by
  rcases h with rfl | ⟨g, rfl, c0⟩
  · go_enter Tryd.func14, Tryd.ntmps14
    go_wp2
    go_ret
    exact ⟨rfl, Mod.refl _ _⟩
  · go_enter Tryd.func14, Tryd.ntmps14
    go_wp2
    go_ret
    exact ⟨rfl, Mod.refl _ _⟩
set_option maxRecDepth 100000 in
set_option maxHeartbeats 800000 in
theorem snone_any {w : World} {p : Option Addr} (h : NoH w p) : Calls Tryd.prog 15 #[.pointer p] w fun e w' => e = .returned (.agg (u8s (List.replicate 32 0)).toArray) ∧ Mod Nn w w' := by
  have H := Lib.hid h; clear h
  go_enter Tryd.func15, Tryd.ntmps15
  go_upto_region 1 with (first
    | (with_reducible change wpList _ _ _ (⟨some 2, Op.alloc _, _, _, _, _⟩ :: _) _ _
       go_must (refine wpList_alloc_var 26 rfl rfl zeroK ?_)
       intro w1 b1 m1 z1
       have B1 := Lib.hid (show Blk w1 w.heap.size 26 (u8s (List.replicate 32 0)).toArray ∧ Mod Nn w w1 from ⟨b1, m1⟩)
       clear b1 m1 z1))
  obtain ⟨KB, hKB⟩ : ∃ x, w.heap.size = x := ⟨_, rfl⟩
  rw [hKB] at B1 ⊢
  have HKB := Lib.hid hKB
  clear hKB
  rcases H.out with rfl | ⟨g, rfl, c0⟩
  · go_wp2_with (first
      | (with_reducible change wpList _ _ _ (⟨some 12, _, _, _, _, _⟩ :: _) _ _
         go_must (refine wpList_val rfl (exec_buildK rfl) ?_))
      | (with_reducible change wpList _ _ _ (⟨none, Op.store 26 (Operand.tmp 2) _, _, _, _, _⟩ :: _) _ _
         go_must (refine wpList_store_var 26 _ _ rfl rfl KB (u8s (List.replicate 32 0)).toArray (u8s (List.replicate 32 0)).toArray _ rfl rfl B1.out.1 (by rw [sizeK]; simp [u8s_len]) rfl (u8s_all _) ?_)
         intro w9 b9 m9 z9))
    exact bodyPost_ret (results_cell_row (P := Tryd.prog) rfl _ w9 _ _ _ (0, 0) _ rfl b9 Tryd.underlying26 rfl (by rw [sizeK]; simp [u8s_len])) rfl ⟨rfl, B1.out.2.new_ m9 (by have := HKB.out; omega)⟩
  · have hlt := World.block_lt_of_cell? w _ c0
    have c1 : w1.cell? ⟨g, 0, none⟩ = some (.pointer none) := (B1.out.2.cell (p := ⟨g, 0, none⟩) hlt (fun f => f)).trans c0
    clear c0
    go_wp2_with (first
      | (with_reducible change wpList _ _ _ (⟨some 12, _, _, _, _, _⟩ :: _) _ _
         go_must (refine wpList_val rfl (exec_buildK rfl) ?_))
      | (with_reducible change wpList _ _ _ (⟨none, Op.store 26 (Operand.tmp 2) _, _, _, _, _⟩ :: _) _ _
         go_must (refine wpList_store_var 26 _ _ rfl rfl KB (u8s (List.replicate 32 0)).toArray (u8s (List.replicate 32 0)).toArray _ rfl rfl B1.out.1 (by rw [sizeK]; simp [u8s_len]) rfl (u8s_all _) ?_)
         intro w9 b9 m9 z9))
    exact bodyPost_ret (results_cell_row (P := Tryd.prog) rfl _ w9 _ _ _ (0, 0) _ rfl b9 Tryd.underlying26 rfl (by rw [sizeK]; simp [u8s_len])) rfl ⟨rfl, B1.out.2.new_ m9 (by have := HKB.out; omega)⟩
end Go.Proofs.YtbocdgmkiajihaaDoor
