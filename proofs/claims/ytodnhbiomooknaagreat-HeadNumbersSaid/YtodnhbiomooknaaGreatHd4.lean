/- head.numbers. -/
import Derived.Test.YtodnhbiomooknaaGreatHd3
namespace Go.Proofs.YtodnhbiomooknaaGreat
open Go.RowKit

/-- where a head's numbers stand among its cells -/
def hpos (k : Nat) : Nat := if k < 5 then k else k + 1
def ptr8 (g : Nat) : Array Value := #[.pointer (some ⟨g, 0, none⟩), .pointer (some ⟨g, 1, none⟩), .pointer (some ⟨g, 2, none⟩), .pointer (some ⟨g, 3, none⟩), .pointer (some ⟨g, 4, none⟩), .pointer (some ⟨g, 6, none⟩), .pointer (some ⟨g, 7, none⟩), .pointer (some ⟨g, 8, none⟩)]
theorem zero_8 : (Tryz.prog.info? 47).map (fun i => (i.zero, i.size)) = some (some (.agg #[.pointer none, .pointer none, .pointer none, .pointer none, .pointer none, .pointer none, .pointer none, .pointer none]), 8) := by kernel_rfl
theorem size_8 : (Tryz.prog.info? 47).map (·.size) = some 8 := by kernel_rfl
theorem ptr8_at (g : Nat) (w : World) : ∀ k : Nat, k < 8 → (Instr.index 47 (.agg (ptr8 g)) (.int .i64 (k : Int))).run Tryz.prog w = .ok (.pointer (some ⟨g, hpos k, none⟩)) w
  | 0, _ => by kernel_rfl
  | 1, _ => by kernel_rfl
  | 2, _ => by kernel_rfl
  | 3, _ => by kernel_rfl
  | 4, _ => by kernel_rfl
  | 5, _ => by kernel_rfl
  | 6, _ => by kernel_rfl
  | 7, _ => by kernel_rfl
  | k + 8, h => by omega
section
variable {w : World}
set_option maxRecDepth 100000 in
set_option maxHeartbeats 1600000 in
theorem hnums_any (g : Nat) (w : World) : Calls Tryz.prog 17 #[.pointer (some ⟨g, 0, none⟩)] w fun e w' => e = .returned (.agg (ptr8 g)) ∧ Mod Nn w w' := by
  go_enter Tryz.func17, Tryz.ntmps17
  go_wp2_with (first
    | (with_reducible change wpList _ _ _ (⟨some 2, Op.alloc _, _, _, _, _⟩ :: _) _ _
       go_must (refine wpList_alloc_var 47 rfl rfl zero_8 ?_)
       intro w2 b2 m2 z2
       have H2 := Lib.hid (And.intro m2 b2)
       clear b2 m2))
  refine wp_region_planC (fun _ => True) [(0, true), (1, true), (2, true), (3, true), (4, true), (5, true), (6, true), (7, true), (8, true), (9, true), (10, true), (11, true), (12, true), (13, true), (14, true), (15, true), (16, true), (17, true), (18, true), (19, true), (20, true), (21, true), (22, true), (23, true), (24, true), (25, false)] (by kernel_rfl) (by kernel_rfl) trivial ?_
  iterate 25 (refine pc_pure rfl rfl (fun K hK => ?_); go_simp; refine hK _ ?_; clear hK K)
  refine pc_unit rfl rfl (exec_store_row (P := Tryz.prog) 47 _ (.tmp 31) rfl (g := w.heap.size) (cells := ptr8 g) rfl rfl H2.out.2.drew size_8 rfl (by simp [ptr8, Value.oneCell'])) trivial (fun K hK => ?_); go_simp; refine hK _ ?_; clear hK K
  refine pc_nil ?_
  have m3 := H2.out.1.drew.new_ (Mod.rowAt w2.drew w.heap.size (ptr8 g)) (Nat.le_refl _)
  have b3 := H2.out.2.drew.setRow_ (ptr8 g)
  generalize w2.drew.setRow w.heap.size (ptr8 g) = w3 at *
  have H3 := Lib.hid m3
  clear m3
  go_wp2
  exact bodyPost_ret (results_cell_row (P := Tryz.prog) rfl _ w3 _ _ _ (0, 0) _ rfl b3 Tryz.underlying47 rfl size_8) rfl ⟨rfl, H3.out⟩
end
end Go.Proofs.YtodnhbiomooknaaGreat
