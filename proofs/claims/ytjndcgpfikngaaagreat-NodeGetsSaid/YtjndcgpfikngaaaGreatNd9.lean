/- node.Get: counts that may not be. Printed by gen/ndget.py. -/
import Derived.Test.YtjndcgpfikngaaaGreatNdG
namespace Go.Proofs.YtjndcgpfikngaaaGreat
open Go.RowKit

section
variable {w w' : World} {A : Option Addr} {n c : Nat} {l : List Nat}
set_option maxRecDepth 100000 in
set_option maxHeartbeats 1600000 in
theorem nget_c1 (hr : Rd w A n (bv l)) (hn : n = 1024) (hc : n ≤ c) (hz : ∀ z ∈ l, z < 256) (hcnt : ¬ cntOk l) (hlf : l.getD 0 0 = 1) (hbig : 20 < l.getD 1 0) : Calls Tryz.prog 18 #[.slice A n c] w (GetP w l) := by
  obtain ⟨g, off, rfl, hcell⟩ := hr.2 (by rw [hn]; omega)
  subst hn
  obtain ⟨b0, hb0⟩ : ∃ b, l.getD 0 0 = b := ⟨_, rfl⟩
  obtain ⟨b1, hb1⟩ : ∃ b, l.getD 1 0 = b := ⟨_, rfl⟩
  have hL : l.length = 1024 := by have := hr.1; rwa [bv_len] at this
  have hg : g < w.heap.size := World.block_lt_of_cell? w _ (hcell 0 _ (List.getElem?_eq_getElem (by rw [bv_len]; omega)))
  have hat : ∀ w', Mod Nn w w' → ∀ i, i < 1024 → w'.cell? ⟨g, off + i, none⟩ = some (.int .u8 ((l.getD i 0 : Nat) : Int)) := fun w' hm i hi => by
    refine (hm.cell (p := ⟨g, off + i, none⟩) hg (fun f => f)).trans (hcell i _ ?_)
    rw [bv_at, List.getD_eq_getElem?_getD, List.getElem?_eq_getElem (by omega)]
    rfl
  have hrow : ∀ w', Mod Nn w w' → ∀ o m, o + m ≤ 1024 → ∀ j v, (bv ((l.drop o).take m))[j]? = some v → w'.cell? ⟨g, off + o + j, none⟩ = some v := fun w' hm o m hom j v hv => by
    refine (hm.cell (p := ⟨g, off + o + j, none⟩) hg (fun f => f)).trans ?_
    rw [Nat.add_assoc]
    refine hcell (o + j) v ?_
    rw [bv_at, List.getElem?_take] at hv
    split at hv
    · rw [List.getElem?_drop] at hv
      rw [bv_at]
      exact hv
    · cases hv
  have h0 := fun w' hm => hat w' hm 0 (by omega)
  have h1 := fun w' hm => hat w' hm 1 (by omega)
  rw [hb0] at h0
  rw [hb1] at h1
  have hb0' : b0 < 256 := hb0 ▸ getD_lt hz 0
  have hb1' : b1 < 256 := hb1 ▸ getD_lt hz 1
  have HX := Lib.hid (And.intro h0 h1)
  have HR := Lib.hid hr
  have HAT := Lib.hid (And.intro hat (And.intro hL (And.intro hz (And.intro hb0 (And.intro hb1 hrow)))))
  clear h0 h1 hat hcell hb0 hb1 hz hr hL hrow
  have HLF := Lib.hid (And.intro (show ((b0 : Int) == 1) = true by rw [← HAT.out.2.2.2.1, hlf]; rfl) hlf)
  have HW1 := Lib.hid (show IntKind.i64.wrap (b1 : Int) = (b1 : Int) by rw [IntKind.wrap_i64]; omega)
  rw [HAT.out.2.2.2.2.1] at hbig
  have HNO := Lib.hid (show ¬ isNd l from fun h => hcnt h.2.1)
  clear hcnt hlf
  go_enter Tryz.func18, Tryz.ntmps18
  go_wp2_with (first
  | (with_reducible change wpList _ _ _ (⟨some 2, Op.alloc _, _, _, _, _⟩ :: _) _ _
     go_must (refine wpList_alloc_var 26 rfl rfl info_node ?_)
     intro wa ba ma za
     have HA := Lib.hid (And.intro ba (And.intro ma za))
     clear ba ma za))
  have hq0 : wa.drew.cell? ⟨g, off + 0, none⟩ = some (.int .u8 (b0 : Int)) ∧ wa.drew.cell? ⟨g, off + 1, none⟩ = some (.int .u8 (b1 : Int)) := ⟨HX.out.1 wa.drew HA.out.2.1.drew, HX.out.2 wa.drew HA.out.2.1.drew⟩
  refine wp_region_planV (fun w' => w'.cell? ⟨g, off + 0, none⟩ = some (.int .u8 (b0 : Int)) ∧ w'.cell? ⟨g, off + 1, none⟩ = some (.int .u8 (b1 : Int))) 13 (.pure 0 (.pure 1 (.read 2 (.pure 3 (.pure 4 (.pure 5 (.pure 6 (.read 7 (.pure 8 (.pure 9 (.pure 10 (.alone 11 (.alone 12 (.alone 13 (.pure 14 .nil))))))))))))))) (by kernel_rfl) (by kernel_rfl) hq0 ?_
  clear hq0
  iterate 2 (refine pv_pure rfl rfl (fun K hK => ?_); go_simp; refine hK _ ?_; clear hK K)
  refine pv_take _ rfl rfl (fun w' hS => exec_load1 (P := Tryz.prog) 5 _ rfl rfl hS.1 Tryz.underlying5 rfl) (fun K hK => ?_); go_simp; refine hK _ ?_; clear hK K
  iterate 1 (refine pv_pure rfl rfl (fun K hK => ?_); go_simp; refine hK _ ?_; clear hK K)
  rw [HLF.out.1]
  iterate 3 (refine pv_pure rfl rfl (fun K hK => ?_); go_simp; refine hK _ ?_; clear hK K)
  refine pv_take _ rfl rfl (fun w' hS => exec_load1 (P := Tryz.prog) 5 _ rfl rfl hS.2 Tryz.underlying5 rfl) (fun K hK => ?_); go_simp; refine hK _ ?_; clear hK K
  iterate 2 (refine pv_pure rfl rfl (fun K hK => ?_); go_simp; refine hK _ ?_; clear hK K)
  refine pv_is (.slice (some ⟨g, off + 4, none⟩) 1020 (c - 4)) rfl rfl (fun w' => by rw [← sub_at g off c 4 (by omega)]; exact exec_sub_l (P := Tryz.prog) 30 _ _ rfl 5 1 Tryz.underlying30 size_u8n (n := 1024) (l := 4) rfl rfl (by omega)) (fun K hK => ?_); go_simp; refine hK _ ?_; clear hK K
  rw [HW1.out]
  have mA : Mod Nn w (wa.drew.alloc (.cells #[.bool false, .slice none 0 0, .slice none 0 0, .slice none 0 0] 26)) := HA.out.2.1.drew.alloc _
  have bA : Blk (wa.drew.alloc (.cells #[.bool false, .slice none 0 0, .slice none 0 0, .slice none 0 0] 26)) wa.heap.size 26 #[.bool false, .slice none 0 0, .slice none 0 0, .slice none 0 0] := Blk.new wa.drew _ _
  have mB := mA.new_ (Mod.rowAt (wa.drew.alloc (.cells #[.bool false, .slice none 0 0, .slice none 0 0, .slice none 0 0] 26)) wa.heap.size #[.bool true, .slice none 0 0, .slice none 0 0, .slice none 0 0]) HA.out.2.1.size
  have h3 : GetN w ((wa.drew.alloc (.cells #[.bool false, .slice none 0 0, .slice none 0 0, .slice none 0 0] 26)).setRow wa.heap.size #[.bool true, .slice none 0 0, .slice none 0 0, .slice none 0 0]) w.heap.size wa.heap.size (.slice none 0 0) (.slice none 0 0) (.slice none 0 0) (ndUp l 0) := by
    rw [ndUp_leaf HLF.out.2 0]
    exact ⟨mB, ((HA.out.1.drew.alloc _).farRow (by rw [HA.out.2.2]; omega) _), bA.setRow_ _, own_nil _ _ _ _, own_nil _ _ _ _, own_nil _ _ _ _, Nat.le_refl _, by rw [HA.out.2.2]; omega⟩
  have HH := Lib.hid (And.intro mA (And.intro bA (And.intro mB h3)))
  clear mA bA mB h3
  refine pv_val (w1 := wa.drew.alloc (.cells #[.bool false, .slice none 0 0, .slice none 0 0, .slice none 0 0] 26)) rfl rfl (exec_alloc (P := Tryz.prog) (w := wa.drew) 26 rfl info_node) (fun _ => ⟨HX.out.1 _ HH.out.1, HX.out.2 _ HH.out.1⟩) (fun K hK => ?_); go_simp; refine hK _ ?_; clear hK K
  refine pv_unit (w1 := (wa.drew.alloc (.cells #[.bool false, .slice none 0 0, .slice none 0 0, .slice none 0 0] 26)).setRow wa.heap.size #[.bool true, .slice none 0 0, .slice none 0 0, .slice none 0 0]) rfl rfl (exec_store_row (P := Tryz.prog) 26 _ _ rfl rfl rfl HH.out.2.1 size_node rfl (nd4 _ _ _ _ _ _ _ _ _ _)) (fun _ => ⟨HX.out.1 _ HH.out.2.2.1, HX.out.2 _ HH.out.2.2.1⟩) (fun K hK => ?_); go_simp; refine hK _ ?_; clear hK K
  refine pv_val rfl rfl (exec_assign (P := Tryz.prog) (v := .int .i64 (b1 : Int)) _ rfl rfl) (fun h => by simp at h) (fun K hK => ?_); go_simp; refine hK _ ?_; clear hK K
  iterate 1 (refine pv_pure rfl rfl (fun K hK => ?_); go_simp; refine hK _ ?_; clear hK K)
  refine pv_nil ?_
  have HG := Lib.hid HH.out.2.2.2
  clear HH
  generalize (wa.drew.alloc (.cells #[.bool false, .slice none 0 0, .slice none 0 0, .slice none 0 0] 26)).setRow wa.heap.size #[.bool true, .slice none 0 0, .slice none 0 0, .slice none 0 0] = w3 at *
  generalize wa.heap.size = p at *
  clear HA
  have C0 := HG.out.box.cell 0
  rw [ndUp_leaf HLF.out.2 0] at C0
  have d20 : decide ((b1 : Int) > 20) = true := decide_eq_true (by omega)
  go_wp2_with (first
  | (with_reducible change wpList _ _ _ (⟨none, Op.store _ (Operand.tmp 2) _, _, _, _, _⟩ :: _) _ _
     go_must (refine wpList_store_var 26 _ _ rfl rfl w.heap.size #[.bool false, .slice none 0 0, .slice none 0 0, .slice none 0 0] _ _ rfl rfl HG.out.res size_node rfl (nd4 _ _ _ _ _ _ _ _ _ _) ?_)
     intro wb bb mb zb
     have MB := HG.out.m.new_ mb (Nat.le_refl _)
     have C0 := bb.cell 0; have C1 := bb.cell 1; have C2 := bb.cell 2; have C3 := bb.cell 3
     clear bb mb zb))
  refine bodyPost_ret (v := .tuple #[.agg #[.bool false, .slice none 0 0, .slice none 0 0, .slice none 0 0], .int .i64 4]) (by simp [results, Tryz.results18, go_sem, C0, C1, C2, C3]) rfl (.inr ⟨HNO.out, rfl, MB⟩)
set_option maxRecDepth 100000 in
set_option maxHeartbeats 1600000 in
theorem nget_c2 (hr : Rd w A n (bv l)) (hn : n = 1024) (hc : n ≤ c) (hz : ∀ z ∈ l, z < 256) (hcnt : ¬ cntOk l) (hlf : l.getD 0 0 = 1) (hbig : 12 < l.getD 1 0 ∧ l.getD 1 0 ≤ 20) : Calls Tryz.prog 18 #[.slice A n c] w (GetP w l) := by
  obtain ⟨g, off, rfl, hcell⟩ := hr.2 (by rw [hn]; omega)
  subst hn
  obtain ⟨b0, hb0⟩ : ∃ b, l.getD 0 0 = b := ⟨_, rfl⟩
  obtain ⟨b1, hb1⟩ : ∃ b, l.getD 1 0 = b := ⟨_, rfl⟩
  have hL : l.length = 1024 := by have := hr.1; rwa [bv_len] at this
  have hg : g < w.heap.size := World.block_lt_of_cell? w _ (hcell 0 _ (List.getElem?_eq_getElem (by rw [bv_len]; omega)))
  have hat : ∀ w', Mod Nn w w' → ∀ i, i < 1024 → w'.cell? ⟨g, off + i, none⟩ = some (.int .u8 ((l.getD i 0 : Nat) : Int)) := fun w' hm i hi => by
    refine (hm.cell (p := ⟨g, off + i, none⟩) hg (fun f => f)).trans (hcell i _ ?_)
    rw [bv_at, List.getD_eq_getElem?_getD, List.getElem?_eq_getElem (by omega)]
    rfl
  have hrow : ∀ w', Mod Nn w w' → ∀ o m, o + m ≤ 1024 → ∀ j v, (bv ((l.drop o).take m))[j]? = some v → w'.cell? ⟨g, off + o + j, none⟩ = some v := fun w' hm o m hom j v hv => by
    refine (hm.cell (p := ⟨g, off + o + j, none⟩) hg (fun f => f)).trans ?_
    rw [Nat.add_assoc]
    refine hcell (o + j) v ?_
    rw [bv_at, List.getElem?_take] at hv
    split at hv
    · rw [List.getElem?_drop] at hv
      rw [bv_at]
      exact hv
    · cases hv
  have h0 := fun w' hm => hat w' hm 0 (by omega)
  have h1 := fun w' hm => hat w' hm 1 (by omega)
  rw [hb0] at h0
  rw [hb1] at h1
  have hb0' : b0 < 256 := hb0 ▸ getD_lt hz 0
  have hb1' : b1 < 256 := hb1 ▸ getD_lt hz 1
  have HX := Lib.hid (And.intro h0 h1)
  have HR := Lib.hid hr
  have HAT := Lib.hid (And.intro hat (And.intro hL (And.intro hz (And.intro hb0 (And.intro hb1 hrow)))))
  clear h0 h1 hat hcell hb0 hb1 hz hr hL hrow
  have HLF := Lib.hid (And.intro (show ((b0 : Int) == 1) = true by rw [← HAT.out.2.2.2.1, hlf]; rfl) hlf)
  have HW1 := Lib.hid (show IntKind.i64.wrap (b1 : Int) = (b1 : Int) by rw [IntKind.wrap_i64]; omega)
  rw [HAT.out.2.2.2.2.1] at hbig
  have HNO := Lib.hid (show ¬ isNd l from fun h => hcnt h.2.1)
  clear hcnt hlf
  go_enter Tryz.func18, Tryz.ntmps18
  go_wp2_with (first
  | (with_reducible change wpList _ _ _ (⟨some 2, Op.alloc _, _, _, _, _⟩ :: _) _ _
     go_must (refine wpList_alloc_var 26 rfl rfl info_node ?_)
     intro wa ba ma za
     have HA := Lib.hid (And.intro ba (And.intro ma za))
     clear ba ma za))
  have hq0 : wa.drew.cell? ⟨g, off + 0, none⟩ = some (.int .u8 (b0 : Int)) ∧ wa.drew.cell? ⟨g, off + 1, none⟩ = some (.int .u8 (b1 : Int)) := ⟨HX.out.1 wa.drew HA.out.2.1.drew, HX.out.2 wa.drew HA.out.2.1.drew⟩
  refine wp_region_planV (fun w' => w'.cell? ⟨g, off + 0, none⟩ = some (.int .u8 (b0 : Int)) ∧ w'.cell? ⟨g, off + 1, none⟩ = some (.int .u8 (b1 : Int))) 13 (.pure 0 (.pure 1 (.read 2 (.pure 3 (.pure 4 (.pure 5 (.pure 6 (.read 7 (.pure 8 (.pure 9 (.pure 10 (.alone 11 (.alone 12 (.alone 13 (.pure 14 .nil))))))))))))))) (by kernel_rfl) (by kernel_rfl) hq0 ?_
  clear hq0
  iterate 2 (refine pv_pure rfl rfl (fun K hK => ?_); go_simp; refine hK _ ?_; clear hK K)
  refine pv_take _ rfl rfl (fun w' hS => exec_load1 (P := Tryz.prog) 5 _ rfl rfl hS.1 Tryz.underlying5 rfl) (fun K hK => ?_); go_simp; refine hK _ ?_; clear hK K
  iterate 1 (refine pv_pure rfl rfl (fun K hK => ?_); go_simp; refine hK _ ?_; clear hK K)
  rw [HLF.out.1]
  iterate 3 (refine pv_pure rfl rfl (fun K hK => ?_); go_simp; refine hK _ ?_; clear hK K)
  refine pv_take _ rfl rfl (fun w' hS => exec_load1 (P := Tryz.prog) 5 _ rfl rfl hS.2 Tryz.underlying5 rfl) (fun K hK => ?_); go_simp; refine hK _ ?_; clear hK K
  iterate 2 (refine pv_pure rfl rfl (fun K hK => ?_); go_simp; refine hK _ ?_; clear hK K)
  refine pv_is (.slice (some ⟨g, off + 4, none⟩) 1020 (c - 4)) rfl rfl (fun w' => by rw [← sub_at g off c 4 (by omega)]; exact exec_sub_l (P := Tryz.prog) 30 _ _ rfl 5 1 Tryz.underlying30 size_u8n (n := 1024) (l := 4) rfl rfl (by omega)) (fun K hK => ?_); go_simp; refine hK _ ?_; clear hK K
  rw [HW1.out]
  have mA : Mod Nn w (wa.drew.alloc (.cells #[.bool false, .slice none 0 0, .slice none 0 0, .slice none 0 0] 26)) := HA.out.2.1.drew.alloc _
  have bA : Blk (wa.drew.alloc (.cells #[.bool false, .slice none 0 0, .slice none 0 0, .slice none 0 0] 26)) wa.heap.size 26 #[.bool false, .slice none 0 0, .slice none 0 0, .slice none 0 0] := Blk.new wa.drew _ _
  have mB := mA.new_ (Mod.rowAt (wa.drew.alloc (.cells #[.bool false, .slice none 0 0, .slice none 0 0, .slice none 0 0] 26)) wa.heap.size #[.bool true, .slice none 0 0, .slice none 0 0, .slice none 0 0]) HA.out.2.1.size
  have h3 : GetN w ((wa.drew.alloc (.cells #[.bool false, .slice none 0 0, .slice none 0 0, .slice none 0 0] 26)).setRow wa.heap.size #[.bool true, .slice none 0 0, .slice none 0 0, .slice none 0 0]) w.heap.size wa.heap.size (.slice none 0 0) (.slice none 0 0) (.slice none 0 0) (ndUp l 0) := by
    rw [ndUp_leaf HLF.out.2 0]
    exact ⟨mB, ((HA.out.1.drew.alloc _).farRow (by rw [HA.out.2.2]; omega) _), bA.setRow_ _, own_nil _ _ _ _, own_nil _ _ _ _, own_nil _ _ _ _, Nat.le_refl _, by rw [HA.out.2.2]; omega⟩
  have HH := Lib.hid (And.intro mA (And.intro bA (And.intro mB h3)))
  clear mA bA mB h3
  refine pv_val (w1 := wa.drew.alloc (.cells #[.bool false, .slice none 0 0, .slice none 0 0, .slice none 0 0] 26)) rfl rfl (exec_alloc (P := Tryz.prog) (w := wa.drew) 26 rfl info_node) (fun _ => ⟨HX.out.1 _ HH.out.1, HX.out.2 _ HH.out.1⟩) (fun K hK => ?_); go_simp; refine hK _ ?_; clear hK K
  refine pv_unit (w1 := (wa.drew.alloc (.cells #[.bool false, .slice none 0 0, .slice none 0 0, .slice none 0 0] 26)).setRow wa.heap.size #[.bool true, .slice none 0 0, .slice none 0 0, .slice none 0 0]) rfl rfl (exec_store_row (P := Tryz.prog) 26 _ _ rfl rfl rfl HH.out.2.1 size_node rfl (nd4 _ _ _ _ _ _ _ _ _ _)) (fun _ => ⟨HX.out.1 _ HH.out.2.2.1, HX.out.2 _ HH.out.2.2.1⟩) (fun K hK => ?_); go_simp; refine hK _ ?_; clear hK K
  refine pv_val rfl rfl (exec_assign (P := Tryz.prog) (v := .int .i64 (b1 : Int)) _ rfl rfl) (fun h => by simp at h) (fun K hK => ?_); go_simp; refine hK _ ?_; clear hK K
  iterate 1 (refine pv_pure rfl rfl (fun K hK => ?_); go_simp; refine hK _ ?_; clear hK K)
  refine pv_nil ?_
  have HG := Lib.hid HH.out.2.2.2
  clear HH
  generalize (wa.drew.alloc (.cells #[.bool false, .slice none 0 0, .slice none 0 0, .slice none 0 0] 26)).setRow wa.heap.size #[.bool true, .slice none 0 0, .slice none 0 0, .slice none 0 0] = w3 at *
  generalize wa.heap.size = p at *
  clear HA
  have C0 := HG.out.box.cell 0
  rw [ndUp_leaf HLF.out.2 0] at C0
  have d20 : decide ((b1 : Int) > 20) = false := decide_eq_false (by omega)
  have d12 : decide ((b1 : Int) > 12) = true := decide_eq_true (by omega)
  go_wp2_with (first
  | (with_reducible change wpList _ _ _ (⟨none, Op.store _ (Operand.tmp 2) _, _, _, _, _⟩ :: _) _ _
     go_must (refine wpList_store_var 26 _ _ rfl rfl w.heap.size #[.bool false, .slice none 0 0, .slice none 0 0, .slice none 0 0] _ _ rfl rfl HG.out.res size_node rfl (nd4 _ _ _ _ _ _ _ _ _ _) ?_)
     intro wb bb mb zb
     have MB := HG.out.m.new_ mb (Nat.le_refl _)
     have C0 := bb.cell 0; have C1 := bb.cell 1; have C2 := bb.cell 2; have C3 := bb.cell 3
     clear bb mb zb))
  refine bodyPost_ret (v := .tuple #[.agg #[.bool false, .slice none 0 0, .slice none 0 0, .slice none 0 0], .int .i64 4]) (by simp [results, Tryz.results18, go_sem, C0, C1, C2, C3]) rfl (.inr ⟨HNO.out, rfl, MB⟩)
set_option maxRecDepth 100000 in
set_option maxHeartbeats 1600000 in
theorem nget_c3 (hr : Rd w A n (bv l)) (hn : n = 1024) (hc : n ≤ c) (hz : ∀ z ∈ l, z < 256) (hcnt : ¬ cntOk l) (hlf : l.getD 0 0 ≠ 1) (hbig : 20 < l.getD 1 0) : Calls Tryz.prog 18 #[.slice A n c] w (GetP w l) := by
  obtain ⟨g, off, rfl, hcell⟩ := hr.2 (by rw [hn]; omega)
  subst hn
  obtain ⟨b0, hb0⟩ : ∃ b, l.getD 0 0 = b := ⟨_, rfl⟩
  obtain ⟨b1, hb1⟩ : ∃ b, l.getD 1 0 = b := ⟨_, rfl⟩
  have hL : l.length = 1024 := by have := hr.1; rwa [bv_len] at this
  have hg : g < w.heap.size := World.block_lt_of_cell? w _ (hcell 0 _ (List.getElem?_eq_getElem (by rw [bv_len]; omega)))
  have hat : ∀ w', Mod Nn w w' → ∀ i, i < 1024 → w'.cell? ⟨g, off + i, none⟩ = some (.int .u8 ((l.getD i 0 : Nat) : Int)) := fun w' hm i hi => by
    refine (hm.cell (p := ⟨g, off + i, none⟩) hg (fun f => f)).trans (hcell i _ ?_)
    rw [bv_at, List.getD_eq_getElem?_getD, List.getElem?_eq_getElem (by omega)]
    rfl
  have hrow : ∀ w', Mod Nn w w' → ∀ o m, o + m ≤ 1024 → ∀ j v, (bv ((l.drop o).take m))[j]? = some v → w'.cell? ⟨g, off + o + j, none⟩ = some v := fun w' hm o m hom j v hv => by
    refine (hm.cell (p := ⟨g, off + o + j, none⟩) hg (fun f => f)).trans ?_
    rw [Nat.add_assoc]
    refine hcell (o + j) v ?_
    rw [bv_at, List.getElem?_take] at hv
    split at hv
    · rw [List.getElem?_drop] at hv
      rw [bv_at]
      exact hv
    · cases hv
  have h0 := fun w' hm => hat w' hm 0 (by omega)
  have h1 := fun w' hm => hat w' hm 1 (by omega)
  rw [hb0] at h0
  rw [hb1] at h1
  have hb0' : b0 < 256 := hb0 ▸ getD_lt hz 0
  have hb1' : b1 < 256 := hb1 ▸ getD_lt hz 1
  have HX := Lib.hid (And.intro h0 h1)
  have HR := Lib.hid hr
  have HAT := Lib.hid (And.intro hat (And.intro hL (And.intro hz (And.intro hb0 (And.intro hb1 hrow)))))
  clear h0 h1 hat hcell hb0 hb1 hz hr hL hrow
  have HLF := Lib.hid (And.intro (show ((b0 : Int) == 1) = false by have := HAT.out.2.2.2.1; simp; omega) hlf)
  have HW1 := Lib.hid (show IntKind.i64.wrap (b1 : Int) = (b1 : Int) by rw [IntKind.wrap_i64]; omega)
  rw [HAT.out.2.2.2.2.1] at hbig
  have HNO := Lib.hid (show ¬ isNd l from fun h => hcnt h.2.1)
  clear hcnt hlf
  go_enter Tryz.func18, Tryz.ntmps18
  go_wp2_with (first
  | (with_reducible change wpList _ _ _ (⟨some 2, Op.alloc _, _, _, _, _⟩ :: _) _ _
     go_must (refine wpList_alloc_var 26 rfl rfl info_node ?_)
     intro wa ba ma za
     have HA := Lib.hid (And.intro ba (And.intro ma za))
     clear ba ma za))
  have hq0 : wa.drew.cell? ⟨g, off + 0, none⟩ = some (.int .u8 (b0 : Int)) ∧ wa.drew.cell? ⟨g, off + 1, none⟩ = some (.int .u8 (b1 : Int)) := ⟨HX.out.1 wa.drew HA.out.2.1.drew, HX.out.2 wa.drew HA.out.2.1.drew⟩
  refine wp_region_planV (fun w' => w'.cell? ⟨g, off + 0, none⟩ = some (.int .u8 (b0 : Int)) ∧ w'.cell? ⟨g, off + 1, none⟩ = some (.int .u8 (b1 : Int))) 13 (.pure 0 (.pure 1 (.read 2 (.pure 3 (.pure 4 (.pure 5 (.pure 6 (.read 7 (.pure 8 (.pure 9 (.pure 10 (.alone 11 (.alone 12 (.alone 13 (.pure 14 .nil))))))))))))))) (by kernel_rfl) (by kernel_rfl) hq0 ?_
  clear hq0
  iterate 2 (refine pv_pure rfl rfl (fun K hK => ?_); go_simp; refine hK _ ?_; clear hK K)
  refine pv_take _ rfl rfl (fun w' hS => exec_load1 (P := Tryz.prog) 5 _ rfl rfl hS.1 Tryz.underlying5 rfl) (fun K hK => ?_); go_simp; refine hK _ ?_; clear hK K
  iterate 1 (refine pv_pure rfl rfl (fun K hK => ?_); go_simp; refine hK _ ?_; clear hK K)
  rw [HLF.out.1]
  iterate 3 (refine pv_pure rfl rfl (fun K hK => ?_); go_simp; refine hK _ ?_; clear hK K)
  refine pv_take _ rfl rfl (fun w' hS => exec_load1 (P := Tryz.prog) 5 _ rfl rfl hS.2 Tryz.underlying5 rfl) (fun K hK => ?_); go_simp; refine hK _ ?_; clear hK K
  iterate 2 (refine pv_pure rfl rfl (fun K hK => ?_); go_simp; refine hK _ ?_; clear hK K)
  refine pv_is (.slice (some ⟨g, off + 4, none⟩) 1020 (c - 4)) rfl rfl (fun w' => by rw [← sub_at g off c 4 (by omega)]; exact exec_sub_l (P := Tryz.prog) 30 _ _ rfl 5 1 Tryz.underlying30 size_u8n (n := 1024) (l := 4) rfl rfl (by omega)) (fun K hK => ?_); go_simp; refine hK _ ?_; clear hK K
  rw [HW1.out]
  have mA : Mod Nn w (wa.drew.alloc (.cells #[.bool false, .slice none 0 0, .slice none 0 0, .slice none 0 0] 26)) := HA.out.2.1.drew.alloc _
  have bA : Blk (wa.drew.alloc (.cells #[.bool false, .slice none 0 0, .slice none 0 0, .slice none 0 0] 26)) wa.heap.size 26 #[.bool false, .slice none 0 0, .slice none 0 0, .slice none 0 0] := Blk.new wa.drew _ _
  have mB := mA.new_ (Mod.rowAt (wa.drew.alloc (.cells #[.bool false, .slice none 0 0, .slice none 0 0, .slice none 0 0] 26)) wa.heap.size #[.bool false, .slice none 0 0, .slice none 0 0, .slice none 0 0]) HA.out.2.1.size
  have h3 : GetN w ((wa.drew.alloc (.cells #[.bool false, .slice none 0 0, .slice none 0 0, .slice none 0 0] 26)).setRow wa.heap.size #[.bool false, .slice none 0 0, .slice none 0 0, .slice none 0 0]) w.heap.size wa.heap.size (.slice none 0 0) (.slice none 0 0) (.slice none 0 0) (ndUp l 0) := by
    rw [ndUp_inner HLF.out.2 0]
    exact ⟨mB, ((HA.out.1.drew.alloc _).farRow (by rw [HA.out.2.2]; omega) _), bA.setRow_ _, own_nil _ _ _ _, own_nil _ _ _ _, own_nil _ _ _ _, Nat.le_refl _, by rw [HA.out.2.2]; omega⟩
  have HH := Lib.hid (And.intro mA (And.intro bA (And.intro mB h3)))
  clear mA bA mB h3
  refine pv_val (w1 := wa.drew.alloc (.cells #[.bool false, .slice none 0 0, .slice none 0 0, .slice none 0 0] 26)) rfl rfl (exec_alloc (P := Tryz.prog) (w := wa.drew) 26 rfl info_node) (fun _ => ⟨HX.out.1 _ HH.out.1, HX.out.2 _ HH.out.1⟩) (fun K hK => ?_); go_simp; refine hK _ ?_; clear hK K
  refine pv_unit (w1 := (wa.drew.alloc (.cells #[.bool false, .slice none 0 0, .slice none 0 0, .slice none 0 0] 26)).setRow wa.heap.size #[.bool false, .slice none 0 0, .slice none 0 0, .slice none 0 0]) rfl rfl (exec_store_row (P := Tryz.prog) 26 _ _ rfl rfl rfl HH.out.2.1 size_node rfl (nd4 _ _ _ _ _ _ _ _ _ _)) (fun _ => ⟨HX.out.1 _ HH.out.2.2.1, HX.out.2 _ HH.out.2.2.1⟩) (fun K hK => ?_); go_simp; refine hK _ ?_; clear hK K
  refine pv_val rfl rfl (exec_assign (P := Tryz.prog) (v := .int .i64 (b1 : Int)) _ rfl rfl) (fun h => by simp at h) (fun K hK => ?_); go_simp; refine hK _ ?_; clear hK K
  iterate 1 (refine pv_pure rfl rfl (fun K hK => ?_); go_simp; refine hK _ ?_; clear hK K)
  refine pv_nil ?_
  have HG := Lib.hid HH.out.2.2.2
  clear HH
  generalize (wa.drew.alloc (.cells #[.bool false, .slice none 0 0, .slice none 0 0, .slice none 0 0] 26)).setRow wa.heap.size #[.bool false, .slice none 0 0, .slice none 0 0, .slice none 0 0] = w3 at *
  generalize wa.heap.size = p at *
  clear HA
  have C0 := HG.out.box.cell 0
  rw [ndUp_inner HLF.out.2 0] at C0
  have d20 : decide ((b1 : Int) > 20) = true := decide_eq_true (by omega)
  go_wp2_with (first
  | (with_reducible change wpList _ _ _ (⟨none, Op.store _ (Operand.tmp 2) _, _, _, _, _⟩ :: _) _ _
     go_must (refine wpList_store_var 26 _ _ rfl rfl w.heap.size #[.bool false, .slice none 0 0, .slice none 0 0, .slice none 0 0] _ _ rfl rfl HG.out.res size_node rfl (nd4 _ _ _ _ _ _ _ _ _ _) ?_)
     intro wb bb mb zb
     have MB := HG.out.m.new_ mb (Nat.le_refl _)
     have C0 := bb.cell 0; have C1 := bb.cell 1; have C2 := bb.cell 2; have C3 := bb.cell 3
     clear bb mb zb))
  refine bodyPost_ret (v := .tuple #[.agg #[.bool false, .slice none 0 0, .slice none 0 0, .slice none 0 0], .int .i64 4]) (by simp [results, Tryz.results18, go_sem, C0, C1, C2, C3]) rfl (.inr ⟨HNO.out, rfl, MB⟩)
end
end Go.Proofs.YtjndcgpfikngaaaGreat
