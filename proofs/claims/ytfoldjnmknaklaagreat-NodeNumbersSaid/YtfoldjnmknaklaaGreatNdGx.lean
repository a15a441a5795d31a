/- Own lemmas of several kinds, put together: Nd9, Nd10, Nd11, Nd12. -/
import Derived.Test.YtfoldjnmknaklaaGreatNdG
/- node.Get: counts that may not be. Printed by gen/ndget.py. -/
namespace Go.Proofs.YtfoldjnmknaklaaGreat
open Go.RowKit

section
variable {w w' : World} {A : Option Addr} {n c : Nat} {l : List Nat}
set_option maxRecDepth 100000 in
set_option maxHeartbeats 1600000 in
theorem nget_c1 (hr : Rd w A n (bv l)) (hn : n = 1024) (hc : n ≤ c) (hz : ∀ z ∈ l, z < 256) (hcnt : ¬ cntOk l) (hlf : l.getD 0 0 = 1) (hbig : 20 < l.getD 1 0) : Calls Tryz.prog 10 #[.slice A n c] w (GetP w l) := by
  obtain ⟨g, off, rfl, hcell⟩ := hr.2 (by rw [hn]; omega)
  subst hn
  obtain ⟨b0, hb0⟩ : ∃ b, l.getD 0 0 = b := ⟨_, rfl⟩
  obtain ⟨b1, hb1⟩ : ∃ b, l.getD 1 0 = b := ⟨_, rfl⟩
  have hL : l.length = 1024 := by have := hr.1; rwa [bv_len] at this
  have hg : g < w.heap.size := World.block_lt_of_cell? w _ (hcell 0 _ (List.getElem?_eq_getElem (by rw [bv_len]; omega)))
  have hat : ∀ w', Mod Nn w w' → ∀ i, i < 1024 → w'.cell? ⟨g, off + i, none⟩ = some (.int .u8 ((l.getD i 0 : Nat) : Int)) := fun w' hm i hi => by
    refine (hm.cell (p := ⟨g, off + i, none⟩) hg (fun f => f)).trans (hcell i _ ?_)
    rw [bv_at, List.getD_eq_getElem?_getD, List.getElem?_eq_getElem (by omega)]
    rfl
  have hrow : ∀ w', Mod Nn w w' → ∀ o m, o + m ≤ 1024 → ∀ j v, (bv ((l.drop o).take m))[j]? = some v → w'.cell? ⟨g, off + o + j, none⟩ = some v := fun w' hm o m hom j v hv => by
    refine (hm.cell (p := ⟨g, off + o + j, none⟩) hg (fun f => f)).trans ?_
    rw [Nat.add_assoc]
    refine hcell (o + j) v ?_
    rw [bv_at, List.getElem?_take] at hv
    split at hv
    · rw [List.getElem?_drop] at hv
      rw [bv_at]
      exact hv
    · cases hv
  have h0 := fun w' hm => hat w' hm 0 (by omega)
  have h1 := fun w' hm => hat w' hm 1 (by omega)
  rw [hb0] at h0
  rw [hb1] at h1
  have hb0' : b0 < 256 := hb0 ▸ getD_lt hz 0
  have hb1' : b1 < 256 := hb1 ▸ getD_lt hz 1
  have HX := Lib.hid (And.intro h0 h1)
  have HR := Lib.hid hr
  have HAT := Lib.hid (And.intro hat (And.intro hL (And.intro hz (And.intro hb0 (And.intro hb1 hrow)))))
  clear h0 h1 hat hcell hb0 hb1 hz hr hL hrow
  have HLF := Lib.hid (And.intro (show ((b0 : Int) == 1) = true by rw [← HAT.out.2.2.2.1, hlf]; rfl) hlf)
  have HW1 := Lib.hid (show IntKind.i64.wrap (b1 : Int) = (b1 : Int) by rw [IntKind.wrap_i64]; omega)
  rw [HAT.out.2.2.2.2.1] at hbig
  have HNO := Lib.hid (show ¬ isNd l from fun h => hcnt h.2.1)
  clear hcnt hlf
  go_enter Tryz.func10, Tryz.ntmps10
  go_wp2_with (first
  | (with_reducible change wpList _ _ _ (⟨some 2, Op.alloc _, _, _, _, _⟩ :: _) _ _
     go_must (refine wpList_alloc_var 32 rfl rfl info_node ?_)
     intro wa ba ma za
     have HA := Lib.hid (And.intro ba (And.intro ma za))
     clear ba ma za))
  have hq0 : wa.drew.cell? ⟨g, off + 0, none⟩ = some (.int .u8 (b0 : Int)) ∧ wa.drew.cell? ⟨g, off + 1, none⟩ = some (.int .u8 (b1 : Int)) := ⟨HX.out.1 wa.drew HA.out.2.1.drew, HX.out.2 wa.drew HA.out.2.1.drew⟩
  refine wp_region_planV (fun w' => w'.cell? ⟨g, off + 0, none⟩ = some (.int .u8 (b0 : Int)) ∧ w'.cell? ⟨g, off + 1, none⟩ = some (.int .u8 (b1 : Int))) 13 (.pure 0 (.pure 1 (.read 2 (.pure 3 (.pure 4 (.pure 5 (.pure 6 (.read 7 (.pure 8 (.pure 9 (.pure 10 (.alone 11 (.alone 12 (.alone 13 (.pure 14 .nil))))))))))))))) (by kernel_rfl) (by kernel_rfl) hq0 ?_
  clear hq0
  iterate 2 (refine pv_pure rfl rfl (fun K hK => ?_); go_simp; refine hK _ ?_; clear hK K)
  refine pv_take _ rfl rfl (fun w' hS => exec_load1 (P := Tryz.prog) 5 _ rfl rfl hS.1 Tryz.underlying5 rfl) (fun K hK => ?_); go_simp; refine hK _ ?_; clear hK K
  iterate 1 (refine pv_pure rfl rfl (fun K hK => ?_); go_simp; refine hK _ ?_; clear hK K)
  rw [HLF.out.1]
  iterate 3 (refine pv_pure rfl rfl (fun K hK => ?_); go_simp; refine hK _ ?_; clear hK K)
  refine pv_take _ rfl rfl (fun w' hS => exec_load1 (P := Tryz.prog) 5 _ rfl rfl hS.2 Tryz.underlying5 rfl) (fun K hK => ?_); go_simp; refine hK _ ?_; clear hK K
  iterate 2 (refine pv_pure rfl rfl (fun K hK => ?_); go_simp; refine hK _ ?_; clear hK K)
  refine pv_is (.slice (some ⟨g, off + 4, none⟩) 1020 (c - 4)) rfl rfl (fun w' => by rw [← sub_at g off c 4 (by omega)]; exact exec_sub_l (P := Tryz.prog) 24 _ _ rfl 5 1 Tryz.underlying24 size_u8n (n := 1024) (l := 4) rfl rfl (by omega)) (fun K hK => ?_); go_simp; refine hK _ ?_; clear hK K
  rw [HW1.out]
  have mA : Mod Nn w (wa.drew.alloc (.cells #[.bool false, .slice none 0 0, .slice none 0 0, .slice none 0 0] 32)) := HA.out.2.1.drew.alloc _
  have bA : Blk (wa.drew.alloc (.cells #[.bool false, .slice none 0 0, .slice none 0 0, .slice none 0 0] 32)) wa.heap.size 32 #[.bool false, .slice none 0 0, .slice none 0 0, .slice none 0 0] := Blk.new wa.drew _ _
  have mB := mA.new_ (Mod.rowAt (wa.drew.alloc (.cells #[.bool false, .slice none 0 0, .slice none 0 0, .slice none 0 0] 32)) wa.heap.size #[.bool true, .slice none 0 0, .slice none 0 0, .slice none 0 0]) HA.out.2.1.size
  have h3 : GetN w ((wa.drew.alloc (.cells #[.bool false, .slice none 0 0, .slice none 0 0, .slice none 0 0] 32)).setRow wa.heap.size #[.bool true, .slice none 0 0, .slice none 0 0, .slice none 0 0]) w.heap.size wa.heap.size (.slice none 0 0) (.slice none 0 0) (.slice none 0 0) (ndUp l 0) := by
    rw [ndUp_leaf HLF.out.2 0]
    exact ⟨mB, ((HA.out.1.drew.alloc _).farRow (by rw [HA.out.2.2]; omega) _), bA.setRow_ _, own_nil _ _ _ _, own_nil _ _ _ _, own_nil _ _ _ _, Nat.le_refl _, by rw [HA.out.2.2]; omega⟩
  have HH := Lib.hid (And.intro mA (And.intro bA (And.intro mB h3)))
  clear mA bA mB h3
  refine pv_val (w1 := wa.drew.alloc (.cells #[.bool false, .slice none 0 0, .slice none 0 0, .slice none 0 0] 32)) rfl rfl (exec_alloc (P := Tryz.prog) (w := wa.drew) 32 rfl info_node) (fun _ => ⟨HX.out.1 _ HH.out.1, HX.out.2 _ HH.out.1⟩) (fun K hK => ?_); go_simp; refine hK _ ?_; clear hK K
  refine pv_unit (w1 := (wa.drew.alloc (.cells #[.bool false, .slice none 0 0, .slice none 0 0, .slice none 0 0] 32)).setRow wa.heap.size #[.bool true, .slice none 0 0, .slice none 0 0, .slice none 0 0]) rfl rfl (exec_store_row (P := Tryz.prog) 32 _ _ rfl rfl rfl HH.out.2.1 size_node rfl (nd4 _ _ _ _ _ _ _ _ _ _)) (fun _ => ⟨HX.out.1 _ HH.out.2.2.1, HX.out.2 _ HH.out.2.2.1⟩) (fun K hK => ?_); go_simp; refine hK _ ?_; clear hK K
  refine pv_val rfl rfl (exec_assign (P := Tryz.prog) (v := .int .i64 (b1 : Int)) _ rfl rfl) (fun h => by simp at h) (fun K hK => ?_); go_simp; refine hK _ ?_; clear hK K
  iterate 1 (refine pv_pure rfl rfl (fun K hK => ?_); go_simp; refine hK _ ?_; clear hK K)
  refine pv_nil ?_
  have HG := Lib.hid HH.out.2.2.2
  clear HH
  generalize (wa.drew.alloc (.cells #[.bool false, .slice none 0 0, .slice none 0 0, .slice none 0 0] 32)).setRow wa.heap.size #[.bool true, .slice none 0 0, .slice none 0 0, .slice none 0 0] = w3 at *
  generalize wa.heap.size = p at *
  clear HA
  have C0 := HG.out.box.cell 0
  rw [ndUp_leaf HLF.out.2 0] at C0
  have d20 : decide ((b1 : Int) > 20) = true := decide_eq_true (by omega)
  go_wp2_with (first
  | (with_reducible change wpList _ _ _ (⟨none, Op.store _ (Operand.tmp 2) _, _, _, _, _⟩ :: _) _ _
     go_must (refine wpList_store_var 32 _ _ rfl rfl w.heap.size #[.bool false, .slice none 0 0, .slice none 0 0, .slice none 0 0] _ _ rfl rfl HG.out.res size_node rfl (nd4 _ _ _ _ _ _ _ _ _ _) ?_)
     intro wb bb mb zb
     have MB := HG.out.m.new_ mb (Nat.le_refl _)
     have C0 := bb.cell 0; have C1 := bb.cell 1; have C2 := bb.cell 2; have C3 := bb.cell 3
     clear bb mb zb))
  refine bodyPost_ret (v := .tuple #[.agg #[.bool false, .slice none 0 0, .slice none 0 0, .slice none 0 0], .int .i64 4]) (by simp [results, Tryz.results10, go_sem, C0, C1, C2, C3]) rfl (.inr ⟨HNO.out, rfl, MB⟩)
set_option maxRecDepth 100000 in
set_option maxHeartbeats 1600000 in
theorem nget_c2 (hr : Rd w A n (bv l)) (hn : n = 1024) (hc : n ≤ c) (hz : ∀ z ∈ l, z < 256) (hcnt : ¬ cntOk l) (hlf : l.getD 0 0 = 1) (hbig : 12 < l.getD 1 0 ∧ l.getD 1 0 ≤ 20) : Calls Tryz.prog 10 #[.slice A n c] w (GetP w l) := by
  obtain ⟨g, off, rfl, hcell⟩ := hr.2 (by rw [hn]; omega)
  subst hn
  obtain ⟨b0, hb0⟩ : ∃ b, l.getD 0 0 = b := ⟨_, rfl⟩
  obtain ⟨b1, hb1⟩ : ∃ b, l.getD 1 0 = b := ⟨_, rfl⟩
  have hL : l.length = 1024 := by have := hr.1; rwa [bv_len] at this
  have hg : g < w.heap.size := World.block_lt_of_cell? w _ (hcell 0 _ (List.getElem?_eq_getElem (by rw [bv_len]; omega)))
  have hat : ∀ w', Mod Nn w w' → ∀ i, i < 1024 → w'.cell? ⟨g, off + i, none⟩ = some (.int .u8 ((l.getD i 0 : Nat) : Int)) := fun w' hm i hi => by
    refine (hm.cell (p := ⟨g, off + i, none⟩) hg (fun f => f)).trans (hcell i _ ?_)
    rw [bv_at, List.getD_eq_getElem?_getD, List.getElem?_eq_getElem (by omega)]
    rfl
  have hrow : ∀ w', Mod Nn w w' → ∀ o m, o + m ≤ 1024 → ∀ j v, (bv ((l.drop o).take m))[j]? = some v → w'.cell? ⟨g, off + o + j, none⟩ = some v := fun w' hm o m hom j v hv => by
    refine (hm.cell (p := ⟨g, off + o + j, none⟩) hg (fun f => f)).trans ?_
    rw [Nat.add_assoc]
    refine hcell (o + j) v ?_
    rw [bv_at, List.getElem?_take] at hv
    split at hv
    · rw [List.getElem?_drop] at hv
      rw [bv_at]
      exact hv
    · cases hv
  have h0 := fun w' hm => hat w' hm 0 (by omega)
  have h1 := fun w' hm => hat w' hm 1 (by omega)
  rw [hb0] at h0
  rw [hb1] at h1
  have hb0' : b0 < 256 := hb0 ▸ getD_lt hz 0
  have hb1' : b1 < 256 := hb1 ▸ getD_lt hz 1
  have HX := Lib.hid (And.intro h0 h1)
  have HR := Lib.hid hr
  have HAT := Lib.hid (And.intro hat (And.intro hL (And.intro hz (And.intro hb0 (And.intro hb1 hrow)))))
  clear h0 h1 hat hcell hb0 hb1 hz hr hL hrow
  have HLF := Lib.hid (And.intro (show ((b0 : Int) == 1) = true by rw [← HAT.out.2.2.2.1, hlf]; rfl) hlf)
  have HW1 := Lib.hid (show IntKind.i64.wrap (b1 : Int) = (b1 : Int) by rw [IntKind.wrap_i64]; omega)
  rw [HAT.out.2.2.2.2.1] at hbig
  have HNO := Lib.hid (show ¬ isNd l from fun h => hcnt h.2.1)
  clear hcnt hlf
  go_enter Tryz.func10, Tryz.ntmps10
  go_wp2_with (first
  | (with_reducible change wpList _ _ _ (⟨some 2, Op.alloc _, _, _, _, _⟩ :: _) _ _
     go_must (refine wpList_alloc_var 32 rfl rfl info_node ?_)
     intro wa ba ma za
     have HA := Lib.hid (And.intro ba (And.intro ma za))
     clear ba ma za))
  have hq0 : wa.drew.cell? ⟨g, off + 0, none⟩ = some (.int .u8 (b0 : Int)) ∧ wa.drew.cell? ⟨g, off + 1, none⟩ = some (.int .u8 (b1 : Int)) := ⟨HX.out.1 wa.drew HA.out.2.1.drew, HX.out.2 wa.drew HA.out.2.1.drew⟩
  refine wp_region_planV (fun w' => w'.cell? ⟨g, off + 0, none⟩ = some (.int .u8 (b0 : Int)) ∧ w'.cell? ⟨g, off + 1, none⟩ = some (.int .u8 (b1 : Int))) 13 (.pure 0 (.pure 1 (.read 2 (.pure 3 (.pure 4 (.pure 5 (.pure 6 (.read 7 (.pure 8 (.pure 9 (.pure 10 (.alone 11 (.alone 12 (.alone 13 (.pure 14 .nil))))))))))))))) (by kernel_rfl) (by kernel_rfl) hq0 ?_
  clear hq0
  iterate 2 (refine pv_pure rfl rfl (fun K hK => ?_); go_simp; refine hK _ ?_; clear hK K)
  refine pv_take _ rfl rfl (fun w' hS => exec_load1 (P := Tryz.prog) 5 _ rfl rfl hS.1 Tryz.underlying5 rfl) (fun K hK => ?_); go_simp; refine hK _ ?_; clear hK K
  iterate 1 (refine pv_pure rfl rfl (fun K hK => ?_); go_simp; refine hK _ ?_; clear hK K)
  rw [HLF.out.1]
  iterate 3 (refine pv_pure rfl rfl (fun K hK => ?_); go_simp; refine hK _ ?_; clear hK K)
  refine pv_take _ rfl rfl (fun w' hS => exec_load1 (P := Tryz.prog) 5 _ rfl rfl hS.2 Tryz.underlying5 rfl) (fun K hK => ?_); go_simp; refine hK _ ?_; clear hK K
  iterate 2 (refine pv_pure rfl rfl (fun K hK => ?_); go_simp; refine hK _ ?_; clear hK K)
  refine pv_is (.slice (some ⟨g, off + 4, none⟩) 1020 (c - 4)) rfl rfl (fun w' => by rw [← sub_at g off c 4 (by omega)]; exact exec_sub_l (P := Tryz.prog) 24 _ _ rfl 5 1 Tryz.underlying24 size_u8n (n := 1024) (l := 4) rfl rfl (by omega)) (fun K hK => ?_); go_simp; refine hK _ ?_; clear hK K
  rw [HW1.out]
  have mA : Mod Nn w (wa.drew.alloc (.cells #[.bool false, .slice none 0 0, .slice none 0 0, .slice none 0 0] 32)) := HA.out.2.1.drew.alloc _
  have bA : Blk (wa.drew.alloc (.cells #[.bool false, .slice none 0 0, .slice none 0 0, .slice none 0 0] 32)) wa.heap.size 32 #[.bool false, .slice none 0 0, .slice none 0 0, .slice none 0 0] := Blk.new wa.drew _ _
  have mB := mA.new_ (Mod.rowAt (wa.drew.alloc (.cells #[.bool false, .slice none 0 0, .slice none 0 0, .slice none 0 0] 32)) wa.heap.size #[.bool true, .slice none 0 0, .slice none 0 0, .slice none 0 0]) HA.out.2.1.size
  have h3 : GetN w ((wa.drew.alloc (.cells #[.bool false, .slice none 0 0, .slice none 0 0, .slice none 0 0] 32)).setRow wa.heap.size #[.bool true, .slice none 0 0, .slice none 0 0, .slice none 0 0]) w.heap.size wa.heap.size (.slice none 0 0) (.slice none 0 0) (.slice none 0 0) (ndUp l 0) := by
    rw [ndUp_leaf HLF.out.2 0]
    exact ⟨mB, ((HA.out.1.drew.alloc _).farRow (by rw [HA.out.2.2]; omega) _), bA.setRow_ _, own_nil _ _ _ _, own_nil _ _ _ _, own_nil _ _ _ _, Nat.le_refl _, by rw [HA.out.2.2]; omega⟩
  have HH := Lib.hid (And.intro mA (And.intro bA (And.intro mB h3)))
  clear mA bA mB h3
  refine pv_val (w1 := wa.drew.alloc (.cells #[.bool false, .slice none 0 0, .slice none 0 0, .slice none 0 0] 32)) rfl rfl (exec_alloc (P := Tryz.prog) (w := wa.drew) 32 rfl info_node) (fun _ => ⟨HX.out.1 _ HH.out.1, HX.out.2 _ HH.out.1⟩) (fun K hK => ?_); go_simp; refine hK _ ?_; clear hK K
  refine pv_unit (w1 := (wa.drew.alloc (.cells #[.bool false, .slice none 0 0, .slice none 0 0, .slice none 0 0] 32)).setRow wa.heap.size #[.bool true, .slice none 0 0, .slice none 0 0, .slice none 0 0]) rfl rfl (exec_store_row (P := Tryz.prog) 32 _ _ rfl rfl rfl HH.out.2.1 size_node rfl (nd4 _ _ _ _ _ _ _ _ _ _)) (fun _ => ⟨HX.out.1 _ HH.out.2.2.1, HX.out.2 _ HH.out.2.2.1⟩) (fun K hK => ?_); go_simp; refine hK _ ?_; clear hK K
  refine pv_val rfl rfl (exec_assign (P := Tryz.prog) (v := .int .i64 (b1 : Int)) _ rfl rfl) (fun h => by simp at h) (fun K hK => ?_); go_simp; refine hK _ ?_; clear hK K
  iterate 1 (refine pv_pure rfl rfl (fun K hK => ?_); go_simp; refine hK _ ?_; clear hK K)
  refine pv_nil ?_
  have HG := Lib.hid HH.out.2.2.2
  clear HH
  generalize (wa.drew.alloc (.cells #[.bool false, .slice none 0 0, .slice none 0 0, .slice none 0 0] 32)).setRow wa.heap.size #[.bool true, .slice none 0 0, .slice none 0 0, .slice none 0 0] = w3 at *
  generalize wa.heap.size = p at *
  clear HA
  have C0 := HG.out.box.cell 0
  rw [ndUp_leaf HLF.out.2 0] at C0
  have d20 : decide ((b1 : Int) > 20) = false := decide_eq_false (by omega)
  have d12 : decide ((b1 : Int) > 12) = true := decide_eq_true (by omega)
  go_wp2_with (first
  | (with_reducible change wpList _ _ _ (⟨none, Op.store _ (Operand.tmp 2) _, _, _, _, _⟩ :: _) _ _
     go_must (refine wpList_store_var 32 _ _ rfl rfl w.heap.size #[.bool false, .slice none 0 0, .slice none 0 0, .slice none 0 0] _ _ rfl rfl HG.out.res size_node rfl (nd4 _ _ _ _ _ _ _ _ _ _) ?_)
     intro wb bb mb zb
     have MB := HG.out.m.new_ mb (Nat.le_refl _)
     have C0 := bb.cell 0; have C1 := bb.cell 1; have C2 := bb.cell 2; have C3 := bb.cell 3
     clear bb mb zb))
  refine bodyPost_ret (v := .tuple #[.agg #[.bool false, .slice none 0 0, .slice none 0 0, .slice none 0 0], .int .i64 4]) (by simp [results, Tryz.results10, go_sem, C0, C1, C2, C3]) rfl (.inr ⟨HNO.out, rfl, MB⟩)
set_option maxRecDepth 100000 in
set_option maxHeartbeats 1600000 in
theorem nget_c3 (hr : Rd w A n (bv l)) (hn : n = 1024) (hc : n ≤ c) (hz : ∀ z ∈ l, z < 256) (hcnt : ¬ cntOk l) (hlf : l.getD 0 0 ≠ 1) (hbig : 20 < l.getD 1 0) : Calls Tryz.prog 10 #[.slice A n c] w (GetP w l) := by
  obtain ⟨g, off, rfl, hcell⟩ := hr.2 (by rw [hn]; omega)
  subst hn
  obtain ⟨b0, hb0⟩ : ∃ b, l.getD 0 0 = b := ⟨_, rfl⟩
  obtain ⟨b1, hb1⟩ : ∃ b, l.getD 1 0 = b := ⟨_, rfl⟩
  have hL : l.length = 1024 := by have := hr.1; rwa [bv_len] at this
  have hg : g < w.heap.size := World.block_lt_of_cell? w _ (hcell 0 _ (List.getElem?_eq_getElem (by rw [bv_len]; omega)))
  have hat : ∀ w', Mod Nn w w' → ∀ i, i < 1024 → w'.cell? ⟨g, off + i, none⟩ = some (.int .u8 ((l.getD i 0 : Nat) : Int)) := fun w' hm i hi => by
    refine (hm.cell (p := ⟨g, off + i, none⟩) hg (fun f => f)).trans (hcell i _ ?_)
    rw [bv_at, List.getD_eq_getElem?_getD, List.getElem?_eq_getElem (by omega)]
    rfl
  have hrow : ∀ w', Mod Nn w w' → ∀ o m, o + m ≤ 1024 → ∀ j v, (bv ((l.drop o).take m))[j]? = some v → w'.cell? ⟨g, off + o + j, none⟩ = some v := fun w' hm o m hom j v hv => by
    refine (hm.cell (p := ⟨g, off + o + j, none⟩) hg (fun f => f)).trans ?_
    rw [Nat.add_assoc]
    refine hcell (o + j) v ?_
    rw [bv_at, List.getElem?_take] at hv
    split at hv
    · rw [List.getElem?_drop] at hv
      rw [bv_at]
      exact hv
    · cases hv
  have h0 := fun w' hm => hat w' hm 0 (by omega)
  have h1 := fun w' hm => hat w' hm 1 (by omega)
  rw [hb0] at h0
  rw [hb1] at h1
  have hb0' : b0 < 256 := hb0 ▸ getD_lt hz 0
  have hb1' : b1 < 256 := hb1 ▸ getD_lt hz 1
  have HX := Lib.hid (And.intro h0 h1)
  have HR := Lib.hid hr
  have HAT := Lib.hid (And.intro hat (And.intro hL (And.intro hz (And.intro hb0 (And.intro hb1 hrow)))))
  clear h0 h1 hat hcell hb0 hb1 hz hr hL hrow
  have HLF := Lib.hid (And.intro (show ((b0 : Int) == 1) = false by have := HAT.out.2.2.2.1; simp; omega) hlf)
  have HW1 := Lib.hid (show IntKind.i64.wrap (b1 : Int) = (b1 : Int) by rw [IntKind.wrap_i64]; omega)
  rw [HAT.out.2.2.2.2.1] at hbig
  have HNO := Lib.hid (show ¬ isNd l from fun h => hcnt h.2.1)
  clear hcnt hlf
  go_enter Tryz.func10, Tryz.ntmps10
  go_wp2_with (first
  | (with_reducible change wpList _ _ _ (⟨some 2, Op.alloc _, _, _, _, _⟩ :: _) _ _
     go_must (refine wpList_alloc_var 32 rfl rfl info_node ?_)
     intro wa ba ma za
     have HA := Lib.hid (And.intro ba (And.intro ma za))
     clear ba ma za))
  have hq0 : wa.drew.cell? ⟨g, off + 0, none⟩ = some (.int .u8 (b0 : Int)) ∧ wa.drew.cell? ⟨g, off + 1, none⟩ = some (.int .u8 (b1 : Int)) := ⟨HX.out.1 wa.drew HA.out.2.1.drew, HX.out.2 wa.drew HA.out.2.1.drew⟩
  refine wp_region_planV (fun w' => w'.cell? ⟨g, off + 0, none⟩ = some (.int .u8 (b0 : Int)) ∧ w'.cell? ⟨g, off + 1, none⟩ = some (.int .u8 (b1 : Int))) 13 (.pure 0 (.pure 1 (.read 2 (.pure 3 (.pure 4 (.pure 5 (.pure 6 (.read 7 (.pure 8 (.pure 9 (.pure 10 (.alone 11 (.alone 12 (.alone 13 (.pure 14 .nil))))))))))))))) (by kernel_rfl) (by kernel_rfl) hq0 ?_
  clear hq0
  iterate 2 (refine pv_pure rfl rfl (fun K hK => ?_); go_simp; refine hK _ ?_; clear hK K)
  refine pv_take _ rfl rfl (fun w' hS => exec_load1 (P := Tryz.prog) 5 _ rfl rfl hS.1 Tryz.underlying5 rfl) (fun K hK => ?_); go_simp; refine hK _ ?_; clear hK K
  iterate 1 (refine pv_pure rfl rfl (fun K hK => ?_); go_simp; refine hK _ ?_; clear hK K)
  rw [HLF.out.1]
  iterate 3 (refine pv_pure rfl rfl (fun K hK => ?_); go_simp; refine hK _ ?_; clear hK K)
  refine pv_take _ rfl rfl (fun w' hS => exec_load1 (P := Tryz.prog) 5 _ rfl rfl hS.2 Tryz.underlying5 rfl) (fun K hK => ?_); go_simp; refine hK _ ?_; clear hK K
  iterate 2 (refine pv_pure rfl rfl (fun K hK => ?_); go_simp; refine hK _ ?_; clear hK K)
  refine pv_is (.slice (some ⟨g, off + 4, none⟩) 1020 (c - 4)) rfl rfl (fun w' => by rw [← sub_at g off c 4 (by omega)]; exact exec_sub_l (P := Tryz.prog) 24 _ _ rfl 5 1 Tryz.underlying24 size_u8n (n := 1024) (l := 4) rfl rfl (by omega)) (fun K hK => ?_); go_simp; refine hK _ ?_; clear hK K
  rw [HW1.out]
  have mA : Mod Nn w (wa.drew.alloc (.cells #[.bool false, .slice none 0 0, .slice none 0 0, .slice none 0 0] 32)) := HA.out.2.1.drew.alloc _
  have bA : Blk (wa.drew.alloc (.cells #[.bool false, .slice none 0 0, .slice none 0 0, .slice none 0 0] 32)) wa.heap.size 32 #[.bool false, .slice none 0 0, .slice none 0 0, .slice none 0 0] := Blk.new wa.drew _ _
  have mB := mA.new_ (Mod.rowAt (wa.drew.alloc (.cells #[.bool false, .slice none 0 0, .slice none 0 0, .slice none 0 0] 32)) wa.heap.size #[.bool false, .slice none 0 0, .slice none 0 0, .slice none 0 0]) HA.out.2.1.size
  have h3 : GetN w ((wa.drew.alloc (.cells #[.bool false, .slice none 0 0, .slice none 0 0, .slice none 0 0] 32)).setRow wa.heap.size #[.bool false, .slice none 0 0, .slice none 0 0, .slice none 0 0]) w.heap.size wa.heap.size (.slice none 0 0) (.slice none 0 0) (.slice none 0 0) (ndUp l 0) := by
    rw [ndUp_inner HLF.out.2 0]
    exact ⟨mB, ((HA.out.1.drew.alloc _).farRow (by rw [HA.out.2.2]; omega) _), bA.setRow_ _, own_nil _ _ _ _, own_nil _ _ _ _, own_nil _ _ _ _, Nat.le_refl _, by rw [HA.out.2.2]; omega⟩
  have HH := Lib.hid (And.intro mA (And.intro bA (And.intro mB h3)))
  clear mA bA mB h3
  refine pv_val (w1 := wa.drew.alloc (.cells #[.bool false, .slice none 0 0, .slice none 0 0, .slice none 0 0] 32)) rfl rfl (exec_alloc (P := Tryz.prog) (w := wa.drew) 32 rfl info_node) (fun _ => ⟨HX.out.1 _ HH.out.1, HX.out.2 _ HH.out.1⟩) (fun K hK => ?_); go_simp; refine hK _ ?_; clear hK K
  refine pv_unit (w1 := (wa.drew.alloc (.cells #[.bool false, .slice none 0 0, .slice none 0 0, .slice none 0 0] 32)).setRow wa.heap.size #[.bool false, .slice none 0 0, .slice none 0 0, .slice none 0 0]) rfl rfl (exec_store_row (P := Tryz.prog) 32 _ _ rfl rfl rfl HH.out.2.1 size_node rfl (nd4 _ _ _ _ _ _ _ _ _ _)) (fun _ => ⟨HX.out.1 _ HH.out.2.2.1, HX.out.2 _ HH.out.2.2.1⟩) (fun K hK => ?_); go_simp; refine hK _ ?_; clear hK K
  refine pv_val rfl rfl (exec_assign (P := Tryz.prog) (v := .int .i64 (b1 : Int)) _ rfl rfl) (fun h => by simp at h) (fun K hK => ?_); go_simp; refine hK _ ?_; clear hK K
  iterate 1 (refine pv_pure rfl rfl (fun K hK => ?_); go_simp; refine hK _ ?_; clear hK K)
  refine pv_nil ?_
  have HG := Lib.hid HH.out.2.2.2
  clear HH
  generalize (wa.drew.alloc (.cells #[.bool false, .slice none 0 0, .slice none 0 0, .slice none 0 0] 32)).setRow wa.heap.size #[.bool false, .slice none 0 0, .slice none 0 0, .slice none 0 0] = w3 at *
  generalize wa.heap.size = p at *
  clear HA
  have C0 := HG.out.box.cell 0
  rw [ndUp_inner HLF.out.2 0] at C0
  have d20 : decide ((b1 : Int) > 20) = true := decide_eq_true (by omega)
  go_wp2_with (first
  | (with_reducible change wpList _ _ _ (⟨none, Op.store _ (Operand.tmp 2) _, _, _, _, _⟩ :: _) _ _
     go_must (refine wpList_store_var 32 _ _ rfl rfl w.heap.size #[.bool false, .slice none 0 0, .slice none 0 0, .slice none 0 0] _ _ rfl rfl HG.out.res size_node rfl (nd4 _ _ _ _ _ _ _ _ _ _) ?_)
     intro wb bb mb zb
     have MB := HG.out.m.new_ mb (Nat.le_refl _)
     have C0 := bb.cell 0; have C1 := bb.cell 1; have C2 := bb.cell 2; have C3 := bb.cell 3
     clear bb mb zb))
  refine bodyPost_ret (v := .tuple #[.agg #[.bool false, .slice none 0 0, .slice none 0 0, .slice none 0 0], .int .i64 4]) (by simp [results, Tryz.results10, go_sem, C0, C1, C2, C3]) rfl (.inr ⟨HNO.out, rfl, MB⟩)
end
end Go.Proofs.YtfoldjnmknaklaaGreat

/- node.Get: a leaf's page. Printed by gen/ndget.py. -/
namespace Go.Proofs.YtfoldjnmknaklaaGreat
open Go.RowKit

section
variable {w w' : World} {A : Option Addr} {n c : Nat} {l : List Nat}
set_option maxRecDepth 100000 in
set_option maxHeartbeats 3200000 in
theorem nget_leaf (hr : Rd w A n (bv l)) (hn : n = 1024) (hc : n ≤ c) (hz : ∀ z ∈ l, z < 256) (hcnt : cntOk l) (hlf : l.getD 0 0 = 1) : Calls Tryz.prog 10 #[.slice A n c] w (GetP w l) := by
  obtain ⟨g, off, rfl, hcell⟩ := hr.2 (by rw [hn]; omega)
  subst hn
  obtain ⟨b0, hb0⟩ : ∃ b, l.getD 0 0 = b := ⟨_, rfl⟩
  obtain ⟨b1, hb1⟩ : ∃ b, l.getD 1 0 = b := ⟨_, rfl⟩
  have hL : l.length = 1024 := by have := hr.1; rwa [bv_len] at this
  have hg : g < w.heap.size := World.block_lt_of_cell? w _ (hcell 0 _ (List.getElem?_eq_getElem (by rw [bv_len]; omega)))
  have hat : ∀ w', Mod Nn w w' → ∀ i, i < 1024 → w'.cell? ⟨g, off + i, none⟩ = some (.int .u8 ((l.getD i 0 : Nat) : Int)) := fun w' hm i hi => by
    refine (hm.cell (p := ⟨g, off + i, none⟩) hg (fun f => f)).trans (hcell i _ ?_)
    rw [bv_at, List.getD_eq_getElem?_getD, List.getElem?_eq_getElem (by omega)]
    rfl
  have hrow : ∀ w', Mod Nn w w' → ∀ o m, o + m ≤ 1024 → ∀ j v, (bv ((l.drop o).take m))[j]? = some v → w'.cell? ⟨g, off + o + j, none⟩ = some v := fun w' hm o m hom j v hv => by
    refine (hm.cell (p := ⟨g, off + o + j, none⟩) hg (fun f => f)).trans ?_
    rw [Nat.add_assoc]
    refine hcell (o + j) v ?_
    rw [bv_at, List.getElem?_take] at hv
    split at hv
    · rw [List.getElem?_drop] at hv
      rw [bv_at]
      exact hv
    · cases hv
  have h0 := fun w' hm => hat w' hm 0 (by omega)
  have h1 := fun w' hm => hat w' hm 1 (by omega)
  rw [hb0] at h0
  rw [hb1] at h1
  have hb0' : b0 < 256 := hb0 ▸ getD_lt hz 0
  have hb1' : b1 < 256 := hb1 ▸ getD_lt hz 1
  have HX := Lib.hid (And.intro h0 h1)
  have HR := Lib.hid hr
  have HAT := Lib.hid (And.intro hat (And.intro hL (And.intro hz (And.intro hb0 (And.intro hb1 hrow)))))
  clear h0 h1 hat hcell hb0 hb1 hz hr hL hrow
  have HLF := Lib.hid (And.intro (show ((b0 : Int) == 1) = true by rw [← HAT.out.2.2.2.1, hlf]; rfl) hlf)
  have HW1 := Lib.hid (show IntKind.i64.wrap (b1 : Int) = (b1 : Int) by rw [IntKind.wrap_i64]; omega)
  have hcn : b1 ≤ 12 := HAT.out.2.2.2.2.1 ▸ hcnt.2 hlf
  have HCNT := Lib.hid hcnt
  clear hcnt hlf
  go_enter Tryz.func10, Tryz.ntmps10
  go_wp2_with (first
  | (with_reducible change wpList _ _ _ (⟨some 2, Op.alloc _, _, _, _, _⟩ :: _) _ _
     go_must (refine wpList_alloc_var 32 rfl rfl info_node ?_)
     intro wa ba ma za
     have HA := Lib.hid (And.intro ba (And.intro ma za))
     clear ba ma za))
  have hq0 : wa.drew.cell? ⟨g, off + 0, none⟩ = some (.int .u8 (b0 : Int)) ∧ wa.drew.cell? ⟨g, off + 1, none⟩ = some (.int .u8 (b1 : Int)) := ⟨HX.out.1 wa.drew HA.out.2.1.drew, HX.out.2 wa.drew HA.out.2.1.drew⟩
  refine wp_region_planV (fun w' => w'.cell? ⟨g, off + 0, none⟩ = some (.int .u8 (b0 : Int)) ∧ w'.cell? ⟨g, off + 1, none⟩ = some (.int .u8 (b1 : Int))) 13 (.pure 0 (.pure 1 (.read 2 (.pure 3 (.pure 4 (.pure 5 (.pure 6 (.read 7 (.pure 8 (.pure 9 (.pure 10 (.alone 11 (.alone 12 (.alone 13 (.pure 14 .nil))))))))))))))) (by kernel_rfl) (by kernel_rfl) hq0 ?_
  clear hq0
  iterate 2 (refine pv_pure rfl rfl (fun K hK => ?_); go_simp; refine hK _ ?_; clear hK K)
  refine pv_take _ rfl rfl (fun w' hS => exec_load1 (P := Tryz.prog) 5 _ rfl rfl hS.1 Tryz.underlying5 rfl) (fun K hK => ?_); go_simp; refine hK _ ?_; clear hK K
  iterate 1 (refine pv_pure rfl rfl (fun K hK => ?_); go_simp; refine hK _ ?_; clear hK K)
  rw [HLF.out.1]
  iterate 3 (refine pv_pure rfl rfl (fun K hK => ?_); go_simp; refine hK _ ?_; clear hK K)
  refine pv_take _ rfl rfl (fun w' hS => exec_load1 (P := Tryz.prog) 5 _ rfl rfl hS.2 Tryz.underlying5 rfl) (fun K hK => ?_); go_simp; refine hK _ ?_; clear hK K
  iterate 2 (refine pv_pure rfl rfl (fun K hK => ?_); go_simp; refine hK _ ?_; clear hK K)
  refine pv_is (.slice (some ⟨g, off + 4, none⟩) 1020 (c - 4)) rfl rfl (fun w' => by rw [← sub_at g off c 4 (by omega)]; exact exec_sub_l (P := Tryz.prog) 24 _ _ rfl 5 1 Tryz.underlying24 size_u8n (n := 1024) (l := 4) rfl rfl (by omega)) (fun K hK => ?_); go_simp; refine hK _ ?_; clear hK K
  rw [HW1.out]
  have mA : Mod Nn w (wa.drew.alloc (.cells #[.bool false, .slice none 0 0, .slice none 0 0, .slice none 0 0] 32)) := HA.out.2.1.drew.alloc _
  have bA : Blk (wa.drew.alloc (.cells #[.bool false, .slice none 0 0, .slice none 0 0, .slice none 0 0] 32)) wa.heap.size 32 #[.bool false, .slice none 0 0, .slice none 0 0, .slice none 0 0] := Blk.new wa.drew _ _
  have mB := mA.new_ (Mod.rowAt (wa.drew.alloc (.cells #[.bool false, .slice none 0 0, .slice none 0 0, .slice none 0 0] 32)) wa.heap.size #[.bool true, .slice none 0 0, .slice none 0 0, .slice none 0 0]) HA.out.2.1.size
  have h3 : GetN w ((wa.drew.alloc (.cells #[.bool false, .slice none 0 0, .slice none 0 0, .slice none 0 0] 32)).setRow wa.heap.size #[.bool true, .slice none 0 0, .slice none 0 0, .slice none 0 0]) w.heap.size wa.heap.size (.slice none 0 0) (.slice none 0 0) (.slice none 0 0) (ndUp l 0) := by
    rw [ndUp_leaf HLF.out.2 0]
    exact ⟨mB, ((HA.out.1.drew.alloc _).farRow (by rw [HA.out.2.2]; omega) _), bA.setRow_ _, own_nil _ _ _ _, own_nil _ _ _ _, own_nil _ _ _ _, Nat.le_refl _, by rw [HA.out.2.2]; omega⟩
  have HH := Lib.hid (And.intro mA (And.intro bA (And.intro mB h3)))
  clear mA bA mB h3
  refine pv_val (w1 := wa.drew.alloc (.cells #[.bool false, .slice none 0 0, .slice none 0 0, .slice none 0 0] 32)) rfl rfl (exec_alloc (P := Tryz.prog) (w := wa.drew) 32 rfl info_node) (fun _ => ⟨HX.out.1 _ HH.out.1, HX.out.2 _ HH.out.1⟩) (fun K hK => ?_); go_simp; refine hK _ ?_; clear hK K
  refine pv_unit (w1 := (wa.drew.alloc (.cells #[.bool false, .slice none 0 0, .slice none 0 0, .slice none 0 0] 32)).setRow wa.heap.size #[.bool true, .slice none 0 0, .slice none 0 0, .slice none 0 0]) rfl rfl (exec_store_row (P := Tryz.prog) 32 _ _ rfl rfl rfl HH.out.2.1 size_node rfl (nd4 _ _ _ _ _ _ _ _ _ _)) (fun _ => ⟨HX.out.1 _ HH.out.2.2.1, HX.out.2 _ HH.out.2.2.1⟩) (fun K hK => ?_); go_simp; refine hK _ ?_; clear hK K
  refine pv_val rfl rfl (exec_assign (P := Tryz.prog) (v := .int .i64 (b1 : Int)) _ rfl rfl) (fun h => by simp at h) (fun K hK => ?_); go_simp; refine hK _ ?_; clear hK K
  iterate 1 (refine pv_pure rfl rfl (fun K hK => ?_); go_simp; refine hK _ ?_; clear hK K)
  refine pv_nil ?_
  have HG := Lib.hid HH.out.2.2.2
  clear HH
  generalize (wa.drew.alloc (.cells #[.bool false, .slice none 0 0, .slice none 0 0, .slice none 0 0] 32)).setRow wa.heap.size #[.bool true, .slice none 0 0, .slice none 0 0, .slice none 0 0] = w3 at *
  generalize wa.heap.size = p at *
  clear HA
  have C0 := HG.out.box.cell 0
  rw [ndUp_leaf HLF.out.2 0] at C0
  have d20 : decide ((b1 : Int) > 20) = false := decide_eq_false (by omega)
  have d12 : decide ((b1 : Int) > 12) = false := decide_eq_false (by omega)
  go_wp2
  clear C0 d20 d12
  go_loopw [39] (fun i wr => ∃ k : Nat, k ≤ b1 ∧ i = .int .i64 k ∧ ∃ ev kv cv, GetN w wr w.heap.size p ev kv cv (ndUp l k)) (fun i _ => b1 - (intOf i).toNat)
  case atStart => exact ⟨0, by omega, rfl, _, _, _, HG.out⟩
  case round =>
    clear HG
    obtain ⟨k, hk, rfl, ev, kv, cv, hG⟩ := hrel
    have H := Lib.hid hG
    clear hG
    by_cases hlt : k < b1
    · have hlt' : (k : Int) < b1 := by omega
      obtain ⟨q, hq⟩ : ∃ q : Nat, 80 * k = q := ⟨_, rfl⟩
      have e80 : (80 : Int) * (k : Int) = (q : Int) := by omega
      have hq9 : q ≤ 880 := by omega
      have C0 := H.out.box.cell 0
      rw [ndUp_leaf HLF.out.2 k] at C0
      have HQ := Lib.hid hq
      clear hq
      go_wp2_with (first
        | (with_reducible change wpList _ _ _ (⟨some 47, Op.slice _ _ _ _ _, _, _, _, _⟩ :: _) _ _
           go_must (refine wpList_sub_l 24 _ _ rfl rfl 5 1 Tryz.underlying24 size_u8n (l := q) rfl rfl (by omega) ?_)
           rw [sub_at g (off + 4) (c - 4) q (by omega)]))
      clear C0
      have hcut : cutE l k = (l.drop (4 + q)).take 80 := by unfold cutE; rw [HQ.out]
      obtain ⟨hr80, hr8z⟩ := cutE_ok HAT.out.2.1 HAT.out.2.2.1 (i := k) (by omega)
      have hx1 : ∀ w', Mod Nn w w' → ∀ j v, (bv ((cutE l k).take 40))[j]? = some v → w'.cell? ⟨g, off + 4 + q + j, none⟩ = some v := fun w' hm j v hv => by
        rw [Nat.add_assoc off 4 q]
        refine HAT.out.2.2.2.2.2 w' hm (4 + q) 40 (by omega) j v ?_
        rw [hcut, List.take_take] at hv
        exact hv
      have hx2 : ∀ w', Mod Nn w w' → ∀ j v, (bv ((cutE l k).drop 40))[j]? = some v → w'.cell? ⟨g, off + 4 + q + 40 + j, none⟩ = some v := fun w' hm j v hv => by
        rw [Nat.add_assoc off 4 q, Nat.add_assoc off (4 + q) 40]
        refine HAT.out.2.2.2.2.2 w' hm (4 + q + 40) 40 (by omega) j v ?_
        rw [hcut, List.drop_take, List.drop_drop] at hv
        exact hv
      have hup : ndUp l (k + 1) = ⟨(ndUp l k).leaf, (ndUp l k).ents ++ [cutE l k], (ndUp l k).keys, (ndUp l k).kids⟩ := by
        rw [ndUp_leaf HLF.out.2, ndUp_leaf HLF.out.2, List.range_succ]
        simp
      have hcnt : (ndUp l k).ents.length = k := by rw [ndUp_leaf HLF.out.2]; simp
      have l1 : ((cutE l k).take 40).length = 40 := by rw [List.length_take, hr80]; rfl
      have l2 : ((cutE l k).drop 40).length = 40 := by rw [List.length_drop, hr80]
      have happ : (bv ((cutE l k).take 40)).toArray ++ (bv ((cutE l k).drop 40)).toArray = (bv (cutE l k)).toArray := by
        apply Array.ext'
        rw [Array.toList_append, List.toList_toArray, List.toList_toArray, List.toList_toArray, ← bv_append, List.take_append_drop]
      have HC := Lib.hid (And.intro hx1 (And.intro hx2 (And.intro hup (And.intro hcnt (And.intro l1 (And.intro l2 (And.intro happ hr80)))))))
      clear hcut hx1 hx2 hup hcnt l1 l2 happ hr80 hr8z
      have HB := Lib.hid (And.intro H.out.drew (H.out.drew.box.cell 1))
      have hq1 : wr.drew.cell? ⟨p, 1, none⟩ = some ev ∧ Mod Nn w wr.drew := ⟨HB.out.2, HB.out.1.m⟩
      refine wp_region_planV (fun w' => w'.cell? ⟨p, 1, none⟩ = some ev ∧ Mod Nn w w') 11 (.pure 0 (.read 1 (.pure 2 (.pure 3 (.read 4 (.pure 5 (.pure 6 (.pure 7 (.read 8 (.pure 9 (.alone 10 (.alone 11 (.pure 12 (.alone 13 .nil)))))))))))))) (by kernel_rfl) (by kernel_rfl) hq1 ?_
      clear hq1
      iterate 1 (refine pv_pure rfl rfl (fun K hK => ?_); go_simp; refine hK _ ?_; clear hK K)
      refine pv_take _ rfl rfl (fun w' hS => exec_load1 (P := Tryz.prog) 28 _ rfl rfl hS.1 Tryz.underlying28 rfl) (fun K hK => ?_); go_simp; refine hK _ ?_; clear hK K
      iterate 1 (refine pv_pure rfl rfl (fun K hK => ?_); go_simp; refine hK _ ?_; clear hK K)
      refine pv_is _ rfl rfl (fun w' => exec_arrayAt (P := Tryz.prog) 40 _ rfl rfl Tryz.underlying40 (by omega)) (fun K hK => ?_); go_simp; refine hK _ ?_; clear hK K
      refine pv_take _ rfl rfl (fun w' hS => exec_load_cells (P := Tryz.prog) 40 _ rfl (cs := bv ((cutE l k).take 40)) rfl (HC.out.1 w' hS.2) Tryz.underlying40 rfl (by rw [size_tk, bv_len, HC.out.2.2.2.2.1])) (fun K hK => ?_); go_simp; refine hK _ ?_; clear hK K
      iterate 1 (refine pv_pure rfl rfl (fun K hK => ?_); go_simp; refine hK _ ?_; clear hK K)
      refine pv_is (.slice (some ⟨g, off + 4 + q + 40, none⟩) (1020 - q - 40) (c - 4 - q - 40)) rfl rfl (fun w' => by rw [← sub_at g (off + 4 + q) (c - 4 - q) 40 (by omega)]; exact exec_sub_l (P := Tryz.prog) 24 _ _ rfl 5 1 Tryz.underlying24 size_u8n (n := 1020 - q) (l := 40) rfl rfl (by omega)) (fun K hK => ?_); go_simp; refine hK _ ?_; clear hK K
      refine pv_is _ rfl rfl (fun w' => exec_arrayAt (P := Tryz.prog) 41 _ rfl rfl Tryz.underlying41 (by omega)) (fun K hK => ?_); go_simp; refine hK _ ?_; clear hK K
      refine pv_take _ rfl rfl (fun w' hS => exec_load_cells (P := Tryz.prog) 41 _ rfl (cs := bv ((cutE l k).drop 40)) rfl (HC.out.2.1 w' hS.2) Tryz.underlying41 rfl (by rw [size_tv, bv_len, HC.out.2.2.2.2.2.1])) (fun K hK => ?_); go_simp; refine hK _ ?_; clear hK K
      refine pv_is (.agg (bv (cutE l k)).toArray) rfl rfl (fun w' => by rw [← HC.out.2.2.2.2.2.2.1]; exact exec_build_two (P := Tryz.prog) 43 _ _ rfl zero_ent rfl (s := 40) (by omega) Tryz.underlying43 (by kernel_rfl) rfl rfl (by rw [bv_size, HC.out.2.2.2.2.1]) (by rw [bv_size, HC.out.2.2.2.2.2.1])) (fun K hK => ?_); go_simp; refine hK _ ?_; clear hK K
      refine pv_bslice1 28 43 _ rfl rfl rfl Tryz.underlying28 info_ent (by omega) (by omega) rfl (xs := bv (cutE l k)) rfl (by rw [bv_len, HC.out.2.2.2.2.2.2.2]) ?_
      intro w5 r5 m5 z5
      have g5 := HB.out.1.nn m5
      have H5 := Lib.hid (And.intro r5 (And.intro g5 m5))
      refine ⟨fun _ => ⟨H5.out.2.1.box.cell 1, H5.out.2.1.m⟩, ?_⟩
      clear r5 m5 z5 g5
      intro K hK; go_simp; refine hK _ ?_; clear hK K
      refine pv_append 28 _ _ rfl rfl rfl (p + 1) 43 (.agg (bv (List.replicate 80 0)).toArray) 80 80 Tryz.underlying28 info_ent3 rfl (by omega) ev (ndUp l k).ents.length (bv (ndUp l k).ents.flatten) rfl H5.out.2.1.e _ 1 1 (bv (cutE l k)) rfl H5.out.1 (bv_one' _) (by rw [HC.out.2.2.2.1]; omega) (by rw [HC.out.2.2.2.1]; omega) H5.out.2.1.box.lt ?_
      intro v6 w6 o6 g6 q6
      have m6 : Mod (fun g => ev.ownBlock = some g) w5 w6 := (Mod.refl _ w5).grown g6 (fun g e => .inr e)
      have b6 : Blk w6 p 32 #[.bool (ndUp l k).leaf, ev, kv, cv] := H5.out.2.1.box.mod m6 (fun e => by have := own_ge H5.out.2.1.e p e; omega)
      have G6 := H5.out.2.1.addE m6 o6
      rw [← HC.out.2.2.1] at G6
      have H6 := Lib.hid (And.intro b6 (And.intro G6 (own1s o6)))
      refine ⟨fun h => by simp at h, ?_⟩
      clear o6 g6 q6 m6 b6 G6
      intro K hK; go_simp; refine hK _ ?_; clear hK K
      iterate 1 (refine pv_pure rfl rfl (fun K hK => ?_); go_simp; refine hK _ ?_; clear hK K)
      refine pv_unit (w1 := w6.setCell ⟨p, 1, none⟩ v6) rfl rfl (exec_store1 (P := Tryz.prog) 28 _ _ rfl rfl rfl (H6.out.1.cell 1) (H6.out.1.frozen 1) rfl H6.out.2.2.1 H6.out.2.2.2 size_se) (fun h => by simp at h) (fun K hK => ?_); go_simp; refine hK _ ?_; clear hK K
      refine pv_nil ?_
      have H9 := Lib.hid H6.out.2.1
      clear H6 H5 HB
      generalize w6.setCell ⟨p, 1, none⟩ v6 = w9 at *
      go_wp2
      go_roundw
      case rel => exact ⟨k + 1, by omega, by go_num, _, _, _, H9.out⟩
      case measure => simp [intOf]; omega
    · obtain rfl : k = b1 := by omega
      have hlt' : ¬ (k : Int) < (k : Int) := by omega
      obtain ⟨EA, ec, rfl, hec, hE⟩ := own_form H.out.e
      obtain ⟨KA, kc, rfl, hkc, hKb⟩ := own_form H.out.k
      obtain ⟨CA, cc, rfl, hcc, hCb⟩ := own_form H.out.c
      have hof : ndUp l k = ndOf l := by unfold ndOf; rw [HAT.out.2.2.2.2.1]
      rw [hof] at H
      have hNok : (ndOf l).ok := by unfold ndOf; exact ndUp_ok HAT.out.2.1 HAT.out.2.2.1 HCNT.out (Nat.le_refl _)
      have hNl := ndUp_len l k
      rw [hof] at hNl
      have hnd : isNd l ↔ (ndOf l).right = true ∧ (ndOf l).bytes = l := ⟨fun h => h.2.2, fun h => ⟨HAT.out.2.1, HCNT.out, h.1, h.2⟩⟩
      obtain ⟨N, hN⟩ : ∃ N, ndOf l = N := ⟨_, rfl⟩
      rw [hN] at H hNok hNl hnd
      have HNE := Lib.hid hN
      have hR : NdR wr N EA N.ents.length KA N.keys.length CA N.kids.length := ⟨own_rdC H.out.e, own_rdC H.out.k, Rd.of_own H.out.c, rfl, rfl, rfl, hNok, by omega, by omega, by omega⟩
      have HN := Lib.hid (And.intro hR (And.intro hNok hnd))
      clear hN hR hNok hnd hof hNl hE hKb hCb hec hkc hcc
      cases hrt : N.right with
      | false =>
        have HNO := Lib.hid (show ¬ isNd l from fun h => by have := (HN.out.2.2.1 h).1; rw [hrt] at this; cases this)
        have HRT := Lib.hid hrt
        clear hrt
        go_wp2_with (first
          | (with_reducible change wpList _ _ _ (⟨some 111, Op.load _ _, _, _, _, _⟩ :: _) _ _
             go_must (refine wpList_load_var 32 _ rfl rfl p #[.bool N.leaf, .slice EA N.ents.length ec, .slice KA N.keys.length kc, .slice CA N.kids.length cc] _ _ rfl H.out.box Tryz.underlying32 rfl size_node ?_)))
        refine (nput_bad (ec := ec) (kc := kc) (cc := cc) HN.out.1 HRT.out).mono ?_
        rintro r w6 ⟨rfl, m6⟩
        have H6 := Lib.hid (H.out.nn m6)
        clear m6
        go_wp2_with (first
          | (with_reducible change wpList _ _ _ (⟨none, Op.store _ (Operand.tmp 2) _, _, _, _, _⟩ :: _) _ _
             go_must (refine wpList_store_var 32 _ _ rfl rfl w.heap.size #[.bool false, .slice none 0 0, .slice none 0 0, .slice none 0 0] _ _ rfl rfl H6.out.res size_node rfl (nd4 _ _ _ _ _ _ _ _ _ _) ?_)
             intro wb bb mb zb
             have MB := H6.out.m.new_ mb (Nat.le_refl _)
             have C0 := bb.cell 0; have C1 := bb.cell 1; have C2 := bb.cell 2; have C3 := bb.cell 3
             clear bb mb zb))
        refine bodyPost_ret (v := .tuple #[.agg #[.bool false, .slice none 0 0, .slice none 0 0, .slice none 0 0], .int .i64 4]) (by simp [results, Tryz.results10, go_sem, C0, C1, C2, C3]) rfl (.inr ⟨HNO.out, rfl, MB⟩)
      | true =>
        have HRT := Lib.hid hrt
        clear hrt
        go_wp2_with (first
          | (with_reducible change wpList _ _ _ (⟨some 111, Op.load _ _, _, _, _, _⟩ :: _) _ _
             go_must (refine wpList_load_var 32 _ rfl rfl p #[.bool N.leaf, .slice EA N.ents.length ec, .slice KA N.keys.length kc, .slice CA N.kids.length cc] _ _ rfl H.out.box Tryz.underlying32 rfl size_node ?_)))
        refine (nput_ok (ec := ec) (kc := kc) (cc := cc) HN.out.1 HRT.out).mono ?_
        rintro r w6 ⟨gb, rfl, o6, m6, hgb⟩
        have H6 := Lib.hid (H.out.nn m6)
        obtain ⟨hbl, hbz⟩ := bytes_ok HN.out.2.1 HRT.out
        have HO := Lib.hid (And.intro (o6.rd hbl) hbz)
        clear m6 o6 hgb hbl hbz
        go_wp2_with fail
        refine (bequal_any HO.out.1 (HR.out.mod H6.out.m (fun _ _ f => f)) HO.out.2 HAT.out.2.2.1).mono ?_
        rintro r w7 ⟨rfl, rfl⟩
        by_cases hby : N.bytes = l
        · have HY := Lib.hid (HN.out.2.2.2 ⟨HRT.out, hby⟩)
          rw [decide_eq_true hby]
          clear hby
          go_wp2_with (first
            | (with_reducible change wpList _ _ _ (⟨some 124, Op.load _ _, _, _, _, _⟩ :: _) _ _
               go_must (refine wpList_load_var 32 _ rfl rfl p #[.bool N.leaf, .slice EA N.ents.length ec, .slice KA N.keys.length kc, .slice CA N.kids.length cc] _ _ rfl H6.out.box Tryz.underlying32 rfl size_node ?_))
            | (with_reducible change wpList _ _ _ (⟨none, Op.store _ (Operand.tmp 2) _, _, _, _, _⟩ :: _) _ _
               go_must (refine wpList_store_var 32 _ _ rfl rfl w.heap.size #[.bool N.leaf, .slice EA N.ents.length ec, .slice KA N.keys.length kc, .slice CA N.kids.length cc] _ _ rfl rfl H6.out.res size_node rfl (nd4 _ _ _ _ _ _ _ _ _ _) ?_)
               intro wb bb mb zb
               have MB := H6.out.m.new_ mb (Nat.le_refl _)
               have OB : NdH wb w.heap.size N (.slice EA N.ents.length ec) (.slice KA N.keys.length kc) (.slice CA N.kids.length cc) :=
                 ⟨own_base (own_mod H6.out.e mb (fun g g1 e => by have := own_ge H6.out.e g g1; have e : g = w.heap.size := e; have := H6.out.rp; omega)) (fun g g1 => by have := own_ge H6.out.e g g1; have := H6.out.rp; omega),
                  own_base (own_mod H6.out.k mb (fun g g1 e => by have := own_ge H6.out.k g g1; have e : g = w.heap.size := e; have := H6.out.rp; omega)) (fun g g1 => by have := own_ge H6.out.k g g1; have := H6.out.rp; omega),
                  own_base (own_mod H6.out.c mb (fun g g1 e => by have := own_ge H6.out.c g g1; have e : g = w.heap.size := e; have := H6.out.rp; omega)) (fun g g1 => by have := own_ge H6.out.c g g1; have := H6.out.rp; omega)⟩
               have C0 := bb.cell 0; have C1 := bb.cell 1; have C2 := bb.cell 2; have C3 := bb.cell 3
               have OB := Lib.hid OB
               clear bb mb zb))
          refine bodyPost_ret (v := .tuple #[.agg #[.bool N.leaf, .slice EA N.ents.length ec, .slice KA N.keys.length kc, .slice CA N.kids.length cc], .int .i64 0]) (by simp [results, Tryz.results10, go_sem, C0, C1, C2, C3]) rfl (.inl ⟨HY.out, _, _, _, by rw [HNE.out], by rw [HNE.out]; exact OB.out, MB⟩)
        · have HNO := Lib.hid (show ¬ isNd l from fun h => hby (HN.out.2.2.1 h).2)
          rw [decide_eq_false hby]
          clear hby
          go_wp2_with (first
            | (with_reducible change wpList _ _ _ (⟨none, Op.store _ (Operand.tmp 2) _, _, _, _, _⟩ :: _) _ _
               go_must (refine wpList_store_var 32 _ _ rfl rfl w.heap.size #[.bool false, .slice none 0 0, .slice none 0 0, .slice none 0 0] _ _ rfl rfl H6.out.res size_node rfl (nd4 _ _ _ _ _ _ _ _ _ _) ?_)
               intro wb bb mb zb
               have MB := H6.out.m.new_ mb (Nat.le_refl _)
               have C0 := bb.cell 0; have C1 := bb.cell 1; have C2 := bb.cell 2; have C3 := bb.cell 3
               clear bb mb zb))
          refine bodyPost_ret (v := .tuple #[.agg #[.bool false, .slice none 0 0, .slice none 0 0, .slice none 0 0], .int .i64 4]) (by simp [results, Tryz.results10, go_sem, C0, C1, C2, C3]) rfl (.inr ⟨HNO.out, rfl, MB⟩)
end
end Go.Proofs.YtfoldjnmknaklaaGreat

/- node.Get: an inner node's page. Printed by gen/ndget.py. -/
namespace Go.Proofs.YtfoldjnmknaklaaGreat
open Go.RowKit

section
variable {w w' : World} {A : Option Addr} {n c : Nat} {l : List Nat}
set_option maxRecDepth 100000 in
set_option maxHeartbeats 3200000 in
theorem nget_inner (hr : Rd w A n (bv l)) (hn : n = 1024) (hc : n ≤ c) (hz : ∀ z ∈ l, z < 256) (hcnt : cntOk l) (hlf : l.getD 0 0 ≠ 1) : Calls Tryz.prog 10 #[.slice A n c] w (GetP w l) := by
  obtain ⟨g, off, rfl, hcell⟩ := hr.2 (by rw [hn]; omega)
  subst hn
  obtain ⟨b0, hb0⟩ : ∃ b, l.getD 0 0 = b := ⟨_, rfl⟩
  obtain ⟨b1, hb1⟩ : ∃ b, l.getD 1 0 = b := ⟨_, rfl⟩
  have hL : l.length = 1024 := by have := hr.1; rwa [bv_len] at this
  have hg : g < w.heap.size := World.block_lt_of_cell? w _ (hcell 0 _ (List.getElem?_eq_getElem (by rw [bv_len]; omega)))
  have hat : ∀ w', Mod Nn w w' → ∀ i, i < 1024 → w'.cell? ⟨g, off + i, none⟩ = some (.int .u8 ((l.getD i 0 : Nat) : Int)) := fun w' hm i hi => by
    refine (hm.cell (p := ⟨g, off + i, none⟩) hg (fun f => f)).trans (hcell i _ ?_)
    rw [bv_at, List.getD_eq_getElem?_getD, List.getElem?_eq_getElem (by omega)]
    rfl
  have hrow : ∀ w', Mod Nn w w' → ∀ o m, o + m ≤ 1024 → ∀ j v, (bv ((l.drop o).take m))[j]? = some v → w'.cell? ⟨g, off + o + j, none⟩ = some v := fun w' hm o m hom j v hv => by
    refine (hm.cell (p := ⟨g, off + o + j, none⟩) hg (fun f => f)).trans ?_
    rw [Nat.add_assoc]
    refine hcell (o + j) v ?_
    rw [bv_at, List.getElem?_take] at hv
    split at hv
    · rw [List.getElem?_drop] at hv
      rw [bv_at]
      exact hv
    · cases hv
  have h0 := fun w' hm => hat w' hm 0 (by omega)
  have h1 := fun w' hm => hat w' hm 1 (by omega)
  rw [hb0] at h0
  rw [hb1] at h1
  have hb0' : b0 < 256 := hb0 ▸ getD_lt hz 0
  have hb1' : b1 < 256 := hb1 ▸ getD_lt hz 1
  have HX := Lib.hid (And.intro h0 h1)
  have HR := Lib.hid hr
  have HAT := Lib.hid (And.intro hat (And.intro hL (And.intro hz (And.intro hb0 (And.intro hb1 hrow)))))
  clear h0 h1 hat hcell hb0 hb1 hz hr hL hrow
  have HLF := Lib.hid (And.intro (show ((b0 : Int) == 1) = false by have := HAT.out.2.2.2.1; simp; omega) hlf)
  have HW1 := Lib.hid (show IntKind.i64.wrap (b1 : Int) = (b1 : Int) by rw [IntKind.wrap_i64]; omega)
  have hcn : b1 ≤ 20 := HAT.out.2.2.2.2.1 ▸ hcnt.1
  have HCNT := Lib.hid hcnt
  clear hcnt hlf
  go_enter Tryz.func10, Tryz.ntmps10
  go_wp2_with (first
  | (with_reducible change wpList _ _ _ (⟨some 2, Op.alloc _, _, _, _, _⟩ :: _) _ _
     go_must (refine wpList_alloc_var 32 rfl rfl info_node ?_)
     intro wa ba ma za
     have HA := Lib.hid (And.intro ba (And.intro ma za))
     clear ba ma za))
  have hq0 : wa.drew.cell? ⟨g, off + 0, none⟩ = some (.int .u8 (b0 : Int)) ∧ wa.drew.cell? ⟨g, off + 1, none⟩ = some (.int .u8 (b1 : Int)) := ⟨HX.out.1 wa.drew HA.out.2.1.drew, HX.out.2 wa.drew HA.out.2.1.drew⟩
  refine wp_region_planV (fun w' => w'.cell? ⟨g, off + 0, none⟩ = some (.int .u8 (b0 : Int)) ∧ w'.cell? ⟨g, off + 1, none⟩ = some (.int .u8 (b1 : Int))) 13 (.pure 0 (.pure 1 (.read 2 (.pure 3 (.pure 4 (.pure 5 (.pure 6 (.read 7 (.pure 8 (.pure 9 (.pure 10 (.alone 11 (.alone 12 (.alone 13 (.pure 14 .nil))))))))))))))) (by kernel_rfl) (by kernel_rfl) hq0 ?_
  clear hq0
  iterate 2 (refine pv_pure rfl rfl (fun K hK => ?_); go_simp; refine hK _ ?_; clear hK K)
  refine pv_take _ rfl rfl (fun w' hS => exec_load1 (P := Tryz.prog) 5 _ rfl rfl hS.1 Tryz.underlying5 rfl) (fun K hK => ?_); go_simp; refine hK _ ?_; clear hK K
  iterate 1 (refine pv_pure rfl rfl (fun K hK => ?_); go_simp; refine hK _ ?_; clear hK K)
  rw [HLF.out.1]
  iterate 3 (refine pv_pure rfl rfl (fun K hK => ?_); go_simp; refine hK _ ?_; clear hK K)
  refine pv_take _ rfl rfl (fun w' hS => exec_load1 (P := Tryz.prog) 5 _ rfl rfl hS.2 Tryz.underlying5 rfl) (fun K hK => ?_); go_simp; refine hK _ ?_; clear hK K
  iterate 2 (refine pv_pure rfl rfl (fun K hK => ?_); go_simp; refine hK _ ?_; clear hK K)
  refine pv_is (.slice (some ⟨g, off + 4, none⟩) 1020 (c - 4)) rfl rfl (fun w' => by rw [← sub_at g off c 4 (by omega)]; exact exec_sub_l (P := Tryz.prog) 24 _ _ rfl 5 1 Tryz.underlying24 size_u8n (n := 1024) (l := 4) rfl rfl (by omega)) (fun K hK => ?_); go_simp; refine hK _ ?_; clear hK K
  rw [HW1.out]
  have mA : Mod Nn w (wa.drew.alloc (.cells #[.bool false, .slice none 0 0, .slice none 0 0, .slice none 0 0] 32)) := HA.out.2.1.drew.alloc _
  have bA : Blk (wa.drew.alloc (.cells #[.bool false, .slice none 0 0, .slice none 0 0, .slice none 0 0] 32)) wa.heap.size 32 #[.bool false, .slice none 0 0, .slice none 0 0, .slice none 0 0] := Blk.new wa.drew _ _
  have mB := mA.new_ (Mod.rowAt (wa.drew.alloc (.cells #[.bool false, .slice none 0 0, .slice none 0 0, .slice none 0 0] 32)) wa.heap.size #[.bool false, .slice none 0 0, .slice none 0 0, .slice none 0 0]) HA.out.2.1.size
  have h3 : GetN w ((wa.drew.alloc (.cells #[.bool false, .slice none 0 0, .slice none 0 0, .slice none 0 0] 32)).setRow wa.heap.size #[.bool false, .slice none 0 0, .slice none 0 0, .slice none 0 0]) w.heap.size wa.heap.size (.slice none 0 0) (.slice none 0 0) (.slice none 0 0) (ndUp l 0) := by
    rw [ndUp_inner HLF.out.2 0]
    exact ⟨mB, ((HA.out.1.drew.alloc _).farRow (by rw [HA.out.2.2]; omega) _), bA.setRow_ _, own_nil _ _ _ _, own_nil _ _ _ _, own_nil _ _ _ _, Nat.le_refl _, by rw [HA.out.2.2]; omega⟩
  have HH := Lib.hid (And.intro mA (And.intro bA (And.intro mB h3)))
  clear mA bA mB h3
  refine pv_val (w1 := wa.drew.alloc (.cells #[.bool false, .slice none 0 0, .slice none 0 0, .slice none 0 0] 32)) rfl rfl (exec_alloc (P := Tryz.prog) (w := wa.drew) 32 rfl info_node) (fun _ => ⟨HX.out.1 _ HH.out.1, HX.out.2 _ HH.out.1⟩) (fun K hK => ?_); go_simp; refine hK _ ?_; clear hK K
  refine pv_unit (w1 := (wa.drew.alloc (.cells #[.bool false, .slice none 0 0, .slice none 0 0, .slice none 0 0] 32)).setRow wa.heap.size #[.bool false, .slice none 0 0, .slice none 0 0, .slice none 0 0]) rfl rfl (exec_store_row (P := Tryz.prog) 32 _ _ rfl rfl rfl HH.out.2.1 size_node rfl (nd4 _ _ _ _ _ _ _ _ _ _)) (fun _ => ⟨HX.out.1 _ HH.out.2.2.1, HX.out.2 _ HH.out.2.2.1⟩) (fun K hK => ?_); go_simp; refine hK _ ?_; clear hK K
  refine pv_val rfl rfl (exec_assign (P := Tryz.prog) (v := .int .i64 (b1 : Int)) _ rfl rfl) (fun h => by simp at h) (fun K hK => ?_); go_simp; refine hK _ ?_; clear hK K
  iterate 1 (refine pv_pure rfl rfl (fun K hK => ?_); go_simp; refine hK _ ?_; clear hK K)
  refine pv_nil ?_
  have HG := Lib.hid HH.out.2.2.2
  clear HH
  generalize (wa.drew.alloc (.cells #[.bool false, .slice none 0 0, .slice none 0 0, .slice none 0 0] 32)).setRow wa.heap.size #[.bool false, .slice none 0 0, .slice none 0 0, .slice none 0 0] = w3 at *
  generalize wa.heap.size = p at *
  clear HA
  have C0 := HG.out.box.cell 0
  rw [ndUp_inner HLF.out.2 0] at C0
  have d20 : decide ((b1 : Int) > 20) = false := decide_eq_false (by omega)
  have d12 : True := trivial
  go_wp2
  clear C0 d20 d12
  go_loopw [39] (fun i wr => ∃ k : Nat, k ≤ b1 ∧ i = .int .i64 k ∧ ∃ ev kv cv, GetN w wr w.heap.size p ev kv cv (ndUp l k)) (fun i _ => b1 - (intOf i).toNat)
  case atStart => exact ⟨0, by omega, rfl, _, _, _, HG.out⟩
  case round =>
    clear HG
    obtain ⟨k, hk, rfl, ev, kv, cv, hG⟩ := hrel
    have H := Lib.hid hG
    clear hG
    by_cases hlt : k < b1
    · have hlt' : (k : Int) < b1 := by omega
      obtain ⟨q, hq⟩ : ∃ q : Nat, 4 * k = q := ⟨_, rfl⟩
      have e80 : (4 : Int) * (k : Int) = (q : Int) := by omega
      have hq9 : q ≤ 76 := by omega
      have C0 := H.out.box.cell 0
      rw [ndUp_inner HLF.out.2 k] at C0
      have HQ := Lib.hid hq
      clear hq
      go_wp2_with (first
        | (with_reducible change wpList _ _ _ (⟨some 64, Op.slice _ _ _ _ _, _, _, _, _⟩ :: _) _ _
           go_must (refine wpList_sub_l 24 _ _ rfl rfl 5 1 Tryz.underlying24 size_u8n (l := q) rfl rfl (by omega) ?_)
           rw [sub_at g (off + 4) (c - 4) q (by omega)]))
      clear C0
      have hby : ∀ w', Mod Nn w w' → ∀ i, i < 4 → w'.cell? ⟨g, off + 4 + q + i, none⟩ = some (.int .u8 ((l.getD (4 + 4 * k + i) 0 : Nat) : Int)) := fun w' hm i hi => by
        rw [Nat.add_assoc off 4 q, Nat.add_assoc off (4 + q) i, ← HQ.out]
        exact HAT.out.1 w' hm (4 + 4 * k + i) (by omega)
      have hval : kidAt l k = ((l.getD (4 + 4 * k + 0) 0 * 16777216 + l.getD (4 + 4 * k + 1) 0 * 65536 + l.getD (4 + 4 * k + 2) 0 * 256 + l.getD (4 + 4 * k + 3) 0 : Nat) : Int) := rfl
      have z0 := getD_lt HAT.out.2.2.1 (4 + 4 * k + 0)
      have z1 := getD_lt HAT.out.2.2.1 (4 + 4 * k + 1)
      have z2 := getD_lt HAT.out.2.2.1 (4 + 4 * k + 2)
      have z3 := getD_lt HAT.out.2.2.1 (4 + 4 * k + 3)
      have HBY := Lib.hid (show (∀ w', Mod Nn w w' → w'.cell? ⟨g, off + 4 + q + 0, none⟩ = some (.int .u8 ((l.getD (4 + 4 * k + 0) 0 : Nat) : Int)) ∧ w'.cell? ⟨g, off + 4 + q + 1, none⟩ = some (.int .u8 ((l.getD (4 + 4 * k + 1) 0 : Nat) : Int)) ∧ w'.cell? ⟨g, off + 4 + q + 2, none⟩ = some (.int .u8 ((l.getD (4 + 4 * k + 2) 0 : Nat) : Int)) ∧ w'.cell? ⟨g, off + 4 + q + 3, none⟩ = some (.int .u8 ((l.getD (4 + 4 * k + 3) 0 : Nat) : Int))) from fun w' hm => ⟨hby w' hm 0 (by omega), hby w' hm 1 (by omega), hby w' hm 2 (by omega), hby w' hm 3 (by omega)⟩)
      generalize l.getD (4 + 4 * k + 0) 0 = a0 at *
      generalize l.getD (4 + 4 * k + 1) 0 = a1 at *
      generalize l.getD (4 + 4 * k + 2) 0 = a2 at *
      generalize l.getD (4 + 4 * k + 3) 0 = a3 at *
      have HV := Lib.hid hval
      clear hval hby
      have HB := Lib.hid (And.intro H.out.drew (H.out.drew.box.cell 3))
      have hq1 : wr.drew.cell? ⟨p, 3, none⟩ = some cv ∧ Mod Nn w wr.drew := ⟨HB.out.2, HB.out.1.m⟩
      refine wp_region_planV (fun w' => w'.cell? ⟨p, 3, none⟩ = some cv ∧ Mod Nn w w') 25 (.pure 0 (.read 1 (.pure 2 (.pure 3 (.read 4 (.pure 5 (.pure 6 (.pure 7 (.pure 8 (.read 9 (.pure 10 (.pure 11 (.pure 12 (.pure 13 (.pure 14 (.read 15 (.pure 16 (.pure 17 (.pure 18 (.pure 19 (.pure 20 (.read 21 (.pure 22 (.pure 23 (.alone 24 (.alone 25 (.pure 26 (.alone 27 .nil)))))))))))))))))))))))))))) (by kernel_rfl) (by kernel_rfl) hq1 ?_
      clear hq1
      have n0 : 0 < 1020 - q := by omega
      have n1 : (1 : Int) < ((1020 - q : Nat) : Int) := by omega
      have n2 : (2 : Int) < ((1020 - q : Nat) : Int) := by omega
      have n3 : (3 : Int) < ((1020 - q : Nat) : Int) := by omega
      iterate 1 (refine pv_pure rfl rfl (fun K hK => ?_); go_simp; refine hK _ ?_; clear hK K)
      refine pv_take _ rfl rfl (fun w' hS => exec_load1 (P := Tryz.prog) 30 _ rfl rfl hS.1 Tryz.underlying30 rfl) (fun K hK => ?_); go_simp; refine hK _ ?_; clear hK K
      iterate 2 (refine pv_pure rfl rfl (fun K hK => ?_); go_simp; refine hK _ ?_; clear hK K)
      refine pv_take _ rfl rfl (fun w' hS => exec_load1 (P := Tryz.prog) 5 _ rfl rfl (HBY.out w' hS.2).1 Tryz.underlying5 rfl) (fun K hK => ?_); go_simp; refine hK _ ?_; clear hK K
      iterate 4 (refine pv_pure rfl rfl (fun K hK => ?_); go_simp; refine hK _ ?_; clear hK K)
      refine pv_take _ rfl rfl (fun w' hS => exec_load1 (P := Tryz.prog) 5 _ rfl rfl (HBY.out w' hS.2).2.1 Tryz.underlying5 rfl) (fun K hK => ?_); go_simp; refine hK _ ?_; clear hK K
      iterate 5 (refine pv_pure rfl rfl (fun K hK => ?_); go_simp; refine hK _ ?_; clear hK K)
      refine pv_take _ rfl rfl (fun w' hS => exec_load1 (P := Tryz.prog) 5 _ rfl rfl (HBY.out w' hS.2).2.2.1 Tryz.underlying5 rfl) (fun K hK => ?_); go_simp; refine hK _ ?_; clear hK K
      iterate 5 (refine pv_pure rfl rfl (fun K hK => ?_); go_simp; refine hK _ ?_; clear hK K)
      refine pv_take _ rfl rfl (fun w' hS => exec_load1 (P := Tryz.prog) 5 _ rfl rfl (HBY.out w' hS.2).2.2.2 Tryz.underlying5 rfl) (fun K hK => ?_); go_simp; refine hK _ ?_; clear hK K
      iterate 2 (refine pv_pure rfl rfl (fun K hK => ?_); go_simp; refine hK _ ?_; clear hK K)
      rw [or4 a0 a1 a2 a3 z0 z1 z2 z3, ← HV.out]
      clear n0 n1 n2 n3 z0 z1 z2 z3
      have hup : ndUp l (k + 1) = ⟨(ndUp l k).leaf, (ndUp l k).ents, (ndUp l (k + 1)).keys, (ndUp l k).kids ++ [kidAt l k]⟩ := by
        rw [ndUp_inner HLF.out.2, ndUp_inner HLF.out.2, List.range_succ (n := k)]
        simp
      have hcnt : (ndUp l k).kids.length = k := by rw [ndUp_inner HLF.out.2]; simp
      have hcnk : (ndUp l k).keys.length = k - 1 := by rw [ndUp_inner HLF.out.2]; simp
      have hk1 : (ndUp l 1).keys = [] := by rw [ndUp_inner HLF.out.2]; rfl
      have hkz : (ndUp l 0).keys = [] := by rw [ndUp_inner HLF.out.2]; rfl
      have hks : 0 < k → (ndUp l (k + 1)).keys = (ndUp l k).keys ++ [keyAt l b1 (k - 1)] := fun h => by
        rw [ndUp_inner HLF.out.2, ndUp_inner HLF.out.2, HAT.out.2.2.2.2.1]
        obtain ⟨m, rfl⟩ : ∃ m, k = m + 1 := ⟨k - 1, by omega⟩
        show (List.range (m + 1)).map _ = (List.range m).map _ ++ _
        rw [List.range_succ, List.map_append]
        rfl
      have HC := Lib.hid (And.intro hup (And.intro hcnt (And.intro hcnk (And.intro hk1 (And.intro hkz hks)))))
      clear hup hcnt hcnk hk1 hkz hks
      refine pv_bslice1 30 3 _ rfl rfl rfl Tryz.underlying30 info_int2 (by omega) (by omega) rfl (xs := [.int .i64 (kidAt l k)]) rfl rfl ?_
      intro w5 r5 m5 z5
      have g5 := HB.out.1.nn m5
      have H5 := Lib.hid (And.intro r5 (And.intro g5 m5))
      refine ⟨fun _ => ⟨H5.out.2.1.box.cell 3, H5.out.2.1.m⟩, ?_⟩
      clear r5 m5 z5 g5
      intro K hK; go_simp; refine hK _ ?_; clear hK K
      refine pv_append 30 _ _ rfl rfl rfl (p + 1) 3 (.int .i64 0) 1 8 Tryz.underlying30 info_int3 rfl (by omega) cv (ndUp l k).kids.length ((ndUp l k).kids.map (Value.int .i64)) rfl H5.out.2.1.c _ 1 1 [.int .i64 (kidAt l k)] rfl H5.out.1 (by intro u hu; rw [List.mem_singleton] at hu; subst hu; rfl) (by rw [HC.out.2.1]; omega) (by rw [HC.out.2.1]; omega) H5.out.2.1.box.lt ?_
      intro v6 w6 o6 g6 q6
      have m6 : Mod (fun g => cv.ownBlock = some g) w5 w6 := (Mod.refl _ w5).grown g6 (fun g e => .inr e)
      have b6 : Blk w6 p 32 #[.bool (ndUp l k).leaf, ev, kv, cv] := H5.out.2.1.box.mod m6 (fun e => by have := own_ge H5.out.2.1.c p e; omega)
      have G6 := H5.out.2.1.addC m6 o6
      have H6 := Lib.hid (And.intro b6 (And.intro G6 (own1s o6)))
      refine ⟨fun h => by simp at h, ?_⟩
      clear o6 g6 q6 m6 b6 G6
      intro K hK; go_simp; refine hK _ ?_; clear hK K
      iterate 1 (refine pv_pure rfl rfl (fun K hK => ?_); go_simp; refine hK _ ?_; clear hK K)
      refine pv_unit (w1 := w6.setCell ⟨p, 3, none⟩ v6) rfl rfl (exec_store1 (P := Tryz.prog) 30 _ _ rfl rfl rfl (H6.out.1.cell 3) (H6.out.1.frozen 3) rfl H6.out.2.2.1 H6.out.2.2.2 size_si) (fun h => by simp at h) (fun K hK => ?_); go_simp; refine hK _ ?_; clear hK K
      refine pv_nil ?_
      have H9 := Lib.hid H6.out.2.1
      clear H6 H5 HB
      generalize w6.setCell ⟨p, 3, none⟩ v6 = w9 at *
      rcases Nat.eq_zero_or_pos k with hk0 | hk0
      · subst hk0
        have G9 : GetN w w9 w.heap.size p ev kv v6 (ndUp l 1) := by
          have h := H9.out
          rw [HC.out.2.2.2.2.1] at h
          rw [HC.out.1, HC.out.2.2.2.1]
          exact h
        have H9 := Lib.hid G9
        clear G9
        go_wp2
        go_roundw
        case rel => exact ⟨1, by omega, by go_num, _, _, _, H9.out⟩
        case measure => simp [intOf]; omega
      · have hk0' : (k : Int) > 0 := by omega
        obtain ⟨m, hm⟩ : ∃ m, m + 1 = k := ⟨k - 1, by omega⟩
        obtain ⟨s, hs⟩ : ∃ s, 4 * b1 + 40 * m = s := ⟨_, rfl⟩
        obtain ⟨t4, ht4⟩ : ∃ t4 : Nat, 4 * b1 = t4 := ⟨_, rfl⟩
        obtain ⟨t5, ht5⟩ : ∃ t5 : Nat, 40 * m = t5 := ⟨_, rfl⟩
        have hs9 : s + 40 ≤ 1020 := by omega
        have f1 : IntKind.i64.wrap ((4 : Int) * (b1 : Int)) = (t4 : Int) := by rw [IntKind.wrap_i64]; omega
        have f2 : IntKind.i64.wrap ((k : Int) - 1) = (m : Int) := by rw [IntKind.wrap_i64]; omega
        have f3 : IntKind.i64.wrap ((40 : Int) * (m : Int)) = (t5 : Int) := by rw [IntKind.wrap_i64]; omega
        have f4 : IntKind.i64.wrap ((t4 : Int) + (t5 : Int)) = (s : Int) := by rw [IntKind.wrap_i64]; omega
        have hcut : keyAt l b1 (k - 1) = (l.drop (4 + s)).take 40 := by unfold keyAt; rw [← hs, show k - 1 = m by omega, Nat.add_assoc]
        have hx1 : ∀ w', Mod Nn w w' → ∀ j v, (bv (keyAt l b1 (k - 1)))[j]? = some v → w'.cell? ⟨g, off + 4 + s + j, none⟩ = some v := fun w' hm j v hv => by
          rw [Nat.add_assoc off 4 s]
          refine HAT.out.2.2.2.2.2 w' hm (4 + s) 40 (by omega) j v ?_
          rw [hcut] at hv
          exact hv
        have hl40 : (keyAt l b1 (k - 1)).length = 40 := by rw [hcut, List.length_take, List.length_drop, HAT.out.2.1]; omega
        have hst : s < c - 4 := by omega
        have HF := Lib.hid (And.intro f1 (And.intro f2 (And.intro f3 f4)))
        have HX1 := Lib.hid (And.intro hx1 (And.intro hl40 (HC.out.2.2.2.2.2 hk0)))
        clear f1 f2 f3 f4 hcut hx1 hl40 hm hs ht4 ht5
        go_wp2_with fail
        have HB := Lib.hid (And.intro H9.out.drew (H9.out.drew.box.cell 2))
        have hq1 : w9.drew.cell? ⟨p, 2, none⟩ = some kv ∧ Mod Nn w w9.drew := ⟨HB.out.2, HB.out.1.m⟩
        refine wp_region_planV (fun w' => w'.cell? ⟨p, 2, none⟩ = some kv ∧ Mod Nn w w') 13 (.pure 0 (.read 1 (.pure 2 (.pure 3 (.pure 4 (.pure 5 (.pure 6 (.pure 7 (.pure 8 (.pure 9 (.pure 10 (.read 11 (.alone 12 (.alone 13 (.pure 14 (.alone 15 .nil)))))))))))))))) (by kernel_rfl) (by kernel_rfl) hq1 ?_
        clear hq1
        iterate 1 (refine pv_pure rfl rfl (fun K hK => ?_); go_simp; refine hK _ ?_; clear hK K)
        refine pv_take _ rfl rfl (fun w' hS => exec_load1 (P := Tryz.prog) 29 _ rfl rfl hS.1 Tryz.underlying29 rfl) (fun K hK => ?_); go_simp; refine hK _ ?_; clear hK K
        iterate 3 (refine pv_pure rfl rfl (fun K hK => ?_); go_simp; refine hK _ ?_; clear hK K)
        rw [HF.out.1]
        iterate 2 (refine pv_pure rfl rfl (fun K hK => ?_); go_simp; refine hK _ ?_; clear hK K)
        rw [HF.out.2.1]
        iterate 1 (refine pv_pure rfl rfl (fun K hK => ?_); go_simp; refine hK _ ?_; clear hK K)
        rw [HF.out.2.2.1]
        iterate 1 (refine pv_pure rfl rfl (fun K hK => ?_); go_simp; refine hK _ ?_; clear hK K)
        rw [HF.out.2.2.2]
        refine pv_is (.slice (some ⟨g, off + 4 + s, none⟩) (1020 - s) (c - 4 - s)) rfl rfl (fun w' => by rw [← sub_at g (off + 4) (c - 4) s (by omega)]; exact exec_sub_l (P := Tryz.prog) 24 _ _ rfl 5 1 Tryz.underlying24 size_u8n (n := 1020) (l := s) rfl rfl (by omega)) (fun K hK => ?_); go_simp; refine hK _ ?_; clear hK K
        refine pv_is _ rfl rfl (fun w' => exec_arrayAt (P := Tryz.prog) 40 _ rfl rfl Tryz.underlying40 (by omega)) (fun K hK => ?_); go_simp; refine hK _ ?_; clear hK K
        refine pv_take _ rfl rfl (fun w' hS => exec_load_cells (P := Tryz.prog) 40 _ rfl (cs := bv (keyAt l b1 (k - 1))) rfl (HX1.out.1 w' hS.2) Tryz.underlying40 rfl (by rw [size_tk, bv_len, HX1.out.2.1])) (fun K hK => ?_); go_simp; refine hK _ ?_; clear hK K
        refine pv_bslice1 29 40 _ rfl rfl rfl Tryz.underlying29 info_tk (by omega) (by omega) rfl (xs := bv (keyAt l b1 (k - 1))) rfl (by rw [bv_len, HX1.out.2.1]) ?_
        intro x5 r5 m5 z5
        have g5 := HB.out.1.nn m5
        have H5 := Lib.hid (And.intro r5 (And.intro g5 m5))
        refine ⟨fun _ => ⟨H5.out.2.1.box.cell 2, H5.out.2.1.m⟩, ?_⟩
        clear r5 m5 z5 g5
        intro K hK; go_simp; refine hK _ ?_; clear hK K
        refine pv_append 29 _ _ rfl rfl rfl (p + 1) 40 (.agg (bv (List.replicate 40 0)).toArray) 40 40 Tryz.underlying29 info_tk3 rfl (by omega) kv (ndUp l k).keys.length (bv (ndUp l k).keys.flatten) rfl H5.out.2.1.k _ 1 1 (bv (keyAt l b1 (k - 1))) rfl H5.out.1 (bv_one' _) (by rw [HC.out.2.2.1]; omega) (by rw [HC.out.2.2.1]; omega) H5.out.2.1.box.lt ?_
        intro v7 x6 o6 g6 q6
        have m6 : Mod (fun g => kv.ownBlock = some g) x5 x6 := (Mod.refl _ x5).grown g6 (fun g e => .inr e)
        have b6 : Blk x6 p 32 #[.bool (ndUp l k).leaf, ev, kv, v6] := H5.out.2.1.box.mod m6 (fun e => by have := own_ge H5.out.2.1.k p e; omega)
        have G6 := H5.out.2.1.addK m6 o6
        have G7 : GetN w (x6.setCell ⟨p, 2, none⟩ v7) w.heap.size p ev v7 v6 (ndUp l (k + 1)) := by
          rw [HC.out.1, HX1.out.2.2]
          exact G6
        have H6 := Lib.hid (And.intro b6 (And.intro G7 (own1s o6)))
        refine ⟨fun h => by simp at h, ?_⟩
        clear o6 g6 q6 m6 b6 G6 G7
        intro K hK; go_simp; refine hK _ ?_; clear hK K
        iterate 1 (refine pv_pure rfl rfl (fun K hK => ?_); go_simp; refine hK _ ?_; clear hK K)
        refine pv_unit (w1 := x6.setCell ⟨p, 2, none⟩ v7) rfl rfl (exec_store1 (P := Tryz.prog) 29 _ _ rfl rfl rfl (H6.out.1.cell 2) (H6.out.1.frozen 2) rfl H6.out.2.2.1 H6.out.2.2.2 size_sk) (fun h => by simp at h) (fun K hK => ?_); go_simp; refine hK _ ?_; clear hK K
        refine pv_nil ?_
        have H9 := Lib.hid H6.out.2.1
        clear H6 H5 HB
        generalize x6.setCell ⟨p, 2, none⟩ v7 = x9 at *
        go_wp2
        go_roundw
        case rel => exact ⟨k + 1, by omega, by go_num, _, _, _, H9.out⟩
        case measure => simp [intOf]; omega
    · obtain rfl : k = b1 := by omega
      have hlt' : ¬ (k : Int) < (k : Int) := by omega
      obtain ⟨EA, ec, rfl, hec, hE⟩ := own_form H.out.e
      obtain ⟨KA, kc, rfl, hkc, hKb⟩ := own_form H.out.k
      obtain ⟨CA, cc, rfl, hcc, hCb⟩ := own_form H.out.c
      have hof : ndUp l k = ndOf l := by unfold ndOf; rw [HAT.out.2.2.2.2.1]
      rw [hof] at H
      have hNok : (ndOf l).ok := by unfold ndOf; exact ndUp_ok HAT.out.2.1 HAT.out.2.2.1 HCNT.out (Nat.le_refl _)
      have hNl := ndUp_len l k
      rw [hof] at hNl
      have hnd : isNd l ↔ (ndOf l).right = true ∧ (ndOf l).bytes = l := ⟨fun h => h.2.2, fun h => ⟨HAT.out.2.1, HCNT.out, h.1, h.2⟩⟩
      obtain ⟨N, hN⟩ : ∃ N, ndOf l = N := ⟨_, rfl⟩
      rw [hN] at H hNok hNl hnd
      have HNE := Lib.hid hN
      have hR : NdR wr N EA N.ents.length KA N.keys.length CA N.kids.length := ⟨own_rdC H.out.e, own_rdC H.out.k, Rd.of_own H.out.c, rfl, rfl, rfl, hNok, by omega, by omega, by omega⟩
      have HN := Lib.hid (And.intro hR (And.intro hNok hnd))
      clear hN hR hNok hnd hof hNl hE hKb hCb hec hkc hcc
      cases hrt : N.right with
      | false =>
        have HNO := Lib.hid (show ¬ isNd l from fun h => by have := (HN.out.2.2.1 h).1; rw [hrt] at this; cases this)
        have HRT := Lib.hid hrt
        clear hrt
        go_wp2_with (first
          | (with_reducible change wpList _ _ _ (⟨some 111, Op.load _ _, _, _, _, _⟩ :: _) _ _
             go_must (refine wpList_load_var 32 _ rfl rfl p #[.bool N.leaf, .slice EA N.ents.length ec, .slice KA N.keys.length kc, .slice CA N.kids.length cc] _ _ rfl H.out.box Tryz.underlying32 rfl size_node ?_)))
        refine (nput_bad (ec := ec) (kc := kc) (cc := cc) HN.out.1 HRT.out).mono ?_
        rintro r w6 ⟨rfl, m6⟩
        have H6 := Lib.hid (H.out.nn m6)
        clear m6
        go_wp2_with (first
          | (with_reducible change wpList _ _ _ (⟨none, Op.store _ (Operand.tmp 2) _, _, _, _, _⟩ :: _) _ _
             go_must (refine wpList_store_var 32 _ _ rfl rfl w.heap.size #[.bool false, .slice none 0 0, .slice none 0 0, .slice none 0 0] _ _ rfl rfl H6.out.res size_node rfl (nd4 _ _ _ _ _ _ _ _ _ _) ?_)
             intro wb bb mb zb
             have MB := H6.out.m.new_ mb (Nat.le_refl _)
             have C0 := bb.cell 0; have C1 := bb.cell 1; have C2 := bb.cell 2; have C3 := bb.cell 3
             clear bb mb zb))
        refine bodyPost_ret (v := .tuple #[.agg #[.bool false, .slice none 0 0, .slice none 0 0, .slice none 0 0], .int .i64 4]) (by simp [results, Tryz.results10, go_sem, C0, C1, C2, C3]) rfl (.inr ⟨HNO.out, rfl, MB⟩)
      | true =>
        have HRT := Lib.hid hrt
        clear hrt
        go_wp2_with (first
          | (with_reducible change wpList _ _ _ (⟨some 111, Op.load _ _, _, _, _, _⟩ :: _) _ _
             go_must (refine wpList_load_var 32 _ rfl rfl p #[.bool N.leaf, .slice EA N.ents.length ec, .slice KA N.keys.length kc, .slice CA N.kids.length cc] _ _ rfl H.out.box Tryz.underlying32 rfl size_node ?_)))
        refine (nput_ok (ec := ec) (kc := kc) (cc := cc) HN.out.1 HRT.out).mono ?_
        rintro r w6 ⟨gb, rfl, o6, m6, hgb⟩
        have H6 := Lib.hid (H.out.nn m6)
        obtain ⟨hbl, hbz⟩ := bytes_ok HN.out.2.1 HRT.out
        have HO := Lib.hid (And.intro (o6.rd hbl) hbz)
        clear m6 o6 hgb hbl hbz
        go_wp2_with fail
        refine (bequal_any HO.out.1 (HR.out.mod H6.out.m (fun _ _ f => f)) HO.out.2 HAT.out.2.2.1).mono ?_
        rintro r w7 ⟨rfl, rfl⟩
        by_cases hby : N.bytes = l
        · have HY := Lib.hid (HN.out.2.2.2 ⟨HRT.out, hby⟩)
          rw [decide_eq_true hby]
          clear hby
          go_wp2_with (first
            | (with_reducible change wpList _ _ _ (⟨some 124, Op.load _ _, _, _, _, _⟩ :: _) _ _
               go_must (refine wpList_load_var 32 _ rfl rfl p #[.bool N.leaf, .slice EA N.ents.length ec, .slice KA N.keys.length kc, .slice CA N.kids.length cc] _ _ rfl H6.out.box Tryz.underlying32 rfl size_node ?_))
            | (with_reducible change wpList _ _ _ (⟨none, Op.store _ (Operand.tmp 2) _, _, _, _, _⟩ :: _) _ _
               go_must (refine wpList_store_var 32 _ _ rfl rfl w.heap.size #[.bool N.leaf, .slice EA N.ents.length ec, .slice KA N.keys.length kc, .slice CA N.kids.length cc] _ _ rfl rfl H6.out.res size_node rfl (nd4 _ _ _ _ _ _ _ _ _ _) ?_)
               intro wb bb mb zb
               have MB := H6.out.m.new_ mb (Nat.le_refl _)
               have OB : NdH wb w.heap.size N (.slice EA N.ents.length ec) (.slice KA N.keys.length kc) (.slice CA N.kids.length cc) :=
                 ⟨own_base (own_mod H6.out.e mb (fun g g1 e => by have := own_ge H6.out.e g g1; have e : g = w.heap.size := e; have := H6.out.rp; omega)) (fun g g1 => by have := own_ge H6.out.e g g1; have := H6.out.rp; omega),
                  own_base (own_mod H6.out.k mb (fun g g1 e => by have := own_ge H6.out.k g g1; have e : g = w.heap.size := e; have := H6.out.rp; omega)) (fun g g1 => by have := own_ge H6.out.k g g1; have := H6.out.rp; omega),
                  own_base (own_mod H6.out.c mb (fun g g1 e => by have := own_ge H6.out.c g g1; have e : g = w.heap.size := e; have := H6.out.rp; omega)) (fun g g1 => by have := own_ge H6.out.c g g1; have := H6.out.rp; omega)⟩
               have C0 := bb.cell 0; have C1 := bb.cell 1; have C2 := bb.cell 2; have C3 := bb.cell 3
               have OB := Lib.hid OB
               clear bb mb zb))
          refine bodyPost_ret (v := .tuple #[.agg #[.bool N.leaf, .slice EA N.ents.length ec, .slice KA N.keys.length kc, .slice CA N.kids.length cc], .int .i64 0]) (by simp [results, Tryz.results10, go_sem, C0, C1, C2, C3]) rfl (.inl ⟨HY.out, _, _, _, by rw [HNE.out], by rw [HNE.out]; exact OB.out, MB⟩)
        · have HNO := Lib.hid (show ¬ isNd l from fun h => hby (HN.out.2.2.1 h).2)
          rw [decide_eq_false hby]
          clear hby
          go_wp2_with (first
            | (with_reducible change wpList _ _ _ (⟨none, Op.store _ (Operand.tmp 2) _, _, _, _, _⟩ :: _) _ _
               go_must (refine wpList_store_var 32 _ _ rfl rfl w.heap.size #[.bool false, .slice none 0 0, .slice none 0 0, .slice none 0 0] _ _ rfl rfl H6.out.res size_node rfl (nd4 _ _ _ _ _ _ _ _ _ _) ?_)
               intro wb bb mb zb
               have MB := H6.out.m.new_ mb (Nat.le_refl _)
               have C0 := bb.cell 0; have C1 := bb.cell 1; have C2 := bb.cell 2; have C3 := bb.cell 3
               clear bb mb zb))
          refine bodyPost_ret (v := .tuple #[.agg #[.bool false, .slice none 0 0, .slice none 0 0, .slice none 0 0], .int .i64 4]) (by simp [results, Tryz.results10, go_sem, C0, C1, C2, C3]) rfl (.inr ⟨HNO.out, rfl, MB⟩)
end
end Go.Proofs.YtfoldjnmknaklaaGreat

/- node.Get of any bytes. -/
namespace Go.Proofs.YtfoldjnmknaklaaGreat
open Go.RowKit

theorem nget_any {w : World} {A : Option Addr} {n c : Nat} {l : List Nat} (hr : Rd w A n (bv l)) (hc : n ≤ c) (hz : ∀ z ∈ l, z < 256) : Calls Tryz.prog 10 #[.slice A n c] w (GetP w l) := by
  by_cases hn : n = 1024
  · by_cases hcnt : cntOk l
    · by_cases hlf : l.getD 0 0 = 1
      · exact nget_leaf hr hn hc hz hcnt hlf
      · exact nget_inner hr hn hc hz hcnt hlf
    · by_cases h20 : 20 < l.getD 1 0
      · by_cases hlf : l.getD 0 0 = 1
        · exact nget_c1 hr hn hc hz hcnt hlf h20
        · exact nget_c3 hr hn hc hz hcnt hlf h20
      · have h : l.getD 0 0 = 1 ∧ 12 < l.getD 1 0 := by
          refine Classical.byContradiction fun h => hcnt ⟨by omega, fun h1 => ?_⟩
          exact Nat.le_of_not_lt fun h2 => h ⟨h1, h2⟩
        exact nget_c2 hr hn hc hz hcnt h.1 ⟨h.2, by omega⟩
  · exact nget_len hr hn
end Go.Proofs.YtfoldjnmknaklaaGreat
