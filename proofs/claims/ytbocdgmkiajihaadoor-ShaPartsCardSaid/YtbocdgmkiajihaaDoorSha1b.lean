/- The document's tables (peatbankref01.rounds, begin). -/
import Derived.Test.YtbocdgmkiajihaaDoorSha1
import Derived.Test.YtbocdgmkiajihaaDoorKit12
namespace Go.Proofs.YtbocdgmkiajihaaDoor
open Go.RowKit

def wvs (l : List W32) : Array Value := (l.map wv).toArray
theorem wvs_size (l : List W32) : (wvs l).size = l.length := by simp [wvs]
theorem wvs_at (l : List W32) (i : Nat) : (wvs l)[i]? = (l[i]?).map wv := by simp [wvs]
theorem wvs_set (l : List W32) (i : Nat) (x : W32) : (wvs l).setIfInBounds i (wv x) = wvs (l.set i x) := by
  unfold wvs; rw [List.map_set, List.setIfInBounds_toArray]
theorem wvs_one (l : List W32) : (wvs l).all (·.oneCell') = true := by
  rw [Array.all_eq_true]
  intro i hi
  have h := wvs_at l i
  rw [Array.getElem?_eq_getElem hi] at h
  obtain ⟨x, _, hx⟩ := Option.map_eq_some_iff.1 h.symm
  rw [← hx]; rfl
theorem zero64 : (Tryd.prog.info? 64).map (fun i => (i.zero, i.size)) = some (some (.agg (wvs (List.replicate 64 0#32))), 64) := by kernel_rfl
theorem zero8 : (Tryd.prog.info? 58).map (fun i => (i.zero, i.size)) = some (some (.agg (wvs (List.replicate 8 0#32))), 8) := by kernel_rfl
theorem size64 : (Tryd.prog.info? 64).map (·.size) = some 64 := by kernel_rfl
theorem size8 : (Tryd.prog.info? 58).map (·.size) = some 8 := by kernel_rfl
theorem size_u32 : (Tryd.prog.info? 38).map (·.size) = some 1 := by kernel_rfl
set_option maxRecDepth 100000 in
set_option maxHeartbeats 1600000 in
theorem rrounds_any (w : World) : Calls Tryd.prog 27 #[] w fun e w' => e = .returned (.agg (wvs kK)) ∧ Mod Nn w w' := by
  go_enter Tryd.func27, Tryd.ntmps27
  go_wp2_with (first
    | (with_reducible change wpList _ _ _ (⟨some 0, Op.alloc _, _, _, _, _⟩ :: _) _ _
       go_must (refine wpList_alloc_var 64 rfl rfl zero64 ?_)
       intro w1 b1 m1 z1)
    | (with_reducible change wpList _ _ _ (⟨none, Op.store _ _ _, _, _, _, _⟩ :: _) _ _
       go_must (refine wpList_store_var 64 _ _ rfl rfl _ (wvs kK) _ _ rfl rfl b1 (by rw [size64]; rfl) (by show (wvs _).size = _; rw [wvs_size, wvs_size]; rfl) (wvs_one _) ?_)
       intro w2 b2 m2 z2))
  exact bodyPost_ret (results_cell_row (P := Tryd.prog) rfl _ w2 _ _ _ (0, 0) _ rfl b2 Tryd.underlying64 rfl (by rw [size64]; rfl)) rfl ⟨rfl, m1.new_ m2 (Nat.le_refl _)⟩
set_option maxRecDepth 100000 in
set_option maxHeartbeats 1600000 in
theorem rbegin_any (w : World) : Calls Tryd.prog 20 #[] w fun e w' => e = .returned (.agg (wvs iV.l)) ∧ Mod Nn w w' := by
  go_enter Tryd.func20, Tryd.ntmps20
  go_wp2_with (first
    | (with_reducible change wpList _ _ _ (⟨some 0, Op.alloc _, _, _, _, _⟩ :: _) _ _
       go_must (refine wpList_alloc_var 58 rfl rfl zero8 ?_)
       intro w1 b1 m1 z1)
    | (with_reducible change wpList _ _ _ (⟨none, Op.store _ _ _, _, _, _, _⟩ :: _) _ _
       go_must (refine wpList_store_var 58 _ _ rfl rfl _ (wvs iV.l) _ _ rfl rfl b1 (by rw [size8]; rfl) (by show (wvs _).size = _; rw [wvs_size, wvs_size]; rfl) (wvs_one _) ?_)
       intro w2 b2 m2 z2))
  exact bodyPost_ret (results_cell_row (P := Tryd.prog) rfl _ w2 _ _ _ (0, 0) _ rfl b2 Tryd.underlying58 rfl (by rw [size8]; rfl)) rfl ⟨rfl, m1.new_ m2 (Nat.le_refl _)⟩
end Go.Proofs.YtbocdgmkiajihaaDoor
