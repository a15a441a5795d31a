/- Own lemmas of several kinds, put together: RwSE, RwSK. -/
import Derived.Test.YtfoldjnmknaklaaGreatNdA
import Derived.Test.YtfoldjnmknaklaaGreatKitF
/- peatbankkit over rows of api.Entry: SameEntries, CopyEntries (printed by wip/gen/kitrows.py). -/
namespace Go.Proofs.YtfoldjnmknaklaaGreat
open Go.RowKit

theorem flds_ent_ : ∃ f g, Tryz.prog.underlying 43 = some (.struct #[f, g]) ∧ f.name ≠ "_" ∧ g.name ≠ "_" ∧ f.offset = 0 ∧ g.offset = 40 ∧ f.type = 40 ∧ g.type = 41 := ⟨_, _, Tryz.underlying43, by decide, by decide, rfl, rfl, rfl, rfl⟩
theorem eqE_ {w : World} {l : List Nat} (hl : l.length = 80) (hz : ∀ z ∈ l, z < 256) : (Op.equalIn 10000 43 (.agg (bv l).toArray) (.agg (bv l).toArray)).run Tryz.prog w = .ok true w := by
  obtain ⟨f, g, hu, h1, h2, h3, h4, h5, h6⟩ := flds_ent_
  have := equal_pair (P := Tryz.prog) (w := w) 9997 43 f g 5 40 hu Tryz.stoodInHeld43 h1 h2 h3 h4 (by rw [h5]; exact Tryz.underlying40) (by rw [h6]; exact Tryz.underlying41) (fun w => by rw [h5]; kernel_rfl) (fun w => by rw [h6]; kernel_rfl) Tryz.underlying5 (fun w => by kernel_rfl) hl hl hz hz
  rwa [decide_eq_true rfl] at this
theorem infoE_ : (Tryz.prog.info? 43).map (fun i => (i.zero, i.size, i.bytes)) = some (some (.agg (bv (List.replicate 80 0)).toArray), 80, 80) := by kernel_rfl
theorem bvone_ (l : List Nat) : ∀ u ∈ bv l, u.oneCell' = true := bv_one l
set_option maxRecDepth 100000 in
set_option maxHeartbeats 3200000 in
theorem sameE_yes_ {w : World} {A B : Option Addr} {n ca cb : Nat} {L : List (List Nat)} (ha : RdC w A n 80 (bv L.flatten)) (hb : RdC w B n 80 (bv L.flatten)) (hr : Rows 80 L) (hL : L.length = n) (hn : n ≤ 1000000000) :
    Calls Tryz.prog 44 #[.slice A n ca, .slice B n cb] w fun e w' => e = .returned (.bool true) ∧ Mod Nn w w' := by
  have h0 : ((n : Int) != n) = false := by simp
  have HR := Lib.hid (And.intro ha (And.intro hb (And.intro hr hL)))
  clear ha hb hr hL
  go_enter Tryz.func44, Tryz.ntmps44
  go_wp2
  go_loopw [5] (fun i wr => ∃ k : Nat, k ≤ n ∧ i = .int .i64 k ∧ Mod Nn w wr) (fun i _ => n - (intOf i).toNat)
  case atStart => exact ⟨0, Nat.zero_le _, rfl, Mod.refl _ _⟩
  case round =>
    obtain ⟨k, hk, rfl, hm⟩ := hrel
    obtain ⟨wo, rfl⟩ : ∃ wo : World, wo = wr := ⟨_, rfl⟩
    by_cases hlt : k < n
    · have hlt' : (k : Int) < n := by omega
      obtain ⟨r, i1⟩ : ∃ r, L[k]? = some r := ⟨_, List.getElem?_eq_getElem (by rw [HR.out.2.2.2]; exact hlt)⟩
      obtain ⟨l1, z1⟩ := HR.out.2.2.1 r (List.mem_of_getElem? i1)
      obtain ⟨g, off, rfl, hc1⟩ := (HR.out.1.mod (by omega) hm (fun _ _ f => f)).row HR.out.2.2.1 i1 (by omega)
      obtain ⟨g', off', rfl, hc2⟩ := (HR.out.2.1.mod (by omega) hm (fun _ _ f => f)).row HR.out.2.2.1 i1 (by omega)
      have HX := Lib.hid (And.intro hc1 hc2)
      have HL := Lib.hid (And.intro l1 z1)
      have HM := Lib.hid hm
      clear hc1 hc2 l1 z1 i1 hm
      go_wp2_with fail
      refine wp_region_planC (fun w' => (∀ j v, (bv r)[j]? = some v → w'.cell? ⟨g, off + k * 80 + j, none⟩ = some v) ∧ (∀ j v, (bv r)[j]? = some v → w'.cell? ⟨g', off' + k * 80 + j, none⟩ = some v)) [(0, true), (1, true), (2, true), (3, true), (4, true), (5, true), (6, true), (7, true), (8, true)] (by kernel_rfl) (by kernel_rfl) HX.out ?_
      iterate 3 (refine pc_pure rfl rfl (fun K hK => ?_); go_simp; refine hK _ ?_; clear hK K)
      refine pc_take _ rfl rfl (fun w' hS => exec_load_cells (P := Tryz.prog) 43 _ rfl (cs := bv r) rfl hS.1 Tryz.underlying43 rfl (by rw [size_ent, bv_len, HL.out.1])) (fun K hK => ?_); go_simp; refine hK _ ?_; clear hK K
      iterate 3 (refine pc_pure rfl rfl (fun K hK => ?_); go_simp; refine hK _ ?_; clear hK K)
      refine pc_take _ rfl rfl (fun w' hS => exec_load_cells (P := Tryz.prog) 43 _ rfl (cs := bv r) rfl hS.2 Tryz.underlying43 rfl (by rw [size_ent, bv_len, HL.out.1])) (fun K hK => ?_); go_simp; refine hK _ ?_; clear hK K
      refine pc_take (.bool false) rfl rfl (fun w' _ => exec_neq_agg (P := Tryz.prog) (b := true) 43 43 _ _ rfl rfl rfl Tryz.eqGuardType43 (eqE_ HL.out.1 HL.out.2)) (fun K hK => ?_); go_simp; refine hK _ ?_; clear hK K
      refine pc_nil ?_
      clear HX
      go_wp2
      exact ⟨⟨k + 1, by omega, by go_num, HM.out.drew⟩, by simp [intOf]; omega⟩
    · have hlt' : ¬ (k : Int) < n := by omega
      go_wp2
      go_ret
      exact ⟨rfl, hm⟩
end Go.Proofs.YtfoldjnmknaklaaGreat

/- peatbankkit over rows of api.TreeKey: SameTreeKeys, CopyTreeKeys (printed by wip/gen/kitrows.py). -/
namespace Go.Proofs.YtfoldjnmknaklaaGreat
open Go.RowKit

theorem eqK {w : World} {l : List Nat} (hl : l.length = 40) (hz : ∀ z ∈ l, z < 256) : (Op.equalIn 10000 40 (.agg (bv l).toArray) (.agg (bv l).toArray)).run Tryz.prog w = .ok true w := by
  have := equal_bytes (P := Tryz.prog) (w := w) 9998 40 5 40 Tryz.underlying40 Tryz.underlying5 (fun w => by kernel_rfl) hl hl hz hz
  rwa [decide_eq_true rfl] at this
theorem infoK_ : (Tryz.prog.info? 40).map (fun i => (i.zero, i.size, i.bytes)) = some (some (.agg (bv (List.replicate 40 0)).toArray), 40, 40) := by kernel_rfl
set_option maxRecDepth 100000 in
set_option maxHeartbeats 3200000 in
theorem sameK_yes {w : World} {A B : Option Addr} {n ca cb : Nat} {L : List (List Nat)} (ha : RdC w A n 40 (bv L.flatten)) (hb : RdC w B n 40 (bv L.flatten)) (hr : Rows 40 L) (hL : L.length = n) (hn : n ≤ 1000000000) :
    Calls Tryz.prog 45 #[.slice A n ca, .slice B n cb] w fun e w' => e = .returned (.bool true) ∧ Mod Nn w w' := by
  have h0 : ((n : Int) != n) = false := by simp
  have HR := Lib.hid (And.intro ha (And.intro hb (And.intro hr hL)))
  clear ha hb hr hL
  go_enter Tryz.func45, Tryz.ntmps45
  go_wp2
  go_loopw [5] (fun i wr => ∃ k : Nat, k ≤ n ∧ i = .int .i64 k ∧ Mod Nn w wr) (fun i _ => n - (intOf i).toNat)
  case atStart => exact ⟨0, Nat.zero_le _, rfl, Mod.refl _ _⟩
  case round =>
    obtain ⟨k, hk, rfl, hm⟩ := hrel
    obtain ⟨wo, rfl⟩ : ∃ wo : World, wo = wr := ⟨_, rfl⟩
    by_cases hlt : k < n
    · have hlt' : (k : Int) < n := by omega
      obtain ⟨r, i1⟩ : ∃ r, L[k]? = some r := ⟨_, List.getElem?_eq_getElem (by rw [HR.out.2.2.2]; exact hlt)⟩
      obtain ⟨l1, z1⟩ := HR.out.2.2.1 r (List.mem_of_getElem? i1)
      obtain ⟨g, off, rfl, hc1⟩ := (HR.out.1.mod (by omega) hm (fun _ _ f => f)).row HR.out.2.2.1 i1 (by omega)
      obtain ⟨g', off', rfl, hc2⟩ := (HR.out.2.1.mod (by omega) hm (fun _ _ f => f)).row HR.out.2.2.1 i1 (by omega)
      have HX := Lib.hid (And.intro hc1 hc2)
      have HL := Lib.hid (And.intro l1 z1)
      have HM := Lib.hid hm
      clear hc1 hc2 l1 z1 i1 hm
      go_wp2_with fail
      refine wp_region_planC (fun w' => (∀ j v, (bv r)[j]? = some v → w'.cell? ⟨g, off + k * 40 + j, none⟩ = some v) ∧ (∀ j v, (bv r)[j]? = some v → w'.cell? ⟨g', off' + k * 40 + j, none⟩ = some v)) [(0, true), (1, true), (2, true), (3, true), (4, true), (5, true), (6, true), (7, true), (8, true)] (by kernel_rfl) (by kernel_rfl) HX.out ?_
      iterate 3 (refine pc_pure rfl rfl (fun K hK => ?_); go_simp; refine hK _ ?_; clear hK K)
      refine pc_take _ rfl rfl (fun w' hS => exec_load_cells (P := Tryz.prog) 40 _ rfl (cs := bv r) rfl hS.1 Tryz.underlying40 rfl (by rw [size_tk, bv_len, HL.out.1])) (fun K hK => ?_); go_simp; refine hK _ ?_; clear hK K
      iterate 3 (refine pc_pure rfl rfl (fun K hK => ?_); go_simp; refine hK _ ?_; clear hK K)
      refine pc_take _ rfl rfl (fun w' hS => exec_load_cells (P := Tryz.prog) 40 _ rfl (cs := bv r) rfl hS.2 Tryz.underlying40 rfl (by rw [size_tk, bv_len, HL.out.1])) (fun K hK => ?_); go_simp; refine hK _ ?_; clear hK K
      refine pc_take (.bool false) rfl rfl (fun w' _ => exec_neq_agg (P := Tryz.prog) (b := true) 40 40 _ _ rfl rfl rfl Tryz.eqGuardType40 (eqK HL.out.1 HL.out.2)) (fun K hK => ?_); go_simp; refine hK _ ?_; clear hK K
      refine pc_nil ?_
      clear HX
      go_wp2
      exact ⟨⟨k + 1, by omega, by go_num, HM.out.drew⟩, by simp [intOf]; omega⟩
    · have hlt' : ¬ (k : Int) < n := by omega
      go_wp2
      go_ret
      exact ⟨rfl, hm⟩
end Go.Proofs.YtfoldjnmknaklaaGreat
