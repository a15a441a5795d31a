/- peatbankkit over rows of api.TreeKey: SameTreeKeys, CopyTreeKeys (printed by wip/gen/kitrows.py). -/
import Derived.Test.YtkcpmkeckcnobaaGreatNdA
import Derived.Test.YtkcpmkeckcnobaaGreatKitF
namespace Go.Proofs.YtkcpmkeckcnobaaGreat
open Go.RowKit

theorem eqK {w : World} {l : List Nat} (hl : l.length = 40) (hz : ∀ z ∈ l, z < 256) : (Op.equalIn 10000 40 (.agg (bv l).toArray) (.agg (bv l).toArray)).run Tryz.prog w = .ok true w := by
  have := equal_bytes (P := Tryz.prog) (w := w) 9998 40 5 40 Tryz.underlying40 Tryz.underlying5 (fun w => by kernel_rfl) hl hl hz hz
  rwa [decide_eq_true rfl] at this
theorem infoK_ : (Tryz.prog.info? 40).map (fun i => (i.zero, i.size, i.bytes)) = some (some (.agg (bv (List.replicate 40 0)).toArray), 40, 40) := by kernel_rfl
set_option maxRecDepth 100000 in
set_option maxHeartbeats 3200000 in
theorem sameK_yes {w : World} {A B : Option Addr} {n ca cb : Nat} {L : List (List Nat)} (ha : RdC w A n 40 (bv L.flatten)) (hb : RdC w B n 40 (bv L.flatten)) (hr : Rows 40 L) (hL : L.length = n) (hn : n ≤ 1000000000) :
    Calls Tryz.prog 78 #[.slice A n ca, .slice B n cb] w fun e w' => e = .returned (.bool true) ∧ Mod Nn w w' := by
  have h0 : ((n : Int) != n) = false := by simp
  have HR := Lib.hid (And.intro ha (And.intro hb (And.intro hr hL)))
  clear ha hb hr hL
  go_enter Tryz.func78, Tryz.ntmps78
  go_wp2
  go_loopw [5] (fun i wr => ∃ k : Nat, k ≤ n ∧ i = .int .i64 k ∧ Mod Nn w wr) (fun i _ => n - (intOf i).toNat)
  case atStart => exact ⟨0, Nat.zero_le _, rfl, Mod.refl _ _⟩
  case round =>
    obtain ⟨k, hk, rfl, hm⟩ := hrel
    obtain ⟨wo, rfl⟩ : ∃ wo : World, wo = wr := ⟨_, rfl⟩
    by_cases hlt : k < n
    · have hlt' : (k : Int) < n := by omega
      obtain ⟨r, i1⟩ : ∃ r, L[k]? = some r := ⟨_, List.getElem?_eq_getElem (by rw [HR.out.2.2.2]; exact hlt)⟩
      obtain ⟨l1, z1⟩ := HR.out.2.2.1 r (List.mem_of_getElem? i1)
      obtain ⟨g, off, rfl, hc1⟩ := (HR.out.1.mod (by omega) hm (fun _ _ f => f)).row HR.out.2.2.1 i1 (by omega)
      obtain ⟨g', off', rfl, hc2⟩ := (HR.out.2.1.mod (by omega) hm (fun _ _ f => f)).row HR.out.2.2.1 i1 (by omega)
      have HX := Lib.hid (And.intro hc1 hc2)
      have HL := Lib.hid (And.intro l1 z1)
      have HM := Lib.hid hm
      clear hc1 hc2 l1 z1 i1 hm
      go_wp2_with fail
      refine wp_region_planC (fun w' => (∀ j v, (bv r)[j]? = some v → w'.cell? ⟨g, off + k * 40 + j, none⟩ = some v) ∧ (∀ j v, (bv r)[j]? = some v → w'.cell? ⟨g', off' + k * 40 + j, none⟩ = some v)) [(0, true), (1, true), (2, true), (3, true), (4, true), (5, true), (6, true), (7, true), (8, true)] (by kernel_rfl) (by kernel_rfl) HX.out ?_
      iterate 3 (refine pc_pure rfl rfl (fun K hK => ?_); go_simp; refine hK _ ?_; clear hK K)
      refine pc_take _ rfl rfl (fun w' hS => exec_load_cells (P := Tryz.prog) 40 _ rfl (cs := bv r) rfl hS.1 Tryz.underlying40 rfl (by rw [size_tk, bv_len, HL.out.1])) (fun K hK => ?_); go_simp; refine hK _ ?_; clear hK K
      iterate 3 (refine pc_pure rfl rfl (fun K hK => ?_); go_simp; refine hK _ ?_; clear hK K)
      refine pc_take _ rfl rfl (fun w' hS => exec_load_cells (P := Tryz.prog) 40 _ rfl (cs := bv r) rfl hS.2 Tryz.underlying40 rfl (by rw [size_tk, bv_len, HL.out.1])) (fun K hK => ?_); go_simp; refine hK _ ?_; clear hK K
      refine pc_take (.bool false) rfl rfl (fun w' _ => exec_neq_agg (P := Tryz.prog) (b := true) 40 40 _ _ rfl rfl rfl Tryz.eqGuardType40 (eqK HL.out.1 HL.out.2)) (fun K hK => ?_); go_simp; refine hK _ ?_; clear hK K
      refine pc_nil ?_
      clear HX
      go_wp2
      exact ⟨⟨k + 1, by omega, by go_num, HM.out.drew⟩, by simp [intOf]; omega⟩
    · have hlt' : ¬ (k : Int) < n := by omega
      go_wp2
      go_ret
      exact ⟨rfl, hm⟩
set_option maxRecDepth 100000 in
set_option maxHeartbeats 800000 in
theorem copyK_any {w : World} {A : Option Addr} {n c : Nat} {L : List (List Nat)} (hr : RdC w A n 40 (bv L.flatten)) (hn : n ≤ 1000000000) :
    Calls Tryz.prog 54 #[.slice A n c] w fun r w' => ∃ v, r = .returned v ∧ w'.ownsRow w.heap.size 40 40 v n (bv L.flatten) ∧ Mod Nn w w' := by
  have hown := World.ownsRow_nil w w.heap.size 40 40
  go_enter Tryz.func54, Tryz.ntmps54
  go_wp2_with (first
    | (with_reducible change wpList _ _ _ (⟨some 6, _, _, _, _, _⟩ :: _) _ _
       go_must (refine wpList_append_rd 29 _ _ rfl rfl w.heap.size 40 _ 40 40 Tryz.underlying29 infoK_ (by rw [Value.cells, bv_size, List.length_replicate]) (by omega) (.slice none 0 0) 0 [] rfl hown A n c (bv L.flatten) rfl hr (bv_one _) (by omega) (by omega) (Nat.le_refl _) ?_)
       intro v w2 own2 gr2 ob2))
  have M2 : Mod Nn w w2 := (Mod.refl _ _).grown gr2 (fun g h => by cases h)
  simp only [Nat.zero_add, List.nil_append] at own2
  clear hown
  go_ret
  exact ⟨v, rfl, own2, M2⟩
end Go.Proofs.YtkcpmkeckcnobaaGreat
