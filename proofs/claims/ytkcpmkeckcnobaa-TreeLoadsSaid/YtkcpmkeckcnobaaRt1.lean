/- (*peatbankref16.Tree).place. -/
import Derived.Test.YtkcpmkeckcnobaaTrH
import Derived.Test.YtkcpmkeckcnobaaEqK
import Derived.Test.YtkcpmkeckcnobaaNdRa
namespace Go.Proofs.Ytkcpmkeckcnobaa
open Go.RowKit

/-- cells of a key, at the beginning of an entry's -/
theorem key_prefix {r : List Nat} {j : Nat} {v : Value} (h : (bv (keyOf r))[j]? = some v) : (bv r)[j]? = some v := by
  unfold keyOf at h
  rw [← bv_take, List.getElem?_take] at h
  split at h
  · exact h
  · cases h
theorem getD_keyOf {L : List (List Nat)} {j : Nat} {r : List Nat} (h : L[j]? = some r) : (L.map keyOf).getD j [] = keyOf r := by
  rw [List.getD, List.getElem?_map, h]; rfl
section
variable {w : World} {A : Option Addr} {b n c : Nat} {L : List (List Nat)} {κ : List Nat}
set_option maxRecDepth 100000 in
set_option maxHeartbeats 6400000 in
theorem place16_any (hb : Blk w b 83 #[.slice A n c]) (hd : RdC w A n 80 (bv L.flatten)) (hr : Rows 80 L) (hL : L.length = n) (hk : κ.length = 40) (hkz : ∀ z ∈ κ, z < 256) (hs : Srt L) (hn : n ≤ 1000000) :
    Calls Try.prog 71 #[.pointer (some ⟨b, 0, none⟩), .agg (bv κ).toArray] w fun r w' => ∃ i : Nat, r = .returned (.tuple #[.int .i64 i, .bool (decide (i < n ∧ (L.map keyOf).getD i [] = κ))]) ∧ Place (L.map keyOf) κ i ∧ Mod Nn w w' := by
  have HB := Lib.hid (And.intro hb (And.intro hd (And.intro hr (And.intro hkz hs))))
  have HL := Lib.hid hL
  clear hb hd hr hL hkz hs
  go_enter Try.func71, Try.ntmps71
  go_wp2_with (first
    | (with_reducible change wpList _ _ _ (⟨some 3, Op.box _ _, _, _, _, _⟩ :: _) _ _
       go_must (refine wpList_box_var 23 _ rfl rfl (bv κ).toArray rfl ?_)
       intro w1 b1 m1 z1
       clear z1
       have hs1 : w.heap.size < w1.heap.size := b1.lt
       have H1 := Lib.hid (And.intro m1 b1)
       clear m1 b1))
  -- zzA
  go_loopw [6] (fun i wr => ∃ j : Nat, j ≤ n ∧ i = .int .i64 j ∧ Hid (Mod Nn w1 wr ∧ ∀ t, t < j → klt ((L.map keyOf).getD t []) κ)) (fun i _ => n - (intOf i).toNat)
  case atStart => exact ⟨0, Nat.zero_le _, rfl, Lib.hid ⟨Mod.refl _ _, fun t ht => by omega⟩⟩
  case round =>
    obtain ⟨j, hjn, rfl, HR⟩ := hrel
    obtain ⟨wo, rfl⟩ : ∃ wo : World, wo = wr := ⟨_, rfl⟩
    have hblk := HB.out.1.mod (H1.out.1.nn_ HR.out.1) (fun f => f)
    have hkb := H1.out.2.mod HR.out.1 (fun f => f)
    have HK0 := Lib.hid (And.intro hblk hkb)
    clear hblk hkb
    by_cases hj : j < n
    · have hj' : (j : Int) < n := by omega
      obtain ⟨r, hLj⟩ : ∃ r, L[j]? = some r := ⟨_, List.getElem?_eq_getElem (by have := HL.out; omega)⟩
      have hr80 := HB.out.2.2.1 r (List.mem_of_getElem? hLj)
      have hrl := hr80.1
      obtain ⟨g, off, rfl, hcell⟩ := (HB.out.2.1.mod (by omega) (H1.out.1.nn_ HR.out.1) (fun _ _ f => f)).row HB.out.2.2.1 hLj (by omega)
      have hcells : ∀ w', Mod Nn wo w' → ∀ q v, (bv (keyOf r))[q]? = some v → w'.cell? ⟨g, off + j * 80 + q, none⟩ = some v := fun w' hm q v hq => by
        have h1 := hcell q v (key_prefix hq)
        rw [hm.cell (p := ⟨g, off + j * 80 + q, none⟩) (World.block_lt_of_cell? wo _ h1) (fun f => f)]
        exact h1
      have HK := Lib.hid (And.intro HK0.out hcells)
      have HJ := Lib.hid (And.intro hLj (And.intro hr80.2 (getD_keyOf hLj)))
      clear hcells hcell hr80 hLj HK0
      go_wp2_with fail
      refine wp_region_planC (fun w' => Mod Nn wo w') [(0, true), (1, true), (2, true), (3, true), (4, true), (5, true), (6, true), (7, true), (8, true), (9, true), (10, true), (11, true), (12, true), (13, true), (14, true), (15, true), (16, true), (17, false), (18, true), (19, true)] (by kernel_rfl) (by kernel_rfl) (Mod.refl Nn wo).drew ?_
      iterate 4 (refine pc_pure rfl rfl (fun K hK => ?_); go_simp; refine hK _ ?_; clear hK K)
      refine pc_take (.slice (some ⟨g, off, none⟩) n c) rfl rfl (fun w' hS => exec_load1 (P := Try.prog) (v := .slice (some ⟨g, off, none⟩) n c) (ad := ⟨b, 0, none⟩) 40 (.tmp 10) rfl rfl ((HK.out.1.1.mod hS (fun f => f)).cell 0) Try.underlying40 rfl) (fun K hK => ?_); go_simp; refine hK _ ?_; clear hK K
      iterate 6 (refine pc_pure rfl rfl (fun K hK => ?_); go_simp; refine hK _ ?_; clear hK K)
      refine pc_take (.slice (some ⟨g, off, none⟩) n c) rfl rfl (fun w' hS => exec_load1 (P := Try.prog) (v := .slice (some ⟨g, off, none⟩) n c) (ad := ⟨b, 0, none⟩) 40 (.tmp 17) rfl rfl ((HK.out.1.1.mod hS (fun f => f)).cell 0) Try.underlying40 rfl) (fun K hK => ?_); go_simp; refine hK _ ?_; clear hK K
      iterate 1 (refine pc_pure rfl rfl (fun K hK => ?_); go_simp; refine hK _ ?_; clear hK K)
      refine pc_take (.pointer (some ⟨g, off + j * 80, none⟩)) rfl rfl (fun w' _ => exec_elem (P := Try.prog) (g := g) (off := off) (q := j) 40 (.tmp 18) (.tmp 19) rfl 28 80 uuE sizeE rfl rfl hj) (fun K hK => ?_); go_simp; refine hK _ ?_; clear hK K
      iterate 1 (refine pc_pure rfl rfl (fun K hK => ?_); go_simp; refine hK _ ?_; clear hK K)
      refine pc_take (.agg (bv (keyOf r)).toArray) rfl rfl (fun w' hS => exec_load_cells (P := Try.prog) (b := g) (off := off + j * 80) (cs := bv (keyOf r)) 23 (.tmp 21) rfl rfl (HK.out.2 w' hS) Try.underlying23 rfl (by rw [bv_len, keyOf_len hrl]; exact size_keyT)) (fun K hK => ?_); go_simp; refine hK _ ?_; clear hK K
      refine pc_take (.agg (bv κ).toArray) rfl rfl (fun w' hS => exec_load_row (P := Try.prog) (g := w.heap.size) (cs := (bv κ).toArray) 23 (.tmp 3) rfl rfl (HK.out.1.2.mod hS (fun f => f)) Try.underlying23 rfl (size_keyk hk)) (fun K hK => ?_); go_simp; refine hK _ ?_; clear hK K
      refine pc_call rfl rfl (fun K hK => ?_); go_simp; refine ⟨_, _, ⟨rfl, rfl⟩, hK _ _ _ ?_⟩; clear hK K
      refine (rcompare_any _ (keyOf_lt HJ.out.2.1) HB.out.2.2.2.1 (keyOf_len hrl) hk).mono ?_
      rintro e w2 ⟨rfl, m2⟩
      refine ⟨_, rfl, m2.of_drew, ?_⟩
      have H2 := Lib.hid m2.of_drew
      have hs2 : wo.heap.size ≤ w2.heap.size := m2.of_drew.size
      clear m2
      obtain ⟨z, hz⟩ : ∃ z, lexc (keyOf r) κ = z := ⟨_, rfl⟩
      rw [hz]
      have HZ := Lib.hid hz
      clear hz
      by_cases hlt : z < 0
      · iterate 2 (refine pc_pure rfl rfl (fun K hK => ?_); go_simp; refine hK _ ?_; clear hK K)
        refine pc_nil ?_
        have hk1 : klt (keyOf r) κ := by unfold klt; rw [HZ.out]; exact hlt
        have HE := Lib.hid hk1
        clear hk1
        go_wp2
        refine ⟨⟨j + 1, by omega, by go_num, Lib.hid ⟨HR.out.1.nn_ H2.out, fun t ht => ?_⟩⟩, by simp [intOf]; omega⟩
        rcases Nat.lt_or_ge t j with h | h
        · exact HR.out.2 t h
        · obtain rfl : t = j := by omega
          rw [HJ.out.2.2]; exact HE.out
      · iterate 2 (refine pc_pure rfl rfl (fun K hK => ?_); go_simp; refine hK _ ?_; clear hK K)
        refine pc_nil ?_
        have hpl : Place (L.map keyOf) κ j := ⟨by rw [List.length_map, HL.out]; omega, HR.out.2, fun t h1 h2 => by
          have hn1 : ¬ klt (keyOf r) κ := by unfold klt; rw [HZ.out]; exact hlt
          rcases Nat.lt_or_ge j t with h | h
          · have h3 := mono_getD (K := L.map keyOf) (List.pairwise_map.2 HB.out.2.2.2.2) h h2
            rw [HJ.out.2.2] at h3
            exact fun hx => hn1 (klt_trans h3 hx)
          · obtain rfl : t = j := by omega
            rw [HJ.out.2.2]; exact hn1⟩
        have HP := Lib.hid hpl
        have HK2 := Lib.hid (And.intro (And.intro (HK.out.1.1.mod H2.out (fun f => f)) (HK.out.1.2.mod H2.out (fun f => f))) (fun w' hm => HK.out.2 w' (H2.out.nn_ hm) : ∀ w', Mod Nn w2 w' → ∀ q v, (bv (keyOf r))[q]? = some v → w'.cell? ⟨g, off + j * 80 + q, none⟩ = some v))
        have HM2 := Lib.hid ((H1.out.1.nn_ HR.out.1).nn_ H2.out)
        clear hpl HK hlt
        go_wp2_with fail
        -- zzB
        refine wp_region_planC (fun w' => Mod Nn w2 w') [(0, true), (1, true), (2, true), (3, true), (4, true), (5, true), (6, true), (7, true), (8, true), (9, true), (10, true), (11, true), (12, true), (13, true), (14, true), (15, true), (16, true), (17, true), (18, true), (19, true), (20, true), (21, true)] (by kernel_rfl) (by kernel_rfl) (Mod.refl Nn w2).drew ?_
        iterate 5 (refine pc_pure rfl rfl (fun K hK => ?_); go_simp; refine hK _ ?_; clear hK K)
        refine pc_take (.slice (some ⟨g, off, none⟩) n c) rfl rfl (fun w' hS => exec_load1 (P := Try.prog) (v := .slice (some ⟨g, off, none⟩) n c) (ad := ⟨b, 0, none⟩) 40 (.tmp 33) rfl rfl ((HK2.out.1.1.mod hS (fun f => f)).cell 0) Try.underlying40 rfl) (fun K hK => ?_); go_simp; refine hK _ ?_; clear hK K
        iterate 6 (refine pc_pure rfl rfl (fun K hK => ?_); go_simp; refine hK _ ?_; clear hK K)
        refine pc_take (.slice (some ⟨g, off, none⟩) n c) rfl rfl (fun w' hS => exec_load1 (P := Try.prog) (v := .slice (some ⟨g, off, none⟩) n c) (ad := ⟨b, 0, none⟩) 40 (.tmp 40) rfl rfl ((HK2.out.1.1.mod hS (fun f => f)).cell 0) Try.underlying40 rfl) (fun K hK => ?_); go_simp; refine hK _ ?_; clear hK K
        iterate 1 (refine pc_pure rfl rfl (fun K hK => ?_); go_simp; refine hK _ ?_; clear hK K)
        refine pc_take (.pointer (some ⟨g, off + j * 80, none⟩)) rfl rfl (fun w' _ => exec_elem (P := Try.prog) (g := g) (off := off) (q := j) 40 (.tmp 41) (.tmp 42) rfl 28 80 uuE sizeE rfl rfl hj) (fun K hK => ?_); go_simp; refine hK _ ?_; clear hK K
        iterate 1 (refine pc_pure rfl rfl (fun K hK => ?_); go_simp; refine hK _ ?_; clear hK K)
        refine pc_take (.agg (bv (keyOf r)).toArray) rfl rfl (fun w' hS => exec_load_cells (P := Try.prog) (b := g) (off := off + j * 80) (cs := bv (keyOf r)) 23 (.tmp 44) rfl rfl (HK2.out.2 w' hS) Try.underlying23 rfl (by rw [bv_len, keyOf_len hrl]; exact size_keyT)) (fun K hK => ?_); go_simp; refine hK _ ?_; clear hK K
        refine pc_take (.agg (bv κ).toArray) rfl rfl (fun w' hS => exec_load_row (P := Try.prog) (g := w.heap.size) (cs := (bv κ).toArray) 23 (.tmp 3) rfl rfl (HK2.out.1.2.mod hS (fun f => f)) Try.underlying23 rfl (size_keyk hk)) (fun K hK => ?_); go_simp; refine hK _ ?_; clear hK K
        refine pc_take (.bool (decide (keyOf r = κ))) rfl rfl (fun w' _ => exec_eql_agg (P := Try.prog) (b := decide (keyOf r = κ)) 23 23 _ _ rfl rfl rfl Try.eqGuardType23 (eqK3 (keyOf_len hrl) hk (keyOf_lt HJ.out.2.1) HB.out.2.2.2.1)) (fun K hK => ?_); go_simp; refine hK _ ?_; clear hK K
        obtain ⟨bo, hbo⟩ : ∃ bo, decide (keyOf r = κ) = bo := ⟨_, rfl⟩
        rw [hbo]
        have hbo2 : decide (j < n ∧ (L.map keyOf).getD j [] = κ) = bo := by
          rw [← hbo, HJ.out.2.2]
          simp [hj]
        have HBO := Lib.hid hbo2
        clear hbo hbo2
        iterate 3 (refine pc_pure rfl rfl (fun K hK => ?_); go_simp; refine hK _ ?_; clear hK K)
        refine pc_nil ?_
        go_wp2
        go_ret2
        exact ⟨j, by rw [HBO.out]; rfl, HP.out, HM2.out.drew⟩
    · have hje : j = n := by omega
      have hj' : ¬ (j : Int) < n := by omega
      have hpl : Place (L.map keyOf) κ j := ⟨by rw [List.length_map, HL.out]; omega, HR.out.2, fun t h1 h2 => by rw [List.length_map, HL.out] at h2; omega⟩
      have HP := Lib.hid hpl
      have HM2 := Lib.hid (H1.out.1.nn_ HR.out.1)
      clear hpl hje
      go_wp2_with fail
      refine wp_region_planC (fun w' => Mod Nn wo w') [(0, true), (1, true), (2, true), (3, true), (4, true), (5, true), (6, true), (7, true), (8, true), (9, true), (10, true), (11, true), (12, true), (13, true), (14, true), (15, true), (16, true), (17, false), (18, true), (19, true)] (by kernel_rfl) (by kernel_rfl) (Mod.refl Nn wo).drew ?_
      iterate 4 (refine pc_pure rfl rfl (fun K hK => ?_); go_simp; refine hK _ ?_; clear hK K)
      refine pc_take (.slice A n c) rfl rfl (fun w' hS => exec_load1 (P := Try.prog) (v := .slice A n c) (ad := ⟨b, 0, none⟩) 40 (.tmp 10) rfl rfl ((HK0.out.1.mod hS (fun f => f)).cell 0) Try.underlying40 rfl) (fun K hK => ?_); go_simp; refine hK _ ?_; clear hK K
      iterate 3 (refine pc_pure rfl rfl (fun K hK => ?_); go_simp; refine hK _ ?_; clear hK K)
      iterate 9 (refine pc_skip rfl rfl (fun K hK => ?_); go_simp; refine hK _ ?_; clear hK K)
      refine pc_skipD rfl rfl (fun K hK => ?_); go_simp; refine hK _ ?_; clear hK K
      iterate 1 (refine pc_skip rfl rfl (fun K hK => ?_); go_simp; refine hK _ ?_; clear hK K)
      iterate 1 (refine pc_pure rfl rfl (fun K hK => ?_); go_simp; refine hK _ ?_; clear hK K)
      refine pc_nil ?_
      have hbd := HK0.out.1.drew
      have HK2 := Lib.hid hbd
      have HM3 := Lib.hid (HM2.out.drew)
      clear hbd
      generalize wo.drew = w2 at *
      go_wp2_with fail
      refine wp_region_planC (fun w' => Mod Nn w2 w') [(0, true), (1, true), (2, true), (3, true), (4, true), (5, true), (6, true), (7, true), (8, true), (9, true), (10, true), (11, true), (12, true), (13, true), (14, true), (15, true), (16, true), (17, true), (18, true), (19, true), (20, true), (21, true)] (by kernel_rfl) (by kernel_rfl) (Mod.refl Nn w2).drew ?_
      iterate 5 (refine pc_pure rfl rfl (fun K hK => ?_); go_simp; refine hK _ ?_; clear hK K)
      refine pc_take (.slice A n c) rfl rfl (fun w' hS => exec_load1 (P := Try.prog) (v := .slice A n c) (ad := ⟨b, 0, none⟩) 40 (.tmp 33) rfl rfl ((HK2.out.mod hS (fun f => f)).cell 0) Try.underlying40 rfl) (fun K hK => ?_); go_simp; refine hK _ ?_; clear hK K
      iterate 3 (refine pc_pure rfl rfl (fun K hK => ?_); go_simp; refine hK _ ?_; clear hK K)
      iterate 10 (refine pc_skip rfl rfl (fun K hK => ?_); go_simp; refine hK _ ?_; clear hK K)
      iterate 3 (refine pc_pure rfl rfl (fun K hK => ?_); go_simp; refine hK _ ?_; clear hK K)
      refine pc_nil ?_
      have hbo2 : decide (j < n ∧ (L.map keyOf).getD j [] = κ) = false := decide_eq_false (fun h => hj h.1)
      have HBO := Lib.hid hbo2
      clear hbo2
      go_wp2
      go_ret2
      exact ⟨j, by rw [HBO.out]; rfl, HP.out, HM3.out.drew⟩
end
end Go.Proofs.Ytkcpmkeckcnobaa
