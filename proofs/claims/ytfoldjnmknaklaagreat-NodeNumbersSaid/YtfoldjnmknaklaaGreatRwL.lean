/- Own lemmas of several kinds, put together: RwLE, RwLK, RwLI. -/
import Derived.Test.YtfoldjnmknaklaaGreatRw0
import Derived.Test.YtfoldjnmknaklaaGreatRwS
import Derived.Test.YtfoldjnmknaklaaGreatNdSx
import Derived.Test.YtfoldjnmknaklaaGreatKitB
/- peatbankkit over rows of api.Entry: markEntry, LentEntries, KeptEntries, OverEntries (printed by wip/gen/kitrows.py). -/
namespace Go.Proofs.YtfoldjnmknaklaaGreat
open Go.RowKit

set_option maxRecDepth 100000 in
set_option maxHeartbeats 1600000 in
theorem markE_any (k i : Int) (w : World) (k0 : 0 ≤ k) (k1 : k ≤ 1000) (i0 : 0 ≤ i) (i1 : i ≤ 281474976710656) :
    Calls Tryz.prog 88 #[.int .i64 k, .int .i64 i] w fun r w' => r = .returned (.agg (bv (mkRow 80 k i)).toArray) ∧ Mod Nn w w' := by
  have hm : 0 ≤ mk0 k i ∧ mk0 k i ≤ 9223372036854775807 := by unfold mk0; omega
  have h0 := fun w => mark_any k i w k0 k1 i0 i1
  have hN := mkN_eq k i
  unfold mkRow
  generalize mkN k i = N at *
  generalize mk0 k i = M at *
  have HN := Lib.hid hN
  have HM := Lib.hid hm
  clear hN hm
  go_enter Tryz.func88, Tryz.ntmps88
  go_wp2_with (first
    | (with_reducible change wpList _ _ _ (⟨some 4, Op.alloc _, _, _, _, _⟩ :: _) _ _
       go_must (refine wpList_alloc_var 43 rfl rfl info_ent ?_)
       intro w1 b1 m1 z1
       have B1 := Lib.hid (And.intro b1 m1)
       clear b1 m1 z1))
  refine (h0 _).mono ?_
  rintro r w2 ⟨rfl, rfl⟩
  clear h0
  go_wp2_with (first
    | (with_reducible change wpList _ _ _ (⟨some 9, _, _, _, _, _⟩ :: _) _ _
       go_must (refine wpList_val rfl (exec_build_byte (P := Tryz.prog) 40 5 39 _ rfl Tryz.underlying40 (by kernel_rfl) (by kernel_rfl) (by exact congrArg (Value.int .u8) HN.out)) ?_))
    | (with_reducible change wpList _ _ _ (⟨some 10, _, _, _, _, _⟩ :: _) _ _
       go_must (refine wpList_val rfl (exec_build_first (P := Tryz.prog) 43 _ rfl (n := 40) (by kernel_rfl) Tryz.underlying43 (by kernel_rfl) (l := N :: List.replicate 39 0) rfl (by rw [List.length_cons, List.length_replicate])) ?_)
       rw [two_app rfl])
    | (with_reducible change wpList _ _ _ (⟨none, Op.store _ _ _, _, _, _, _⟩ :: _) _ _
       go_must (refine wpList_store_var 43 _ _ rfl rfl w.heap.size (bv (N :: List.replicate (80 - 1) 0)).toArray (bv (List.replicate 80 0)).toArray _ rfl rfl B1.out.1 (by rw [size_ent, bv_size, List.length_cons, List.length_replicate]) (by rw [bv_size, bv_size, List.length_cons, List.length_replicate, List.length_replicate]) (bv_all _) ?_)
       intro w9 b9 m9 z9))
  exact bodyPost_ret (results_cell_row (P := Tryz.prog) rfl _ w9 _ _ _ (0, 0) _ rfl b9 Tryz.underlying43 rfl (by rw [size_ent, bv_size, List.length_cons, List.length_replicate])) rfl ⟨rfl, B1.out.2.new_ m9 (Nat.le_refl _)⟩

set_option maxRecDepth 100000 in
set_option maxHeartbeats 3200000 in
theorem lentE_any {w : World} {A : Option Addr} {n c : Nat} {L : List (List Nat)} (hr : RdC w A n 80 (bv L.flatten)) (hn : n ≤ 1000000000) :
    Calls Tryz.prog 49 #[.slice A n c] w fun r w' => ∃ g, r = .returned (.slice (some ⟨g, 0, none⟩) n (n + 12)) ∧ Blk w' g 43 (bv (L ++ mkRows 80 1 12).flatten).toArray ∧ Mod Nn w w' ∧ w.heap.size ≤ g := by
  have hmax : n + 12 ≤ maxLen := by simp only [maxLen]; omega
  have HR := Lib.hid hr; clear hr
  go_enter Tryz.func49, Tryz.ntmps49
  go_wp2_with (first
    | (with_reducible change wpList _ _ _ (⟨_, Op.makeSlice _ _ _, _, _, _, _⟩ :: _) _ _
       go_must (refine wpList_make_n 28 _ _ rfl rfl 43 _ 80 80 Tryz.underlying28 infoE_ 0 ((n : Int) + 12) 0 (n + 12) rfl rfl rfl (by omega) (by omega) (by omega) (by omega) ?_)
       intro w1 b1 m1 z1
       have own1 : w1.ownsRow w.heap.size 43 80 (.slice (some ⟨w.heap.size, 0, none⟩) 0 (n + 12)) 0 [] := own_of_blkS b1 (Nat.le_refl _) (by unfold madeCells; simp) hmax (by omega) (by simp)
       have O1 := Lib.hid (And.intro own1 m1)
       clear b1 z1 own1 m1)
    | (with_reducible change wpList _ _ _ (⟨some 11, _, _, _, _, _⟩ :: _) _ _
       go_must (refine wpList_append_spare_rd 28 _ _ rfl rfl w.heap.size 43 _ 80 80 Tryz.underlying28 infoE_ 0 (n + 12) [] rfl O1.out.1 A n c (bv L.flatten) rfl (HR.out.mod (by omega) O1.out.2 (fun _ _ f => f)) (bv_one _) (by omega) ?_)
       intro w2 own2 gr2
       have M2 : Mod Nn w w2 := O1.out.2.grown gr2 (fun g h => .inl (by injection h with h; omega))
       simp only [Nat.zero_add, List.nil_append] at own2 ⊢
       have O2 := Lib.hid (And.intro own2 M2)
       clear own2 M2 gr2))
  generalize hg : w.heap.size = g at *
  have HG := Lib.hid hg; clear hg
  go_loopw [3, 4] (fun v i wr => ∃ k : Nat, k ≤ 12 ∧ i = .int .i64 k ∧ v = .slice (some ⟨g, 0, none⟩) (n + k) (n + 12) ∧ Hid (wr.ownsRow g 43 80 (.slice (some ⟨g, 0, none⟩) (n + k) (n + 12)) (n + k) (bv (L ++ mkRows 80 1 k).flatten) ∧ Mod Nn w wr)) (fun _ i _ => 12 - (intOf i).toNat)
  case atStart => exact ⟨0, by omega, rfl, rfl, Lib.hid ⟨by simpa [mkRows] using O2.out.1, O2.out.2⟩⟩
  case round =>
    obtain ⟨k, hk, rfl, rfl, hown⟩ := hrel
    clear O2
    obtain ⟨wo, rfl⟩ : ∃ wo : World, wo = wr := ⟨_, rfl⟩
    by_cases hlt : k < 12
    · have hlt' : (k : Int) < 12 := by omega
      go_wp2_with fail
      refine (markE_any 1 k _ (by omega) (by omega) (by omega) (by omega)).mono ?_
      rintro r w3 ⟨rfl, m3⟩
      have HM := Lib.hid (And.intro (mkRows_succ 80 1 k) (mkRow_ok (s := 80) (by omega) 1 k))
      generalize mkRow 80 1 k = R at *
      have H3 := Lib.hid m3; clear m3
      go_wp2_with (first
        | (with_reducible change wpList _ _ _ (⟨some 19, _, _, _, _, _⟩ :: _) _ _
           go_must (refine wpList_val rfl (exec_bslice1 (P := Tryz.prog) 28 43 _ rfl (s := 80) Tryz.underlying28 info_ent (by omega) (by omega) rfl (X := (bv R).toArray) rfl (by rw [bv_size, HM.out.2.1])) ?_))
        | (with_reducible change wpList _ _ _ (⟨some 20, _, _, _, _, _⟩ :: _) _ _
           go_must (refine wpList_append_spare_rd 28 _ _ rfl rfl g 43 _ 80 80 Tryz.underlying28 infoE_ (n + k) (n + 12) _ rfl (own_mod hown.out.1 (H3.out.alloc _) (fun _ _ f => f)) _ 1 1 (bv R) rfl (RdC.of_blk (Blk.new _ _ _) (by rw [bv_len, HM.out.2.1])) (bv_one _) (by omega) ?_)
           intro w4 own4 gr4
           have M4 : Mod Nn w w4 := (hown.out.2.nn_ (H3.out.alloc _)).grown gr4 (fun g' h => .inl (by injection h with h; have := HG.out; omega))
           rw [← flat_snoc, List.append_assoc, ← HM.out.1] at own4
           have O4 := Lib.hid (And.intro own4 M4)
           clear own4 gr4 M4))
      exact ⟨⟨k + 1, by omega, by go_num, rfl, O4⟩, by simp [intOf]; omega⟩
    · have hlt' : ¬ (k : Int) < 12 := by omega
      have hk12 : k = 12 := by omega
      subst hk12
      have hb := Lib.hid (And.intro (blk_of_ownS hown.out.1) hown.out.2)
      clear hown hlt
      go_wp2
      go_ret
      exact ⟨g, rfl, (by rw [← List.flatten_append]; exact hb.out.1), hb.out.2, by have := HG.out; omega⟩

set_option maxRecDepth 100000 in
set_option maxHeartbeats 4000000 in
theorem keptE_any {w : World} {A : Option Addr} {n c g : Nat} {L : List (List Nat)} (hr : RdC w A n 80 (bv L.flatten)) (hL : Rows 80 L) (hln : L.length = n) (hb : Blk w g 43 (bv (L ++ mkRows 80 1 12).flatten).toArray) (hn : n ≤ 1000000000) :
    Calls Tryz.prog 53 #[.slice (some ⟨g, 0, none⟩) n (n + 12), .slice A n c] w fun r w' => r = .returned (.bool true) ∧ Mod Nn w w' := by
  have hbn : ((n : Int) != n) = false := by simp
  have HR := Lib.hid (And.intro hr (And.intro hL (And.intro hln (And.intro hb (hL.append (mkRows_ok (s := 80) (by omega) 1 12)))))); clear hr hL hln hb
  go_enter Tryz.func53, Tryz.ntmps53
  go_wp2
  go_loopw [6] (fun i wr => ∃ k : Nat, k ≤ n + 12 ∧ i = .int .i64 k ∧ Mod Nn w wr) (fun i _ => n + 12 - (intOf i).toNat)
  case atStart => exact ⟨0, by omega, rfl, Mod.refl _ _⟩
  case round =>
    obtain ⟨k, hk, rfl, hmr⟩ := hrel
    obtain ⟨wo, rfl⟩ : ∃ wo : World, wo = wr := ⟨_, rfl⟩
    by_cases hlt : k < n
    · have hlt1 : (k : Int) < n + 12 := by omega
      have hlt2 : (k : Int) < n := by omega
      have hd2 : ¬ n ≤ k := by omega
      obtain ⟨r, i1⟩ : ∃ r, L[k]? = some r := ⟨_, List.getElem?_eq_getElem (by rw [HR.out.2.2.1]; exact hlt)⟩
      obtain ⟨l1, z1⟩ := HR.out.2.1 r (List.mem_of_getElem? i1)
      obtain ⟨g', off, rfl, hc1⟩ := (HR.out.1.mod (by omega) hmr (fun _ _ f => f)).row HR.out.2.1 i1 (by omega)
      have hc2 := blk_row (HR.out.2.2.2.1.mod hmr (fun f => f)) HR.out.2.2.2.2 (i := k) (r := r) (by rw [List.getElem?_append_left (List.getElem?_eq_some_iff.1 i1).1]; exact i1)
      have HX := Lib.hid (And.intro hc2 hc1)
      have HL := Lib.hid (And.intro l1 z1)
      have HM := Lib.hid hmr
      clear hc1 hc2 l1 z1 i1 hmr
      go_upto_region 7 with fail
      refine wp_region_planC (fun w' => (∀ j v, (bv r)[j]? = some v → w'.cell? ⟨g, k * 80 + j, none⟩ = some v) ∧ (∀ j v, (bv r)[j]? = some v → w'.cell? ⟨g', off + k * 80 + j, none⟩ = some v))
        ((List.range 35).map (fun i => (i, true))) (by kernel_rfl) (by kernel_rfl) HX.out ?_
      simp only [List.range, List.range.loop, List.map_cons, List.map_nil]
      iterate 8 (refine pc_pure rfl rfl (fun K hK => ?_); go_simp; refine hK _ ?_; clear hK K)
      refine pc_take _ rfl rfl (fun w' hS => exec_load_cells (P := Tryz.prog) 43 _ rfl (cs := bv r) rfl hS.1 Tryz.underlying43 rfl (by rw [size_ent, bv_len, HL.out.1])) (fun K hK => ?_); go_simp; refine hK _ ?_; clear hK K
      iterate 3 (refine pc_pure rfl rfl (fun K hK => ?_); go_simp; refine hK _ ?_; clear hK K)
      refine pc_take _ rfl rfl (fun w' hS => exec_load_cells (P := Tryz.prog) 43 _ rfl (cs := bv r) rfl hS.2 Tryz.underlying43 rfl (by rw [size_ent, bv_len, HL.out.1])) (fun K hK => ?_); go_simp; refine hK _ ?_; clear hK K
      refine pc_take (.bool true) rfl rfl (fun w' _ => exec_eql_agg (P := Tryz.prog) (b := true) 43 43 _ _ rfl rfl rfl Tryz.eqGuardType43 (eqE_ HL.out.1 HL.out.2)) (fun K hK => ?_); go_simp; refine hK _ ?_; clear hK K
      iterate 8 (refine pc_pure rfl rfl (fun K hK => ?_); go_simp; refine hK _ ?_; clear hK K)
      iterate 11 (refine pc_skip rfl rfl (fun K hK => ?_); go_simp; refine hK _ ?_; clear hK K)
      iterate 2 (refine pc_pure rfl rfl (fun K hK => ?_); go_simp; refine hK _ ?_; clear hK K)
      refine pc_nil ?_
      clear HX
      go_wp2
      exact ⟨⟨k + 1, by omega, by go_num, HM.out.drew⟩, by simp [intOf]; omega⟩
    · by_cases hlt12 : k < n + 12
      · have hlt1 : (k : Int) < n + 12 := by omega
        have hlt2 : ¬ (k : Int) < n := by omega
        have hd2 : n ≤ k := by omega
        have e2 : ((k - n : Nat) : Int) = (k : Int) - n := Int.ofNat_sub hd2
        have hc2 := blk_row (HR.out.2.2.2.1.mod hmr (fun f => f)) HR.out.2.2.2.2 (i := k) (r := mkRow 80 1 ((k : Int) - n)) (by
          rw [List.getElem?_append_right (by rw [HR.out.2.2.1]; exact hd2), HR.out.2.2.1, mkRows_at 80 1 (by omega), e2])
        have hmk := fun w => markE_any 1 ((k : Int) - n) w (by omega) (by omega) (by omega) (by omega)
        have hok := mkRow_ok (s := 80) (by omega) 1 ((k : Int) - n)
        generalize mkRow 80 1 ((k : Int) - n) = r at *
        have HX := Lib.hid hc2
        have HL := Lib.hid hok
        have HM := Lib.hid hmr
        have HK := Lib.hid hmk
        have hgs : g < wo.heap.size := (HR.out.2.2.2.1.mod hmr (fun f => f)).lt
        clear hc2 hok hmr hmk e2
        go_upto_region 7 with fail
        refine wp_region_planC (fun w' => Mod Nn wo w')
          ((List.range 30).map (fun i => (i, true)) ++ [(30, false), (31, true), (32, true), (33, true), (34, true)]) (by kernel_rfl) (by kernel_rfl) (Mod.refl Nn wo).drew ?_
        simp only [List.range, List.range.loop, List.map_cons, List.map_nil, List.cons_append, List.nil_append]
        iterate 5 (refine pc_pure rfl rfl (fun K hK => ?_); go_simp; refine hK _ ?_; clear hK K)
        iterate 10 (refine pc_skip rfl rfl (fun K hK => ?_); go_simp; refine hK _ ?_; clear hK K)
        iterate 10 (refine pc_pure rfl rfl (fun K hK => ?_); go_simp; refine hK _ ?_; clear hK K)
        refine pc_take _ rfl rfl (fun w' hS => exec_load_cells (P := Tryz.prog) 43 _ rfl (cs := bv r) rfl (fun j v hv => (hS.cell (p := ⟨g, k * 80 + j, none⟩) hgs (fun f => f)).trans (HX.out j v hv)) Tryz.underlying43 rfl (by rw [size_ent, bv_len, HL.out.1])) (fun K hK => ?_); go_simp; refine hK _ ?_; clear hK K
        iterate 4 (refine pc_pure rfl rfl (fun K hK => ?_); go_simp; refine hK _ ?_; clear hK K)
        refine pc_call rfl rfl (fun K hK => ?_); go_simp; refine ⟨_, _, ⟨rfl, rfl⟩, hK _ _ _ ?_⟩; clear hK K
        rw [show IntKind.i64.wrap ((k : Int) - n) = (k : Int) - n from by rw [IntKind.wrap_i64]; omega]
        refine (HK.out _).mono ?_
        rintro r9 w9 ⟨rfl, m9⟩
        refine ⟨_, rfl, (Mod.refl Nn wo).drew.nn_ m9, ?_⟩
        have M9 := Lib.hid (HM.out.drew.nn_ m9)
        clear m9
        refine pc_take (.bool true) rfl rfl (fun w' _ => exec_eql_agg (P := Tryz.prog) (b := true) 43 43 _ _ rfl rfl rfl Tryz.eqGuardType43 (eqE_ HL.out.1 HL.out.2)) (fun K hK => ?_); go_simp; refine hK _ ?_; clear hK K
        iterate 3 (refine pc_pure rfl rfl (fun K hK => ?_); go_simp; refine hK _ ?_; clear hK K)
        refine pc_nil ?_
        clear HX
        go_wp2
        exact ⟨⟨k + 1, by omega, by go_num, M9.out⟩, by simp [intOf]; omega⟩
      · have hlt1 : ¬ (k : Int) < n + 12 := by omega
        go_wp2
        go_ret
        exact ⟨rfl, hmr⟩

set_option maxRecDepth 100000 in
set_option maxHeartbeats 1600000 in
theorem overE_any {w : World} {n g : Nat} {cs : Array Value} (hb : Blk w g 43 cs) (hc : cs.size = (n + 12) * 80) (hn : n ≤ 1000000000) :
    Calls Tryz.prog 56 #[.slice (some ⟨g, 0, none⟩) n (n + 12)] w fun r w' => r = .returned (.tuple #[]) ∧ Mod (At g) w w' := by
  go_enter Tryz.func56, Tryz.ntmps56
  go_wp2
  go_loopw [3] (fun i wr => ∃ k : Nat, k ≤ n + 12 ∧ i = .int .i64 k ∧ Hid (Mod (At g) w wr ∧ ∃ cs : Array Value, Blk wr g 43 cs ∧ cs.size = (n + 12) * 80)) (fun i _ => n + 12 - (intOf i).toNat)
  case atStart => exact ⟨0, by omega, rfl, Lib.hid ⟨Mod.refl _ _, cs, hb, hc⟩⟩
  case round =>
    clear hb hc
    obtain ⟨k, hk, rfl, hh⟩ := hrel
    obtain ⟨wo, rfl⟩ : ∃ wo : World, wo = wr := ⟨_, rfl⟩
    by_cases hlt : k < n + 12
    · have hlt' : (k : Int) < n + 12 := by omega
      go_wp2_with fail
      refine (markE_any 2 k _ (by omega) (by omega) (by omega) (by omega)).mono ?_
      rintro r w3 ⟨rfl, m3⟩
      have HM := Lib.hid (And.intro (mkRow_ok (s := 80) (by omega) 2 k) m3)
      generalize mkRow 80 2 k = R at *
      clear m3
      obtain ⟨hm, cs, hb, hc⟩ := hh.out
      have HB := Lib.hid (And.intro hm (And.intro (hb.mod HM.out.2 (fun f => f)) (And.intro hc (show k * 80 + (bv R).toArray.size ≤ cs.size by rw [bv_size, HM.out.1.1, hc]; omega))))
      clear hm hb hc hh
      go_wp2_with (first
        | (with_reducible change wpList _ _ _ (⟨none, Op.store _ _ _, _, _, _, _⟩ :: _) _ _
           go_must (refine wpList_store_at 43 _ _ rfl rfl g (k * 80) (bv R).toArray cs _ rfl rfl HB.out.2.1 (by rw [size_ent, bv_size, HM.out.1.1]) HB.out.2.2.2 (bv_all _) ?_)
           intro w9 b9 m9 z9
           have hq := (store_size HB.out.2.2.2).trans HB.out.2.2.1
           have H9 := Lib.hid (And.intro ((HB.out.1.nn_ HM.out.2).at_ m9 rfl) (And.intro b9 hq))
           clear b9 m9 z9 hq))
      exact ⟨⟨k + 1, by omega, by go_num, Lib.hid ⟨H9.out.1, _, H9.out.2.1, H9.out.2.2⟩⟩, by simp [intOf]; omega⟩
    · have hlt' : ¬ (k : Int) < n + 12 := by omega
      go_wp2
      go_end0
      exact ⟨rfl, hh.out.1⟩
end Go.Proofs.YtfoldjnmknaklaaGreat

/- peatbankkit over rows of api.TreeKey: markTreeKey, LentTreeKeys, KeptTreeKeys, OverTreeKeys (printed by wip/gen/kitrows.py). -/
namespace Go.Proofs.YtfoldjnmknaklaaGreat
open Go.RowKit

set_option maxRecDepth 100000 in
set_option maxHeartbeats 1600000 in
theorem markK_any (k i : Int) (w : World) (k0 : 0 ≤ k) (k1 : k ≤ 1000) (i0 : 0 ≤ i) (i1 : i ≤ 281474976710656) :
    Calls Tryz.prog 89 #[.int .i64 k, .int .i64 i] w fun r w' => r = .returned (.agg (bv (mkRow 40 k i)).toArray) ∧ Mod Nn w w' := by
  have hm : 0 ≤ mk0 k i ∧ mk0 k i ≤ 9223372036854775807 := by unfold mk0; omega
  have h0 := fun w => mark_any k i w k0 k1 i0 i1
  have hN := mkN_eq k i
  unfold mkRow
  generalize mkN k i = N at *
  generalize mk0 k i = M at *
  have HN := Lib.hid hN
  have HM := Lib.hid hm
  clear hN hm
  go_enter Tryz.func89, Tryz.ntmps89
  go_wp2_with (first
    | (with_reducible change wpList _ _ _ (⟨some 4, Op.alloc _, _, _, _, _⟩ :: _) _ _
       go_must (refine wpList_alloc_var 40 rfl rfl info_tk ?_)
       intro w1 b1 m1 z1
       have B1 := Lib.hid (And.intro b1 m1)
       clear b1 m1 z1))
  refine (h0 _).mono ?_
  rintro r w2 ⟨rfl, rfl⟩
  clear h0
  go_wp2_with (first
    | (with_reducible change wpList _ _ _ (⟨some 9, _, _, _, _, _⟩ :: _) _ _
       go_must (refine wpList_val rfl (exec_build_byte (P := Tryz.prog) 40 5 39 _ rfl Tryz.underlying40 (by kernel_rfl) (by kernel_rfl) (by exact congrArg (Value.int .u8) HN.out)) ?_))
    | (with_reducible change wpList _ _ _ (⟨none, Op.store _ _ _, _, _, _, _⟩ :: _) _ _
       go_must (refine wpList_store_var 40 _ _ rfl rfl w.heap.size (bv (N :: List.replicate (40 - 1) 0)).toArray (bv (List.replicate 40 0)).toArray _ rfl rfl B1.out.1 (by rw [size_tk, bv_size, List.length_cons, List.length_replicate]) (by rw [bv_size, bv_size, List.length_cons, List.length_replicate, List.length_replicate]) (bv_all _) ?_)
       intro w9 b9 m9 z9))
  exact bodyPost_ret (results_cell_row (P := Tryz.prog) rfl _ w9 _ _ _ (0, 0) _ rfl b9 Tryz.underlying40 rfl (by rw [size_tk, bv_size, List.length_cons, List.length_replicate])) rfl ⟨rfl, B1.out.2.new_ m9 (Nat.le_refl _)⟩

set_option maxRecDepth 100000 in
set_option maxHeartbeats 3200000 in
theorem lentK_any {w : World} {A : Option Addr} {n c : Nat} {L : List (List Nat)} (hr : RdC w A n 40 (bv L.flatten)) (hn : n ≤ 1000000000) :
    Calls Tryz.prog 50 #[.slice A n c] w fun r w' => ∃ g, r = .returned (.slice (some ⟨g, 0, none⟩) n (n + 12)) ∧ Blk w' g 40 (bv (L ++ mkRows 40 1 12).flatten).toArray ∧ Mod Nn w w' ∧ w.heap.size ≤ g := by
  have hmax : n + 12 ≤ maxLen := by simp only [maxLen]; omega
  have HR := Lib.hid hr; clear hr
  go_enter Tryz.func50, Tryz.ntmps50
  go_wp2_with (first
    | (with_reducible change wpList _ _ _ (⟨_, Op.makeSlice _ _ _, _, _, _, _⟩ :: _) _ _
       go_must (refine wpList_make_n 29 _ _ rfl rfl 40 _ 40 40 Tryz.underlying29 infoK_ 0 ((n : Int) + 12) 0 (n + 12) rfl rfl rfl (by omega) (by omega) (by omega) (by omega) ?_)
       intro w1 b1 m1 z1
       have own1 : w1.ownsRow w.heap.size 40 40 (.slice (some ⟨w.heap.size, 0, none⟩) 0 (n + 12)) 0 [] := own_of_blkS b1 (Nat.le_refl _) (by unfold madeCells; simp) hmax (by omega) (by simp)
       have O1 := Lib.hid (And.intro own1 m1)
       clear b1 z1 own1 m1)
    | (with_reducible change wpList _ _ _ (⟨some 11, _, _, _, _, _⟩ :: _) _ _
       go_must (refine wpList_append_spare_rd 29 _ _ rfl rfl w.heap.size 40 _ 40 40 Tryz.underlying29 infoK_ 0 (n + 12) [] rfl O1.out.1 A n c (bv L.flatten) rfl (HR.out.mod (by omega) O1.out.2 (fun _ _ f => f)) (bv_one _) (by omega) ?_)
       intro w2 own2 gr2
       have M2 : Mod Nn w w2 := O1.out.2.grown gr2 (fun g h => .inl (by injection h with h; omega))
       simp only [Nat.zero_add, List.nil_append] at own2 ⊢
       have O2 := Lib.hid (And.intro own2 M2)
       clear own2 M2 gr2))
  generalize hg : w.heap.size = g at *
  have HG := Lib.hid hg; clear hg
  go_loopw [3, 4] (fun v i wr => ∃ k : Nat, k ≤ 12 ∧ i = .int .i64 k ∧ v = .slice (some ⟨g, 0, none⟩) (n + k) (n + 12) ∧ Hid (wr.ownsRow g 40 40 (.slice (some ⟨g, 0, none⟩) (n + k) (n + 12)) (n + k) (bv (L ++ mkRows 40 1 k).flatten) ∧ Mod Nn w wr)) (fun _ i _ => 12 - (intOf i).toNat)
  case atStart => exact ⟨0, by omega, rfl, rfl, Lib.hid ⟨by simpa [mkRows] using O2.out.1, O2.out.2⟩⟩
  case round =>
    obtain ⟨k, hk, rfl, rfl, hown⟩ := hrel
    clear O2
    obtain ⟨wo, rfl⟩ : ∃ wo : World, wo = wr := ⟨_, rfl⟩
    by_cases hlt : k < 12
    · have hlt' : (k : Int) < 12 := by omega
      go_wp2_with fail
      refine (markK_any 1 k _ (by omega) (by omega) (by omega) (by omega)).mono ?_
      rintro r w3 ⟨rfl, m3⟩
      have HM := Lib.hid (And.intro (mkRows_succ 40 1 k) (mkRow_ok (s := 40) (by omega) 1 k))
      generalize mkRow 40 1 k = R at *
      have H3 := Lib.hid m3; clear m3
      go_wp2_with (first
        | (with_reducible change wpList _ _ _ (⟨some 19, _, _, _, _, _⟩ :: _) _ _
           go_must (refine wpList_val rfl (exec_bslice1 (P := Tryz.prog) 29 40 _ rfl (s := 40) Tryz.underlying29 info_tk (by omega) (by omega) rfl (X := (bv R).toArray) rfl (by rw [bv_size, HM.out.2.1])) ?_))
        | (with_reducible change wpList _ _ _ (⟨some 20, _, _, _, _, _⟩ :: _) _ _
           go_must (refine wpList_append_spare_rd 29 _ _ rfl rfl g 40 _ 40 40 Tryz.underlying29 infoK_ (n + k) (n + 12) _ rfl (own_mod hown.out.1 (H3.out.alloc _) (fun _ _ f => f)) _ 1 1 (bv R) rfl (RdC.of_blk (Blk.new _ _ _) (by rw [bv_len, HM.out.2.1])) (bv_one _) (by omega) ?_)
           intro w4 own4 gr4
           have M4 : Mod Nn w w4 := (hown.out.2.nn_ (H3.out.alloc _)).grown gr4 (fun g' h => .inl (by injection h with h; have := HG.out; omega))
           rw [← flat_snoc, List.append_assoc, ← HM.out.1] at own4
           have O4 := Lib.hid (And.intro own4 M4)
           clear own4 gr4 M4))
      exact ⟨⟨k + 1, by omega, by go_num, rfl, O4⟩, by simp [intOf]; omega⟩
    · have hlt' : ¬ (k : Int) < 12 := by omega
      have hk12 : k = 12 := by omega
      subst hk12
      have hb := Lib.hid (And.intro (blk_of_ownS hown.out.1) hown.out.2)
      clear hown hlt
      go_wp2
      go_ret
      exact ⟨g, rfl, (by rw [← List.flatten_append]; exact hb.out.1), hb.out.2, by have := HG.out; omega⟩

set_option maxRecDepth 100000 in
set_option maxHeartbeats 4000000 in
theorem keptK_any {w : World} {A : Option Addr} {n c g : Nat} {L : List (List Nat)} (hr : RdC w A n 40 (bv L.flatten)) (hL : Rows 40 L) (hln : L.length = n) (hb : Blk w g 40 (bv (L ++ mkRows 40 1 12).flatten).toArray) (hn : n ≤ 1000000000) :
    Calls Tryz.prog 54 #[.slice (some ⟨g, 0, none⟩) n (n + 12), .slice A n c] w fun r w' => r = .returned (.bool true) ∧ Mod Nn w w' := by
  have hbn : ((n : Int) != n) = false := by simp
  have HR := Lib.hid (And.intro hr (And.intro hL (And.intro hln (And.intro hb (hL.append (mkRows_ok (s := 40) (by omega) 1 12)))))); clear hr hL hln hb
  go_enter Tryz.func54, Tryz.ntmps54
  go_wp2
  go_loopw [6] (fun i wr => ∃ k : Nat, k ≤ n + 12 ∧ i = .int .i64 k ∧ Mod Nn w wr) (fun i _ => n + 12 - (intOf i).toNat)
  case atStart => exact ⟨0, by omega, rfl, Mod.refl _ _⟩
  case round =>
    obtain ⟨k, hk, rfl, hmr⟩ := hrel
    obtain ⟨wo, rfl⟩ : ∃ wo : World, wo = wr := ⟨_, rfl⟩
    by_cases hlt : k < n
    · have hlt1 : (k : Int) < n + 12 := by omega
      have hlt2 : (k : Int) < n := by omega
      have hd2 : ¬ n ≤ k := by omega
      obtain ⟨r, i1⟩ : ∃ r, L[k]? = some r := ⟨_, List.getElem?_eq_getElem (by rw [HR.out.2.2.1]; exact hlt)⟩
      obtain ⟨l1, z1⟩ := HR.out.2.1 r (List.mem_of_getElem? i1)
      obtain ⟨g', off, rfl, hc1⟩ := (HR.out.1.mod (by omega) hmr (fun _ _ f => f)).row HR.out.2.1 i1 (by omega)
      have hc2 := blk_row (HR.out.2.2.2.1.mod hmr (fun f => f)) HR.out.2.2.2.2 (i := k) (r := r) (by rw [List.getElem?_append_left (List.getElem?_eq_some_iff.1 i1).1]; exact i1)
      have HX := Lib.hid (And.intro hc2 hc1)
      have HL := Lib.hid (And.intro l1 z1)
      have HM := Lib.hid hmr
      clear hc1 hc2 l1 z1 i1 hmr
      go_upto_region 7 with fail
      refine wp_region_planC (fun w' => (∀ j v, (bv r)[j]? = some v → w'.cell? ⟨g, k * 40 + j, none⟩ = some v) ∧ (∀ j v, (bv r)[j]? = some v → w'.cell? ⟨g', off + k * 40 + j, none⟩ = some v))
        ((List.range 35).map (fun i => (i, true))) (by kernel_rfl) (by kernel_rfl) HX.out ?_
      simp only [List.range, List.range.loop, List.map_cons, List.map_nil]
      iterate 8 (refine pc_pure rfl rfl (fun K hK => ?_); go_simp; refine hK _ ?_; clear hK K)
      refine pc_take _ rfl rfl (fun w' hS => exec_load_cells (P := Tryz.prog) 40 _ rfl (cs := bv r) rfl hS.1 Tryz.underlying40 rfl (by rw [size_tk, bv_len, HL.out.1])) (fun K hK => ?_); go_simp; refine hK _ ?_; clear hK K
      iterate 3 (refine pc_pure rfl rfl (fun K hK => ?_); go_simp; refine hK _ ?_; clear hK K)
      refine pc_take _ rfl rfl (fun w' hS => exec_load_cells (P := Tryz.prog) 40 _ rfl (cs := bv r) rfl hS.2 Tryz.underlying40 rfl (by rw [size_tk, bv_len, HL.out.1])) (fun K hK => ?_); go_simp; refine hK _ ?_; clear hK K
      refine pc_take (.bool true) rfl rfl (fun w' _ => exec_eql_agg (P := Tryz.prog) (b := true) 40 40 _ _ rfl rfl rfl Tryz.eqGuardType40 (eqK HL.out.1 HL.out.2)) (fun K hK => ?_); go_simp; refine hK _ ?_; clear hK K
      iterate 8 (refine pc_pure rfl rfl (fun K hK => ?_); go_simp; refine hK _ ?_; clear hK K)
      iterate 11 (refine pc_skip rfl rfl (fun K hK => ?_); go_simp; refine hK _ ?_; clear hK K)
      iterate 2 (refine pc_pure rfl rfl (fun K hK => ?_); go_simp; refine hK _ ?_; clear hK K)
      refine pc_nil ?_
      clear HX
      go_wp2
      exact ⟨⟨k + 1, by omega, by go_num, HM.out.drew⟩, by simp [intOf]; omega⟩
    · by_cases hlt12 : k < n + 12
      · have hlt1 : (k : Int) < n + 12 := by omega
        have hlt2 : ¬ (k : Int) < n := by omega
        have hd2 : n ≤ k := by omega
        have e2 : ((k - n : Nat) : Int) = (k : Int) - n := Int.ofNat_sub hd2
        have hc2 := blk_row (HR.out.2.2.2.1.mod hmr (fun f => f)) HR.out.2.2.2.2 (i := k) (r := mkRow 40 1 ((k : Int) - n)) (by
          rw [List.getElem?_append_right (by rw [HR.out.2.2.1]; exact hd2), HR.out.2.2.1, mkRows_at 40 1 (by omega), e2])
        have hmk := fun w => markK_any 1 ((k : Int) - n) w (by omega) (by omega) (by omega) (by omega)
        have hok := mkRow_ok (s := 40) (by omega) 1 ((k : Int) - n)
        generalize mkRow 40 1 ((k : Int) - n) = r at *
        have HX := Lib.hid hc2
        have HL := Lib.hid hok
        have HM := Lib.hid hmr
        have HK := Lib.hid hmk
        have hgs : g < wo.heap.size := (HR.out.2.2.2.1.mod hmr (fun f => f)).lt
        clear hc2 hok hmr hmk e2
        go_upto_region 7 with fail
        refine wp_region_planC (fun w' => Mod Nn wo w')
          ((List.range 30).map (fun i => (i, true)) ++ [(30, false), (31, true), (32, true), (33, true), (34, true)]) (by kernel_rfl) (by kernel_rfl) (Mod.refl Nn wo).drew ?_
        simp only [List.range, List.range.loop, List.map_cons, List.map_nil, List.cons_append, List.nil_append]
        iterate 5 (refine pc_pure rfl rfl (fun K hK => ?_); go_simp; refine hK _ ?_; clear hK K)
        iterate 10 (refine pc_skip rfl rfl (fun K hK => ?_); go_simp; refine hK _ ?_; clear hK K)
        iterate 10 (refine pc_pure rfl rfl (fun K hK => ?_); go_simp; refine hK _ ?_; clear hK K)
        refine pc_take _ rfl rfl (fun w' hS => exec_load_cells (P := Tryz.prog) 40 _ rfl (cs := bv r) rfl (fun j v hv => (hS.cell (p := ⟨g, k * 40 + j, none⟩) hgs (fun f => f)).trans (HX.out j v hv)) Tryz.underlying40 rfl (by rw [size_tk, bv_len, HL.out.1])) (fun K hK => ?_); go_simp; refine hK _ ?_; clear hK K
        iterate 4 (refine pc_pure rfl rfl (fun K hK => ?_); go_simp; refine hK _ ?_; clear hK K)
        refine pc_call rfl rfl (fun K hK => ?_); go_simp; refine ⟨_, _, ⟨rfl, rfl⟩, hK _ _ _ ?_⟩; clear hK K
        rw [show IntKind.i64.wrap ((k : Int) - n) = (k : Int) - n from by rw [IntKind.wrap_i64]; omega]
        refine (HK.out _).mono ?_
        rintro r9 w9 ⟨rfl, m9⟩
        refine ⟨_, rfl, (Mod.refl Nn wo).drew.nn_ m9, ?_⟩
        have M9 := Lib.hid (HM.out.drew.nn_ m9)
        clear m9
        refine pc_take (.bool true) rfl rfl (fun w' _ => exec_eql_agg (P := Tryz.prog) (b := true) 40 40 _ _ rfl rfl rfl Tryz.eqGuardType40 (eqK HL.out.1 HL.out.2)) (fun K hK => ?_); go_simp; refine hK _ ?_; clear hK K
        iterate 3 (refine pc_pure rfl rfl (fun K hK => ?_); go_simp; refine hK _ ?_; clear hK K)
        refine pc_nil ?_
        clear HX
        go_wp2
        exact ⟨⟨k + 1, by omega, by go_num, M9.out⟩, by simp [intOf]; omega⟩
      · have hlt1 : ¬ (k : Int) < n + 12 := by omega
        go_wp2
        go_ret
        exact ⟨rfl, hmr⟩

set_option maxRecDepth 100000 in
set_option maxHeartbeats 1600000 in
theorem overK_any {w : World} {n g : Nat} {cs : Array Value} (hb : Blk w g 40 cs) (hc : cs.size = (n + 12) * 40) (hn : n ≤ 1000000000) :
    Calls Tryz.prog 57 #[.slice (some ⟨g, 0, none⟩) n (n + 12)] w fun r w' => r = .returned (.tuple #[]) ∧ Mod (At g) w w' := by
  go_enter Tryz.func57, Tryz.ntmps57
  go_wp2
  go_loopw [3] (fun i wr => ∃ k : Nat, k ≤ n + 12 ∧ i = .int .i64 k ∧ Hid (Mod (At g) w wr ∧ ∃ cs : Array Value, Blk wr g 40 cs ∧ cs.size = (n + 12) * 40)) (fun i _ => n + 12 - (intOf i).toNat)
  case atStart => exact ⟨0, by omega, rfl, Lib.hid ⟨Mod.refl _ _, cs, hb, hc⟩⟩
  case round =>
    clear hb hc
    obtain ⟨k, hk, rfl, hh⟩ := hrel
    obtain ⟨wo, rfl⟩ : ∃ wo : World, wo = wr := ⟨_, rfl⟩
    by_cases hlt : k < n + 12
    · have hlt' : (k : Int) < n + 12 := by omega
      go_wp2_with fail
      refine (markK_any 2 k _ (by omega) (by omega) (by omega) (by omega)).mono ?_
      rintro r w3 ⟨rfl, m3⟩
      have HM := Lib.hid (And.intro (mkRow_ok (s := 40) (by omega) 2 k) m3)
      generalize mkRow 40 2 k = R at *
      clear m3
      obtain ⟨hm, cs, hb, hc⟩ := hh.out
      have HB := Lib.hid (And.intro hm (And.intro (hb.mod HM.out.2 (fun f => f)) (And.intro hc (show k * 40 + (bv R).toArray.size ≤ cs.size by rw [bv_size, HM.out.1.1, hc]; omega))))
      clear hm hb hc hh
      go_wp2_with (first
        | (with_reducible change wpList _ _ _ (⟨none, Op.store _ _ _, _, _, _, _⟩ :: _) _ _
           go_must (refine wpList_store_at 40 _ _ rfl rfl g (k * 40) (bv R).toArray cs _ rfl rfl HB.out.2.1 (by rw [size_tk, bv_size, HM.out.1.1]) HB.out.2.2.2 (bv_all _) ?_)
           intro w9 b9 m9 z9
           have hq := (store_size HB.out.2.2.2).trans HB.out.2.2.1
           have H9 := Lib.hid (And.intro ((HB.out.1.nn_ HM.out.2).at_ m9 rfl) (And.intro b9 hq))
           clear b9 m9 z9 hq))
      exact ⟨⟨k + 1, by omega, by go_num, Lib.hid ⟨H9.out.1, _, H9.out.2.1, H9.out.2.2⟩⟩, by simp [intOf]; omega⟩
    · have hlt' : ¬ (k : Int) < n + 12 := by omega
      go_wp2
      go_end0
      exact ⟨rfl, hh.out.1⟩
end Go.Proofs.YtfoldjnmknaklaaGreat

/- peatbankkit over rows of int: LentInts, KeptInts, OverInts (printed by wip/gen/kitints.py). -/
namespace Go.Proofs.YtfoldjnmknaklaaGreat
open Go.RowKit

def mki (k : Int) (m : Nat) : List Int := (List.range m).map (fun i : Nat => mk0 k i)
theorem mki_succ (k : Int) (m : Nat) : mki k (m + 1) = mki k m ++ [mk0 k m] := by unfold mki; rw [List.range_succ, List.map_append]; rfl
theorem mki_len (k : Int) (m : Nat) : (mki k m).length = m := by simp [mki]

set_option maxRecDepth 100000 in
set_option maxHeartbeats 1600000 in
theorem lentI_any {w : World} {A : Option Addr} {n c : Nat} {xs : List Int} (hr : Rd w A n (xs.map (Value.int .i64))) (hn : n ≤ 1099511627776) :
    Calls Tryz.prog 51 #[.slice A n c] w fun r w' => ∃ g, r = .returned (.slice (some ⟨g, 0, none⟩) n (n + 12)) ∧ Blk w' g 3 ((xs ++ mki 1 12).map (Value.int .i64)).toArray ∧ Mod Nn w w' ∧ w.heap.size ≤ g := by
  have hmax : n + 12 ≤ maxLen := by simp only [maxLen]; omega
  go_enter Tryz.func51, Tryz.ntmps51
  go_wp2_with (first
    | (with_reducible change wpList _ _ _ (⟨_, Op.makeSlice _ _ _, _, _, _, _⟩ :: _) _ _
       go_must (refine wpList_make1 30 _ _ rfl rfl 3 (.int .i64 0) 8 Tryz.underlying30 info_i64 rfl 0 ((n : Int) + 12) 0 (n + 12) rfl rfl rfl (by omega) (by omega) (by omega) (by omega) ?_)
       intro w1 b1 m1 z1
       have own1 : w1.ownsRow w.heap.size 3 1 (.slice (some ⟨w.heap.size, 0, none⟩) 0 (n + 12)) 0 [] := own_of_blk b1 (Nat.le_refl _) (by simp) hmax (by omega) (by simp)
       clear b1 z1)
    | (with_reducible change wpList _ _ _ (⟨some 11, _, _, _, _, _⟩ :: _) _ _
       go_must (refine wpList_append_spare_rd 30 _ _ rfl rfl w.heap.size 3 (.int .i64 0) 1 8 Tryz.underlying30 info_i64 0 (n + 12) [] rfl own1 A n c (xs.map (Value.int .i64)) rfl (hr.mod m1 (fun _ _ f => f)).toC (ints_oneCell _ _) (by omega) ?_)
       intro w2 own2 gr2
       have M2 : Mod Nn w w2 := m1.grown gr2 (fun g h => .inl (by injection h with h; omega))
       simp only [Nat.zero_add, List.nil_append] at own2 ⊢
       clear own1 m1 gr2))
  generalize hg : w.heap.size = g at *
  have HG := Lib.hid hg; clear hg
  go_loopw [3, 4] (fun v i wr => ∃ k : Nat, k ≤ 12 ∧ i = .int .i64 k ∧ v = .slice (some ⟨g, 0, none⟩) (n + k) (n + 12) ∧ wr.ownsRow g 3 1 (.slice (some ⟨g, 0, none⟩) (n + k) (n + 12)) (n + k) ((xs ++ mki 1 k).map (Value.int .i64)) ∧ Mod Nn w wr) (fun _ i _ => 12 - (intOf i).toNat)
  case atStart => exact ⟨0, by omega, rfl, rfl, by simpa [mki] using own2, M2⟩
  case round =>
    obtain ⟨k, hk, rfl, rfl, hown, hmr⟩ := hrel
    clear own2 M2
    obtain ⟨wo, rfl⟩ : ∃ wo : World, wo = wr := ⟨_, rfl⟩
    by_cases hlt : k < 12
    · have hlt' : (k : Int) < 12 := by omega
      go_wp2_with fail
      refine (mark_any 1 k _ (by omega) (by omega) (by omega) (by omega)).mono ?_
      rintro r w3 ⟨rfl, rfl⟩
      have HM := Lib.hid (mki_succ 1 k)
      generalize mk0 1 k = B at *
      go_wp2_with (first
        | (with_reducible change wpList _ _ _ (⟨some 20, _, _, _, _, _⟩ :: _) _ _
           go_must (refine wpList_append_spare_rd 30 _ _ rfl rfl g 3 (.int .i64 0) 1 8 Tryz.underlying30 info_i64 (n + k) (n + 12) _ rfl (own_mod hown ((Mod.refl Nn _).alloc _) (fun _ _ f => f)) _ 1 1 ([B].map (Value.int .i64)) rfl (Rd.of_blk0 (Blk.new _ _ _) rfl).toC (ints_oneCell _ _) (by omega) ?_)
           intro w4 own4 gr4))
      have M4 : Mod Nn w w4 := (hmr.alloc _).grown gr4 (fun g' h => .inl (by injection h with h; have := HG.out; omega))
      rw [← List.map_append, List.append_assoc, ← HM.out] at own4
      exact ⟨⟨k + 1, by omega, by go_num, rfl, own4, M4⟩, by simp [intOf]; omega⟩
    · have hlt' : ¬ (k : Int) < 12 := by omega
      have hk12 : k = 12 := by omega
      subst hk12
      have hb := blk_of_own hown
      rw [List.map_append] at hb
      clear hown hlt
      go_wp2
      go_ret
      exact ⟨g, rfl, hb, hmr, by have := HG.out; omega⟩

set_option maxRecDepth 100000 in
set_option maxHeartbeats 4000000 in
theorem keptI_any {w : World} {A : Option Addr} {n c g : Nat} {xs : List Int} (hr : Rd w A n (xs.map (Value.int .i64))) (hb : Blk w g 3 ((xs ++ mki 1 12).map (Value.int .i64)).toArray) (hn : n ≤ 1099511627776) :
    Calls Tryz.prog 55 #[.slice (some ⟨g, 0, none⟩) n (n + 12), .slice A n c] w fun r w' => r = .returned (.bool true) ∧ Mod Nn w w' := by
  have hxl : xs.length = n := by simpa using hr.1
  have HXL := Lib.hid hxl; clear hxl
  go_enter Tryz.func55, Tryz.ntmps55
  go_wp2
  go_loopw [6] (fun i wr => ∃ k : Nat, k ≤ n + 12 ∧ i = .int .i64 k ∧ Mod Nn w wr) (fun i _ => n + 12 - (intOf i).toNat)
  case atStart => exact ⟨0, by omega, rfl, Mod.refl _ _⟩
  case round =>
    obtain ⟨k, hk, rfl, hmr⟩ := hrel
    obtain ⟨wo, rfl⟩ : ∃ wo : World, wo = wr := ⟨_, rfl⟩
    have hbo := hb.mod hmr (fun f => f)
    by_cases hlt : k < n
    · have hlt1 : (k : Int) < n + 12 := by omega
      have hlt2 : (k : Int) < n := by omega
      obtain ⟨g', off, v, rfl, hv, hc⟩ := (hr.mod hmr (fun _ _ f => f)).at_ hlt
      have hd2 : ¬ n ≤ k := by omega
      rw [List.getElem?_map] at hv
      obtain ⟨z, hz, rfl⟩ := Option.map_eq_some_iff.1 hv
      have cg : wo.cell? ⟨g, k, none⟩ = some (.int .i64 z) := by
        rw [hbo.cell k, List.getElem?_toArray, List.getElem?_map, List.getElem?_append_left (by rw [HXL.out]; exact hlt), hz]; rfl
      clear hv hz hbo hb hr
      go_upto_region 7 with fail
      refine wp_region_planC (fun w' => w'.cell? ⟨g, k, none⟩ = some (.int .i64 z) ∧ w'.cell? ⟨g', off + k, none⟩ = some (.int .i64 z) ∧ Mod Nn w w')
        ((List.range 35).map (fun i => (i, true))) (by kernel_rfl) (by kernel_rfl) ⟨cg, hc, hmr.drew⟩ ?_
      simp only [List.range, List.range.loop, List.map_cons, List.map_nil]
      refine pc_pure rfl rfl (fun K hK => ?_); go_simp; refine hK _ ?_; clear hK K
      refine pc_pure rfl rfl (fun K hK => ?_); go_simp; refine hK _ ?_; clear hK K
      refine pc_pure rfl rfl (fun K hK => ?_); go_simp; refine hK _ ?_; clear hK K
      refine pc_pure rfl rfl (fun K hK => ?_); go_simp; refine hK _ ?_; clear hK K
      refine pc_pure rfl rfl (fun K hK => ?_); go_simp; refine hK _ ?_; clear hK K
      refine pc_pure rfl rfl (fun K hK => ?_); go_simp; refine hK _ ?_; clear hK K
      refine pc_pure rfl rfl (fun K hK => ?_); go_simp; refine hK _ ?_; clear hK K
      refine pc_pure rfl rfl (fun K hK => ?_); go_simp; refine hK _ ?_; clear hK K
      refine pc_take _ rfl rfl (fun w' hS => exec_load1 (P := Tryz.prog) 3 _ rfl rfl hS.1 Tryz.underlying3 rfl) (fun K hK => ?_); go_simp; refine hK _ ?_; clear hK K
      refine pc_pure rfl rfl (fun K hK => ?_); go_simp; refine hK _ ?_; clear hK K
      refine pc_pure rfl rfl (fun K hK => ?_); go_simp; refine hK _ ?_; clear hK K
      refine pc_pure rfl rfl (fun K hK => ?_); go_simp; refine hK _ ?_; clear hK K
      refine pc_take _ rfl rfl (fun w' hS => exec_load1 (P := Tryz.prog) 3 _ rfl rfl hS.2.1 Tryz.underlying3 rfl) (fun K hK => ?_); go_simp; refine hK _ ?_; clear hK K
      refine pc_pure rfl rfl (fun K hK => ?_); go_simp; refine hK _ ?_; clear hK K
      refine pc_pure rfl rfl (fun K hK => ?_); go_simp; refine hK _ ?_; clear hK K
      refine pc_pure rfl rfl (fun K hK => ?_); go_simp; refine hK _ ?_; clear hK K
      refine pc_pure rfl rfl (fun K hK => ?_); go_simp; refine hK _ ?_; clear hK K
      refine pc_pure rfl rfl (fun K hK => ?_); go_simp; refine hK _ ?_; clear hK K
      refine pc_pure rfl rfl (fun K hK => ?_); go_simp; refine hK _ ?_; clear hK K
      refine pc_pure rfl rfl (fun K hK => ?_); go_simp; refine hK _ ?_; clear hK K
      refine pc_pure rfl rfl (fun K hK => ?_); go_simp; refine hK _ ?_; clear hK K
      refine pc_pure rfl rfl (fun K hK => ?_); go_simp; refine hK _ ?_; clear hK K
      refine pc_skip rfl rfl (fun K hK => ?_); go_simp; refine hK _ ?_; clear hK K
      refine pc_skip rfl rfl (fun K hK => ?_); go_simp; refine hK _ ?_; clear hK K
      refine pc_skip rfl rfl (fun K hK => ?_); go_simp; refine hK _ ?_; clear hK K
      refine pc_skip rfl rfl (fun K hK => ?_); go_simp; refine hK _ ?_; clear hK K
      refine pc_skip rfl rfl (fun K hK => ?_); go_simp; refine hK _ ?_; clear hK K
      refine pc_skip rfl rfl (fun K hK => ?_); go_simp; refine hK _ ?_; clear hK K
      refine pc_skip rfl rfl (fun K hK => ?_); go_simp; refine hK _ ?_; clear hK K
      refine pc_skip rfl rfl (fun K hK => ?_); go_simp; refine hK _ ?_; clear hK K
      refine pc_skip rfl rfl (fun K hK => ?_); go_simp; refine hK _ ?_; clear hK K
      refine pc_skip rfl rfl (fun K hK => ?_); go_simp; refine hK _ ?_; clear hK K
      refine pc_skip rfl rfl (fun K hK => ?_); go_simp; refine hK _ ?_; clear hK K
      refine pc_pure rfl rfl (fun K hK => ?_); go_simp; refine hK _ ?_; clear hK K
      refine pc_pure rfl rfl (fun K hK => ?_); go_simp; refine hK _ ?_; clear hK K
      refine pc_nil ?_
      go_wp2
      exact ⟨⟨k + 1, by omega, by go_num, hmr.drew⟩, by simp [intOf]; omega⟩
    · by_cases hlt12 : k < n + 12
      · have hlt1 : (k : Int) < n + 12 := by omega
        have hlt2 : ¬ (k : Int) < n := by omega
        have hd2 : n ≤ k := by omega
        have cg : wo.cell? ⟨g, k, none⟩ = some (.int .i64 (mk0 1 ((k : Int) - n))) := by
          rw [hbo.cell k, List.getElem?_toArray, List.getElem?_map, List.getElem?_append_right (by rw [HXL.out]; exact hd2), HXL.out]
          unfold mki
          rw [List.getElem?_map, List.getElem?_range (by omega)]
          show some (Value.int .i64 (mk0 1 ((k - n : Nat) : Int))) = _
          rw [Int.ofNat_sub hd2]
        have hmk := fun w => mark_any 1 ((k : Int) - n) w (by omega) (by omega) (by omega) (by omega)
        generalize mk0 1 ((k : Int) - n) = z at *
        have HM := Lib.hid hmk
        clear hbo hb hr hmk
        go_upto_region 7 with fail
        refine wp_region_planC (fun w' => w'.cell? ⟨g, k, none⟩ = some (.int .i64 z) ∧ Mod Nn w w')
          ((List.range 30).map (fun i => (i, true)) ++ [(30, false), (31, true), (32, true), (33, true), (34, true)]) (by kernel_rfl) (by kernel_rfl) ⟨cg, hmr.drew⟩ ?_
        simp only [List.range, List.range.loop, List.map_cons, List.map_nil, List.cons_append, List.nil_append]
        refine pc_pure rfl rfl (fun K hK => ?_); go_simp; refine hK _ ?_; clear hK K
        refine pc_pure rfl rfl (fun K hK => ?_); go_simp; refine hK _ ?_; clear hK K
        refine pc_pure rfl rfl (fun K hK => ?_); go_simp; refine hK _ ?_; clear hK K
        refine pc_pure rfl rfl (fun K hK => ?_); go_simp; refine hK _ ?_; clear hK K
        refine pc_pure rfl rfl (fun K hK => ?_); go_simp; refine hK _ ?_; clear hK K
        refine pc_skip rfl rfl (fun K hK => ?_); go_simp; refine hK _ ?_; clear hK K
        refine pc_skip rfl rfl (fun K hK => ?_); go_simp; refine hK _ ?_; clear hK K
        refine pc_skip rfl rfl (fun K hK => ?_); go_simp; refine hK _ ?_; clear hK K
        refine pc_skip rfl rfl (fun K hK => ?_); go_simp; refine hK _ ?_; clear hK K
        refine pc_skip rfl rfl (fun K hK => ?_); go_simp; refine hK _ ?_; clear hK K
        refine pc_skip rfl rfl (fun K hK => ?_); go_simp; refine hK _ ?_; clear hK K
        refine pc_skip rfl rfl (fun K hK => ?_); go_simp; refine hK _ ?_; clear hK K
        refine pc_skip rfl rfl (fun K hK => ?_); go_simp; refine hK _ ?_; clear hK K
        refine pc_skip rfl rfl (fun K hK => ?_); go_simp; refine hK _ ?_; clear hK K
        refine pc_skip rfl rfl (fun K hK => ?_); go_simp; refine hK _ ?_; clear hK K
        refine pc_pure rfl rfl (fun K hK => ?_); go_simp; refine hK _ ?_; clear hK K
        refine pc_pure rfl rfl (fun K hK => ?_); go_simp; refine hK _ ?_; clear hK K
        refine pc_pure rfl rfl (fun K hK => ?_); go_simp; refine hK _ ?_; clear hK K
        refine pc_pure rfl rfl (fun K hK => ?_); go_simp; refine hK _ ?_; clear hK K
        refine pc_pure rfl rfl (fun K hK => ?_); go_simp; refine hK _ ?_; clear hK K
        refine pc_pure rfl rfl (fun K hK => ?_); go_simp; refine hK _ ?_; clear hK K
        refine pc_pure rfl rfl (fun K hK => ?_); go_simp; refine hK _ ?_; clear hK K
        refine pc_pure rfl rfl (fun K hK => ?_); go_simp; refine hK _ ?_; clear hK K
        refine pc_pure rfl rfl (fun K hK => ?_); go_simp; refine hK _ ?_; clear hK K
        refine pc_pure rfl rfl (fun K hK => ?_); go_simp; refine hK _ ?_; clear hK K
        refine pc_take _ rfl rfl (fun w' hS => exec_load1 (P := Tryz.prog) 3 _ rfl rfl hS.1 Tryz.underlying3 rfl) (fun K hK => ?_); go_simp; refine hK _ ?_; clear hK K
        refine pc_pure rfl rfl (fun K hK => ?_); go_simp; refine hK _ ?_; clear hK K
        refine pc_pure rfl rfl (fun K hK => ?_); go_simp; refine hK _ ?_; clear hK K
        refine pc_pure rfl rfl (fun K hK => ?_); go_simp; refine hK _ ?_; clear hK K
        refine pc_pure rfl rfl (fun K hK => ?_); go_simp; refine hK _ ?_; clear hK K
        refine pc_call rfl rfl (fun K hK => ?_); go_simp; refine ⟨_, _, ⟨rfl, rfl⟩, hK _ _ _ ?_⟩; clear hK K
        rw [show IntKind.i64.wrap ((k : Int) - n) = (k : Int) - n from by rw [IntKind.wrap_i64]; omega]
        refine (HM.out _).mono ?_
        rintro r w9 ⟨rfl, rfl⟩
        refine ⟨_, rfl, ⟨cg, hmr.drew⟩, ?_⟩
        refine pc_pure rfl rfl (fun K hK => ?_); go_simp; refine hK _ ?_; clear hK K
        refine pc_pure rfl rfl (fun K hK => ?_); go_simp; refine hK _ ?_; clear hK K
        refine pc_pure rfl rfl (fun K hK => ?_); go_simp; refine hK _ ?_; clear hK K
        refine pc_pure rfl rfl (fun K hK => ?_); go_simp; refine hK _ ?_; clear hK K
        refine pc_nil ?_
        go_wp2
        exact ⟨⟨k + 1, by omega, by go_num, hmr.drew⟩, by simp [intOf]; omega⟩
      · have hlt1 : ¬ (k : Int) < n + 12 := by omega
        clear hbo hb hr
        go_wp2
        go_ret
        exact ⟨rfl, hmr⟩

set_option maxRecDepth 100000 in
set_option maxHeartbeats 1600000 in
theorem overI_any {w : World} {n g : Nat} {cs : Array Value} (hb : Blk w g 3 cs) (hc : cs.size = n + 12) (hn : n ≤ 1099511627776) :
    Calls Tryz.prog 58 #[.slice (some ⟨g, 0, none⟩) n (n + 12)] w fun r w' => r = .returned (.tuple #[]) ∧ Mod (At g) w w' := by
  go_enter Tryz.func58, Tryz.ntmps58
  go_wp2
  go_loopw [3] (fun i wr => ∃ k : Nat, k ≤ n + 12 ∧ i = .int .i64 k ∧ Mod (At g) w wr ∧ ∃ cs : Array Value, Blk wr g 3 cs ∧ cs.size = n + 12) (fun i _ => n + 12 - (intOf i).toNat)
  case atStart => exact ⟨0, by omega, rfl, Mod.refl _ _, cs, hb, hc⟩
  case round =>
    clear hb hc
    obtain ⟨k, hk, rfl, hm, cs, hb, hc⟩ := hrel
    obtain ⟨wo, rfl⟩ : ∃ wo : World, wo = wr := ⟨_, rfl⟩
    by_cases hlt : k < n + 12
    · have hlt' : (k : Int) < n + 12 := by omega
      have hcell : wo.cell? ⟨g, k, none⟩ = some (cs[k]'(by omega)) := by rw [hb.cell k]; exact Array.getElem?_eq_getElem _
      generalize cs[k]'(by omega) = u at *
      have hfz := hb.frozen k
      have HB := Lib.hid (And.intro hm (And.intro hb hc))
      clear hm hb hc
      go_wp2_with fail
      refine (mark_any 2 k _ (by omega) (by omega) (by omega) (by omega)).mono ?_
      rintro r w3 ⟨rfl, rfl⟩
      generalize mk0 2 k = B at *
      go_wp2
      exact ⟨⟨k + 1, by omega, by go_num, HB.out.1.setCell (p := ⟨g, k, none⟩) (.inr rfl) _, _, HB.out.2.1.set_ k _, by rw [Array.size_setIfInBounds]; exact HB.out.2.2⟩, by simp [intOf]; omega⟩
    · have hlt' : ¬ (k : Int) < n + 12 := by omega
      clear hb
      go_wp2
      go_end0
      exact ⟨rfl, hm⟩
end Go.Proofs.YtfoldjnmknaklaaGreat
