/- Own lemmas of several kinds, put together: NdR6, NdR7, NdR8. -/
import Derived.Test.YtfoldjnmknaklaaGreatNdRb
/- peatbankref15.Get: a leaf's page. Printed by gen/ndrget.py. -/
namespace Go.Proofs.YtfoldjnmknaklaaGreat
open Go.RowKit

section
variable {w w' : World} {A : Option Addr} {n c : Nat} {l : List Nat}
set_option maxRecDepth 100000 in
set_option maxHeartbeats 3200000 in
theorem rget_leaf (hr : Rd w A n (bv l)) (hn : n = 1024) (hc : n ≤ c) (hz : ∀ z ∈ l, z < 256) (hcnt : cntOk l) (hlf : l.getD 0 0 = 1) : Calls Tryz.prog 24 #[.slice A n c] w (GetP w l) := by
  obtain ⟨g, off, rfl, hcell⟩ := hr.2 (by rw [hn]; omega)
  subst hn
  obtain ⟨b0, hb0⟩ : ∃ b, l.getD 0 0 = b := ⟨_, rfl⟩
  obtain ⟨b1, hb1⟩ : ∃ b, l.getD 1 0 = b := ⟨_, rfl⟩
  have hL : l.length = 1024 := by have := hr.1; rwa [bv_len] at this
  have hg : g < w.heap.size := World.block_lt_of_cell? w _ (hcell 0 _ (List.getElem?_eq_getElem (by rw [bv_len]; omega)))
  have hat : ∀ w', Mod Nn w w' → ∀ i, i < 1024 → w'.cell? ⟨g, off + i, none⟩ = some (.int .u8 ((l.getD i 0 : Nat) : Int)) := fun w' hm i hi => by
    refine (hm.cell (p := ⟨g, off + i, none⟩) hg (fun f => f)).trans (hcell i _ ?_)
    rw [bv_at, List.getD_eq_getElem?_getD, List.getElem?_eq_getElem (by omega)]
    rfl
  have hrow : ∀ w', Mod Nn w w' → ∀ o m, o + m ≤ 1024 → ∀ j v, (bv ((l.drop o).take m))[j]? = some v → w'.cell? ⟨g, off + o + j, none⟩ = some v := fun w' hm o m hom j v hv => by
    refine (hm.cell (p := ⟨g, off + o + j, none⟩) hg (fun f => f)).trans ?_
    rw [Nat.add_assoc]
    refine hcell (o + j) v ?_
    rw [bv_at, List.getElem?_take] at hv
    split at hv
    · rw [List.getElem?_drop] at hv
      rw [bv_at]
      exact hv
    · cases hv
  have hpost : ∀ w', Mod Nn w w' → ∀ s, s ≤ 1024 → s < c → Rd w' (some ⟨g, off + s, none⟩) (1024 - s) (bv (l.drop s)) := fun w' hm s hs hsc => by
    have h := (hr.mod hm (fun _ _ f => f)).post (c := c) s hs hc
    rw [sub_at g off c s hsc] at h
    have e : (bv l).drop s = bv (l.drop s) := by unfold bv; rw [List.map_drop]
    rwa [e] at h
  have HPO := Lib.hid hpost
  clear hpost
  have h0 := fun w' hm => hat w' hm 0 (by omega)
  have h1 := fun w' hm => hat w' hm 1 (by omega)
  rw [hb0] at h0
  rw [hb1] at h1
  have hb0' : b0 < 256 := hb0 ▸ getD_lt hz 0
  have hb1' : b1 < 256 := hb1 ▸ getD_lt hz 1
  have HX := Lib.hid (And.intro h0 h1)
  have HR := Lib.hid hr
  have HAT := Lib.hid (And.intro hat (And.intro hL (And.intro hz (And.intro hb0 (And.intro hb1 hrow)))))
  clear h0 h1 hat hcell hb0 hb1 hz hr hL hrow
  have HLF := Lib.hid (And.intro (show ((b0 : Int) == 1) = true by rw [← HAT.out.2.2.2.1, hlf]; rfl) (show l.getD 0 0 = 1 by rw [hlf]))
  have HLN := Lib.hid (show b0 = 1 by rw [← HAT.out.2.2.2.1]; exact hlf)
  have hcn : b1 ≤ 12 := HAT.out.2.2.2.2.1 ▸ hcnt.2 hlf
  have HCNT := Lib.hid hcnt
  clear hcnt hlf
  have c0 : w.cell? ⟨g, off, none⟩ = some (.int .u8 (b0 : Int)) := HX.out.1 w (Mod.refl _ _)
  have c1 : w.cell? ⟨g, off + 1, none⟩ = some (.int .u8 (b1 : Int)) := HX.out.2 w (Mod.refl _ _)
  have HC := Lib.hid (And.intro c0 c1)
  clear c0 c1
  have hlo : 1 ≤ b0 ∧ b0 ≤ 2 := by rw [HLN.out]; omega
  have gd0 : decide ((b0 : Int) < 1) = false := by
    first | exact decide_eq_false (by omega) | (simp; omega)
  have gd1 : decide ((b0 : Int) > 2) = false := by
    first | exact decide_eq_false (by omega) | (simp; omega)
  have gd2 : decide ((b1 : Int) > 20) = false := by
    first | exact decide_eq_false (by omega) | (simp; omega)
  have gd3 : decide ((b1 : Int) > 12) = false := by
    first | exact decide_eq_false (by omega) | (simp; omega)
  have HW1 : IntKind.i64.wrap (b1 : Int) = (b1 : Int) := by rw [IntKind.wrap_i64]; omega
  have geq := HLF.out.1
  go_enter Tryz.func24, Tryz.ntmps24
  go_upto_region 1 with (first
  | (with_reducible change wpList _ _ _ (⟨some 2, Op.alloc _, _, _, _, _⟩ :: _) _ _
     go_must (refine wpList_alloc_var 32 rfl rfl info_node ?_)
     intro wa ba ma za
     have HA := Lib.hid (And.intro ba (And.intro ma za))
     clear ba ma za))
  have c0 := (HA.out.2.1.cell (p := ⟨g, off, none⟩) hg (fun f => f)).trans HC.out.1
  have c1 := (HA.out.2.1.cell (p := ⟨g, off + 1, none⟩) hg (fun f => f)).trans HC.out.2
  go_wp2_with (first
  | (with_reducible change wpList _ _ _ (⟨some 4, Op.alloc _, _, _, _, _⟩ :: _) _ _
     go_must (refine wpList_alloc_var 32 rfl rfl info_node ?_)
     intro wb bb mb zb
     have HB := Lib.hid (And.intro (HA.out.1.mod mb (fun f => f)) (And.intro (HA.out.2.1.trans mb) (And.intro bb (show w.heap.size < wa.heap.size by rw [HA.out.2.2]; omega))))
     clear bb mb zb)
  | (with_reducible change wpList _ _ _ (⟨none, Op.store _ _ _, _, _, _, _⟩ :: _) _ _
     go_must (refine wpList_store_var 32 _ _ rfl rfl wa.heap.size #[.bool true, .slice none 0 0, .slice none 0 0, .slice none 0 0] #[.bool false, .slice none 0 0, .slice none 0 0, .slice none 0 0] _ rfl rfl HB.out.2.2.1 size_node rfl (nd4 _ _ _ _ _ _ _ _ _ _) ?_)
     intro w3 b3 m3 z3
     have h3 : GetN w w3 w.heap.size wa.heap.size (.slice none 0 0) (.slice none 0 0) (.slice none 0 0) (ndUp l 0) := by
       rw [ndUp_leaf HLF.out.2 0]
       exact ⟨HB.out.2.1.new_ m3 HA.out.2.1.size, HB.out.1.mod m3 (fun e => by have e : w.heap.size = wa.heap.size := e; have := HB.out.2.2.2; omega), b3, own_nil _ _ _ _, own_nil _ _ _ _, own_nil _ _ _ _, Nat.le_refl _, HB.out.2.2.2⟩
     have HG := Lib.hid h3
     have d1 := (HG.out.m.cell (p := ⟨g, off + 1, none⟩) hg (fun f => f)).trans HC.out.2
     clear b3 m3 z3 h3 c0 c1))
  clear d1 HB HW1 geq gd0 gd1 gd2 gd3
  generalize wa.heap.size = p at *
  clear HA
  go_loopw [6] (fun i wr => ∃ k : Nat, k ≤ b1 ∧ i = .int .i64 k ∧ ∃ ev kv cv, GetN w wr w.heap.size p ev kv cv (ndUp l k)) (fun i _ => b1 - (intOf i).toNat)
  case atStart => exact ⟨0, by omega, rfl, _, _, _, HG.out⟩
  case round =>
    clear HG
    obtain ⟨k, hk, rfl, ev, kv, cv, hG⟩ := hrel
    have H := Lib.hid hG
    clear hG
    have C0 := H.out.box.cell 0
    rw [ndUp_leaf HLF.out.2 k] at C0
    by_cases hlt : k < b1
    · have hlt' : (k : Int) < b1 := by omega
      obtain ⟨q, hq⟩ : ∃ q : Nat, 80 * k = q := ⟨_, rfl⟩
      obtain ⟨s, hs⟩ : ∃ s : Nat, 4 + q = s := ⟨_, rfl⟩
      obtain ⟨s2, hs2⟩ : ∃ s2 : Nat, s + 40 = s2 := ⟨_, rfl⟩
      have e80 : (80 : Int) * (k : Int) = (q : Int) := by omega
      have e84 : (4 : Int) + (q : Int) = (s : Int) := by omega
      have e88 : (s : Int) + 40 = (s2 : Int) := by omega
      have hs9 : s ≤ 884 ∧ s2 ≤ 924 := by omega
      have HQ := Lib.hid (And.intro (show 4 + 80 * k = s by omega) hs2)
      clear hq hs hs2
      go_wp2_with (first
        | (with_reducible change wpList _ _ _ (⟨some 71, Op.slice _ _ _ _ _, _, _, _, _⟩ :: _) _ _
           go_must (refine wpList_sub_l 24 _ _ rfl rfl 5 1 Tryz.underlying24 size_u8n (l := s2) rfl rfl (by omega) ?_)
           rw [sub_at g off c s2 (by omega)]))
      clear C0
      refine (rkey_any (HPO.out _ H.out.m s2 (by omega) (by omega)) (by omega) (fun z hz => HAT.out.2.2.1 z (List.mem_of_mem_drop hz))).mono ?_
      rintro r w5 ⟨rfl, m5⟩
      have H5 := Lib.hid (H.out.nn m5)
      clear m5
      have hcut : cutE l k = (l.drop s).take 40 ++ (l.drop s2).take 40 := by
        unfold cutE
        rw [HQ.out.1, show 80 = 40 + 40 from rfl, List.take_add, List.drop_drop, HQ.out.2]
      have l1 : ((l.drop s).take 40).length = 40 := by rw [List.length_take, List.length_drop, HAT.out.2.1]; omega
      have l2 : ((l.drop s2).take 40).length = 40 := by rw [List.length_take, List.length_drop, HAT.out.2.1]; omega
      have hup : ndUp l (k + 1) = ⟨(ndUp l k).leaf, (ndUp l k).ents ++ [cutE l k], (ndUp l k).keys, (ndUp l k).kids⟩ := by
        rw [ndUp_leaf HLF.out.2, ndUp_leaf HLF.out.2, List.range_succ]
        simp
      have hcnt : (ndUp l k).ents.length = k := by rw [ndUp_leaf HLF.out.2]; simp
      have hr80 : (cutE l k).length = 80 := by rw [hcut, List.length_append, l1, l2]
      have happ : (bv ((l.drop s).take 40)).toArray ++ (bv ((l.drop s2).take 40)).toArray = (bv (cutE l k)).toArray := by
        rw [hcut, bv_append]
        apply Array.ext'
        rw [Array.toList_append, List.toList_toArray, List.toList_toArray, List.toList_toArray]
      have HU := Lib.hid (And.intro hup (And.intro hcnt (And.intro l1 (And.intro l2 (And.intro happ hr80)))))
      clear hcut l1 l2 hup hcnt hr80 happ
      generalize hV : (l.drop s2).take 40 = V at *
      go_wp2_with (first
        | (with_reducible change wpList _ _ _ (⟨some 8, Op.alloc _, _, _, _, _⟩ :: _) _ _
           go_must (refine wpList_alloc_var 40 rfl rfl info_tk ?_)
           intro w6 b6 m6 z6
           have A6 := Lib.hid (And.intro b6 (And.intro m6 z6))
           clear b6 m6 z6)
        | (with_reducible change wpList _ _ _ (⟨none, Op.store _ _ _, _, _, _, _⟩ :: _) _ _
           go_must (refine wpList_store_var 40 _ _ rfl rfl w5.heap.size (bv V).toArray (bv (List.replicate 40 0)).toArray _ rfl rfl A6.out.1 (by rw [size_tk, bv_size, HU.out.2.2.2.1]) (by rw [bv_size, bv_size, HU.out.2.2.2.1]; rfl) (bv_all _) ?_)
           intro w7 b7 m7 z7
           have H7 := Lib.hid (And.intro b7.drew (And.intro (H5.out.nn (A6.out.2.1.new_ m7 (Nat.le_refl _))).drew (H5.out.nn (A6.out.2.1.new_ m7 (Nat.le_refl _)))))
           clear b7 m7 z7))
      have hq1 : Mod Nn w7.drew w7.drew := Mod.refl _ _
      refine wp_region_planV (fun w' => Mod Nn w7.drew w') 9 (.pure 0 (.read 1 (.pure 2 (.pure 3 (.pure 4 (.read 6 (.alone 5 (.pure 7 (.alone 8 (.alone 9 (.pure 10 (.alone 11 .nil)))))))))))) (by kernel_rfl) (by kernel_rfl) hq1 ?_
      clear hq1
      iterate 1 (refine pv_pure rfl rfl (fun K hK => ?_); go_simp; refine hK _ ?_; clear hK K)
      refine pv_take _ rfl rfl (fun w' hS => exec_load1 (P := Tryz.prog) 28 _ rfl rfl ((H7.out.2.1.box.mod hS (fun f => f)).cell 1) Tryz.underlying28 rfl) (fun K hK => ?_); go_simp; refine hK _ ?_; clear hK K
      iterate 2 (refine pv_pure rfl rfl (fun K hK => ?_); go_simp; refine hK _ ?_; clear hK K)
      refine pv_is (.slice (some ⟨g, off + s, none⟩) (1024 - s) (c - s)) rfl rfl (fun w' => by rw [← sub_at g off c s (by omega)]; exact exec_sub_l (P := Tryz.prog) 24 _ _ rfl 5 1 Tryz.underlying24 size_u8n (n := 1024) (l := s) rfl rfl (by omega)) (fun K hK => ?_); go_simp; refine hK _ ?_; clear hK K
      refine pv_take _ rfl rfl (fun w' hS => exec_load_row (P := Tryz.prog) 40 _ rfl rfl (H7.out.1.mod hS (fun f => f)) Tryz.underlying40 rfl (by rw [size_tk, bv_size, HU.out.2.2.2.1])) (fun K hK => ?_); go_simp; refine hK _ ?_; clear hK K
      refine pv_call rfl rfl (fun K hK => ?_); go_simp; refine ⟨_, _, ⟨rfl, rfl⟩, hK _ _ _ ?_⟩; clear hK K
      refine (rkey_any (HPO.out _ H7.out.2.1.m s (by omega) (by omega)) (by omega) (fun z hz => HAT.out.2.2.1 z (List.mem_of_mem_drop hz))).mono ?_
      rintro r w8 ⟨rfl, m8⟩
      have H8 := Lib.hid (And.intro (H7.out.2.1.nn m8) m8)
      refine ⟨_, rfl, fun _ => H8.out.2, ?_⟩
      clear m8
      refine pv_is (.agg (bv (cutE l k)).toArray) rfl rfl (fun w' => by rw [← HU.out.2.2.2.2.1]; exact exec_build_two (P := Tryz.prog) 43 _ _ rfl zero_ent rfl (s := 40) (by omega) Tryz.underlying43 (by kernel_rfl) rfl rfl (by rw [bv_size, HU.out.2.2.1]) (by rw [bv_size, HU.out.2.2.2.1])) (fun K hK => ?_); go_simp; refine hK _ ?_; clear hK K
      refine pv_bslice1 28 43 _ rfl rfl rfl Tryz.underlying28 info_ent (by omega) (by omega) rfl (xs := bv (cutE l k)) rfl (by rw [bv_len, HU.out.2.2.2.2.2]) ?_
      intro x5 r5 m5 z5
      have G5 := Lib.hid (And.intro r5 (And.intro (H8.out.1.nn m5) (H8.out.2.trans m5)))
      refine ⟨fun _ => G5.out.2.2, ?_⟩
      clear r5 m5 z5
      intro K hK; go_simp; refine hK _ ?_; clear hK K
      refine pv_append 28 _ _ rfl rfl rfl (p + 1) 43 (.agg (bv (List.replicate 80 0)).toArray) 80 80 Tryz.underlying28 info_ent3 rfl (by omega) ev (ndUp l k).ents.length (bv (ndUp l k).ents.flatten) rfl G5.out.2.1.e _ 1 1 (bv (cutE l k)) rfl G5.out.1 (bv_one' _) (by rw [HU.out.2.1]; omega) (by rw [HU.out.2.1]; omega) G5.out.2.1.box.lt ?_
      intro v6 x6 o6 g6 q6
      have m6 : Mod (fun g => ev.ownBlock = some g) x5 x6 := (Mod.refl _ x5).grown g6 (fun g e => .inr e)
      have b6 : Blk x6 p 32 #[.bool (ndUp l k).leaf, ev, kv, cv] := G5.out.2.1.box.mod m6 (fun e => by have := own_ge G5.out.2.1.e p e; omega)
      have G6 := G5.out.2.1.addE m6 o6
      rw [← HU.out.1] at G6
      have H6 := Lib.hid (And.intro b6 (And.intro G6 (own1s o6)))
      refine ⟨fun h => by simp at h, ?_⟩
      clear o6 g6 q6 m6 b6 G6
      intro K hK; go_simp; refine hK _ ?_; clear hK K
      iterate 1 (refine pv_pure rfl rfl (fun K hK => ?_); go_simp; refine hK _ ?_; clear hK K)
      refine pv_unit (w1 := x6.setCell ⟨p, 1, none⟩ v6) rfl rfl (exec_store1 (P := Tryz.prog) 28 _ _ rfl rfl rfl (H6.out.1.cell 1) (H6.out.1.frozen 1) rfl H6.out.2.2.1 H6.out.2.2.2 size_se) (fun h => by simp at h) (fun K hK => ?_); go_simp; refine hK _ ?_; clear hK K
      refine pv_nil ?_
      have H9 := Lib.hid H6.out.2.1
      clear H6 G5 H8 H7 A6 hV
      generalize x6.setCell ⟨p, 1, none⟩ v6 = w9 at *
      go_wp2
      go_roundw
      case rel => exact ⟨k + 1, by omega, by go_num, _, _, _, H9.out⟩
      case measure => simp [intOf]; omega
    · obtain rfl : k = b1 := by omega
      have hlt' : ¬ (k : Int) < (k : Int) := by omega
      go_wp2
      clear C0
      go_loopw [9] (fun i wx => i = .int .i64 0 ∧ GetN w wx w.heap.size p ev kv cv (ndUp l k)) (fun i _ => 0)
      case atStart => exact ⟨rfl, H.out⟩
      case round =>
        clear H
        obtain ⟨rfl, hG⟩ := hrel
        have H := Lib.hid hG
        clear hG
        have C0 := H.out.box.cell 0
        rw [ndUp_leaf HLF.out.2 k] at C0
        rcases Nat.eq_zero_or_pos k with hk0 | hk0
        · have hk0' : ¬ (0 : Int) < (k : Int) := by omega
          clear hk0
          obtain ⟨EA, ec, rfl, hec, hE⟩ := own_form H.out.e
          obtain ⟨KA, kc, rfl, hkc, hKb⟩ := own_form H.out.k
          obtain ⟨CA, cc, rfl, hcc, hCb⟩ := own_form H.out.c
          have hof : ndUp l k = ndOf l := by unfold ndOf; rw [HAT.out.2.2.2.2.1]
          rw [hof] at H
          have hNok : (ndOf l).ok := by unfold ndOf; exact ndUp_ok HAT.out.2.1 HAT.out.2.2.1 HCNT.out (Nat.le_refl _)
          have hNl := ndUp_len l k
          rw [hof] at hNl
          have hnd : isNd l ↔ (ndOf l).right = true ∧ (ndOf l).bytes = l := ⟨fun h => h.2.2, fun h => ⟨HAT.out.2.1, HCNT.out, h.1, h.2⟩⟩
          obtain ⟨N, hN⟩ : ∃ N, ndOf l = N := ⟨_, rfl⟩
          rw [hN] at H hNok hNl hnd
          have HLF2 := HLF.out.2
          have HNE := Lib.hid hN
          have hR : NdR wr N EA N.ents.length KA N.keys.length CA N.kids.length := ⟨own_rdC H.out.e, own_rdC H.out.k, Rd.of_own H.out.c, rfl, rfl, rfl, hNok, by omega, by omega, by omega⟩
          have HN := Lib.hid (And.intro hR (And.intro hNok hnd))
          (try rw [hof]); (try rw [hN])
          clear hN hR hNok hnd hof hNl hE hKb hCb hec hkc hcc
          cases hrt : N.right with
          | false =>
            have HNO := Lib.hid (show ¬ isNd l from fun h => by have := (HN.out.2.2.1 h).1; rw [hrt] at this; cases this)
            have HRT := Lib.hid hrt
            clear hrt
            go_wp2_with (first
              | (with_reducible change wpList _ _ _ (⟨some 149, Op.load _ _, _, _, _, _⟩ :: _) _ _
                 go_must (refine wpList_load_var 32 _ rfl rfl p #[.bool N.leaf, .slice EA N.ents.length ec, .slice KA N.keys.length kc, .slice CA N.kids.length cc] _ _ rfl H.out.box Tryz.underlying32 rfl size_node ?_)))
            refine (rput_bad (ec := ec) (kc := kc) (cc := cc) HN.out.1 HRT.out).mono ?_
            rintro r w6 ⟨rfl, m6⟩
            have H6 := Lib.hid (H.out.nn m6)
            clear m6
            go_wp2_with (first
              | (with_reducible change wpList _ _ _ (⟨none, Op.store _ (Operand.tmp 2) _, _, _, _, _⟩ :: _) _ _
                 go_must (refine wpList_store_var 32 _ _ rfl rfl w.heap.size #[.bool false, .slice none 0 0, .slice none 0 0, .slice none 0 0] _ _ rfl rfl H6.out.res size_node rfl (nd4 _ _ _ _ _ _ _ _ _ _) ?_)
                 intro wb bb mb zb
                 have MB := H6.out.m.new_ mb (Nat.le_refl _)
                 have C0 := bb.cell 0; have C1 := bb.cell 1; have C2 := bb.cell 2; have C3 := bb.cell 3
                 clear bb mb zb))
            refine bodyPost_ret (v := .tuple #[.agg #[.bool false, .slice none 0 0, .slice none 0 0, .slice none 0 0], .int .i64 4]) (by simp [results, Tryz.results24, go_sem, C0, C1, C2, C3]) rfl (.inr ⟨HNO.out, rfl, MB⟩)
          | true =>
            have HRT := Lib.hid hrt
            clear hrt
            go_wp2_with (first
              | (with_reducible change wpList _ _ _ (⟨some 149, Op.load _ _, _, _, _, _⟩ :: _) _ _
                 go_must (refine wpList_load_var 32 _ rfl rfl p #[.bool N.leaf, .slice EA N.ents.length ec, .slice KA N.keys.length kc, .slice CA N.kids.length cc] _ _ rfl H.out.box Tryz.underlying32 rfl size_node ?_)))
            refine (rput_ok (ec := ec) (kc := kc) (cc := cc) HN.out.1 HRT.out).mono ?_
            rintro r w6 ⟨v6, rfl, o6, m6⟩
            have H6 := Lib.hid (H.out.nn m6)
            obtain ⟨VA, vc, rfl, hvc, hVA⟩ := own_form o6
            obtain ⟨hbl, hbz⟩ := bytes_ok HN.out.2.1 HRT.out
            have c1 := conv_str (P := Tryz.prog) (c := vc) 24 5 9 Tryz.underlying24 Tryz.underlying5 Tryz.underlying9 (Rd.of_own o6)
            have c2 := conv_str (P := Tryz.prog) (c := c) 24 5 9 Tryz.underlying24 Tryz.underlying5 Tryz.underlying9 (HR.out.mod H6.out.m (fun _ _ f => f))
            have hi := bstr_eq hbz HAT.out.2.2.1
            generalize bstr N.bytes = S1 at *
            generalize bstr l = S2 at *
            clear m6 o6 hvc hVA hbl hbz
            by_cases hby : N.bytes = l
            · have HY := Lib.hid (HN.out.2.2.2 ⟨HRT.out, hby⟩)
              rw [decide_eq_true hby] at hi
              have hi2 : (S1.toList != S2.toList) = false := by show (!(S1.toList == S2.toList)) = false; rw [hi]; rfl
              clear hby
              go_wp2_with (first
                | (with_reducible change wpList _ _ _ (⟨some 163, Op.load _ _, _, _, _, _⟩ :: _) _ _
                   go_must (refine wpList_load_var 32 _ rfl rfl p #[.bool N.leaf, .slice EA N.ents.length ec, .slice KA N.keys.length kc, .slice CA N.kids.length cc] _ _ rfl H6.out.box Tryz.underlying32 rfl size_node ?_))
                | (with_reducible change wpList _ _ _ (⟨none, Op.store _ (Operand.tmp 2) _, _, _, _, _⟩ :: _) _ _
                   go_must (refine wpList_store_var 32 _ _ rfl rfl w.heap.size #[.bool N.leaf, .slice EA N.ents.length ec, .slice KA N.keys.length kc, .slice CA N.kids.length cc] _ _ rfl rfl H6.out.res size_node rfl (nd4 _ _ _ _ _ _ _ _ _ _) ?_)
                   intro wb bb mb zb
                   have MB := H6.out.m.new_ mb (Nat.le_refl _)
                   have OB : NdH wb w.heap.size N (.slice EA N.ents.length ec) (.slice KA N.keys.length kc) (.slice CA N.kids.length cc) :=
                     ⟨own_base (own_mod H6.out.e mb (fun g g1 e => by have := own_ge H6.out.e g g1; have e : g = w.heap.size := e; have := H6.out.rp; omega)) (fun g g1 => by have := own_ge H6.out.e g g1; have := H6.out.rp; omega),
                      own_base (own_mod H6.out.k mb (fun g g1 e => by have := own_ge H6.out.k g g1; have e : g = w.heap.size := e; have := H6.out.rp; omega)) (fun g g1 => by have := own_ge H6.out.k g g1; have := H6.out.rp; omega),
                      own_base (own_mod H6.out.c mb (fun g g1 e => by have := own_ge H6.out.c g g1; have e : g = w.heap.size := e; have := H6.out.rp; omega)) (fun g g1 => by have := own_ge H6.out.c g g1; have := H6.out.rp; omega)⟩
                   have C0 := bb.cell 0; have C1 := bb.cell 1; have C2 := bb.cell 2; have C3 := bb.cell 3
                   have OB := Lib.hid OB
                   clear bb mb zb))
              refine bodyPost_ret (v := .tuple #[.agg #[.bool N.leaf, .slice EA N.ents.length ec, .slice KA N.keys.length kc, .slice CA N.kids.length cc], .int .i64 0]) (by simp [results, Tryz.results24, go_sem, C0, C1, C2, C3]) rfl (.inl ⟨HY.out, _, _, _, by rw [HNE.out], by rw [HNE.out]; exact OB.out, MB⟩)
            · have HNO := Lib.hid (show ¬ isNd l from fun h => hby (HN.out.2.2.1 h).2)
              rw [decide_eq_false hby] at hi
              have hi2 : (S1.toList != S2.toList) = true := by show (!(S1.toList == S2.toList)) = true; rw [hi]; rfl
              clear hby
              go_wp2_with (first
                | (with_reducible change wpList _ _ _ (⟨none, Op.store _ (Operand.tmp 2) _, _, _, _, _⟩ :: _) _ _
                   go_must (refine wpList_store_var 32 _ _ rfl rfl w.heap.size #[.bool false, .slice none 0 0, .slice none 0 0, .slice none 0 0] _ _ rfl rfl H6.out.res size_node rfl (nd4 _ _ _ _ _ _ _ _ _ _) ?_)
                   intro wb bb mb zb
                   have MB := H6.out.m.new_ mb (Nat.le_refl _)
                   have C0 := bb.cell 0; have C1 := bb.cell 1; have C2 := bb.cell 2; have C3 := bb.cell 3
                   clear bb mb zb))
              refine bodyPost_ret (v := .tuple #[.agg #[.bool false, .slice none 0 0, .slice none 0 0, .slice none 0 0], .int .i64 4]) (by simp [results, Tryz.results24, go_sem, C0, C1, C2, C3]) rfl (.inr ⟨HNO.out, rfl, MB⟩)
        · have hk0' : (0 : Int) < (k : Int) := by omega
          clear hk0
          obtain ⟨EA, ec, rfl, hec, hE⟩ := own_form H.out.e
          obtain ⟨KA, kc, rfl, hkc, hKb⟩ := own_form H.out.k
          obtain ⟨CA, cc, rfl, hcc, hCb⟩ := own_form H.out.c
          have hof : ndUp l k = ndOf l := by unfold ndOf; rw [HAT.out.2.2.2.2.1]
          rw [hof] at H
          have hNok : (ndOf l).ok := by unfold ndOf; exact ndUp_ok HAT.out.2.1 HAT.out.2.2.1 HCNT.out (Nat.le_refl _)
          have hNl := ndUp_len l k
          rw [hof] at hNl
          have hnd : isNd l ↔ (ndOf l).right = true ∧ (ndOf l).bytes = l := ⟨fun h => h.2.2, fun h => ⟨HAT.out.2.1, HCNT.out, h.1, h.2⟩⟩
          obtain ⟨N, hN⟩ : ∃ N, ndOf l = N := ⟨_, rfl⟩
          rw [hN] at H hNok hNl hnd
          have HLF2 := HLF.out.2
          have HNE := Lib.hid hN
          have hR : NdR wr N EA N.ents.length KA N.keys.length CA N.kids.length := ⟨own_rdC H.out.e, own_rdC H.out.k, Rd.of_own H.out.c, rfl, rfl, rfl, hNok, by omega, by omega, by omega⟩
          have HN := Lib.hid (And.intro hR (And.intro hNok hnd))
          (try rw [hof]); (try rw [hN])
          clear hN hR hNok hnd hof hNl hE hKb hCb hec hkc hcc
          cases hrt : N.right with
          | false =>
            have HNO := Lib.hid (show ¬ isNd l from fun h => by have := (HN.out.2.2.1 h).1; rw [hrt] at this; cases this)
            have HRT := Lib.hid hrt
            clear hrt
            go_wp2_with (first
              | (with_reducible change wpList _ _ _ (⟨some 149, Op.load _ _, _, _, _, _⟩ :: _) _ _
                 go_must (refine wpList_load_var 32 _ rfl rfl p #[.bool N.leaf, .slice EA N.ents.length ec, .slice KA N.keys.length kc, .slice CA N.kids.length cc] _ _ rfl H.out.box Tryz.underlying32 rfl size_node ?_)))
            refine (rput_bad (ec := ec) (kc := kc) (cc := cc) HN.out.1 HRT.out).mono ?_
            rintro r w6 ⟨rfl, m6⟩
            have H6 := Lib.hid (H.out.nn m6)
            clear m6
            go_wp2_with (first
              | (with_reducible change wpList _ _ _ (⟨none, Op.store _ (Operand.tmp 2) _, _, _, _, _⟩ :: _) _ _
                 go_must (refine wpList_store_var 32 _ _ rfl rfl w.heap.size #[.bool false, .slice none 0 0, .slice none 0 0, .slice none 0 0] _ _ rfl rfl H6.out.res size_node rfl (nd4 _ _ _ _ _ _ _ _ _ _) ?_)
                 intro wb bb mb zb
                 have MB := H6.out.m.new_ mb (Nat.le_refl _)
                 have C0 := bb.cell 0; have C1 := bb.cell 1; have C2 := bb.cell 2; have C3 := bb.cell 3
                 clear bb mb zb))
            refine bodyPost_ret (v := .tuple #[.agg #[.bool false, .slice none 0 0, .slice none 0 0, .slice none 0 0], .int .i64 4]) (by simp [results, Tryz.results24, go_sem, C0, C1, C2, C3]) rfl (.inr ⟨HNO.out, rfl, MB⟩)
          | true =>
            have HRT := Lib.hid hrt
            clear hrt
            go_wp2_with (first
              | (with_reducible change wpList _ _ _ (⟨some 149, Op.load _ _, _, _, _, _⟩ :: _) _ _
                 go_must (refine wpList_load_var 32 _ rfl rfl p #[.bool N.leaf, .slice EA N.ents.length ec, .slice KA N.keys.length kc, .slice CA N.kids.length cc] _ _ rfl H.out.box Tryz.underlying32 rfl size_node ?_)))
            refine (rput_ok (ec := ec) (kc := kc) (cc := cc) HN.out.1 HRT.out).mono ?_
            rintro r w6 ⟨v6, rfl, o6, m6⟩
            have H6 := Lib.hid (H.out.nn m6)
            obtain ⟨VA, vc, rfl, hvc, hVA⟩ := own_form o6
            obtain ⟨hbl, hbz⟩ := bytes_ok HN.out.2.1 HRT.out
            have c1 := conv_str (P := Tryz.prog) (c := vc) 24 5 9 Tryz.underlying24 Tryz.underlying5 Tryz.underlying9 (Rd.of_own o6)
            have c2 := conv_str (P := Tryz.prog) (c := c) 24 5 9 Tryz.underlying24 Tryz.underlying5 Tryz.underlying9 (HR.out.mod H6.out.m (fun _ _ f => f))
            have hi := bstr_eq hbz HAT.out.2.2.1
            generalize bstr N.bytes = S1 at *
            generalize bstr l = S2 at *
            clear m6 o6 hvc hVA hbl hbz
            by_cases hby : N.bytes = l
            · have HY := Lib.hid (HN.out.2.2.2 ⟨HRT.out, hby⟩)
              rw [decide_eq_true hby] at hi
              have hi2 : (S1.toList != S2.toList) = false := by show (!(S1.toList == S2.toList)) = false; rw [hi]; rfl
              clear hby
              go_wp2_with (first
                | (with_reducible change wpList _ _ _ (⟨some 163, Op.load _ _, _, _, _, _⟩ :: _) _ _
                   go_must (refine wpList_load_var 32 _ rfl rfl p #[.bool N.leaf, .slice EA N.ents.length ec, .slice KA N.keys.length kc, .slice CA N.kids.length cc] _ _ rfl H6.out.box Tryz.underlying32 rfl size_node ?_))
                | (with_reducible change wpList _ _ _ (⟨none, Op.store _ (Operand.tmp 2) _, _, _, _, _⟩ :: _) _ _
                   go_must (refine wpList_store_var 32 _ _ rfl rfl w.heap.size #[.bool N.leaf, .slice EA N.ents.length ec, .slice KA N.keys.length kc, .slice CA N.kids.length cc] _ _ rfl rfl H6.out.res size_node rfl (nd4 _ _ _ _ _ _ _ _ _ _) ?_)
                   intro wb bb mb zb
                   have MB := H6.out.m.new_ mb (Nat.le_refl _)
                   have OB : NdH wb w.heap.size N (.slice EA N.ents.length ec) (.slice KA N.keys.length kc) (.slice CA N.kids.length cc) :=
                     ⟨own_base (own_mod H6.out.e mb (fun g g1 e => by have := own_ge H6.out.e g g1; have e : g = w.heap.size := e; have := H6.out.rp; omega)) (fun g g1 => by have := own_ge H6.out.e g g1; have := H6.out.rp; omega),
                      own_base (own_mod H6.out.k mb (fun g g1 e => by have := own_ge H6.out.k g g1; have e : g = w.heap.size := e; have := H6.out.rp; omega)) (fun g g1 => by have := own_ge H6.out.k g g1; have := H6.out.rp; omega),
                      own_base (own_mod H6.out.c mb (fun g g1 e => by have := own_ge H6.out.c g g1; have e : g = w.heap.size := e; have := H6.out.rp; omega)) (fun g g1 => by have := own_ge H6.out.c g g1; have := H6.out.rp; omega)⟩
                   have C0 := bb.cell 0; have C1 := bb.cell 1; have C2 := bb.cell 2; have C3 := bb.cell 3
                   have OB := Lib.hid OB
                   clear bb mb zb))
              refine bodyPost_ret (v := .tuple #[.agg #[.bool N.leaf, .slice EA N.ents.length ec, .slice KA N.keys.length kc, .slice CA N.kids.length cc], .int .i64 0]) (by simp [results, Tryz.results24, go_sem, C0, C1, C2, C3]) rfl (.inl ⟨HY.out, _, _, _, by rw [HNE.out], by rw [HNE.out]; exact OB.out, MB⟩)
            · have HNO := Lib.hid (show ¬ isNd l from fun h => hby (HN.out.2.2.1 h).2)
              rw [decide_eq_false hby] at hi
              have hi2 : (S1.toList != S2.toList) = true := by show (!(S1.toList == S2.toList)) = true; rw [hi]; rfl
              clear hby
              go_wp2_with (first
                | (with_reducible change wpList _ _ _ (⟨none, Op.store _ (Operand.tmp 2) _, _, _, _, _⟩ :: _) _ _
                   go_must (refine wpList_store_var 32 _ _ rfl rfl w.heap.size #[.bool false, .slice none 0 0, .slice none 0 0, .slice none 0 0] _ _ rfl rfl H6.out.res size_node rfl (nd4 _ _ _ _ _ _ _ _ _ _) ?_)
                   intro wb bb mb zb
                   have MB := H6.out.m.new_ mb (Nat.le_refl _)
                   have C0 := bb.cell 0; have C1 := bb.cell 1; have C2 := bb.cell 2; have C3 := bb.cell 3
                   clear bb mb zb))
              refine bodyPost_ret (v := .tuple #[.agg #[.bool false, .slice none 0 0, .slice none 0 0, .slice none 0 0], .int .i64 4]) (by simp [results, Tryz.results24, go_sem, C0, C1, C2, C3]) rfl (.inr ⟨HNO.out, rfl, MB⟩)
end
end Go.Proofs.YtfoldjnmknaklaaGreat

/- peatbankref15.Get: an inner node's page. Printed by gen/ndrget.py. -/
namespace Go.Proofs.YtfoldjnmknaklaaGreat
open Go.RowKit

section
variable {w w' : World} {A : Option Addr} {n c : Nat} {l : List Nat}
set_option maxRecDepth 100000 in
set_option maxHeartbeats 3200000 in
theorem rget_inner (hr : Rd w A n (bv l)) (hn : n = 1024) (hc : n ≤ c) (hz : ∀ z ∈ l, z < 256) (hcnt : cntOk l) (hlf : l.getD 0 0 = 2) : Calls Tryz.prog 24 #[.slice A n c] w (GetP w l) := by
  obtain ⟨g, off, rfl, hcell⟩ := hr.2 (by rw [hn]; omega)
  subst hn
  obtain ⟨b0, hb0⟩ : ∃ b, l.getD 0 0 = b := ⟨_, rfl⟩
  obtain ⟨b1, hb1⟩ : ∃ b, l.getD 1 0 = b := ⟨_, rfl⟩
  have hL : l.length = 1024 := by have := hr.1; rwa [bv_len] at this
  have hg : g < w.heap.size := World.block_lt_of_cell? w _ (hcell 0 _ (List.getElem?_eq_getElem (by rw [bv_len]; omega)))
  have hat : ∀ w', Mod Nn w w' → ∀ i, i < 1024 → w'.cell? ⟨g, off + i, none⟩ = some (.int .u8 ((l.getD i 0 : Nat) : Int)) := fun w' hm i hi => by
    refine (hm.cell (p := ⟨g, off + i, none⟩) hg (fun f => f)).trans (hcell i _ ?_)
    rw [bv_at, List.getD_eq_getElem?_getD, List.getElem?_eq_getElem (by omega)]
    rfl
  have hrow : ∀ w', Mod Nn w w' → ∀ o m, o + m ≤ 1024 → ∀ j v, (bv ((l.drop o).take m))[j]? = some v → w'.cell? ⟨g, off + o + j, none⟩ = some v := fun w' hm o m hom j v hv => by
    refine (hm.cell (p := ⟨g, off + o + j, none⟩) hg (fun f => f)).trans ?_
    rw [Nat.add_assoc]
    refine hcell (o + j) v ?_
    rw [bv_at, List.getElem?_take] at hv
    split at hv
    · rw [List.getElem?_drop] at hv
      rw [bv_at]
      exact hv
    · cases hv
  have hpost : ∀ w', Mod Nn w w' → ∀ s, s ≤ 1024 → s < c → Rd w' (some ⟨g, off + s, none⟩) (1024 - s) (bv (l.drop s)) := fun w' hm s hs hsc => by
    have h := (hr.mod hm (fun _ _ f => f)).post (c := c) s hs hc
    rw [sub_at g off c s hsc] at h
    have e : (bv l).drop s = bv (l.drop s) := by unfold bv; rw [List.map_drop]
    rwa [e] at h
  have HPO := Lib.hid hpost
  clear hpost
  have h0 := fun w' hm => hat w' hm 0 (by omega)
  have h1 := fun w' hm => hat w' hm 1 (by omega)
  rw [hb0] at h0
  rw [hb1] at h1
  have hb0' : b0 < 256 := hb0 ▸ getD_lt hz 0
  have hb1' : b1 < 256 := hb1 ▸ getD_lt hz 1
  have HX := Lib.hid (And.intro h0 h1)
  have HR := Lib.hid hr
  have HAT := Lib.hid (And.intro hat (And.intro hL (And.intro hz (And.intro hb0 (And.intro hb1 hrow)))))
  clear h0 h1 hat hcell hb0 hb1 hz hr hL hrow
  have HLF := Lib.hid (And.intro (show ((b0 : Int) == 1) = false by rw [← HAT.out.2.2.2.1, hlf]; rfl) (show l.getD 0 0 ≠ 1 by rw [hlf]; decide))
  have HLN := Lib.hid (show b0 = 2 by rw [← HAT.out.2.2.2.1]; exact hlf)
  have hcn : b1 ≤ 20 := HAT.out.2.2.2.2.1 ▸ hcnt.1
  have HCNT := Lib.hid hcnt
  clear hcnt hlf
  have c0 : w.cell? ⟨g, off, none⟩ = some (.int .u8 (b0 : Int)) := HX.out.1 w (Mod.refl _ _)
  have c1 : w.cell? ⟨g, off + 1, none⟩ = some (.int .u8 (b1 : Int)) := HX.out.2 w (Mod.refl _ _)
  have HC := Lib.hid (And.intro c0 c1)
  clear c0 c1
  have hlo : 1 ≤ b0 ∧ b0 ≤ 2 := by rw [HLN.out]; omega
  have gd0 : decide ((b0 : Int) < 1) = false := by
    first | exact decide_eq_false (by omega) | (simp; omega)
  have gd1 : decide ((b0 : Int) > 2) = false := by
    first | exact decide_eq_false (by omega) | (simp; omega)
  have gd2 : decide ((b1 : Int) > 20) = false := by
    first | exact decide_eq_false (by omega) | (simp; omega)
  have HW1 : IntKind.i64.wrap (b1 : Int) = (b1 : Int) := by rw [IntKind.wrap_i64]; omega
  have geq := HLF.out.1
  go_enter Tryz.func24, Tryz.ntmps24
  go_upto_region 1 with (first
  | (with_reducible change wpList _ _ _ (⟨some 2, Op.alloc _, _, _, _, _⟩ :: _) _ _
     go_must (refine wpList_alloc_var 32 rfl rfl info_node ?_)
     intro wa ba ma za
     have HA := Lib.hid (And.intro ba (And.intro ma za))
     clear ba ma za))
  have c0 := (HA.out.2.1.cell (p := ⟨g, off, none⟩) hg (fun f => f)).trans HC.out.1
  have c1 := (HA.out.2.1.cell (p := ⟨g, off + 1, none⟩) hg (fun f => f)).trans HC.out.2
  go_wp2_with (first
  | (with_reducible change wpList _ _ _ (⟨some 4, Op.alloc _, _, _, _, _⟩ :: _) _ _
     go_must (refine wpList_alloc_var 32 rfl rfl info_node ?_)
     intro wb bb mb zb
     have HB := Lib.hid (And.intro (HA.out.1.mod mb (fun f => f)) (And.intro (HA.out.2.1.trans mb) (And.intro bb (show w.heap.size < wa.heap.size by rw [HA.out.2.2]; omega))))
     clear bb mb zb)
  | (with_reducible change wpList _ _ _ (⟨none, Op.store _ _ _, _, _, _, _⟩ :: _) _ _
     go_must (refine wpList_store_var 32 _ _ rfl rfl wa.heap.size #[.bool false, .slice none 0 0, .slice none 0 0, .slice none 0 0] #[.bool false, .slice none 0 0, .slice none 0 0, .slice none 0 0] _ rfl rfl HB.out.2.2.1 size_node rfl (nd4 _ _ _ _ _ _ _ _ _ _) ?_)
     intro w3 b3 m3 z3
     have h3 : GetN w w3 w.heap.size wa.heap.size (.slice none 0 0) (.slice none 0 0) (.slice none 0 0) (ndUp l 0) := by
       rw [ndUp_inner HLF.out.2 0]
       exact ⟨HB.out.2.1.new_ m3 HA.out.2.1.size, HB.out.1.mod m3 (fun e => by have e : w.heap.size = wa.heap.size := e; have := HB.out.2.2.2; omega), b3, own_nil _ _ _ _, own_nil _ _ _ _, own_nil _ _ _ _, Nat.le_refl _, HB.out.2.2.2⟩
     have HG := Lib.hid h3
     have d1 := (HG.out.m.cell (p := ⟨g, off + 1, none⟩) hg (fun f => f)).trans HC.out.2
     clear b3 m3 z3 h3 c0 c1))
  clear d1 HB HW1 geq gd0 gd1 gd2
  generalize wa.heap.size = p at *
  clear HA
  go_loopw [6] (fun i wr => i = .int .i64 0 ∧ GetN w wr w.heap.size p (.slice none 0 0) (.slice none 0 0) (.slice none 0 0) (ndUp l 0)) (fun i _ => 0)
  case atStart => exact ⟨rfl, HG.out⟩
  case round =>
    clear HG
    obtain ⟨rfl, hG⟩ := hrel
    have HG := Lib.hid hG
    clear hG
    have C0 := HG.out.box.cell 0
    rw [ndUp_inner HLF.out.2 0] at C0
    rcases Nat.eq_zero_or_pos b1 with hb0 | hb0
    · have hb0' : ¬ (0 : Int) < (b1 : Int) := by omega
      clear hb0
      go_wp2
      clear C0 hb0'
      go_loopw [9] (fun i wx => ∃ k : Nat, k ≤ b1 ∧ i = .int .i64 k ∧ ∃ ev kv cv, GetN w wx w.heap.size p ev kv cv (ndUp l k)) (fun i _ => b1 - (intOf i).toNat)
      case atStart => exact ⟨0, by omega, rfl, _, _, _, HG.out⟩
      case round =>
        clear HG
        rename_i wr0 _
        obtain ⟨k, hk, rfl, ev, kv, cv, hG⟩ := hrel
        have H := Lib.hid hG
        clear hG
        have C0 := H.out.box.cell 0
        rw [ndUp_inner HLF.out.2 k] at C0
        by_cases hlt : k < b1
        · have hlt' : (k : Int) < b1 := by omega
          exfalso; omega
        · obtain rfl : k = b1 := by omega
          have hlt' : ¬ (k : Int) < (k : Int) := by omega
          obtain ⟨EA, ec, rfl, hec, hE⟩ := own_form H.out.e
          obtain ⟨KA, kc, rfl, hkc, hKb⟩ := own_form H.out.k
          obtain ⟨CA, cc, rfl, hcc, hCb⟩ := own_form H.out.c
          have hof : ndUp l k = ndOf l := by unfold ndOf; rw [HAT.out.2.2.2.2.1]
          rw [hof] at H
          have hNok : (ndOf l).ok := by unfold ndOf; exact ndUp_ok HAT.out.2.1 HAT.out.2.2.1 HCNT.out (Nat.le_refl _)
          have hNl := ndUp_len l k
          rw [hof] at hNl
          have hnd : isNd l ↔ (ndOf l).right = true ∧ (ndOf l).bytes = l := ⟨fun h => h.2.2, fun h => ⟨HAT.out.2.1, HCNT.out, h.1, h.2⟩⟩
          obtain ⟨N, hN⟩ : ∃ N, ndOf l = N := ⟨_, rfl⟩
          rw [hN] at H hNok hNl hnd
          have HLF2 := HLF.out.2
          have HNE := Lib.hid hN
          have hR : NdR wr N EA N.ents.length KA N.keys.length CA N.kids.length := ⟨own_rdC H.out.e, own_rdC H.out.k, Rd.of_own H.out.c, rfl, rfl, rfl, hNok, by omega, by omega, by omega⟩
          have HN := Lib.hid (And.intro hR (And.intro hNok hnd))
          (try rw [hof]); (try rw [hN])
          clear hN hR hNok hnd hof hNl hE hKb hCb hec hkc hcc
          cases hrt : N.right with
          | false =>
            have HNO := Lib.hid (show ¬ isNd l from fun h => by have := (HN.out.2.2.1 h).1; rw [hrt] at this; cases this)
            have HRT := Lib.hid hrt
            clear hrt
            go_wp2_with (first
              | (with_reducible change wpList _ _ _ (⟨some 149, Op.load _ _, _, _, _, _⟩ :: _) _ _
                 go_must (refine wpList_load_var 32 _ rfl rfl p #[.bool N.leaf, .slice EA N.ents.length ec, .slice KA N.keys.length kc, .slice CA N.kids.length cc] _ _ rfl H.out.box Tryz.underlying32 rfl size_node ?_)))
            refine (rput_bad (ec := ec) (kc := kc) (cc := cc) HN.out.1 HRT.out).mono ?_
            rintro r w6 ⟨rfl, m6⟩
            have H6 := Lib.hid (H.out.nn m6)
            clear m6
            go_wp2_with (first
              | (with_reducible change wpList _ _ _ (⟨none, Op.store _ (Operand.tmp 2) _, _, _, _, _⟩ :: _) _ _
                 go_must (refine wpList_store_var 32 _ _ rfl rfl w.heap.size #[.bool false, .slice none 0 0, .slice none 0 0, .slice none 0 0] _ _ rfl rfl H6.out.res size_node rfl (nd4 _ _ _ _ _ _ _ _ _ _) ?_)
                 intro wb bb mb zb
                 have MB := H6.out.m.new_ mb (Nat.le_refl _)
                 have C0 := bb.cell 0; have C1 := bb.cell 1; have C2 := bb.cell 2; have C3 := bb.cell 3
                 clear bb mb zb))
            refine bodyPost_ret (v := .tuple #[.agg #[.bool false, .slice none 0 0, .slice none 0 0, .slice none 0 0], .int .i64 4]) (by simp [results, Tryz.results24, go_sem, C0, C1, C2, C3]) rfl (.inr ⟨HNO.out, rfl, MB⟩)
          | true =>
            have HRT := Lib.hid hrt
            clear hrt
            go_wp2_with (first
              | (with_reducible change wpList _ _ _ (⟨some 149, Op.load _ _, _, _, _, _⟩ :: _) _ _
                 go_must (refine wpList_load_var 32 _ rfl rfl p #[.bool N.leaf, .slice EA N.ents.length ec, .slice KA N.keys.length kc, .slice CA N.kids.length cc] _ _ rfl H.out.box Tryz.underlying32 rfl size_node ?_)))
            refine (rput_ok (ec := ec) (kc := kc) (cc := cc) HN.out.1 HRT.out).mono ?_
            rintro r w6 ⟨v6, rfl, o6, m6⟩
            have H6 := Lib.hid (H.out.nn m6)
            obtain ⟨VA, vc, rfl, hvc, hVA⟩ := own_form o6
            obtain ⟨hbl, hbz⟩ := bytes_ok HN.out.2.1 HRT.out
            have c1 := conv_str (P := Tryz.prog) (c := vc) 24 5 9 Tryz.underlying24 Tryz.underlying5 Tryz.underlying9 (Rd.of_own o6)
            have c2 := conv_str (P := Tryz.prog) (c := c) 24 5 9 Tryz.underlying24 Tryz.underlying5 Tryz.underlying9 (HR.out.mod H6.out.m (fun _ _ f => f))
            have hi := bstr_eq hbz HAT.out.2.2.1
            generalize bstr N.bytes = S1 at *
            generalize bstr l = S2 at *
            clear m6 o6 hvc hVA hbl hbz
            by_cases hby : N.bytes = l
            · have HY := Lib.hid (HN.out.2.2.2 ⟨HRT.out, hby⟩)
              rw [decide_eq_true hby] at hi
              have hi2 : (S1.toList != S2.toList) = false := by show (!(S1.toList == S2.toList)) = false; rw [hi]; rfl
              clear hby
              go_wp2_with (first
                | (with_reducible change wpList _ _ _ (⟨some 163, Op.load _ _, _, _, _, _⟩ :: _) _ _
                   go_must (refine wpList_load_var 32 _ rfl rfl p #[.bool N.leaf, .slice EA N.ents.length ec, .slice KA N.keys.length kc, .slice CA N.kids.length cc] _ _ rfl H6.out.box Tryz.underlying32 rfl size_node ?_))
                | (with_reducible change wpList _ _ _ (⟨none, Op.store _ (Operand.tmp 2) _, _, _, _, _⟩ :: _) _ _
                   go_must (refine wpList_store_var 32 _ _ rfl rfl w.heap.size #[.bool N.leaf, .slice EA N.ents.length ec, .slice KA N.keys.length kc, .slice CA N.kids.length cc] _ _ rfl rfl H6.out.res size_node rfl (nd4 _ _ _ _ _ _ _ _ _ _) ?_)
                   intro wb bb mb zb
                   have MB := H6.out.m.new_ mb (Nat.le_refl _)
                   have OB : NdH wb w.heap.size N (.slice EA N.ents.length ec) (.slice KA N.keys.length kc) (.slice CA N.kids.length cc) :=
                     ⟨own_base (own_mod H6.out.e mb (fun g g1 e => by have := own_ge H6.out.e g g1; have e : g = w.heap.size := e; have := H6.out.rp; omega)) (fun g g1 => by have := own_ge H6.out.e g g1; have := H6.out.rp; omega),
                      own_base (own_mod H6.out.k mb (fun g g1 e => by have := own_ge H6.out.k g g1; have e : g = w.heap.size := e; have := H6.out.rp; omega)) (fun g g1 => by have := own_ge H6.out.k g g1; have := H6.out.rp; omega),
                      own_base (own_mod H6.out.c mb (fun g g1 e => by have := own_ge H6.out.c g g1; have e : g = w.heap.size := e; have := H6.out.rp; omega)) (fun g g1 => by have := own_ge H6.out.c g g1; have := H6.out.rp; omega)⟩
                   have C0 := bb.cell 0; have C1 := bb.cell 1; have C2 := bb.cell 2; have C3 := bb.cell 3
                   have OB := Lib.hid OB
                   clear bb mb zb))
              refine bodyPost_ret (v := .tuple #[.agg #[.bool N.leaf, .slice EA N.ents.length ec, .slice KA N.keys.length kc, .slice CA N.kids.length cc], .int .i64 0]) (by simp [results, Tryz.results24, go_sem, C0, C1, C2, C3]) rfl (.inl ⟨HY.out, _, _, _, by rw [HNE.out], by rw [HNE.out]; exact OB.out, MB⟩)
            · have HNO := Lib.hid (show ¬ isNd l from fun h => hby (HN.out.2.2.1 h).2)
              rw [decide_eq_false hby] at hi
              have hi2 : (S1.toList != S2.toList) = true := by show (!(S1.toList == S2.toList)) = true; rw [hi]; rfl
              clear hby
              go_wp2_with (first
                | (with_reducible change wpList _ _ _ (⟨none, Op.store _ (Operand.tmp 2) _, _, _, _, _⟩ :: _) _ _
                   go_must (refine wpList_store_var 32 _ _ rfl rfl w.heap.size #[.bool false, .slice none 0 0, .slice none 0 0, .slice none 0 0] _ _ rfl rfl H6.out.res size_node rfl (nd4 _ _ _ _ _ _ _ _ _ _) ?_)
                   intro wb bb mb zb
                   have MB := H6.out.m.new_ mb (Nat.le_refl _)
                   have C0 := bb.cell 0; have C1 := bb.cell 1; have C2 := bb.cell 2; have C3 := bb.cell 3
                   clear bb mb zb))
              refine bodyPost_ret (v := .tuple #[.agg #[.bool false, .slice none 0 0, .slice none 0 0, .slice none 0 0], .int .i64 4]) (by simp [results, Tryz.results24, go_sem, C0, C1, C2, C3]) rfl (.inr ⟨HNO.out, rfl, MB⟩)
    · have hb0' : (0 : Int) < (b1 : Int) := by omega
      clear hb0
      go_wp2
      clear C0 hb0'
      go_loopw [9] (fun i wx => ∃ k : Nat, k ≤ b1 ∧ i = .int .i64 k ∧ ∃ ev kv cv, GetN w wx w.heap.size p ev kv cv (ndUp l k)) (fun i _ => b1 - (intOf i).toNat)
      case atStart => exact ⟨0, by omega, rfl, _, _, _, HG.out⟩
      case round =>
        clear HG
        rename_i wr0 _
        obtain ⟨k, hk, rfl, ev, kv, cv, hG⟩ := hrel
        have H := Lib.hid hG
        clear hG
        have C0 := H.out.box.cell 0
        rw [ndUp_inner HLF.out.2 k] at C0
        by_cases hlt : k < b1
        · have hlt' : (k : Int) < b1 := by omega
          obtain ⟨q, hq⟩ : ∃ q : Nat, 4 * k = q := ⟨_, rfl⟩
          obtain ⟨s, hs⟩ : ∃ s : Nat, 4 + q = s := ⟨_, rfl⟩
          obtain ⟨s1, hs1⟩ : ∃ s1 : Nat, s + 1 = s1 := ⟨_, rfl⟩
          obtain ⟨s2, hs2⟩ : ∃ s2 : Nat, s + 2 = s2 := ⟨_, rfl⟩
          obtain ⟨s3, hs3⟩ : ∃ s3 : Nat, s + 3 = s3 := ⟨_, rfl⟩
          have hs9 : s ≤ 80 ∧ s1 ≤ 81 ∧ s2 ≤ 82 ∧ s3 ≤ 83 := by omega
          have e80 : (4 : Int) * (k : Int) = (q : Int) := by omega
          have e84 : (4 : Int) + (q : Int) = (s : Int) := by omega
          have hval : kidAt l k = ((l.getD s 0 * 16777216 + l.getD s1 0 * 65536 + l.getD s2 0 * 256 + l.getD s3 0 : Nat) : Int) := by
            unfold kidAt be4
            rw [show 4 + 4 * k = s by omega, hs1, hs2, hs3]
          have hby : ∀ w', Mod Nn w w' → w'.cell? ⟨g, off + s, none⟩ = some (.int .u8 ((l.getD s 0 : Nat) : Int)) ∧ w'.cell? ⟨g, off + s1, none⟩ = some (.int .u8 ((l.getD s1 0 : Nat) : Int)) ∧ w'.cell? ⟨g, off + s2, none⟩ = some (.int .u8 ((l.getD s2 0 : Nat) : Int)) ∧ w'.cell? ⟨g, off + s3, none⟩ = some (.int .u8 ((l.getD s3 0 : Nat) : Int)) := fun w' hm =>
            ⟨HAT.out.1 w' hm s (by omega), HAT.out.1 w' hm s1 (by omega), HAT.out.1 w' hm s2 (by omega), HAT.out.1 w' hm s3 (by omega)⟩
          have z0 := getD_lt HAT.out.2.2.1 s
          have z1 := getD_lt HAT.out.2.2.1 s1
          have z2 := getD_lt HAT.out.2.2.1 s2
          have z3 := getD_lt HAT.out.2.2.1 s3
          have HBY := Lib.hid hby
          have hval := Lib.hid hval
          clear hby hq
          generalize l.getD s 0 = a0 at *
          generalize l.getD s1 0 = a1 at *
          generalize l.getD s2 0 = a2 at *
          generalize l.getD s3 0 = a3 at *
          have HV := hval
          have f1 : IntKind.i64.wrap ((s : Int) + 1) = (s1 : Int) := by rw [IntKind.wrap_i64]; omega
          have f2 : IntKind.i64.wrap ((s : Int) + 2) = (s2 : Int) := by rw [IntKind.wrap_i64]; omega
          have f3 : IntKind.i64.wrap ((s : Int) + 3) = (s3 : Int) := by rw [IntKind.wrap_i64]; omega
          have HFF := Lib.hid (And.intro f1 (And.intro f2 f3))
          clear hval hs hs1 hs2 hs3 f1 f2 f3
          go_wp2_with fail
          clear C0 e80 e84
          have HB := Lib.hid (And.intro H.out.drew (Mod.refl Nn wr.drew))
          have hq1 : Mod Nn wr.drew wr.drew := HB.out.2
          refine wp_region_planV (fun w' => Mod Nn wr.drew w') 32 (.pure 0 (.read 1 (.pure 2 (.pure 3 (.pure 4 (.read 5 (.pure 6 (.pure 7 (.pure 8 (.pure 9 (.pure 10 (.pure 11 (.read 12 (.pure 13 (.pure 14 (.pure 15 (.pure 16 (.pure 17 (.pure 18 (.pure 19 (.read 20 (.pure 21 (.pure 22 (.pure 23 (.pure 24 (.pure 25 (.pure 26 (.pure 27 (.read 28 (.pure 29 (.pure 30 (.alone 31 (.alone 32 (.pure 33 (.alone 34 .nil))))))))))))))))))))))))))))))))))) (by kernel_rfl) (by kernel_rfl) hq1 ?_
          clear hq1
          have n0 : s < 1024 := by omega
          have n1 : s1 < 1024 := by omega
          have n2 : s2 < 1024 := by omega
          have n3 : s3 < 1024 := by omega
          have m0 : (s : Int) < 1024 := by omega
          have m1 : (s1 : Int) < 1024 := by omega
          have m2 : (s2 : Int) < 1024 := by omega
          have m3 : (s3 : Int) < 1024 := by omega
          iterate 1 (refine pv_pure rfl rfl (fun K hK => ?_); go_simp; refine hK _ ?_; clear hK K)
          refine pv_take _ rfl rfl (fun w' hS => exec_load1 (P := Tryz.prog) 30 _ rfl rfl ((HB.out.1.box.mod hS (fun f => f)).cell 3) Tryz.underlying30 rfl) (fun K hK => ?_); go_simp; refine hK _ ?_; clear hK K
          iterate 3 (refine pv_pure rfl rfl (fun K hK => ?_); go_simp; refine hK _ ?_; clear hK K)
          refine pv_take _ rfl rfl (fun w' hS => exec_load1 (P := Tryz.prog) 5 _ rfl rfl (HBY.out w' (HB.out.1.m.trans hS)).1 Tryz.underlying5 rfl) (fun K hK => ?_); go_simp; refine hK _ ?_; clear hK K
          iterate 5 (refine pv_pure rfl rfl (fun K hK => ?_); go_simp; refine hK _ ?_; clear hK K)
          rw [HFF.out.1]
          iterate 1 (refine pv_pure rfl rfl (fun K hK => ?_); go_simp; refine hK _ ?_; clear hK K)
          refine pv_take _ rfl rfl (fun w' hS => exec_load1 (P := Tryz.prog) 5 _ rfl rfl (HBY.out w' (HB.out.1.m.trans hS)).2.1 Tryz.underlying5 rfl) (fun K hK => ?_); go_simp; refine hK _ ?_; clear hK K
          iterate 6 (refine pv_pure rfl rfl (fun K hK => ?_); go_simp; refine hK _ ?_; clear hK K)
          rw [HFF.out.2.1]
          iterate 1 (refine pv_pure rfl rfl (fun K hK => ?_); go_simp; refine hK _ ?_; clear hK K)
          refine pv_take _ rfl rfl (fun w' hS => exec_load1 (P := Tryz.prog) 5 _ rfl rfl (HBY.out w' (HB.out.1.m.trans hS)).2.2.1 Tryz.underlying5 rfl) (fun K hK => ?_); go_simp; refine hK _ ?_; clear hK K
          iterate 6 (refine pv_pure rfl rfl (fun K hK => ?_); go_simp; refine hK _ ?_; clear hK K)
          rw [HFF.out.2.2]
          iterate 1 (refine pv_pure rfl rfl (fun K hK => ?_); go_simp; refine hK _ ?_; clear hK K)
          refine pv_take _ rfl rfl (fun w' hS => exec_load1 (P := Tryz.prog) 5 _ rfl rfl (HBY.out w' (HB.out.1.m.trans hS)).2.2.2 Tryz.underlying5 rfl) (fun K hK => ?_); go_simp; refine hK _ ?_; clear hK K
          iterate 2 (refine pv_pure rfl rfl (fun K hK => ?_); go_simp; refine hK _ ?_; clear hK K)
          rw [or4 a0 a1 a2 a3 z0 z1 z2 z3, ← HV.out]
          clear n0 n1 n2 n3 m0 m1 m2 m3 z0 z1 z2 z3
          have hup : ndUp l (k + 1) = ⟨(ndUp l k).leaf, (ndUp l k).ents, (ndUp l (k + 1)).keys, (ndUp l k).kids ++ [kidAt l k]⟩ := by
            rw [ndUp_inner HLF.out.2, ndUp_inner HLF.out.2, List.range_succ (n := k)]
            simp
          have hcnt : (ndUp l k).kids.length = k := by rw [ndUp_inner HLF.out.2]; simp
          have hcnk : (ndUp l k).keys.length = k - 1 := by rw [ndUp_inner HLF.out.2]; simp
          have hk1 : (ndUp l 1).keys = [] := by rw [ndUp_inner HLF.out.2]; rfl
          have hkz : (ndUp l 0).keys = [] := by rw [ndUp_inner HLF.out.2]; rfl
          have hks : 0 < k → (ndUp l (k + 1)).keys = (ndUp l k).keys ++ [keyAt l b1 (k - 1)] := fun h => by
            rw [ndUp_inner HLF.out.2, ndUp_inner HLF.out.2, HAT.out.2.2.2.2.1]
            obtain ⟨m, rfl⟩ : ∃ m, k = m + 1 := ⟨k - 1, by omega⟩
            show (List.range (m + 1)).map _ = (List.range m).map _ ++ _
            rw [List.range_succ, List.map_append]
            rfl
          have HC := Lib.hid (And.intro hup (And.intro hcnt (And.intro hcnk (And.intro hk1 (And.intro hkz hks)))))
          clear hup hcnt hcnk hk1 hkz hks
          refine pv_bslice1 30 3 _ rfl rfl rfl Tryz.underlying30 info_int2 (by omega) (by omega) rfl (xs := [.int .i64 (kidAt l k)]) rfl rfl ?_
          intro w5 r5 m5 z5
          have H5 := Lib.hid (And.intro r5 (And.intro (HB.out.1.nn m5) m5))
          refine ⟨fun _ => H5.out.2.2, ?_⟩
          clear r5 m5 z5
          intro K hK; go_simp; refine hK _ ?_; clear hK K
          refine pv_append 30 _ _ rfl rfl rfl (p + 1) 3 (.int .i64 0) 1 8 Tryz.underlying30 info_int3 rfl (by omega) cv (ndUp l k).kids.length ((ndUp l k).kids.map (Value.int .i64)) rfl H5.out.2.1.c _ 1 1 [.int .i64 (kidAt l k)] rfl H5.out.1 (by intro u hu; rw [List.mem_singleton] at hu; subst hu; rfl) (by rw [HC.out.2.1]; omega) (by rw [HC.out.2.1]; omega) H5.out.2.1.box.lt ?_
          intro v6 w6 o6 g6 q6
          have m6 : Mod (fun g => cv.ownBlock = some g) w5 w6 := (Mod.refl _ w5).grown g6 (fun g e => .inr e)
          have b6 : Blk w6 p 32 #[.bool (ndUp l k).leaf, ev, kv, cv] := H5.out.2.1.box.mod m6 (fun e => by have := own_ge H5.out.2.1.c p e; omega)
          have G6 := H5.out.2.1.addC m6 o6
          have H6 := Lib.hid (And.intro b6 (And.intro G6 (own1s o6)))
          refine ⟨fun h => by simp at h, ?_⟩
          clear o6 g6 q6 m6 b6 G6
          intro K hK; go_simp; refine hK _ ?_; clear hK K
          iterate 1 (refine pv_pure rfl rfl (fun K hK => ?_); go_simp; refine hK _ ?_; clear hK K)
          refine pv_unit (w1 := w6.setCell ⟨p, 3, none⟩ v6) rfl rfl (exec_store1 (P := Tryz.prog) 30 _ _ rfl rfl rfl (H6.out.1.cell 3) (H6.out.1.frozen 3) rfl H6.out.2.2.1 H6.out.2.2.2 size_si) (fun h => by simp at h) (fun K hK => ?_); go_simp; refine hK _ ?_; clear hK K
          refine pv_nil ?_
          have H9 := Lib.hid H6.out.2.1
          clear H6 H5 HB HBY HV HFF
          generalize w6.setCell ⟨p, 3, none⟩ v6 = w9 at *
          rcases Nat.eq_zero_or_pos k with hk0 | hk0
          · subst hk0
            have G9 : GetN w w9 w.heap.size p ev kv v6 (ndUp l 1) := by
              have h := H9.out
              rw [HC.out.2.2.2.2.1] at h
              rw [HC.out.1, HC.out.2.2.2.1]
              exact h
            have H9 := Lib.hid G9
            clear G9
            go_wp2
            go_roundw
            case rel => exact ⟨1, by omega, by go_num, _, _, _, H9.out⟩
            case measure => simp [intOf]; omega
          · have hk0' : (k : Int) > 0 := by omega
            obtain ⟨m, hm⟩ : ∃ m, m + 1 = k := ⟨k - 1, by omega⟩
            obtain ⟨t4, ht4⟩ : ∃ t4 : Nat, 4 * b1 = t4 := ⟨_, rfl⟩
            obtain ⟨t6, ht6⟩ : ∃ t6 : Nat, 4 + t4 = t6 := ⟨_, rfl⟩
            obtain ⟨t5, ht5⟩ : ∃ t5 : Nat, 40 * m = t5 := ⟨_, rfl⟩
            obtain ⟨y, hy⟩ : ∃ y, t6 + t5 = y := ⟨_, rfl⟩
            have hs9 : y + 40 ≤ 1024 := by omega
            have f1 : IntKind.i64.wrap ((4 : Int) * (b1 : Int)) = (t4 : Int) := by rw [IntKind.wrap_i64]; omega
            have f1b : IntKind.i64.wrap ((4 : Int) + (t4 : Int)) = (t6 : Int) := by rw [IntKind.wrap_i64]; omega
            have f2 : IntKind.i64.wrap ((k : Int) - 1) = (m : Int) := by rw [IntKind.wrap_i64]; omega
            have f3 : IntKind.i64.wrap ((40 : Int) * (m : Int)) = (t5 : Int) := by rw [IntKind.wrap_i64]; omega
            have f4 : IntKind.i64.wrap ((t6 : Int) + (t5 : Int)) = (y : Int) := by rw [IntKind.wrap_i64]; omega
            have hcut : keyAt l b1 (k - 1) = (l.drop y).take 40 := by unfold keyAt; rw [show 4 + 4 * b1 + 40 * (k - 1) = y by omega]
            have hl40 : (keyAt l b1 (k - 1)).length = 40 := by rw [hcut, List.length_take, List.length_drop, HAT.out.2.1]; omega
            have HF := Lib.hid (And.intro f1 (And.intro f1b (And.intro f2 (And.intro f3 f4))))
            have HX1 := Lib.hid (And.intro hcut (And.intro hl40 (HC.out.2.2.2.2.2 hk0)))
            clear f1 f1b f2 f3 f4 hcut hl40 hm hy ht4 ht5 ht6
            go_wp2_with fail
            have HB := Lib.hid (And.intro H9.out.drew (Mod.refl Nn w9.drew))
            have hq1 : Mod Nn w9.drew w9.drew := HB.out.2
            refine wp_region_planV (fun w' => Mod Nn w9.drew w') 13 (.pure 0 (.read 1 (.pure 2 (.pure 3 (.pure 4 (.pure 5 (.pure 6 (.pure 7 (.pure 8 (.pure 9 (.pure 10 (.alone 11 (.alone 12 (.alone 13 (.pure 14 (.alone 15 .nil)))))))))))))))) (by kernel_rfl) (by kernel_rfl) hq1 ?_
            clear hq1
            iterate 1 (refine pv_pure rfl rfl (fun K hK => ?_); go_simp; refine hK _ ?_; clear hK K)
            refine pv_take _ rfl rfl (fun w' hS => exec_load1 (P := Tryz.prog) 29 _ rfl rfl ((HB.out.1.box.mod hS (fun f => f)).cell 2) Tryz.underlying29 rfl) (fun K hK => ?_); go_simp; refine hK _ ?_; clear hK K
            iterate 3 (refine pv_pure rfl rfl (fun K hK => ?_); go_simp; refine hK _ ?_; clear hK K)
            rw [HF.out.1]
            iterate 1 (refine pv_pure rfl rfl (fun K hK => ?_); go_simp; refine hK _ ?_; clear hK K)
            rw [HF.out.2.1]
            iterate 2 (refine pv_pure rfl rfl (fun K hK => ?_); go_simp; refine hK _ ?_; clear hK K)
            rw [HF.out.2.2.1]
            iterate 1 (refine pv_pure rfl rfl (fun K hK => ?_); go_simp; refine hK _ ?_; clear hK K)
            rw [HF.out.2.2.2.1]
            iterate 1 (refine pv_pure rfl rfl (fun K hK => ?_); go_simp; refine hK _ ?_; clear hK K)
            rw [HF.out.2.2.2.2]
            refine pv_is (.slice (some ⟨g, off + y, none⟩) (1024 - y) (c - y)) rfl rfl (fun w' => by rw [← sub_at g off c y (by omega)]; exact exec_sub_l (P := Tryz.prog) 24 _ _ rfl 5 1 Tryz.underlying24 size_u8n (n := 1024) (l := y) rfl rfl (by omega)) (fun K hK => ?_); go_simp; refine hK _ ?_; clear hK K
            refine pv_call rfl rfl (fun K hK => ?_); go_simp; refine ⟨_, _, ⟨rfl, rfl⟩, hK _ _ _ ?_⟩; clear hK K
            refine (rkey_any (HPO.out _ HB.out.1.m y (by omega) (by omega)) (by omega) (fun z hz => HAT.out.2.2.1 z (List.mem_of_mem_drop hz))).mono ?_
            rintro r x4 ⟨rfl, m4⟩
            have H4 := Lib.hid (And.intro (HB.out.1.nn m4) m4)
            refine ⟨_, rfl, fun _ => H4.out.2, ?_⟩
            clear m4
            rw [← HX1.out.1]
            refine pv_bslice1 29 40 _ rfl rfl rfl Tryz.underlying29 info_tk (by omega) (by omega) rfl (xs := bv (keyAt l b1 (k - 1))) rfl (by rw [bv_len, HX1.out.2.1]) ?_
            intro x5 r5 m5 z5
            have H5 := Lib.hid (And.intro r5 (And.intro (H4.out.1.nn m5) (H4.out.2.trans m5)))
            refine ⟨fun _ => H5.out.2.2, ?_⟩
            clear r5 m5 z5
            intro K hK; go_simp; refine hK _ ?_; clear hK K
            refine pv_append 29 _ _ rfl rfl rfl (p + 1) 40 (.agg (bv (List.replicate 40 0)).toArray) 40 40 Tryz.underlying29 info_tk3 rfl (by omega) kv (ndUp l k).keys.length (bv (ndUp l k).keys.flatten) rfl H5.out.2.1.k _ 1 1 (bv (keyAt l b1 (k - 1))) rfl H5.out.1 (bv_one' _) (by rw [HC.out.2.2.1]; omega) (by rw [HC.out.2.2.1]; omega) H5.out.2.1.box.lt ?_
            intro v7 x6 o6 g6 q6
            have m6 : Mod (fun g => kv.ownBlock = some g) x5 x6 := (Mod.refl _ x5).grown g6 (fun g e => .inr e)
            have b6 : Blk x6 p 32 #[.bool (ndUp l k).leaf, ev, kv, v6] := H5.out.2.1.box.mod m6 (fun e => by have := own_ge H5.out.2.1.k p e; omega)
            have G6 := H5.out.2.1.addK m6 o6
            have G7 : GetN w (x6.setCell ⟨p, 2, none⟩ v7) w.heap.size p ev v7 v6 (ndUp l (k + 1)) := by
              rw [HC.out.1, HX1.out.2.2]
              exact G6
            have H6 := Lib.hid (And.intro b6 (And.intro G7 (own1s o6)))
            refine ⟨fun h => by simp at h, ?_⟩
            clear o6 g6 q6 m6 b6 G6 G7
            intro K hK; go_simp; refine hK _ ?_; clear hK K
            iterate 1 (refine pv_pure rfl rfl (fun K hK => ?_); go_simp; refine hK _ ?_; clear hK K)
            refine pv_unit (w1 := x6.setCell ⟨p, 2, none⟩ v7) rfl rfl (exec_store1 (P := Tryz.prog) 29 _ _ rfl rfl rfl (H6.out.1.cell 2) (H6.out.1.frozen 2) rfl H6.out.2.2.1 H6.out.2.2.2 size_sk) (fun h => by simp at h) (fun K hK => ?_); go_simp; refine hK _ ?_; clear hK K
            refine pv_nil ?_
            have H9 := Lib.hid H6.out.2.1
            clear H6 H5 H4 HB
            generalize x6.setCell ⟨p, 2, none⟩ v7 = x9 at *
            go_wp2
            go_roundw
            case rel => exact ⟨k + 1, by omega, by go_num, _, _, _, H9.out⟩
            case measure => simp [intOf]; omega
        · obtain rfl : k = b1 := by omega
          have hlt' : ¬ (k : Int) < (k : Int) := by omega
          obtain ⟨EA, ec, rfl, hec, hE⟩ := own_form H.out.e
          obtain ⟨KA, kc, rfl, hkc, hKb⟩ := own_form H.out.k
          obtain ⟨CA, cc, rfl, hcc, hCb⟩ := own_form H.out.c
          have hof : ndUp l k = ndOf l := by unfold ndOf; rw [HAT.out.2.2.2.2.1]
          rw [hof] at H
          have hNok : (ndOf l).ok := by unfold ndOf; exact ndUp_ok HAT.out.2.1 HAT.out.2.2.1 HCNT.out (Nat.le_refl _)
          have hNl := ndUp_len l k
          rw [hof] at hNl
          have hnd : isNd l ↔ (ndOf l).right = true ∧ (ndOf l).bytes = l := ⟨fun h => h.2.2, fun h => ⟨HAT.out.2.1, HCNT.out, h.1, h.2⟩⟩
          obtain ⟨N, hN⟩ : ∃ N, ndOf l = N := ⟨_, rfl⟩
          rw [hN] at H hNok hNl hnd
          have HLF2 := HLF.out.2
          have HNE := Lib.hid hN
          have hR : NdR wr N EA N.ents.length KA N.keys.length CA N.kids.length := ⟨own_rdC H.out.e, own_rdC H.out.k, Rd.of_own H.out.c, rfl, rfl, rfl, hNok, by omega, by omega, by omega⟩
          have HN := Lib.hid (And.intro hR (And.intro hNok hnd))
          (try rw [hof]); (try rw [hN])
          clear hN hR hNok hnd hof hNl hE hKb hCb hec hkc hcc
          cases hrt : N.right with
          | false =>
            have HNO := Lib.hid (show ¬ isNd l from fun h => by have := (HN.out.2.2.1 h).1; rw [hrt] at this; cases this)
            have HRT := Lib.hid hrt
            clear hrt
            go_wp2_with (first
              | (with_reducible change wpList _ _ _ (⟨some 149, Op.load _ _, _, _, _, _⟩ :: _) _ _
                 go_must (refine wpList_load_var 32 _ rfl rfl p #[.bool N.leaf, .slice EA N.ents.length ec, .slice KA N.keys.length kc, .slice CA N.kids.length cc] _ _ rfl H.out.box Tryz.underlying32 rfl size_node ?_)))
            refine (rput_bad (ec := ec) (kc := kc) (cc := cc) HN.out.1 HRT.out).mono ?_
            rintro r w6 ⟨rfl, m6⟩
            have H6 := Lib.hid (H.out.nn m6)
            clear m6
            go_wp2_with (first
              | (with_reducible change wpList _ _ _ (⟨none, Op.store _ (Operand.tmp 2) _, _, _, _, _⟩ :: _) _ _
                 go_must (refine wpList_store_var 32 _ _ rfl rfl w.heap.size #[.bool false, .slice none 0 0, .slice none 0 0, .slice none 0 0] _ _ rfl rfl H6.out.res size_node rfl (nd4 _ _ _ _ _ _ _ _ _ _) ?_)
                 intro wb bb mb zb
                 have MB := H6.out.m.new_ mb (Nat.le_refl _)
                 have C0 := bb.cell 0; have C1 := bb.cell 1; have C2 := bb.cell 2; have C3 := bb.cell 3
                 clear bb mb zb))
            refine bodyPost_ret (v := .tuple #[.agg #[.bool false, .slice none 0 0, .slice none 0 0, .slice none 0 0], .int .i64 4]) (by simp [results, Tryz.results24, go_sem, C0, C1, C2, C3]) rfl (.inr ⟨HNO.out, rfl, MB⟩)
          | true =>
            have HRT := Lib.hid hrt
            clear hrt
            go_wp2_with (first
              | (with_reducible change wpList _ _ _ (⟨some 149, Op.load _ _, _, _, _, _⟩ :: _) _ _
                 go_must (refine wpList_load_var 32 _ rfl rfl p #[.bool N.leaf, .slice EA N.ents.length ec, .slice KA N.keys.length kc, .slice CA N.kids.length cc] _ _ rfl H.out.box Tryz.underlying32 rfl size_node ?_)))
            refine (rput_ok (ec := ec) (kc := kc) (cc := cc) HN.out.1 HRT.out).mono ?_
            rintro r w6 ⟨v6, rfl, o6, m6⟩
            have H6 := Lib.hid (H.out.nn m6)
            obtain ⟨VA, vc, rfl, hvc, hVA⟩ := own_form o6
            obtain ⟨hbl, hbz⟩ := bytes_ok HN.out.2.1 HRT.out
            have c1 := conv_str (P := Tryz.prog) (c := vc) 24 5 9 Tryz.underlying24 Tryz.underlying5 Tryz.underlying9 (Rd.of_own o6)
            have c2 := conv_str (P := Tryz.prog) (c := c) 24 5 9 Tryz.underlying24 Tryz.underlying5 Tryz.underlying9 (HR.out.mod H6.out.m (fun _ _ f => f))
            have hi := bstr_eq hbz HAT.out.2.2.1
            generalize bstr N.bytes = S1 at *
            generalize bstr l = S2 at *
            clear m6 o6 hvc hVA hbl hbz
            by_cases hby : N.bytes = l
            · have HY := Lib.hid (HN.out.2.2.2 ⟨HRT.out, hby⟩)
              rw [decide_eq_true hby] at hi
              have hi2 : (S1.toList != S2.toList) = false := by show (!(S1.toList == S2.toList)) = false; rw [hi]; rfl
              clear hby
              go_wp2_with (first
                | (with_reducible change wpList _ _ _ (⟨some 163, Op.load _ _, _, _, _, _⟩ :: _) _ _
                   go_must (refine wpList_load_var 32 _ rfl rfl p #[.bool N.leaf, .slice EA N.ents.length ec, .slice KA N.keys.length kc, .slice CA N.kids.length cc] _ _ rfl H6.out.box Tryz.underlying32 rfl size_node ?_))
                | (with_reducible change wpList _ _ _ (⟨none, Op.store _ (Operand.tmp 2) _, _, _, _, _⟩ :: _) _ _
                   go_must (refine wpList_store_var 32 _ _ rfl rfl w.heap.size #[.bool N.leaf, .slice EA N.ents.length ec, .slice KA N.keys.length kc, .slice CA N.kids.length cc] _ _ rfl rfl H6.out.res size_node rfl (nd4 _ _ _ _ _ _ _ _ _ _) ?_)
                   intro wb bb mb zb
                   have MB := H6.out.m.new_ mb (Nat.le_refl _)
                   have OB : NdH wb w.heap.size N (.slice EA N.ents.length ec) (.slice KA N.keys.length kc) (.slice CA N.kids.length cc) :=
                     ⟨own_base (own_mod H6.out.e mb (fun g g1 e => by have := own_ge H6.out.e g g1; have e : g = w.heap.size := e; have := H6.out.rp; omega)) (fun g g1 => by have := own_ge H6.out.e g g1; have := H6.out.rp; omega),
                      own_base (own_mod H6.out.k mb (fun g g1 e => by have := own_ge H6.out.k g g1; have e : g = w.heap.size := e; have := H6.out.rp; omega)) (fun g g1 => by have := own_ge H6.out.k g g1; have := H6.out.rp; omega),
                      own_base (own_mod H6.out.c mb (fun g g1 e => by have := own_ge H6.out.c g g1; have e : g = w.heap.size := e; have := H6.out.rp; omega)) (fun g g1 => by have := own_ge H6.out.c g g1; have := H6.out.rp; omega)⟩
                   have C0 := bb.cell 0; have C1 := bb.cell 1; have C2 := bb.cell 2; have C3 := bb.cell 3
                   have OB := Lib.hid OB
                   clear bb mb zb))
              refine bodyPost_ret (v := .tuple #[.agg #[.bool N.leaf, .slice EA N.ents.length ec, .slice KA N.keys.length kc, .slice CA N.kids.length cc], .int .i64 0]) (by simp [results, Tryz.results24, go_sem, C0, C1, C2, C3]) rfl (.inl ⟨HY.out, _, _, _, by rw [HNE.out], by rw [HNE.out]; exact OB.out, MB⟩)
            · have HNO := Lib.hid (show ¬ isNd l from fun h => hby (HN.out.2.2.1 h).2)
              rw [decide_eq_false hby] at hi
              have hi2 : (S1.toList != S2.toList) = true := by show (!(S1.toList == S2.toList)) = true; rw [hi]; rfl
              clear hby
              go_wp2_with (first
                | (with_reducible change wpList _ _ _ (⟨none, Op.store _ (Operand.tmp 2) _, _, _, _, _⟩ :: _) _ _
                   go_must (refine wpList_store_var 32 _ _ rfl rfl w.heap.size #[.bool false, .slice none 0 0, .slice none 0 0, .slice none 0 0] _ _ rfl rfl H6.out.res size_node rfl (nd4 _ _ _ _ _ _ _ _ _ _) ?_)
                   intro wb bb mb zb
                   have MB := H6.out.m.new_ mb (Nat.le_refl _)
                   have C0 := bb.cell 0; have C1 := bb.cell 1; have C2 := bb.cell 2; have C3 := bb.cell 3
                   clear bb mb zb))
              refine bodyPost_ret (v := .tuple #[.agg #[.bool false, .slice none 0 0, .slice none 0 0, .slice none 0 0], .int .i64 4]) (by simp [results, Tryz.results24, go_sem, C0, C1, C2, C3]) rfl (.inr ⟨HNO.out, rfl, MB⟩)
end
end Go.Proofs.YtfoldjnmknaklaaGreat

/- peatbankref15.Get of any bytes. -/
namespace Go.Proofs.YtfoldjnmknaklaaGreat
open Go.RowKit

theorem rget_any {w : World} {A : Option Addr} {n c : Nat} {l : List Nat} (hr : Rd w A n (bv l)) (hc : n ≤ c) (hz : ∀ z ∈ l, z < 256) : Calls Tryz.prog 24 #[.slice A n c] w (GetP w l) := by
  by_cases hn : n = 1024
  · by_cases h0 : l.getD 0 0 = 0
    · exact rget_b0 hr hn hc hz h0
    by_cases h2 : 2 < l.getD 0 0
    · exact rget_b2 hr hn hc hz h2
    by_cases h20 : 20 < l.getD 1 0
    · exact rget_b20 hr hn hc hz ⟨by omega, by omega, h20⟩
    by_cases h1 : l.getD 0 0 = 1
    · by_cases h12 : 12 < l.getD 1 0
      · exact rget_b12 hr hn hc hz ⟨h1, by omega, h12⟩
      · exact rget_leaf hr hn hc hz ⟨by omega, fun _ => by omega⟩ h1
    · exact rget_inner hr hn hc hz ⟨by omega, fun h => (h1 h).elim⟩ (by omega)
  · exact rget_len hr hn
end Go.Proofs.YtfoldjnmknaklaaGreat
