/- peatbanklaw21.JournalWrites (printed by wip/gen/jn19.py). -/
import Derived.Test.YtijmkbhbpbkkoaaGreatJnD
import Derived.Test.YtijmkbhbpbkkoaaGreatJnE
import Derived.Test.YtijmkbhbpbkkoaaGreatJnW
import Derived.Test.YtijmkbhbpbkkoaaGreatBytesL
namespace Go.Proofs.YtijmkbhbpbkkoaaGreat
open Go.RowKit

section
variable {w : World} {A : Option Addr} {n cc : Nat} {R : List (List Nat)}
set_option maxRecDepth 100000 in
set_option maxHeartbeats 12800000 in
theorem journalwrites_any (g : Geo) (ep : Int) (z : Int) (hr : RdR w A n R) (hn : n ≤ 9223372036854775807) (hl : ∀ r ∈ R, ∀ z ∈ r, z < 256) : Calls Tryz.prog 3 #[gV g, .int .i64 ep, .slice A n cc, .int .u8 z] w fun e w' => e = .returned (.bool true) ∧ Mod Nn w w' := by
  have HL := Lib.hid (And.intro hr (And.intro hl hn))
  clear hr hl hn
  unfold gV
  go_enter Tryz.func3, Tryz.ntmps3
  go_wp2_with (first
    | (with_reducible change wpList _ _ _ (⟨some 4, Op.box _ _, _, _, _, _⟩ :: _) _ _
       go_must (refine wpList_box_var 23 _ rfl rfl (gC g) rfl ?_)
       intro w1 b1 m1 z1
       clear z1
       have hs1 : w.heap.size < w1.heap.size := b1.lt
       have H1 := Lib.hid (And.intro m1 b1)
       clear m1 b1))
  refine (jawake_any w1).mono ?_
  rintro r w2 ⟨rfl, m2⟩
  have hs2 : w1.heap.size ≤ w2.heap.size := m2.size
  have H2 := Lib.hid (And.intro (H1.out.1.nn_ m2) (H1.out.2.mod m2 (fun f => f)))
  clear m2
  have HB := Lib.hid (show ∀ w', Mod Nn w2.drew w' → Blk w' w.heap.size 23 (gC g) from fun w' m => (H2.out.2.mod (Mod.refl Nn w2).drew (fun f => f)).mod m (fun f => f))
  by_cases hno : ¬ Light R
  · have HLi := Lib.hid (show decide (Light R) = false from decide_eq_false hno)
    go_wp2_with fail
    refine wp_region_planC (fun w' => Mod Nn w2.drew w') [(0, true), (1, false), (2, true), (3, true), (4, true), (5, false), (6, true), (7, true), (8, true), (9, true), (10, true), (11, true), (12, false), (13, false), (14, true), (15, true)] (by kernel_rfl) (by kernel_rfl) (Mod.refl _ _) ?_
    iterate 1 (refine pc_pure rfl rfl (fun K hK => ?_); go_simp; refine hK _ ?_; clear hK K)
    refine pc_call rfl rfl (fun K hK => ?_); go_simp; refine ⟨_, _, ⟨rfl, rfl⟩, hK _ _ _ ?_⟩; clear hK K
    refine (light_any (HL.out.1.mod (H2.out.1.drew)) HL.out.2.2).mono ?_
    rintro e w3 ⟨rfl, m3⟩
    rw [HLi.out]
    have M3 := Lib.hid m3
    clear m3
    refine ⟨_, rfl, M3.out, ?_⟩
    iterate 2 (refine pc_pure rfl rfl (fun K hK => ?_); go_simp; refine hK _ ?_; clear hK K)
    refine pc_skip rfl rfl (fun K hK => ?_); go_simp; refine hK _ ?_; clear hK K
    refine pc_skipD rfl rfl (fun K hK => ?_); go_simp; refine hK _ ?_; clear hK K
    refine pc_skip rfl rfl (fun K hK => ?_); go_simp; refine hK _ ?_; clear hK K
    iterate 2 (refine pc_pure rfl rfl (fun K hK => ?_); go_simp; refine hK _ ?_; clear hK K)
    iterate 3 (refine pc_skip rfl rfl (fun K hK => ?_); go_simp; refine hK _ ?_; clear hK K)
    refine pc_skipD rfl rfl (fun K hK => ?_); go_simp; refine hK _ ?_; clear hK K
    refine pc_skipD rfl rfl (fun K hK => ?_); go_simp; refine hK _ ?_; clear hK K
    refine pc_skip rfl rfl (fun K hK => ?_); go_simp; refine hK _ ?_; clear hK K
    iterate 1 (refine pc_pure rfl rfl (fun K hK => ?_); go_simp; refine hK _ ?_; clear hK K)
    refine pc_nil ?_
    go_wp2
    go_ret
    exact ⟨rfl, H2.out.1.drew.nn_ M3.out⟩
  have hli := Decidable.not_not.1 hno
  clear hno
  have HLi := Lib.hid (show decide (Light R) = true from decide_eq_true hli)
  by_cases hsec : 3000 < g.nsec
  · have d2 : decide (3000 < g.nsec) = true := decide_eq_true hsec
    go_wp2_with fail
    refine wp_region_planC (fun w' => Mod Nn w2.drew w') [(0, true), (1, false), (2, true), (3, true), (4, true), (5, false), (6, true), (7, true), (8, true), (9, true), (10, true), (11, true), (12, false), (13, false), (14, true), (15, true)] (by kernel_rfl) (by kernel_rfl) (Mod.refl _ _) ?_
    iterate 1 (refine pc_pure rfl rfl (fun K hK => ?_); go_simp; refine hK _ ?_; clear hK K)
    refine pc_call rfl rfl (fun K hK => ?_); go_simp; refine ⟨_, _, ⟨rfl, rfl⟩, hK _ _ _ ?_⟩; clear hK K
    refine (light_any (HL.out.1.mod (H2.out.1.drew)) HL.out.2.2).mono ?_
    rintro e w3 ⟨rfl, m3⟩
    rw [HLi.out]
    have M3 := Lib.hid m3
    clear m3
    refine ⟨_, rfl, M3.out, ?_⟩
    iterate 2 (refine pc_pure rfl rfl (fun K hK => ?_); go_simp; refine hK _ ?_; clear hK K)
    refine pc_take _ rfl rfl (fun w' hS => exec_load_row (P := Tryz.prog) 23 _ rfl rfl (HB.out w' hS) Tryz.underlying23 rfl size_geo) (fun K hK => ?_); go_simp; refine hK _ ?_; clear hK K
    refine pc_call rfl rfl (fun K hK => ?_); go_simp; refine ⟨_, _, ⟨rfl, rfl⟩, hK _ _ _ ?_⟩; clear hK K
    refine (r11sectors_any g _).mono ?_
    rintro e w4 ⟨rfl, m4⟩
    have M4 := Lib.hid (M3.out.nn_ m4)
    clear m4
    refine ⟨_, rfl, M4.out, ?_⟩
    iterate 3 (refine pc_pure rfl rfl (fun K hK => ?_); go_simp; refine hK _ ?_; clear hK K)
    iterate 3 (refine pc_skip rfl rfl (fun K hK => ?_); go_simp; refine hK _ ?_; clear hK K)
    refine pc_skipD rfl rfl (fun K hK => ?_); go_simp; refine hK _ ?_; clear hK K
    refine pc_skipD rfl rfl (fun K hK => ?_); go_simp; refine hK _ ?_; clear hK K
    refine pc_skip rfl rfl (fun K hK => ?_); go_simp; refine hK _ ?_; clear hK K
    iterate 1 (refine pc_pure rfl rfl (fun K hK => ?_); go_simp; refine hK _ ?_; clear hK K)
    refine pc_nil ?_
    go_wp2
    go_ret
    exact ⟨rfl, H2.out.1.drew.nn_ M4.out⟩
  have d2 : decide (3000 < g.nsec) = false := decide_eq_false hsec
  obtain ⟨mb, hmb⟩ : ∃ mb : Bool, decide (jmay g ep g.nsec) = mb := ⟨_, rfl⟩
  have HMB := Lib.hid hmb
  clear hmb
  go_wp2_with fail
  refine wp_region_planC (fun w' => Mod Nn w2.drew w') [(0, true), (1, false), (2, true), (3, true), (4, true), (5, false), (6, true), (7, true), (8, true), (9, true), (10, true), (11, true), (12, false), (13, false), (14, true), (15, true)] (by kernel_rfl) (by kernel_rfl) (Mod.refl _ _) ?_
  iterate 1 (refine pc_pure rfl rfl (fun K hK => ?_); go_simp; refine hK _ ?_; clear hK K)
  refine pc_call rfl rfl (fun K hK => ?_); go_simp; refine ⟨_, _, ⟨rfl, rfl⟩, hK _ _ _ ?_⟩; clear hK K
  refine (light_any (HL.out.1.mod (H2.out.1.drew)) HL.out.2.2).mono ?_
  rintro e w3 ⟨rfl, m3⟩
  rw [HLi.out]
  have M3 := Lib.hid m3
  clear m3
  refine ⟨_, rfl, M3.out, ?_⟩
  iterate 2 (refine pc_pure rfl rfl (fun K hK => ?_); go_simp; refine hK _ ?_; clear hK K)
  refine pc_take _ rfl rfl (fun w' hS => exec_load_row (P := Tryz.prog) 23 _ rfl rfl (HB.out w' hS) Tryz.underlying23 rfl size_geo) (fun K hK => ?_); go_simp; refine hK _ ?_; clear hK K
  refine pc_call rfl rfl (fun K hK => ?_); go_simp; refine ⟨_, _, ⟨rfl, rfl⟩, hK _ _ _ ?_⟩; clear hK K
  refine (r11sectors_any g _).mono ?_
  rintro e w4 ⟨rfl, m4⟩
  have M4 := Lib.hid (M3.out.nn_ m4)
  clear m4
  refine ⟨_, rfl, M4.out, ?_⟩
  iterate 3 (refine pc_pure rfl rfl (fun K hK => ?_); go_simp; refine hK _ ?_; clear hK K)
  refine pc_take _ rfl rfl (fun w' hS => exec_load_row (P := Tryz.prog) 23 _ rfl rfl (HB.out w' hS) Tryz.underlying23 rfl size_geo) (fun K hK => ?_); go_simp; refine hK _ ?_; clear hK K
  iterate 1 (refine pc_pure rfl rfl (fun K hK => ?_); go_simp; refine hK _ ?_; clear hK K)
  refine pc_take _ rfl rfl (fun w' hS => exec_load_row (P := Tryz.prog) 23 _ rfl rfl (HB.out w' hS) Tryz.underlying23 rfl size_geo) (fun K hK => ?_); go_simp; refine hK _ ?_; clear hK K
  refine pc_call rfl rfl (fun K hK => ?_); go_simp; refine ⟨_, _, ⟨rfl, rfl⟩, hK _ _ _ ?_⟩; clear hK K
  refine (r11sectors_any g _).mono ?_
  rintro e w5 ⟨rfl, m5⟩
  have M5 := Lib.hid (M4.out.nn_ m5)
  clear m5
  refine ⟨_, rfl, M5.out, ?_⟩
  refine pc_call rfl rfl (fun K hK => ?_); go_simp; refine ⟨_, _, ⟨rfl, rfl⟩, hK _ _ _ ?_⟩; clear hK K
  refine (rmay_any g ep g.nsec _).mono ?_
  rintro e w6 ⟨rfl, m6⟩
  rw [HMB.out]
  have M6 := Lib.hid (M5.out.nn_ m6)
  clear m6
  refine ⟨_, rfl, M6.out, ?_⟩
  iterate 2 (refine pc_pure rfl rfl (fun K hK => ?_); go_simp; refine hK _ ?_; clear hK K)
  refine pc_nil ?_
  cases mb
  · go_wp2
    go_ret
    exact ⟨rfl, H2.out.1.drew.nn_ M6.out⟩
  have hmay := of_decide_eq_true HMB.out
  have hns : g.nsec = g.sectors := if_pos hmay.1
  have hb := Geo.sec_bound hmay.1
  have hbd := half_bound hmay.1 ep
  obtain ⟨J, hJ⟩ : ∃ J : Nat, g.j = (J : Int) := ⟨g.j.toNat, by omega⟩
  obtain ⟨Ns, hNs⟩ : ∃ Ns : Nat, g.nsec = (Ns : Int) := ⟨g.nsec.toNat, by omega⟩
  obtain ⟨a, ha⟩ : ∃ a : Nat, g.half ep = (a : Int) := ⟨(g.half ep).toNat, by omega⟩
  obtain ⟨nJ, hnJ⟩ : ∃ nJ, nJ = 512 * J := ⟨_, rfl⟩
  obtain ⟨nN, hnN⟩ : ∃ nN, nN = 512 * Ns := ⟨_, rfl⟩
  obtain ⟨nA, hnA⟩ : ∃ nA, nA = 512 * a := ⟨_, rfl⟩
  have hBD : 8 ≤ J ∧ J ≤ 64 ∧ 2 ≤ a ∧ a + J ≤ Ns ∧ 1 ≤ Ns ∧ Ns ≤ 3000 := by omega
  have e1 : wrap64 (512 * (J : Int)) = (nJ : Int) := by rw [wrap64_id (by omega) (by omega)]; omega
  have e2 : IntKind.i64.wrap (512 * (J : Int)) = (nJ : Int) := by rw [IntKind.wrap_i64]; omega
  have e3 : wrap64 (512 * (Ns : Int)) = (nN : Int) := by rw [wrap64_id (by omega) (by omega)]; omega
  have e4 : IntKind.i64.wrap (512 * (Ns : Int)) = (nN : Int) := by rw [IntKind.wrap_i64]; omega
  have e5 : wrap64 (512 * (a : Int)) = (nA : Int) := by rw [wrap64_id (by omega) (by omega)]; omega
  have e6 : IntKind.i64.wrap (512 * (a : Int)) = (nA : Int) := by rw [IntKind.wrap_i64]; omega
  have hmay2 : jmay g ep (Ns : Int) := by rwa [hNs] at hmay
  have HG := Lib.hid (And.intro hmay2 (And.intro hJ (And.intro hNs (And.intro ha (And.intro hnJ (And.intro hnN (And.intro hnA hBD)))))))
  have HJL := Lib.hid (show J ≤ 1000000 by omega)
  have hN : 4096 ≤ nJ ∧ nJ ≤ 32768 ∧ nA + nJ ≤ nN ∧ nN ≤ 1536000 ∧ nJ < nN := by omega
  have HN := Lib.hid hN
  have hRn : R.length = n := HL.out.1.1
  have HLn := Lib.hid (show n ≤ 20 ∧ ∀ r ∈ R, r.length ≤ 3000 from ⟨by have := hli.2; omega, hli.1⟩)
  have H6 := Lib.hid (And.intro (H2.out.1.drew.nn_ M6.out) (HB.out _ M6.out))
  clear hN hmay hmay2 hns hb hbd hJ hNs ha hnJ hnN hnA hBD HMB H2 M6 M5 M4 M3 HB H1 d2 hsec HLi hli hRn
  go_wp2_with (first
    | (with_reducible change wpList _ _ _ (⟨some 43, Op.load _ _, _, _, _, _⟩ :: _) _ _
       go_must (refine wpList_load_var 23 _ rfl rfl w.heap.size (gC g) _ _ rfl H6.out.2 Tryz.underlying23 rfl size_geo ?_)))
  refine (r11sectors_any g _).mono ?_
  rintro r w7 ⟨rfl, m7⟩
  rw [HG.out.2.2.1]
  have H7 := Lib.hid (And.intro (H6.out.1.nn_ m7) (H6.out.2.mod m7 (fun f => f)))
  clear m7 H6
  go_wp2_with (first
    | (with_reducible change wpList _ _ _ (⟨some 46, _, _, _, _, _⟩ :: _) _ _
       go_must (refine wpList_val rfl (exec_make1 (P := Tryz.prog) 29 _ _ rfl 5 (.int .u8 0) 1 Tryz.underlying29 info_byte rfl nN nN rfl rfl (Nat.le_refl _) (by have := HN.out; omega) (by have := HN.out; omega)) ?_)
       have b8 : Blk (w7.alloc (.cells (Array.replicate nN (.int .u8 0)) 5)) w7.heap.size 5 (Array.replicate nN (.int .u8 0)) := Blk.new _ _ _
       have m8 : Mod Nn w7 (w7.alloc (.cells (Array.replicate nN (.int .u8 0)) 5)) := (Mod.refl _ _).alloc _
       generalize w7.alloc (.cells (Array.replicate nN (.int .u8 0)) 5) = w8 at *
       have H8 := Lib.hid (And.intro (H7.out.1.nn_ m8) (And.intro (H7.out.2.mod m8 (fun f => f)) b8))
       clear b8 m8))
  obtain ⟨gA, hgA⟩ : ∃ gA, w7.heap.size = gA := ⟨_, rfl⟩
  rw [hgA] at H8 ⊢
  have hgw : w.heap.size < gA := by have := H7.out.2.lt; omega
  have HGW := Lib.hid hgw
  clear hgA hgw H7
  go_wp2
  go_loopw [10] (fun i wr => ∃ k : Nat, k ≤ nN ∧ i = .int .i64 k ∧ Blk wr gA 5 (fillN nN z k).toArray ∧ Mod (At gA) w8 wr) (fun i _ => nN - (intOf i).toNat)
  case atStart => exact ⟨0, Nat.zero_le _, rfl, by rw [fillN_zero]; exact H8.out.2.2, Mod.refl _ _⟩
  case round =>
    obtain ⟨k, hk, rfl, hbk, hmr⟩ := hrel
    have hkN : k ≤ 1536000 := by have := HN.out; omega
    by_cases hlt : k < nN
    · have hlt' : (k : Int) < nN := by omega
      have ck := hbk.cell k
      rw [fillN_at hlt] at ck
      have fk := hbk.frozen k
      have HE := Lib.hid (show Blk (wr.setCell ⟨gA, k, none⟩ (.int .u8 z)) gA 5 (fillN nN z (k + 1)).toArray ∧ Mod (At gA) w8 (wr.setCell ⟨gA, k, none⟩ (.int .u8 z)) from ⟨by have := hbk.set_ k (.int .u8 z); rwa [fillN_set hlt] at this, hmr.trans (Mod.cellAt wr gA k _)⟩)
      clear hbk hmr
      go_wp2
      exact ⟨⟨k + 1, by omega, by go_num, HE.out.1, HE.out.2⟩, by simp [intOf]; omega⟩
    · have hkn : nN = k := by omega
      subst hkn
      obtain ⟨w9, rfl⟩ : ∃ w9 : World, w9 = wr := ⟨_, rfl⟩
      rw [fillN_all] at hbk
      obtain ⟨zs, hzs⟩ : ∃ zs : List Int, zs = List.replicate nN z := ⟨_, rfl⟩
      rw [← hzs] at hbk
      have hzl : zs.length = nN := by rw [hzs, List.length_replicate]
      have H9 := Lib.hid (And.intro (H8.out.1.new_ hmr (by have := HGW.out; omega)) (And.intro (H8.out.2.1.mod hmr (fun e => by have e : w.heap.size = gA := e; have := HGW.out; omega)) (And.intro hbk hzl)))
      have hrz : Rd w9 (some ⟨gA, 0, none⟩) nN (zs.map (Value.int .u8)) := Rd.of_blk0 hbk (by rw [List.length_map, hzl])
      have HRZ := Lib.hid hrz
      clear hbk hmr hzl hzs hrz H8 hkN hlt hk
      go_wp2_with fail
      refine (of_any (n := Ns) (c := nN) HRZ.out (Nat.le_refl _) (by have := HN.out; unfold maxLen; omega) (by have := HG.out; omega) (by have := HG.out; omega) (by have := HG.out; omega)).mono ?_
      rintro r w10 ⟨b, ms, mo, rfl, hd10, m10, hfr10⟩
      have HD10 := Lib.hid (And.intro hd10 (And.intro m10 hfr10))
      clear hd10 m10 hfr10
      go_wp2_with fail
      refine (cnew_any HD10.out.1 8 (by omega)).mono ?_
      rintro r w11 ⟨c, mk, rfl, hC11, m11, hc11, hmk11⟩
      have hOC : OwnC w9 w11 c b ms mo mk (ofD zs Ns Ns) 8 0 0 0 [] [] := ⟨hC11, HD10.out.2.1.nn_ m11, fun k hk => by
        have hz := HD10.out.2.1.size
        rcases hk with (rfl | rfl | ⟨e, he, -⟩) | hk
        · omega
        · omega
        · cases he
        · exact HD10.out.2.2 k hk⟩
      have HOC := Lib.hid hOC
      have H11 := Lib.hid (H9.out.2.1.mod hOC.md (fun f => f))
      clear hC11 m11 hc11 hmk11 hOC HD10
      go_wp2_with (first
        | (with_reducible change wpList _ _ _ (⟨some 62, Op.load _ _, _, _, _, _⟩ :: _) _ _
           go_must (refine wpList_load_var 23 _ rfl rfl w.heap.size (gC g) _ _ rfl H11.out Tryz.underlying23 rfl size_geo ?_)))
      obtain ⟨D1, hw1, hst1⟩ := jst_clear (D0 := ofD zs Ns Ns) (hf := g.half ep) (J := J) ep ⟨rfl, rfl⟩ (by rw [HG.out.2.2.2.1]; omega) (by rw [HG.out.2.2.2.1]; show (a : Int) + J ≤ (Ns : Int); have := HG.out; omega)
      refine (clear_ok HOC.out.at_ g ep HG.out.1 (by omega) (by rw [HG.out.2.1, Int.toNat_natCast]; exact hw1)).mono ?_
      rintro r w12 ⟨now12, l12, T12, rfl, hC12, hT12, hn12⟩
      have hOC12 := HOC.out.step hC12 hT12
      have HOC12 := Lib.hid (And.intro hOC12 (And.intro hst1 hn12))
      have H12 := Lib.hid (H9.out.2.1.mod hOC12.md (fun f => f))
      clear hC12 hT12 hn12 hOC12 hw1 hst1 HOC H11
      go_wp2_with (first
        | (with_reducible change wpList _ _ _ (⟨some 68, Op.load _ _, _, _, _, _⟩ :: _) _ _
           go_must (refine wpList_load_var 23 _ rfl rfl w.heap.size (gC g) _ _ rfl H12.out Tryz.underlying23 rfl size_geo ?_)))
      refine (jnow_open (t := 64) HOC12.out.1 g HOC12.out.2.1 HG.out.2.1 HG.out.1 (by have := HOC12.out.2.2; omega) (by omega) (Nat.zero_le _) (fun r hr => by cases hr) (fun r hr => by cases hr)).mono ?_
      rintro r w13 ⟨jb, v13, rfl, hj13, hr13, -⟩
      rw [HG.out.2.2.2.1] at hj13
      obtain ⟨A13, c13, rfl, -, -⟩ := hr13.rd
      have H13 := Lib.hid (And.intro hj13 (H9.out.2.1.mod hj13.md (fun f => f)))
      clear hj13 hr13 HOC12 H12
      rw [List.length_nil]
      go_wp2_with (first
        | (with_reducible change wpList _ _ _ (⟨some 81, Op.load _ _, _, _, _, _⟩ :: _) _ _
           go_must (refine wpList_load_var 23 _ rfl rfl w.heap.size (gC g) _ _ rfl H13.out.2 Tryz.underlying23 rfl size_geo ?_)))
      refine (r11half_any g ep _ HG.out.1.1 HG.out.1.2.1 (by have := HG.out.1.2.2.1; omega)).mono ?_
      rintro r w14 ⟨rfl, m14⟩
      rw [HG.out.2.2.2.1]
      have H14 := Lib.hid (And.intro (H13.out.1.nn m14) (H13.out.2.mod m14 (fun f => f)))
      have c14 : w14.cell? ⟨w.heap.size, 4, none⟩ = some (.int .i64 (J : Int)) := by rw [← HG.out.2.1]; exact H14.out.2.cell 4
      clear m14 H13
      go_wp2_with (first
        | (with_reducible change wpList _ _ _ (⟨some 88, _, _, _, _, _⟩ :: _) _ _
           go_must (refine wpList_val rfl (exec_make1 (P := Tryz.prog) 29 _ _ rfl 5 (.int .u8 0) 1 Tryz.underlying29 info_byte rfl nJ nJ rfl rfl (Nat.le_refl _) (by have := HN.out; omega) (by have := HN.out; omega)) ?_)
           have b15 : Blk (w14.alloc (.cells (Array.replicate nJ (.int .u8 0)) 5)) w14.heap.size 5 (Array.replicate nJ (.int .u8 0)) := Blk.new _ _ _
           have m15 : Mod Nn w14 (w14.alloc (.cells (Array.replicate nJ (.int .u8 0)) 5)) := (Mod.refl _ _).alloc _
           generalize w14.alloc (.cells (Array.replicate nJ (.int .u8 0)) 5) = w15 at *
           have hb15 : Blk w15 w14.heap.size 5 (bv (jrow ep.toNat 0 [] ++ List.replicate (512 * (J - jsec [])) 0)).toArray := by
             have := want_zero ep J
             rw [← HG.out.2.2.2.2.1] at this
             rw [← this]; exact b15
           have H15 := Lib.hid (And.intro (((H14.out.1).with_ (g := w14.heap.size) m15 (Nat.le_refl _) b15.lt).sub (Y := At w14.heap.size) (fun k hk => .inr hk)) (And.intro hb15 H14.out.1.md.size))
           clear b15 m15 hb15))
      obtain ⟨gW, hgW⟩ : ∃ gW, w14.heap.size = gW := ⟨_, rfl⟩
      rw [hgW] at H15 ⊢
      clear hgW c14 H14
      go_wp2
      go_loopw [18, 19, 20] (fun u s i wr => ∃ (k : Nat) (done : List (List Nat)), k ≤ n ∧ i = .int .i64 k ∧ u = .int .i64 ((jsec done : Nat) : Int) ∧ s = .int .i64 ((done.length : Nat) : Int) ∧ done.length ≤ k ∧ JNow w9 wr c b ms mo mk jb (ofD zs Ns Ns) (a : Int) J ep done (At gW) (2000 + 100 * (k : Int)) ∧ Blk wr gW 5 (bv (jrow ep.toNat 0 done ++ List.replicate (512 * (J - jsec done)) 0)).toArray) (fun _ _ i _ => n - (intOf i).toNat)
      case atStart => exact ⟨0, [], Nat.zero_le _, rfl, rfl, rfl, Nat.le_refl _, H15.out.1.le (by omega), H15.out.2.1⟩
      case round =>
        obtain ⟨k, done, hk, rfl, rfl, rfl, hdk, hJN, hbW⟩ := hrel
        have hkn : k ≤ 20 := by have := HLn.out.1; omega
        have hju : jsec done ≤ 64 := by have := hJN.fit; have := HG.out; omega
        have hdl : done.length ≤ 20 := by omega
        obtain ⟨p, hp⟩ : ∃ p, p = 512 * jsec done := ⟨_, rfl⟩
        have e11 : wrap64 (512 * ((jsec done : Nat) : Int)) = (p : Int) := by rw [wrap64_id (by omega) (by omega)]; omega
        have e12 : IntKind.i64.wrap (512 * ((jsec done : Nat) : Int)) = (p : Int) := by rw [IntKind.wrap_i64]; omega
        have hpJ : p ≤ nJ := by have := hJN.fit; have := HG.out; omega
        have e13 : wrap64 ((nJ : Int) - (p : Int)) = ((nJ - p : Nat) : Int) := by have := HN.out; rw [wrap64_id (by omega) (by omega)]; omega
        have e14 : IntKind.i64.wrap ((nJ : Int) - (p : Int)) = ((nJ - p : Nat) : Int) := by have := HN.out; rw [IntKind.wrap_i64]; omega
        by_cases hlt : k < n
        · have hlt' : (k : Int) < n := by omega
          obtain ⟨gR, off, r, B, c', rfl, hri, hcell, hrd⟩ := (HL.out.1.mod H9.out.1).at_ hlt
          have hrm := List.mem_of_getElem? hri
          have hr3 : r.length ≤ 3000 := HLn.out.2 r hrm
          have hrlt := HL.out.2.1 r hrm
          have hf7 : fsec r.length ≤ 7 := by unfold fsec; omega
          have hf1 := fsec_pos r.length
          obtain ⟨q, hq⟩ : ∃ q, q = 512 * fsec r.length := ⟨_, rfl⟩
          obtain ⟨hpe, hpb⟩ := pbytes_rec (Dt := r) HG.out.1.2.1 HG.out.1.2.2.1 (by omega : done.length ≤ 1099511627776) (by omega)
          have hql : (recB ep done.length r).length = q := by rw [recB_len, hq]
          have HC := Lib.hid (And.intro hcell (And.intro hrd (And.intro hrlt (And.intro hpe (And.intro hpb hql)))))
          have c98 := hcell wr hJN.md
          clear hri hcell hrd hrm hrlt hpe hpb hql
          have HJ0 := Lib.hid (And.intro hJN hbW)
          have HP0 := Lib.hid (And.intro hp hq)
          clear hJN hbW hp hq
          go_wp2_with fail
          refine (lentn_any (HC.out.2.1.mod HJ0.out.1.md (fun _ _ f => f)) (by omega)).mono ?_
          rintro r' w1 ⟨gI, rfl, bI, mI, hgI⟩
          have HJ1 := Lib.hid (And.intro (HJ0.out.1.with_ (g := gI) mI hgI bI.lt) (And.intro bI (And.intro (lentn_rd (n := r.length) bI rfl) (HJ0.out.2.mod mI (fun f => f)))))
          clear c98 bI mI hgI
          by_cases hfit : jsec done + fsec r.length ≤ J
          · go_wp2_with fail
            refine (jnow_append (cc := r.length + 12) HJ1.out.1 HJ1.out.2.2.1 HC.out.2.2.1 HG.out.1.2.1 HG.out.1.2.2.1 (by omega) (by omega) (by have := HG.out; omega) (by omega) (by have := HG.out; omega) (by show (a : Int) + J ≤ (Ns : Int); have := HG.out; omega) (by omega) hfit).mono ?_
            rintro r' w2 ⟨rfl, hJ2, m2⟩
            have HJ2 := Lib.hid (And.intro hJ2 (And.intro (HJ1.out.2.1.mod m2 (fun h => h.2 (.inr rfl))) (HJ1.out.2.2.2.mod m2 (fun h => h.2 (.inl rfl)))))
            have c109 := HC.out.1 w2 hJ2.md
            clear hJ2 m2 HJ1 HJ0
            go_wp2_with fail
            refine (next21_any ep (done.length : Int) (HC.out.2.1.mod HJ2.out.1.md (fun _ _ f => f)) HC.out.2.2.1).mono ?_
            rintro r' w3 ⟨A3, c3, rfl, own3, m3⟩
            rw [HC.out.2.2.2.1]
            rw [HC.out.2.2.2.2.1, HC.out.2.2.2.2.2] at own3 ⊢
            have HJ3 := Lib.hid (And.intro (HJ2.out.1.nn m3) (And.intro (HJ2.out.2.1.mod m3 (fun f => f)) (And.intro (HJ2.out.2.2.mod m3 (fun f => f)) (Rd.of_own own3))))
            have c117 := HC.out.1 w3 HJ3.out.1.md
            clear own3 m3 HJ2 c109
            go_wp2_with fail
            refine (keptn_any (HC.out.2.1.mod HJ3.out.1.md (fun _ _ f => f)) HJ3.out.2.1 (by omega)).mono ?_
            rintro r' w4 ⟨rfl, m4⟩
            have HJ4 := Lib.hid (And.intro ((HJ3.out.1.nn m4).sub (Y := At gW) (fun k hk => .inl hk)) (And.intro (HJ3.out.2.2.1.mod m4 (fun f => f)) (HJ3.out.2.2.2.mod m4 (fun _ _ f => f))))
            clear m4 HJ3 c117
            obtain ⟨dq, e15, e16, e17, e18, e19⟩ := jw_ok HP0.out.1 HP0.out.2 HG.out.2.2.2.2.1 hfit HG.out.2.2.2.2.2.2.2.2.1 hf1
            have HPQ := Lib.hid (And.intro HP0.out.1 (And.intro HP0.out.2 (jw_ok2 HP0.out.1 HP0.out.2 HG.out.2.2.2.2.1 hfit hf1)))
            have HSA := Lib.hid (subA_18 (g := gW) (N := nJ) (a := p) HPQ.out.2.2.1)
            go_wp2_with (first
              | (with_reducible change wpList _ _ _ (⟨some 135, _, _, _, _, _⟩ :: _) _ _
                 go_must (refine wpList_val rfl (exec_sub_l (P := Tryz.prog) 29 _ _ rfl 5 1 Tryz.underlying29 (by kernel_rfl) (A := some ⟨gW, 0, none⟩) (n := nJ) (c := nJ) (l := p) rfl rfl HPQ.out.2.2.2.1) ?_)
                 rw [HSA.out])
              | (with_reducible change wpList _ _ _ (⟨some 137, _, _, _, _, _⟩ :: _) _ _
                 go_must (refine wpList_val rfl (exec_copy_blk (P := Tryz.prog) 1 29 29 _ _ rfl Tryz.underlying29 size_u8' (g := gW) (off := p) (dn := nJ - p) (dc := nJ - p) (sn := q) (sc := c3) q (B := A3) (cs := bv (recB ep done.length r)) rfl rfl HJ4.out.2.1 HPQ.out.2.2.2.2.1 HJ4.out.2.2.toC (by rw [List.size_toArray, want_len HPQ.out.2.2.2.2.2.1]; exact HPQ.out.2.2.2.2.2.2) (bv_one18 _)) ?_)
                 rw [HPQ.out.1, want_step hfit, ← HPQ.out.1]
                 obtain ⟨u5, hu5⟩ : ∃ u5, u5 = (bv (jrow ep.toNat 0 (done ++ [r]) ++ List.replicate (512 * (J - jsec (done ++ [r]))) 0)).toArray := ⟨_, rfl⟩
                 rw [← hu5]
                 have b5 := HJ4.out.2.1.setRow_ u5
                 have m5 : Mod (At gW) w4 (w4.setRow gW u5) := Mod.rowAt _ _ _
                 generalize w4.setRow gW u5 = w5 at *
                 subst hu5
                 have HJ5 := Lib.hid (And.intro (HJ4.out.1.at_ (g := gW) rfl H15.out.2.2 m5) b5)
                 clear b5 m5 HJ4 HSA))
            have c148 : ∀ w', Mod Nn w5.drew w' → w'.cell? ⟨w.heap.size, 4, none⟩ = some (.int .i64 (J : Int)) := fun w' m => by
              rw [← HG.out.2.1]; exact (H9.out.2.1.mod (HJ5.out.1.md.drew.nn_ m) (fun f => f)).cell 4
            have HCZ := Lib.hid c148
            clear c148
            have hjs : jsec (done ++ [r]) = jsec done + fsec r.length := jsec_snoc _ _
            have hdn : (done ++ [r]).length = done.length + 1 := by rw [List.length_append]; rfl
            go_wp2_with fail
            refine wp_region_planC (fun w' => Mod Nn w5.drew w') [(0, true), (2, true), (3, true), (4, true), (5, true), (1, false), (6, true)] (by kernel_rfl) (by kernel_rfl) (Mod.refl _ _) ?_
            iterate 2 (refine pc_pure rfl rfl (fun K hK => ?_); go_simp; refine hK _ ?_; clear hK K)
            refine pc_take (.int .i64 (J : Int)) rfl rfl (fun w' hS => exec_load1 (P := Tryz.prog) (ad := ⟨w.heap.size, 4, none⟩) 3 _ rfl rfl (HCZ.out w' hS) Tryz.underlying3 rfl) (fun K hK => ?_); go_simp; refine hK _ ?_; clear hK K
            iterate 2 (refine pc_pure rfl rfl (fun K hK => ?_); go_simp; refine hK _ ?_; clear hK K)
            refine pc_call rfl rfl (fun K hK => ?_); go_simp; refine ⟨_, _, ⟨rfl, rfl⟩, hK _ _ _ ?_⟩; clear hK K
            refine (jnow_room (HJ5.out.1.nn (Mod.refl Nn w5).drew) HJL.out).mono ?_
            rintro r' w6 ⟨rfl, m6⟩
            rw [hjs]
            refine ⟨_, rfl, m6, ?_⟩
            iterate 1 (refine pc_pure rfl rfl (fun K hK => ?_); go_simp; refine hK _ ?_; clear hK K)
            refine pc_nil ?_
            clear e1 e2 e3 e4 e5 e6 e11 e12 e13 e14 e15 e16 e17 e18 e19 dq
            have HJ6 := Lib.hid (And.intro ((HJ5.out.1.nn ((Mod.refl Nn w5).drew.nn_ m6)).le (t' := 2000 + 100 * ((k + 1 : Nat) : Int)) (by omega)) (HJ5.out.2.mod ((Mod.refl Nn w5).drew.nn_ m6) (fun f => f)))
            clear m6 HJ5 HCZ
            go_wp2
            exact ⟨⟨k + 1, done ++ [r], by omega, by go_num, by rw [hjs, Int.natCast_add], by rw [hdn, Int.natCast_add]; rfl, by omega, HJ6.out.1, HJ6.out.2⟩, by simp [intOf]; omega⟩
          · go_wp2_with fail
            refine (jnow_full (cc := r.length + 12) HJ1.out.1 HJ1.out.2.2.1 HC.out.2.2.1 HG.out.1.2.1 HG.out.1.2.2.1 (by omega) (by omega) (by have := HG.out; omega) hfit).mono ?_
            rintro r' w2 ⟨rfl, m2⟩
            have HJ2 := Lib.hid (And.intro (HJ1.out.1.nn m2) (And.intro (HJ1.out.2.1.mod m2 (fun f => f)) (HJ1.out.2.2.2.mod m2 (fun f => f))))
            have c109 := HC.out.1 w2 HJ2.out.1.md
            clear m2 HJ1 HJ0
            go_wp2_with fail
            refine (next21_any ep (done.length : Int) (HC.out.2.1.mod HJ2.out.1.md (fun _ _ f => f)) HC.out.2.2.1).mono ?_
            rintro r' w3 ⟨A3, c3, rfl, own3, m3⟩
            rw [HC.out.2.2.2.1]
            rw [HC.out.2.2.2.2.1, HC.out.2.2.2.2.2] at own3 ⊢
            have HJ3 := Lib.hid (And.intro (HJ2.out.1.nn m3) (And.intro (HJ2.out.2.1.mod m3 (fun f => f)) (HJ2.out.2.2.mod m3 (fun f => f))))
            have c117 := HC.out.1 w3 HJ3.out.1.md
            clear own3 m3 HJ2 c109
            go_wp2_with fail
            refine (keptn_any (HC.out.2.1.mod HJ3.out.1.md (fun _ _ f => f)) HJ3.out.2.1 (by omega)).mono ?_
            rintro r' w4 ⟨rfl, m4⟩
            have HJ4 := Lib.hid (And.intro ((HJ3.out.1.nn m4).sub (Y := At gW) (fun k hk => .inl hk)) (HJ3.out.2.2.mod m4 (fun f => f)))
            clear m4 HJ3 c117
            obtain ⟨dq, e18, e19⟩ := jw_full HP0.out.1 HP0.out.2 HG.out.2.2.2.2.1 hfit HG.out.2.2.2.2.2.2.2.2.1 HJ4.out.1.fit
            have HCZ := Lib.hid (show ∀ w', Mod Nn w4.drew w' → w'.cell? ⟨w.heap.size, 4, none⟩ = some (.int .i64 (J : Int)) from fun w' m => by
              rw [← HG.out.2.1]; exact (H9.out.2.1.mod (HJ4.out.1.md.drew.nn_ m) (fun f => f)).cell 4)
            go_wp2_with fail
            refine wp_region_planC (fun w' => Mod Nn w4.drew w') [(0, true), (2, true), (3, true), (4, true), (5, true), (1, false), (6, true)] (by kernel_rfl) (by kernel_rfl) (Mod.refl _ _) ?_
            iterate 2 (refine pc_pure rfl rfl (fun K hK => ?_); go_simp; refine hK _ ?_; clear hK K)
            refine pc_take (.int .i64 (J : Int)) rfl rfl (fun w' hS => exec_load1 (P := Tryz.prog) (ad := ⟨w.heap.size, 4, none⟩) 3 _ rfl rfl (HCZ.out w' hS) Tryz.underlying3 rfl) (fun K hK => ?_); go_simp; refine hK _ ?_; clear hK K
            iterate 2 (refine pc_pure rfl rfl (fun K hK => ?_); go_simp; refine hK _ ?_; clear hK K)
            refine pc_call rfl rfl (fun K hK => ?_); go_simp; refine ⟨_, _, ⟨rfl, rfl⟩, hK _ _ _ ?_⟩; clear hK K
            refine (jnow_room (HJ4.out.1.nn (Mod.refl Nn w4).drew) HJL.out).mono ?_
            rintro r' w6 ⟨rfl, m6⟩
            refine ⟨_, rfl, m6, ?_⟩
            iterate 1 (refine pc_pure rfl rfl (fun K hK => ?_); go_simp; refine hK _ ?_; clear hK K)
            refine pc_nil ?_
            clear e1 e2 e3 e4 e5 e6 e11 e12 e13 e14 e18 e19 dq
            have HJ6 := Lib.hid (And.intro ((HJ4.out.1.nn ((Mod.refl Nn w4).drew.nn_ m6)).le (t' := 2000 + 100 * ((k + 1 : Nat) : Int)) (by omega)) (HJ4.out.2.mod ((Mod.refl Nn w4).drew.nn_ m6) (fun f => f)))
            clear m6 HJ4 HCZ
            go_wp2
            exact ⟨⟨k + 1, done, by omega, by go_num, rfl, rfl, by omega, HJ6.out.1, HJ6.out.2⟩, by simp [intOf]; omega⟩
        · have hbA := H9.out.2.2.1.mod hJN.md (fun f => f)
          obtain ⟨W, hW⟩ : ∃ W, W = jrow ep.toNat 0 done ++ List.replicate (512 * (J - jsec done)) 0 := ⟨_, rfl⟩
          have hWl : W.length = nJ := by rw [hW, jrow_half_len hJN.fit]; exact HG.out.2.2.2.2.1.symm
          rw [← hW] at hbW
          have HW := Lib.hid (And.intro hWl (And.intro hW (And.intro hbA (And.intro (Rd.of_blk0 (n := nJ) hbW (by rw [bv_len, hWl])) hJN))))
          have HSA := Lib.hid (subA_18 (g := gA) (N := nN) (a := nA) (by have := HN.out; omega))
          clear hbA hW hWl hbW hJN
          go_wp2_with (first
            | (with_reducible change wpList _ _ _ (⟨some 154, _, _, _, _, _⟩ :: _) _ _
               go_must (refine wpList_val rfl (exec_sub_l (P := Tryz.prog) 29 _ _ rfl 5 1 Tryz.underlying29 (by kernel_rfl) (A := some ⟨gA, 0, none⟩) (n := nN) (c := nN) (l := nA) rfl rfl (by have := HN.out; omega)) ?_)
               rw [HSA.out])
            | (with_reducible change wpList _ _ _ (⟨some 156, _, _, _, _, _⟩ :: _) _ _
               go_must (refine wpList_val rfl (exec_copy_blk (P := Tryz.prog) 1 29 29 _ _ rfl Tryz.underlying29 size_u8' (g := gA) (off := nA) (dn := nN - nA) (dc := nN - nA) (sn := nJ) (sc := nJ) nJ (B := some ⟨gW, 0, none⟩) (cs := bv W) rfl rfl HW.out.2.2.1 (by have := HN.out; exact (Nat.min_eq_left (by omega)).symm) HW.out.2.2.2.1.toC (by rw [List.size_toArray, List.length_map, H9.out.2.2.2]; have := HN.out; omega) (bv_one18 _)) ?_)
               rw [splice_row, HW.out.1]
               obtain ⟨ys, hys⟩ : ∃ ys : List Int, ys = zs.take nA ++ (natsn W ++ zs.drop (nA + nJ)) := ⟨_, rfl⟩
               rw [← hys]
               have b5 := HW.out.2.2.1.setRow_ (ys.map (Value.int .u8)).toArray
               have m5 : Mod (At gA) wr (wr.setRow gA (ys.map (Value.int .u8)).toArray) := Mod.rowAt _ _ _
               generalize wr.setRow gA (ys.map (Value.int .u8)).toArray = w5 at *
               have hyl : ys.length = nN := by
                 rw [hys, List.length_append, List.length_append, List.length_take, List.length_drop, natsn_len, HW.out.1, H9.out.2.2.2]; have := HN.out; omega
               have H5 := Lib.hid (And.intro hys (And.intro hyl (And.intro (Rd.of_blk0 (n := nN) b5 (by rw [List.length_map, hyl])) m5)))
               clear hys hyl b5 m5))
          have hY : zs.take (512 * a) ++ (natsn (jrow ep.toNat 0 done ++ List.replicate (512 * (J - jsec done)) 0) ++ zs.drop (512 * a + 512 * J)) = ys := by
            rw [H5.out.1, ← HW.out.2.1, HG.out.2.2.2.2.1, HG.out.2.2.2.2.2.2.1]
          have hB := jnow_bytes HW.out.2.2.2.2 (by rw [H9.out.2.2.2]; exact HG.out.2.2.2.2.2.1) HG.out.2.2.2.2.2.2.2.2.2.2.1 H9.out.2.2.1.lt H5.out.2.2.2
          rw [hY, ← HG.out.2.2.2.2.2.1] at hB
          have HBY := Lib.hid hB
          clear hB hY
          go_wp2_with fail
          refine HBY.out.mono ?_
          rintro r' w6 ⟨v6, rfl, own6, m6⟩
          obtain ⟨A6, c6, rfl, -, -⟩ := own_form own6
          have H6 := Lib.hid (And.intro (Rd.of_own own6) m6)
          clear own6 m6
          go_wp2_with fail
          refine (same_any (xs := ys) (ys := ys) H6.out.1 (H5.out.2.2.1.mod H6.out.2 (fun _ _ f => f)) (by have := HN.out; omega) (by have := HN.out; omega)).mono ?_
          rintro r' w7 ⟨rfl, m7⟩
          rw [decide_eq_true (rfl : ys = ys)]
          have MM := (((H9.out.1.nn_ HW.out.2.2.2.2.md).new_ H5.out.2.2.2 (by have := HGW.out; omega)).nn_ H6.out.2).nn_ m7
          go_wp2
          go_ret
          exact ⟨rfl, MM⟩
end
end Go.Proofs.YtijmkbhbpbkkoaaGreat
