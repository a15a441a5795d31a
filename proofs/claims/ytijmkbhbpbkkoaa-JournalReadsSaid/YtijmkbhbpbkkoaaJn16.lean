/- peatbanklaw21.JournalReads (printed by wip/gen/jn16.py). -/
import Derived.Test.YtijmkbhbpbkkoaaJn11
import Derived.Test.YtijmkbhbpbkkoaaJnE
import Derived.Test.YtijmkbhbpbkkoaaJn15
import Derived.Test.YtijmkbhbpbkkoaaBytesC
import Derived.Test.YtijmkbhbpbkkoaaKitC
import Derived.Test.YtijmkbhbpbkkoaaKitE
namespace Go.Proofs.Ytijmkbhbpbkkoaa
open Go.RowKit

theorem subA_atJ {g N a : Nat} (h : N ≠ a) : subA (some ⟨g, 0, none⟩) N a 1 = some ⟨g, a, none⟩ := by
  unfold subA
  rw [if_neg h]
  simp [Addr.add]
  try (intro h; exact h.symm)
theorem bv_oneJ (l : List Nat) : ∀ v ∈ bv l, v.oneCell' = true := fun v hv => by
  unfold bv at hv
  obtain ⟨z, -, rfl⟩ := List.mem_map.1 hv
  rfl
theorem splice_zs (N a : Nat) (own : List Nat) : splice (Array.replicate N (.int .u8 0)) a (bv own) = (((List.replicate N (0 : Int)).take a ++ (natsn own ++ (List.replicate N (0 : Int)).drop (a + own.length))).map (Value.int .u8)).toArray := by
  unfold splice
  rw [List.map_append, List.map_append, bv_natsn, List.map_take, List.map_drop, List.map_replicate, bv_len]
  simp [List.append_assoc]
section
variable {w : World} {A : Option Addr} {n cc : Nat} {l : List Nat}
set_option maxRecDepth 100000 in
set_option maxHeartbeats 12800000 in
theorem journalreads_any (g : Geo) (ep : Int) (hr : Rd w A n (bv l)) (hl : ∀ z ∈ l, z < 256) : Calls Try.prog 5 #[gV g, .int .i64 ep, .slice A n cc] w fun e w' => e = .returned (.bool true) ∧ Mod Nn w w' := by
  have hL : l.length = n := by have := hr.1; rwa [bv_len] at this
  have HL := Lib.hid (And.intro hr (And.intro hl hL))
  clear hr hl hL
  unfold gV
  go_enter Try.func5, Try.ntmps5
  go_wp2_with (first
    | (with_reducible change wpList _ _ _ (⟨some 3, Op.box _ _, _, _, _, _⟩ :: _) _ _
       go_must (refine wpList_box_var 23 _ rfl rfl (gC g) rfl ?_)
       intro w1 b1 m1 z1
       clear z1
       have hs1 : w.heap.size < w1.heap.size := b1.lt
       have H1 := Lib.hid (And.intro m1 b1)
       clear m1 b1))
  refine (jawake_any w1).mono ?_
  rintro r w2 ⟨rfl, m2⟩
  have hs2 : w1.heap.size ≤ w2.heap.size := m2.size
  have H2 := Lib.hid (And.intro (H1.out.1.nn_ m2) (H1.out.2.mod m2 (fun f => f)))
  clear m2
  have HB := Lib.hid (show ∀ w', Mod Nn w2.drew w' → Blk w' w.heap.size 23 (gC g) from fun w' m => (H2.out.2.mod (Mod.refl Nn w2).drew (fun f => f)).mod m (fun f => f))
  by_cases hn : (40000 : Int) < n
  · have d1 : decide ((40000 : Int) < n) = true := decide_eq_true hn
    go_wp2_with fail
    refine wp_region_planC (fun w' => Mod Nn w2.drew w') [(0, true), (1, true), (2, true), (3, true), (4, true), (5, false), (6, true), (7, true), (8, true), (9, true), (10, true), (11, true), (12, false), (13, false), (14, true), (15, true)] (by kernel_rfl) (by kernel_rfl) (Mod.refl _ _) ?_
    iterate 4 (refine pc_pure rfl rfl (fun K hK => ?_); go_simp; refine hK _ ?_; clear hK K)
    refine pc_skip rfl rfl (fun K hK => ?_); go_simp; refine hK _ ?_; clear hK K
    refine pc_skipD rfl rfl (fun K hK => ?_); go_simp; refine hK _ ?_; clear hK K
    refine pc_skip rfl rfl (fun K hK => ?_); go_simp; refine hK _ ?_; clear hK K
    iterate 2 (refine pc_pure rfl rfl (fun K hK => ?_); go_simp; refine hK _ ?_; clear hK K)
    iterate 3 (refine pc_skip rfl rfl (fun K hK => ?_); go_simp; refine hK _ ?_; clear hK K)
    refine pc_skipD rfl rfl (fun K hK => ?_); go_simp; refine hK _ ?_; clear hK K
    refine pc_skipD rfl rfl (fun K hK => ?_); go_simp; refine hK _ ?_; clear hK K
    refine pc_skip rfl rfl (fun K hK => ?_); go_simp; refine hK _ ?_; clear hK K
    iterate 1 (refine pc_pure rfl rfl (fun K hK => ?_); go_simp; refine hK _ ?_; clear hK K)
    refine pc_nil ?_
    go_wp2
    go_ret
    exact ⟨rfl, H2.out.1.drew⟩
  have d1 : decide ((40000 : Int) < n) = false := decide_eq_false hn
  by_cases hsec : 3000 < g.nsec
  · have d2 : decide (3000 < g.nsec) = true := decide_eq_true hsec
    go_wp2_with fail
    refine wp_region_planC (fun w' => Mod Nn w2.drew w') [(0, true), (1, true), (2, true), (3, true), (4, true), (5, false), (6, true), (7, true), (8, true), (9, true), (10, true), (11, true), (12, false), (13, false), (14, true), (15, true)] (by kernel_rfl) (by kernel_rfl) (Mod.refl _ _) ?_
    iterate 4 (refine pc_pure rfl rfl (fun K hK => ?_); go_simp; refine hK _ ?_; clear hK K)
    refine pc_take _ rfl rfl (fun w' hS => exec_load_row (P := Try.prog) 23 _ rfl rfl (HB.out w' hS) Try.underlying23 rfl size_geo) (fun K hK => ?_); go_simp; refine hK _ ?_; clear hK K
    refine pc_call rfl rfl (fun K hK => ?_); go_simp; refine ⟨_, _, ⟨rfl, rfl⟩, hK _ _ _ ?_⟩; clear hK K
    refine (r11sectors_any g _).mono ?_
    rintro e w3 ⟨rfl, m3⟩
    have M3 := Lib.hid m3
    clear m3
    refine ⟨_, rfl, M3.out, ?_⟩
    iterate 3 (refine pc_pure rfl rfl (fun K hK => ?_); go_simp; refine hK _ ?_; clear hK K)
    iterate 3 (refine pc_skip rfl rfl (fun K hK => ?_); go_simp; refine hK _ ?_; clear hK K)
    refine pc_skipD rfl rfl (fun K hK => ?_); go_simp; refine hK _ ?_; clear hK K
    refine pc_skipD rfl rfl (fun K hK => ?_); go_simp; refine hK _ ?_; clear hK K
    refine pc_skip rfl rfl (fun K hK => ?_); go_simp; refine hK _ ?_; clear hK K
    iterate 1 (refine pc_pure rfl rfl (fun K hK => ?_); go_simp; refine hK _ ?_; clear hK K)
    refine pc_nil ?_
    go_wp2
    go_ret
    exact ⟨rfl, H2.out.1.drew.nn_ M3.out⟩
  have d2 : decide (3000 < g.nsec) = false := decide_eq_false hsec
  obtain ⟨mb, hmb⟩ : ∃ mb : Bool, decide (jmay g ep g.nsec) = mb := ⟨_, rfl⟩
  have HMB := Lib.hid hmb
  clear hmb
  go_wp2_with fail
  refine wp_region_planC (fun w' => Mod Nn w2.drew w') [(0, true), (1, true), (2, true), (3, true), (4, true), (5, false), (6, true), (7, true), (8, true), (9, true), (10, true), (11, true), (12, false), (13, false), (14, true), (15, true)] (by kernel_rfl) (by kernel_rfl) (Mod.refl _ _) ?_
  iterate 4 (refine pc_pure rfl rfl (fun K hK => ?_); go_simp; refine hK _ ?_; clear hK K)
  refine pc_take _ rfl rfl (fun w' hS => exec_load_row (P := Try.prog) 23 _ rfl rfl (HB.out w' hS) Try.underlying23 rfl size_geo) (fun K hK => ?_); go_simp; refine hK _ ?_; clear hK K
  refine pc_call rfl rfl (fun K hK => ?_); go_simp; refine ⟨_, _, ⟨rfl, rfl⟩, hK _ _ _ ?_⟩; clear hK K
  refine (r11sectors_any g _).mono ?_
  rintro e w3 ⟨rfl, m3⟩
  have M3 := Lib.hid m3
  clear m3
  refine ⟨_, rfl, M3.out, ?_⟩
  iterate 3 (refine pc_pure rfl rfl (fun K hK => ?_); go_simp; refine hK _ ?_; clear hK K)
  refine pc_take _ rfl rfl (fun w' hS => exec_load_row (P := Try.prog) 23 _ rfl rfl (HB.out w' hS) Try.underlying23 rfl size_geo) (fun K hK => ?_); go_simp; refine hK _ ?_; clear hK K
  iterate 1 (refine pc_pure rfl rfl (fun K hK => ?_); go_simp; refine hK _ ?_; clear hK K)
  refine pc_take _ rfl rfl (fun w' hS => exec_load_row (P := Try.prog) 23 _ rfl rfl (HB.out w' hS) Try.underlying23 rfl size_geo) (fun K hK => ?_); go_simp; refine hK _ ?_; clear hK K
  refine pc_call rfl rfl (fun K hK => ?_); go_simp; refine ⟨_, _, ⟨rfl, rfl⟩, hK _ _ _ ?_⟩; clear hK K
  refine (r11sectors_any g _).mono ?_
  rintro e w4 ⟨rfl, m4⟩
  have M4 := Lib.hid (M3.out.nn_ m4)
  clear m4
  refine ⟨_, rfl, M4.out, ?_⟩
  refine pc_call rfl rfl (fun K hK => ?_); go_simp; refine ⟨_, _, ⟨rfl, rfl⟩, hK _ _ _ ?_⟩; clear hK K
  refine (rmay_any g ep g.nsec _).mono ?_
  rintro e w5 ⟨rfl, m5⟩
  rw [HMB.out]
  have M5 := Lib.hid (M4.out.nn_ m5)
  clear m5
  refine ⟨_, rfl, M5.out, ?_⟩
  iterate 2 (refine pc_pure rfl rfl (fun K hK => ?_); go_simp; refine hK _ ?_; clear hK K)
  refine pc_nil ?_
  cases mb
  · go_wp2
    go_ret
    exact ⟨rfl, H2.out.1.drew.nn_ M5.out⟩
  have hmay := of_decide_eq_true HMB.out
  have hns : g.nsec = g.sectors := if_pos hmay.1
  have hb := Geo.sec_bound hmay.1
  have hbd := half_bd g ep hb.2.1
  obtain ⟨J, hJ⟩ : ∃ J : Nat, g.j = (J : Int) := ⟨g.j.toNat, by omega⟩
  obtain ⟨Ns, hNs⟩ : ∃ Ns : Nat, g.nsec = (Ns : Int) := ⟨g.nsec.toNat, by omega⟩
  obtain ⟨a, ha⟩ : ∃ a : Nat, g.half ep = (a : Int) := ⟨(g.half ep).toNat, by omega⟩
  obtain ⟨nJ, hnJ⟩ : ∃ nJ, nJ = 512 * J := ⟨_, rfl⟩
  obtain ⟨nN, hnN⟩ : ∃ nN, nN = 512 * Ns := ⟨_, rfl⟩
  obtain ⟨nA, hnA⟩ : ∃ nA, nA = 512 * a := ⟨_, rfl⟩
  have hBD : 8 ≤ J ∧ J ≤ 64 ∧ 2 ≤ a ∧ a + J ≤ Ns ∧ 1 ≤ Ns ∧ Ns ≤ 3000 ∧ n ≤ 40000 := by omega
  have e1 : wrap64 (512 * (J : Int)) = (nJ : Int) := by rw [wrap64_id (by omega) (by omega)]; omega
  have e2 : IntKind.i64.wrap (512 * (J : Int)) = (nJ : Int) := by rw [IntKind.wrap_i64]; omega
  have e3 : wrap64 (512 * (Ns : Int)) = (nN : Int) := by rw [wrap64_id (by omega) (by omega)]; omega
  have e4 : IntKind.i64.wrap (512 * (Ns : Int)) = (nN : Int) := by rw [IntKind.wrap_i64]; omega
  have e5 : wrap64 (512 * (a : Int)) = (nA : Int) := by rw [wrap64_id (by omega) (by omega)]; omega
  have e6 : IntKind.i64.wrap (512 * (a : Int)) = (nA : Int) := by rw [IntKind.wrap_i64]; omega
  have HG := Lib.hid (And.intro hmay (And.intro hJ (And.intro hNs (And.intro ha (And.intro hnJ (And.intro hnN (And.intro hnA hBD)))))))
  have hN : 4096 ≤ nJ ∧ nJ ≤ 32768 ∧ nA + nJ ≤ nN ∧ nN ≤ 1536000 ∧ n ≤ 40000 := by omega
  have HN := Lib.hid hN
  have H5 := Lib.hid (And.intro (H2.out.1.drew.nn_ M5.out) (HB.out _ M5.out))
  have c4 : w5.cell? ⟨w.heap.size, 4, none⟩ = some (.int .i64 (J : Int)) := by rw [← hJ]; exact H5.out.2.cell 4
  clear hN hmay hns hb hbd hJ hNs ha hnJ hnN hnA hBD HMB H2 M5 M4 M3 HB H1 d1 d2 hsec hn
  go_wp2_with (first
    | (with_reducible change wpList _ _ _ (⟨some 36, Op.load _ _, _, _, _, _⟩ :: _) _ _
       go_must (refine wpList_load_var 23 _ rfl rfl w.heap.size (gC g) _ _ rfl H5.out.2 Try.underlying23 rfl size_geo ?_)))
  refine (r11sectors_any g _).mono ?_
  rintro r w6 ⟨rfl, m6⟩
  rw [HG.out.2.2.1]
  have H6 := Lib.hid (And.intro (H5.out.1.nn_ m6) (H5.out.2.mod m6 (fun f => f)))
  clear m6 c4 H5
  go_wp2_with (first
    | (with_reducible change wpList _ _ _ (⟨some 39, _, _, _, _, _⟩ :: _) _ _
       go_must (refine wpList_val rfl (exec_make1 (P := Try.prog) 38 _ _ rfl 5 (.int .u8 0) 1 Try.underlying38 info_byte rfl nN nN rfl rfl (Nat.le_refl _) (by have := HN.out; omega) (by have := HN.out; omega)) ?_)
       have b7 : Blk (w6.alloc (.cells (Array.replicate nN (.int .u8 0)) 5)) w6.heap.size 5 (Array.replicate nN (.int .u8 0)) := Blk.new _ _ _
       have m7 : Mod Nn w6 (w6.alloc (.cells (Array.replicate nN (.int .u8 0)) 5)) := (Mod.refl _ _).alloc _
       generalize w6.alloc (.cells (Array.replicate nN (.int .u8 0)) 5) = w7 at *
       have H7 := Lib.hid (And.intro (H6.out.1.nn_ m7) (And.intro (H6.out.2.mod m7 (fun f => f)) b7))
       clear b7 m7))
  obtain ⟨gA, hgA⟩ : ∃ gA, w6.heap.size = gA := ⟨_, rfl⟩
  rw [hgA] at H7 ⊢
  have hgw : w.heap.size < gA := by have := H6.out.2.lt; omega
  have HGW := Lib.hid hgw
  clear hgA hgw H6
  refine (copy_any (xs := natsn l) (by rw [bv_natsn]; exact HL.out.1.mod H7.out.1 (fun _ _ f => f)) (by have := HN.out; omega)).mono ?_
  rintro r w8 ⟨v8, rfl, own8, m8⟩
  rw [bv_natsn] at own8
  have hz8 : w7.heap.size ≤ w8.heap.size := m8.size
  go_wp2_with (first
    | (with_reducible change wpList _ _ _ (⟨some 43, _, _, _, _, _⟩ :: _) _ _
       go_must (refine wpList_append_zeros 38 3 _ _ rfl rfl w7.heap.size 5 (.int .u8 0) 1 Try.underlying38 Try.underlying3 info_byte rfl rfl v8 n (bv l) rfl own8 nJ rfl (by have := HN.out; omega) (by have := HN.out; omega) (by have := HN.out; omega) hz8 ?_)
       intro v9 w9 own9 gr9 hv9
       have m9 : Mod Nn w7 w9 := m8.grown gr9 (fun g hg => .inl (own_ge own8 g hg))
       obtain ⟨g9, c9, cur9, rfl, hg9, hb9, hc9, hcm9, -, -⟩ := own_blk own9 (by have := HN.out; omega)
       have H9 := Lib.hid (And.intro (H7.out.1.nn_ m9) (And.intro (H7.out.2.1.mod m9 (fun f => f)) (And.intro (H7.out.2.2.mod m9 (fun f => f)) (And.intro own9 (And.intro hg9 (And.intro hc9 hcm9))))))
       have hlt7 := H7.out.2.2.lt
       clear own8 m8 hz8 own9 gr9 hv9 m9 hg9 hb9 hcm9 H7
       have hnc : nJ ≤ c9 := by omega
       clear hc9)
    | (with_reducible change wpList _ _ _ (⟨some 45, _, _, _, _, _⟩ :: _) _ _
       go_must (refine wpList_val rfl (exec_sub_h (P := Try.prog) 38 _ _ rfl 5 1 Try.underlying38 (by kernel_rfl) (A := some ⟨g9, 0, none⟩) (n := n + nJ) (c := c9) (h := nJ) rfl rfl hnc) ?_)
       simp only [subA_zero])
    | (with_reducible change wpList _ _ _ (⟨some 47, Op.load _ _, _, _, _, _⟩ :: _) _ _
       go_must (refine wpList_load_var 23 _ rfl rfl w.heap.size (gC g) _ _ rfl H9.out.2.1 Try.underlying23 rfl size_geo ?_)))
  obtain ⟨own, hown⟩ : ∃ own : List Nat, own = (l ++ List.replicate nJ 0).take nJ := ⟨_, rfl⟩
  have hol : own.length = nJ := by rw [hown, List.length_take, List.length_append, List.length_replicate]; omega
  have holt : ∀ z ∈ own, z < 256 := fun z hz => by
    rw [hown] at hz
    rcases List.mem_append.1 (List.mem_of_mem_take hz) with h | h
    · exact HL.out.2.1 z h
    · rw [(List.mem_replicate.1 h).2]; omega
  have hrd9 : Rd w9 (some ⟨g9, 0, none⟩) nJ (bv own) := by
    have := (Rd.of_own H9.out.2.2.2.1).pre (c := c9) nJ (by omega) H9.out.2.2.2.2.2.1
    rw [subA_zero] at this
    have e : bv own = (bv l ++ List.replicate nJ (Value.int .u8 0)).take nJ := by
      rw [hown]; unfold bv; rw [List.map_take, List.map_append, List.map_replicate]; rfl
    rw [e]; exact this
  have HO := Lib.hid (And.intro hrd9 (And.intro hol holt))
  have hgg : g9 ≠ gA := by have := H9.out.2.2.2.2.1; omega
  have HGG := Lib.hid hgg
  have HSA := Lib.hid (subA_atJ (g := gA) (N := nN) (a := nA) (by have := HN.out; omega))
  clear hrd9 hol holt hown hgg hlt7
  refine (r11half_any g ep _ HG.out.1.1 HG.out.1.2.1 (by have := HG.out.1.2.2.1; omega)).mono ?_
  rintro r w10 ⟨rfl, m10⟩
  rw [HG.out.2.2.2.1]
  have HB10 := Lib.hid (H9.out.2.2.1.mod m10 (fun f => f))
  have HR10 := Lib.hid (HO.out.1.mod m10 (fun _ _ f => f))
  go_wp2_with (first
    | (with_reducible change wpList _ _ _ (⟨some 51, _, _, _, _, _⟩ :: _) _ _
       go_must (refine wpList_val rfl (exec_sub_l (P := Try.prog) 38 _ _ rfl 5 1 Try.underlying38 (by kernel_rfl) (A := some ⟨gA, 0, none⟩) (n := nN) (c := nN) (l := nA) rfl rfl (by have := HN.out; omega)) ?_)
       rw [HSA.out])
    | (with_reducible change wpList _ _ _ (⟨some 53, _, _, _, _, _⟩ :: _) _ _
       go_must (refine wpList_val rfl (exec_copy_blk (P := Try.prog) 1 38 38 _ _ rfl Try.underlying38 size_u8' (g := gA) (off := nA) (dn := nN - nA) (dc := nN - nA) (sn := nJ) (sc := c9) nJ (B := some ⟨g9, 0, none⟩) (cs := bv own) rfl rfl HB10.out (by have := HN.out; exact (Nat.min_eq_left (by omega)).symm) HR10.out.toC (by rw [Array.size_replicate]; have := HN.out; omega) (bv_oneJ own)) ?_)
       rw [splice_zs, HO.out.2.1]
       obtain ⟨zs, hzs⟩ : ∃ zs : List Int, zs = (List.replicate nN (0 : Int)).take nA ++ (natsn own ++ (List.replicate nN (0 : Int)).drop (nA + nJ)) := ⟨_, rfl⟩
       rw [← hzs]
       have b11 := HB10.out.setRow_ (zs.map (Value.int .u8)).toArray
       have m11 : Mod (At gA) w10 (w10.setRow gA (zs.map (Value.int .u8)).toArray) := Mod.rowAt _ _ _
       have r11 := HR10.out.mod m11 (fun g hg e => by have e : g = gA := e; obtain ⟨x, hx, hxg⟩ := hg; injection hx with hx; subst hx; exact HGG.out (hxg.trans e))
       have G11 := (H9.out.2.1.mod m10 (fun f => f)).mod m11 (fun e => by have e : w.heap.size = gA := e; have := HGW.out; omega)
       have M11 := (H9.out.1.nn_ m10).new_ m11 (by have := HGW.out; omega)
       generalize w10.setRow gA (zs.map (Value.int .u8)).toArray = w11 at *
       have H11 := Lib.hid (And.intro M11 (And.intro G11 (And.intro b11 (And.intro r11 hzs))))
       clear M11 G11 b11 r11 hzs m11 m10 HB10 HR10))
  have hcm9 := H9.out.2.2.2.2.2.2
  have HCM := Lib.hid hcm9
  clear hcm9 H9 HSA
  have hzl : zs.length = nN := by
    rw [H11.out.2.2.2.2, List.length_append, List.length_append, List.length_take, List.length_drop, List.length_replicate, natsn_len, HO.out.2.1]; have := HN.out; omega
  have hhalf : rowsL (ofD zs Ns Ns) (g.half ep) g.j.toNat = natsn own := by
    rw [HG.out.2.2.2.1, HG.out.2.1, Int.toNat_natCast]
    exact ofD_half (Z := List.replicate nN 0) (by rw [H11.out.2.2.2.2, HG.out.2.2.2.2.1, HG.out.2.2.2.2.2.2.1]) (by rw [List.length_replicate]; exact HG.out.2.2.2.2.2.1) (by rw [HO.out.2.1]; exact HG.out.2.2.2.2.1) HG.out.2.2.2.2.2.2.2.2.2.2.1
  have hmay2 : jmay g ep (Ns : Int) := by have := HG.out.1; rwa [HG.out.2.2.1] at this
  have hrz : Rd w11 (some ⟨gA, 0, none⟩) nN (zs.map (Value.int .u8)) := Rd.of_blk0 H11.out.2.2.1 (by rw [List.length_map, hzl])
  have HZ := Lib.hid (And.intro hhalf (And.intro hmay2 (And.intro hrz hzl)))
  clear hzl hhalf hmay2 hrz
  have HB := Lib.hid (show ∀ w', Mod Nn w11.drew w' → Blk w' w.heap.size 23 (gC g) from fun w' m => (H11.out.2.1.mod (Mod.refl Nn w11).drew (fun f => f)).mod m (fun f => f))
  go_wp2_with fail
  refine wp_region_planC (fun w' => Mod Nn w11.drew w') [(0, true), (3, true), (4, true), (1, false), (2, false), (5, false), (6, true), (7, true), (8, true), (9, true), (10, true), (11, true), (12, true)] (by kernel_rfl) (by kernel_rfl) (Mod.refl _ _) ?_
  iterate 1 (refine pc_pure rfl rfl (fun K hK => ?_); go_simp; refine hK _ ?_; clear hK K)
  refine pc_take _ rfl rfl (fun w' hS => exec_load_row (P := Try.prog) 23 _ rfl rfl (HB.out w' hS) Try.underlying23 rfl size_geo) (fun K hK => ?_); go_simp; refine hK _ ?_; clear hK K
  iterate 1 (refine pc_pure rfl rfl (fun K hK => ?_); go_simp; refine hK _ ?_; clear hK K)
  refine pc_call rfl rfl (fun K hK => ?_); go_simp; refine ⟨_, _, ⟨rfl, rfl⟩, hK _ _ _ ?_⟩; clear hK K
  refine (of_any (n := Ns) (c := nN) (HZ.out.2.2.1.drew) (Nat.le_refl _) (by have := HN.out; unfold maxLen; omega) (by have := HG.out; omega) (by have := HG.out; omega) (by have := HG.out; omega)).mono ?_
  rintro r w12 ⟨b, ms, mo, rfl, hd12, m12, hfr12⟩
  refine ⟨_, rfl, m12, ?_⟩
  refine pc_call rfl rfl (fun K hK => ?_); go_simp; refine ⟨_, _, ⟨rfl, rfl⟩, hK _ _ _ ?_⟩; clear hK K
  refine (cnew_any hd12 8 (by omega)).mono ?_
  rintro r w13 ⟨c, mk, rfl, hC13, m13, hc13, hmk13⟩
  have hOC : OwnC w11.drew w13 c b ms mo mk (ofD zs Ns Ns) 8 0 0 0 [] [] := ⟨hC13, m12.nn_ m13, fun k hk => by
    have hz := m12.size
    rcases hk with (rfl | rfl | ⟨e, he, -⟩) | hk
    · omega
    · omega
    · cases he
    · exact hfr12 k hk⟩
  have HOC := Lib.hid hOC
  refine ⟨_, rfl, hOC.md, ?_⟩
  clear hd12 m12 hfr12 hC13 m13 hc13 hmk13 hOC
  refine pc_call rfl rfl (fun K hK => ?_); go_simp; refine ⟨_, _, ⟨rfl, rfl⟩, hK _ _ _ ?_⟩; clear hK K
  refine (open_ok HOC.out.at_ g ep HZ.out.2.1 rfl (by omega) HZ.out.1 HO.out.2.2).mono ?_
  rintro r w14 ⟨jb, v14, n14, R, now14, hits14, misses14, l14, T14, rfl, hall, hC, hT, hn14, hj, hjb, hsep, hrow⟩
  have M14 := (HOC.out.step hC hT).md
  obtain ⟨A14, c14, rfl, -, rd14⟩ := hrow.rd
  have H14 := Lib.hid (And.intro M14 (And.intro hall (And.intro hj rd14)))
  refine ⟨_, rfl, M14, ?_⟩
  clear M14 hall hC hT hn14 hj hjb hsep hrow rd14 HOC
  iterate 7 (refine pc_pure rfl rfl (fun K hK => ?_); go_simp; refine hK _ ?_; clear hK K)
  refine pc_nil ?_
  go_wp2_with fail
  refine (records21_any ((H11.out.2.2.2.1.drew).mod H14.out.1 (fun _ _ f => f)) HO.out.2.2 (by have := HN.out; omega) hnc HCM.out ep).mono ?_
  rintro r w15 ⟨v15, n15, R15, rfl, hall15, hrow15, m15⟩
  obtain ⟨rfl, rfl⟩ := H14.out.2.1.uniq hall15
  obtain ⟨A15, c15, rfl, -, rd15⟩ := hrow15.rd
  have hnJ14 : n14 ≤ J := by
    have h1 := H14.out.2.1.1.fits
    rw [HO.out.2.1, HG.out.2.2.2.2.1] at h1
    omega
  have hbig := H14.out.2.1.1.big
  have HFIT := Lib.hid (show R.length ≤ 1000000 by have h1 := H14.out.2.1.1.le; have := HG.out; omega)
  have HE := Lib.hid (And.intro ((H11.out.1.drew).nn_ (H14.out.1.nn_ m15)) (And.intro (HB.out _ (H14.out.1.nn_ m15)) (And.intro (H14.out.2.2.1.mod m15 (fun f => f)) (And.intro (H14.out.2.2.2.mod m15) (And.intro rd15 (And.intro hnJ14 hbig))))))
  clear hall15 hrow15 m15 rd15 hnJ14 hbig H14 HB
  have e7 : wrap64 ((J : Int) - (n14 : Int)) = (J : Int) - n14 := wrap64_id (by have := HE.out.2.2.2.2.2.1; omega) (by have := HG.out; omega)
  have e8 : IntKind.i64.wrap ((J : Int) - (n14 : Int)) = (J : Int) - n14 := by rw [IntKind.wrap_i64]; have := HG.out; have := HE.out.2.2.2.2.2.1; omega
  have HF := Lib.hid (show ∀ w', Mod Nn w15.drew w' → w'.cell? ⟨w.heap.size, 4, none⟩ = some (.int .i64 (J : Int)) from fun w' m => by rw [← HG.out.2.1]; exact ((HE.out.2.1.mod (Mod.refl Nn w15).drew (fun f => f)).mod m (fun f => f)).cell 4)
  go_wp2_with fail
  refine wp_region_planC (fun w' => Mod Nn w15.drew w') [(0, true), (1, true), (2, true), (3, true), (4, true), (5, false), (6, true), (7, true), (8, true), (10, true), (11, true), (12, true), (13, true), (9, false), (14, true), (15, true), (16, true)] (by kernel_rfl) (by kernel_rfl) (Mod.refl _ _) ?_
  iterate 5 (refine pc_pure rfl rfl (fun K hK => ?_); go_simp; refine hK _ ?_; clear hK K)
  refine pc_call rfl rfl (fun K hK => ?_); go_simp; refine ⟨_, _, ⟨rfl, rfl⟩, hK _ _ _ ?_⟩; clear hK K
  refine (sameR_any (HE.out.2.2.2.1.mod (Mod.refl Nn w15).drew) (HE.out.2.2.2.2.1.mod (Mod.refl Nn w15).drew) (by have := HE.out.2.2.2.1.1; have := HN.out; have := HFIT.out; omega) (fun r hr => by have := HE.out.2.2.2.2.2.2 r hr; omega) (fun r hr => by have := HE.out.2.2.2.2.2.2 r hr; omega)).mono ?_
  rintro r w16 ⟨rfl, m16⟩
  rw [decide_eq_true (rfl : R = R)]
  refine ⟨_, rfl, m16, ?_⟩
  iterate 4 (refine pc_pure rfl rfl (fun K hK => ?_); go_simp; refine hK _ ?_; clear hK K)
  refine pc_take (.int .i64 (J : Int)) rfl rfl (fun w' hS => exec_load1 (P := Try.prog) (ad := ⟨w.heap.size, 4, none⟩) 3 _ rfl rfl (HF.out w' hS) Try.underlying3 rfl) (fun K hK => ?_); go_simp; refine hK _ ?_; clear hK K
  iterate 2 (refine pc_pure rfl rfl (fun K hK => ?_); go_simp; refine hK _ ?_; clear hK K)
  refine pc_call rfl rfl (fun K hK => ?_); go_simp; refine ⟨_, _, ⟨rfl, rfl⟩, hK _ _ _ ?_⟩; clear hK K
  refine (room_any ((HE.out.2.2.1.mod (Mod.refl Nn w15).drew (fun f => f)).mod m16 (fun f => f)) (by omega) (by rw [HG.out.2.1]; have := HE.out.2.2.2.2.2.1; omega) (by rw [HG.out.2.1]; have := HG.out; omega)).mono ?_
  rintro r w17 ⟨rfl, m17⟩
  rw [HG.out.2.1]
  refine ⟨_, rfl, m16.nn_ m17, ?_⟩
  iterate 3 (refine pc_pure rfl rfl (fun K hK => ?_); go_simp; refine hK _ ?_; clear hK K)
  refine pc_nil ?_
  have MM := HE.out.1.nn_ ((Mod.refl Nn w15).drew.nn_ (m16.nn_ m17))
  go_wp2
  go_ret
  exact ⟨rfl, MM⟩
end
end Go.Proofs.Ytijmkbhbpbkkoaa
