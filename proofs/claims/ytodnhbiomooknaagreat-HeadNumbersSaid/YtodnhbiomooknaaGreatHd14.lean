/- peatbanklaw12.small, awake (printed by wip/gen/hdawake.py). -/
import Derived.Test.YtodnhbiomooknaaGreatHd13
namespace Go.Proofs.YtodnhbiomooknaaGreat
open Go.RowKit

def sm : Hd := ⟨⟨64, 4, 32, 1, 8⟩, 7, 1, 0, 1⟩
theorem sm_right : sm.right := by decide
theorem sm_len : sm.fr.bytes.length = 512 := sm.bytes_len
theorem sm_at (i z : Nat) (h : sm.fr.body[i]? = some z) : (bv sm.fr.bytes)[i]? = some (.int .u8 (z : Int)) := by
  unfold bv Fr.bytes
  rw [List.getElem?_map, List.append_assoc, List.getElem?_append_left (List.getElem?_eq_some_iff.1 h).1, h]; rfl
theorem sm_pre : sm.fr.bytes.take 5 = [112, 101, 97, 116, 1] := by
  unfold Fr.bytes
  rw [List.append_assoc, List.take_append_of_le_length (by rw [Fr.body_len]; omega)]
  rfl
theorem not_zeros (n : Nat) : ¬ HoldsH (List.replicate n 0) := by
  intro h
  have e := congrArg (fun l => l.head?) h.2.2.2.2
  have h5 := h.1
  rw [List.length_replicate] at h5
  subst h5
  have : (hdOf (List.replicate 512 0)).fr.bytes.head? = some 112 := rfl
  rw [this] at e
  simp at e
theorem hget_zeros (n : Nat) : HGet (List.replicate n 0) hd0 4 := .inr ⟨not_zeros n, rfl, rfl⟩
theorem hget_nil : HGet [] hd0 4 := hget_zeros 0
theorem hget_bytes {h : Hd} (hr : h.right) : HGet h.fr.bytes h 0 := .inl ⟨(Hd.back hr).1, (Hd.back hr).2.symm, rfl⟩
theorem bv_zeros (n : Nat) : bv (List.replicate n 0) = List.replicate n (Value.int .u8 0) := by simp [bv]
section
variable {w : World}
set_option maxRecDepth 100000 in
theorem small_any (w : World) : Calls Tryz.prog 10 #[] w fun e w' => e = .returned (.agg #[.int .i64 64, .int .i64 4, .int .i64 32, .int .i64 1, .int .i64 8, .int .i64 7, .int .i64 1, .int .i64 0, .int .i64 1]) ∧ Mod Nn w w' := by
  go_enter Tryz.func10, Tryz.ntmps10
  go_wp2_with (first
    | (with_reducible change wpList _ _ _ (⟨some 0, Op.alloc _, _, _, _, _⟩ :: _) _ _
       go_must (refine wpList_alloc_var 25 rfl rfl zero_head ?_)
       intro w2 b2 m2 z2
       have H2 := Lib.hid (And.intro m2 b2)
       clear b2 m2 z2)
    | (with_reducible change wpList _ _ _ (⟨none, Op.store _ (Operand.tmp 0) _, _, _, _, _⟩ :: _) _ _
       go_must (refine wpList_store_var 25 _ _ rfl rfl w.heap.size #[.int .i64 64, .int .i64 4, .int .i64 32, .int .i64 1, .int .i64 8, .int .i64 7, .int .i64 1, .int .i64 0, .int .i64 1] _ _ rfl rfl H2.out.2 size_head rfl (by simp [Value.oneCell']) ?_)
       intro w3 b3 m3 z3
       have H3 := Lib.hid (H2.out.1.new_ m3 (Nat.le_refl _))
       clear m3 z3))
  exact bodyPost_ret (results_cell_row (P := Tryz.prog) rfl _ w3 _ _ _ (0, 0) _ rfl b3 Tryz.underlying25 rfl size_head) rfl ⟨rfl, H3.out⟩
/-- small's bytes -/
theorem hput_sm (w : World) : Calls Tryz.prog 5 #[.agg #[.int .i64 64, .int .i64 4, .int .i64 32, .int .i64 1, .int .i64 8, .int .i64 7, .int .i64 1, .int .i64 0, .int .i64 1]] w fun r w' => ∃ g c, r = .returned (.tuple #[.slice (some ⟨g, 0, none⟩) 512 c, .int .i64 0]) ∧ Rd w' (some ⟨g, 0, none⟩) 512 (bv sm.fr.bytes) ∧ 512 ≤ c ∧ c ≤ maxLen ∧ Mod Nn w w' := by
  refine (hput_any sm w).mono ?_
  rintro r w' ⟨A, c, h1, h2, h3⟩
  rw [show herr sm = 0 from if_pos sm_right] at h1
  rw [show hbytes sm = sm.fr.bytes from if_pos sm_right, sm_len] at h1 h2
  obtain ⟨g, cap, cur, hv, _, _, h4, h5, _, _⟩ := own_blk h2 (by omega)
  injection hv with e1 e2 e3
  subst e1; subst e3
  exact ⟨g, c, h1, Rd.of_own h2, h4, h5, h3⟩
set_option maxRecDepth 100000 in
set_option maxHeartbeats 6400000 in
theorem hd_awake (w : World) : Calls Tryz.prog 9 #[] w fun e w' => e = .returned (.bool true) ∧ Mod Nn w w' := by
  go_enter Tryz.func9, Tryz.ntmps9
  go_wp2_with fail
  refine (small_any _).mono ?_
  rintro r w1 ⟨rfl, m1⟩
  have H1 := Lib.hid m1
  clear m1
  go_wp2_with fail
  refine (hput_sm _).mono ?_
  rintro r w2 ⟨g, c, rfl, r2, hc, hcm, m2⟩
  have D15 : w2.cell? ⟨g, 15, none⟩ = some (.int .u8 7) := by
    obtain ⟨g', off, e, hcell⟩ := r2.2 (by omega)
    injection e with e; injection e with e1 e2 _; subst e1; subst e2
    have := hcell 15 _ (sm_at 15 7 rfl)
    rwa [Nat.zero_add] at this
  have hr5 := r2.pre (c := c) 5 (by omega) (by omega)
  have e1 : (bv sm.fr.bytes).take 5 = bv [112, 101, 97, 116, 1] := by rw [← sm_pre]; unfold bv; rw [← List.map_take]
  rw [e1, subA_zero] at hr5
  have q1 := conv_str (P := Tryz.prog) (c := c) 26 5 9 Tryz.underlying26 Tryz.underlying5 Tryz.underlying9 hr5
  rw [show bstr [112, 101, 97, 116, 1] = { data := #[112, 101, 97, 116, 1] } from rfl] at q1
  have H2 := Lib.hid (And.intro (H1.out.nn_ m2) r2)
  have hc5 : 5 ≤ c := by omega
  have HCM := Lib.hid (And.intro hc hcm)
  clear m2 r2 hr5 e1 hcm H1
  go_wp2_with fail
  refine (hget_any (w := w2) (hget_bytes sm_right) H2.out.2 (sm.fr.bytes_lt sm.data_lt) (by omega) HCM.out.1 HCM.out.2).mono ?_
  rintro r w3 ⟨rfl, m3⟩
  rw [show hdV sm = .agg #[.int .i64 64, .int .i64 4, .int .i64 32, .int .i64 1, .int .i64 8, .int .i64 7, .int .i64 1, .int .i64 0, .int .i64 1] from rfl]
  have H3 := Lib.hid (And.intro (H2.out.1.nn_ m3) (H2.out.2.mod m3 (fun _ _ f => f)))
  clear m3 q1 D15 H2
  go_wp2_with (first
    | (with_reducible change wpList _ _ _ (⟨some 3, Op.alloc _, _, _, _, _⟩ :: _) _ _
       go_must (refine wpList_alloc_var 25 rfl rfl zero_head ?_)
       intro wa ba ma za
       clear za
       have HA := Lib.hid (And.intro ba ma)
       clear ba ma)
    | (with_reducible change wpList _ _ _ (⟨none, Op.store _ (Operand.tmp 3) _, _, _, _, _⟩ :: _) _ _
       go_must (refine wpList_store_var 25 _ _ rfl rfl w3.heap.size #[.int .i64 64, .int .i64 4, .int .i64 32, .int .i64 1, .int .i64 8, .int .i64 7, .int .i64 1, .int .i64 0, .int .i64 1] _ _ rfl rfl HA.out.1 size_head rfl (by simp [Value.oneCell']) ?_)
       intro wb bb mb zb
       clear zb
       have mm := HA.out.2.new_ mb (Nat.le_refl _)
       have H4 := Lib.hid (And.intro (H3.out.1.nn_ mm) (And.intro (H3.out.2.mod mm (fun _ _ f => f)) bb))
       clear bb mb mm HA)
    | (with_reducible change wpList _ _ _ (⟨_, Op.makeSlice _ _ _, _, _, _, _⟩ :: _) _ _
       go_must (refine wpList_make1 26 _ _ rfl rfl 5 (.int .u8 0) 1 Tryz.underlying26 info_u8 rfl _ _ 512 512 rfl rfl rfl rfl (Nat.le_refl _) (by omega) (by omega) ?_)
       intro wc bc mc zc
       clear zc
       have rc : Rd wc (some ⟨wb.heap.size, 0, none⟩) 512 (bv (List.replicate 512 0)) := (Out.new bc).full
       have H5 := Lib.hid (And.intro (H4.out.1.nn_ mc) (And.intro (H4.out.2.1.mod mc (fun _ _ f => f)) (And.intro (H4.out.2.2.mod mc (fun f => f)) rc)))
       clear bc mc rc))
  refine (hpick_any (hget_bytes sm_right) (hget_zeros 512) H5.out.2.1 (sm.fr.bytes_lt sm.data_lt) (by omega) HCM.out.1 HCM.out.2 H5.out.2.2.2 (fun z hz => by rw [List.eq_of_mem_replicate hz]; omega) (by omega) (Nat.le_refl _) (by unfold maxLen; omega)).mono ?_
  rintro r w6 ⟨rfl, m6⟩
  rw [show hpick sm 0 hd0 4 = (sm, 0) from rfl]
  rw [show hdV ((sm, (0 : Int)).1) = .agg #[.int .i64 64, .int .i64 4, .int .i64 32, .int .i64 1, .int .i64 8, .int .i64 7, .int .i64 1, .int .i64 0, .int .i64 1] from rfl]
  have H6 := Lib.hid (And.intro (H5.out.1.nn_ m6) (H5.out.2.2.1.mod m6 (fun f => f)))
  have hw36 : w3.heap.size < w6.heap.size := (H5.out.2.2.1.mod m6 (fun f => f)).lt
  clear m6 H5 H4 H3
  generalize w3.heap.size = b3 at *
  go_wp2_with (first
    | (with_reducible change wpList _ _ _ (⟨some 5, Op.alloc _, _, _, _, _⟩ :: _) _ _
       go_must (refine wpList_alloc_var 25 rfl rfl zero_head ?_)
       intro wa ba ma za
       clear za
       have HA := Lib.hid (And.intro ba ma)
       clear ba ma)
    | (with_reducible change wpList _ _ _ (⟨none, Op.store _ (Operand.tmp 5) _, _, _, _, _⟩ :: _) _ _
       go_must (refine wpList_store_var 25 _ _ rfl rfl w6.heap.size #[.int .i64 64, .int .i64 4, .int .i64 32, .int .i64 1, .int .i64 8, .int .i64 7, .int .i64 1, .int .i64 0, .int .i64 1] _ _ rfl rfl HA.out.1 size_head rfl (by simp [Value.oneCell']) ?_)
       intro wd bd md zd
       clear zd
       have mm := HA.out.2.new_ md (Nat.le_refl _)
       have H7 := Lib.hid (And.intro (H6.out.1.nn_ mm) (And.intro (H6.out.2.mod mm (fun f => f)) bd))
       clear bd md mm HA H6))
  refine (hpick_any hget_nil hget_nil (Rd.nil _ _) (fun z hz => by cases hz) (by omega) (Nat.le_refl _) (by unfold maxLen; omega) (Rd.nil _ _) (fun z hz => by cases hz) (by omega) (Nat.le_refl _) (by unfold maxLen; omega)).mono ?_
  rintro r w8 ⟨rfl, m8⟩
  rw [show hpick hd0 4 hd0 4 = (hd0, -1) from rfl]
  rw [show hdV ((hd0, (-1 : Int)).1) = .agg #[.int .i64 0, .int .i64 0, .int .i64 0, .int .i64 0, .int .i64 0, .int .i64 0, .int .i64 0, .int .i64 0, .int .i64 0] from rfl]
  have H8 := Lib.hid (And.intro (H7.out.1.nn_ m8) (And.intro (H7.out.2.1.mod m8 (fun f => f)) (H7.out.2.2.mod m8 (fun f => f))))
  clear m8 H7
  go_wp2_with (first
    | (with_reducible change wpList _ _ _ (⟨some 7, Op.alloc _, _, _, _, _⟩ :: _) _ _
       go_must (refine wpList_alloc_var 25 rfl rfl zero_head ?_)
       intro wa ba ma za
       clear za
       have HA := Lib.hid (And.intro ba ma)
       clear ba ma)
    | (with_reducible change wpList _ _ _ (⟨none, Op.store _ (Operand.tmp 7) _, _, _, _, _⟩ :: _) _ _
       go_must (refine wpList_store_var 25 _ _ rfl rfl w8.heap.size #[.int .i64 0, .int .i64 0, .int .i64 0, .int .i64 0, .int .i64 0, .int .i64 0, .int .i64 0, .int .i64 0, .int .i64 0] _ _ rfl rfl HA.out.1 size_head rfl (by simp [Value.oneCell']) ?_)
       intro we be me ze
       clear ze
       have mm := HA.out.2.new_ me (Nat.le_refl _)
       have H9 := Lib.hid (And.intro (H8.out.1.nn_ mm) (And.intro (H8.out.2.1.mod mm (fun f => f)) (H8.out.2.2.mod mm (fun f => f))))
       clear be me mm HA H8))
  refine (hput_any hd0 _).mono ?_
  rintro r w10 ⟨A10, c10, rfl, -, m10⟩
  rw [show herr hd0 = 2 from rfl]
  have H10 := Lib.hid (And.intro (H9.out.1.nn_ m10) (And.intro (H9.out.2.1.mod m10 (fun f => f)) (H9.out.2.2.mod m10 (fun f => f))))
  clear m10 H9
  go_wp2_with fail
  refine wp_region_planC (fun w' => Blk w' b3 25 #[.int .i64 64, .int .i64 4, .int .i64 32, .int .i64 1, .int .i64 8, .int .i64 7, .int .i64 1, .int .i64 0, .int .i64 1] ∧ Blk w' w6.heap.size 25 #[.int .i64 64, .int .i64 4, .int .i64 32, .int .i64 1, .int .i64 8, .int .i64 7, .int .i64 1, .int .i64 0, .int .i64 1]) [(0, true), (1, true), (2, true), (3, true), (4, false), (5, true), (6, true), (7, true), (8, true), (9, false), (10, true), (11, true), (12, true), (13, true), (14, true), (15, true), (16, true), (17, true), (18, true), (19, true), (20, true), (21, true), (22, true), (23, true), (24, true)] (by kernel_rfl) (by kernel_rfl) ⟨H10.out.2.1.drew, H10.out.2.2.drew⟩ ?_
  iterate 3 (refine pc_pure rfl rfl (fun K hK => ?_); go_simp; refine hK _ ?_; clear hK K)
  refine pc_take _ rfl rfl (fun w' hS => exec_load_row (P := Tryz.prog) 25 _ rfl rfl hS.1 Tryz.underlying25 rfl size_head) (fun K hK => ?_); go_simp; refine hK _ ?_; clear hK K
  refine pc_call rfl rfl (fun K hK => ?_); go_simp; refine ⟨_, _, ⟨rfl, rfl⟩, hK _ _ _ ?_⟩; clear hK K
  refine (small_any _).mono ?_
  rintro r w11 ⟨rfl, m11⟩
  have H11 := Lib.hid (And.intro (H10.out.1.drew.nn_ m11) (And.intro (H10.out.2.1.drew.mod m11 (fun f => f)) (H10.out.2.2.drew.mod m11 (fun f => f))))
  clear m11
  refine ⟨_, rfl, ⟨H11.out.2.1, H11.out.2.2⟩, ?_⟩
  iterate 3 (refine pc_pure rfl rfl (fun K hK => ?_); go_simp; refine hK _ ?_; clear hK K)
  refine pc_take _ rfl rfl (fun w' hS => exec_load_row (P := Tryz.prog) 25 _ rfl rfl hS.2 Tryz.underlying25 rfl size_head) (fun K hK => ?_); go_simp; refine hK _ ?_; clear hK K
  refine pc_call rfl rfl (fun K hK => ?_); go_simp; refine ⟨_, _, ⟨rfl, rfl⟩, hK _ _ _ ?_⟩; clear hK K
  refine (small_any _).mono ?_
  rintro r w12 ⟨rfl, m12⟩
  have H12 := Lib.hid (And.intro (H11.out.1.nn_ m12) (And.intro (H11.out.2.1.mod m12 (fun f => f)) (H11.out.2.2.mod m12 (fun f => f))))
  clear m12
  refine ⟨_, rfl, ⟨H12.out.2.1, H12.out.2.2⟩, ?_⟩
  iterate 15 (refine pc_pure rfl rfl (fun K hK => ?_); go_simp; refine hK _ ?_; clear hK K)
  refine pc_nil ?_
  go_wp2
  go_ret
  exact ⟨rfl, H12.out.1⟩
end
end Go.Proofs.YtodnhbiomooknaaGreat
