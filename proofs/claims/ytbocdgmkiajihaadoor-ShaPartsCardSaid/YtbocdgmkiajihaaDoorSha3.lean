/- The program's block (sha.state.block). -/
import Derived.Test.YtbocdgmkiajihaaDoorSha1d
import Derived.Test.YtbocdgmkiajihaaDoorSha2
namespace Go.Proofs.YtbocdgmkiajihaaDoor
open Go.RowKit

set_option maxRecDepth 100000 in
set_option maxHeartbeats 6400000 in
theorem pblock_any {w : World} (hg : Gl w) {sb : Nat} (v : S8) (hs : Blk w sb 63 (wvs v.l)) (hs1 : 1 < sb) {A : Option Addr} {c n : Nat} (hn : 64 ≤ n) {m : List Nat} (hr : Rd w A n (m.map (fun c : Nat => Value.int .u8 (c : Int)))) (hm : ∀ z ∈ m, z < 256) :
    Calls Tryd.prog 28 #[.pointer (some ⟨sb, 0, none⟩), .slice A n c] w fun e w' => e = .returned (.tuple #[]) ∧ Blk w' sb 63 (wvs (cmpr v m).l) ∧ Mod (At sb) w w' := by
  have hA0 : ∀ j, Of A j → j < w.heap.size := fun j hj => hr.in_ (by omega) hj
  have HA := Lib.hid hA0
  have HMM := Lib.hid hm
  have H0 := Lib.hid (And.intro hg (And.intro hs (And.intro hr hs1)))
  clear hA0 hm hg hs hr hs1
  go_enter Tryd.func28, Tryd.ntmps28
  go_wp2_with (first
    | (with_reducible change wpList _ _ _ (⟨some 4, Op.alloc _, _, _, _, _⟩ :: _) _ _
       go_must (refine wpList_alloc_var 64 rfl rfl zero64 ?_)
       intro w1 b1 m1 z1
       have B1 := Lib.hid (show Blk w1 w.heap.size 64 (wvs (padW [])) ∧ Mod Nn w w1 from ⟨b1, m1⟩)
       clear b1 m1 z1))
  obtain ⟨WB, hWB⟩ : ∃ x, w.heap.size = x := ⟨_, rfl⟩
  rw [hWB] at B1 HA ⊢
  have HWB := Lib.hid (show w.heap.size = WB ∧ sb ≠ WB from ⟨hWB, fun e => by have := H0.out.2.1.lt; omega⟩)
  clear hWB
  go_loopw [22] (fun i wr => ∃ k : Nat, k ≤ 64 ∧ i = .int .i64 k ∧ Blk wr WB 64 (wvs (padW (wsch m k))) ∧ Mod (At WB) w1 wr) (fun i _ => 64 - (intOf i).toNat)
  case atStart => exact ⟨0, by omega, rfl, B1.out.1, Mod.refl _ _⟩
  case round =>
    obtain ⟨k, hk, rfl, hbw, hmr⟩ := hrel
    obtain ⟨wo, rfl⟩ : ∃ wo : World, wo = wr := ⟨_, rfl⟩
    by_cases hlt : k < 64
    · have hlt' : (k : Int) < 64 := by omega
      by_cases h16 : k < 16
      · have h16' : (k : Int) < 16 := by omega
        have hro := (H0.out.2.2.1.mod B1.out.2 (fun _ _ f => f)).mod hmr (fun j hj e => by have := HA.out j hj; have e : j = _ := e; omega)
        obtain ⟨g, off, u0, rfl, hv0, d0⟩ := hro.at_ (show 4 * k < n by omega)
        obtain ⟨_, _, u1, hA', hv1, d1⟩ := hro.at_ (show 4 * k + 1 < n by omega)
        injection hA' with hA'; injection hA' with e1 e2 _; subst e1; subst e2
        obtain ⟨_, _, u2, hA', hv2, d2⟩ := hro.at_ (show 4 * k + 2 < n by omega)
        injection hA' with hA'; injection hA' with e1 e2 _; subst e1; subst e2
        obtain ⟨_, _, u3, hA', hv3, d3⟩ := hro.at_ (show 4 * k + 3 < n by omega)
        injection hA' with hA'; injection hA' with e1 e2 _; subst e1; subst e2
        rw [List.getElem?_map] at hv0 hv1 hv2 hv3
        obtain ⟨c0, hc0, rfl⟩ := Option.map_eq_some_iff.1 hv0
        obtain ⟨c1, hc1, rfl⟩ := Option.map_eq_some_iff.1 hv1
        obtain ⟨c2, hc2, rfl⟩ := Option.map_eq_some_iff.1 hv2
        obtain ⟨c3, hc3, rfl⟩ := Option.map_eq_some_iff.1 hv3
        have hz0 : c0 < 256 := HMM.out c0 (List.mem_of_getElem? hc0)
        have hz1 : c1 < 256 := HMM.out c1 (List.mem_of_getElem? hc1)
        have hz2 : c2 < 256 := HMM.out c2 (List.mem_of_getElem? hc2)
        have hz3 : c3 < 256 := HMM.out c3 (List.mem_of_getElem? hc3)
        have hword : ((B32 c0 <<< 24 ||| B32 c1 <<< 16) ||| B32 c2 <<< 8) ||| B32 c3 = word m k := by
          unfold word
          rw [List.getD_eq_getElem?_getD, List.getD_eq_getElem?_getD, List.getD_eq_getElem?_getD, List.getD_eq_getElem?_getD, hc0, hc1, hc2, hc3]; rfl
        have HW := Lib.hid (And.intro hword (And.intro hbw hmr))
        have HD := Lib.hid (And.intro d0 (And.intro d1 (And.intro d2 d3)))
        clear hword hbw hmr hv0 hv1 hv2 hv3 hc0 hc1 hc2 hc3 d0 d1 d2 d3 hro
        obtain ⟨q, hq⟩ : ∃ q : Nat, 4 * k = q := ⟨_, rfl⟩
        rw [hq] at HD
        have e0 : (4 : Int) * k = (q : Int) := by omega
        have e1 : (q : Int) + 3 < n := by omega
        have e2 : IntKind.i64.wrap (q : Int) = q := by rw [IntKind.wrap_i64]; omega
        have e3 : IntKind.i64.wrap ((q : Int) + 1) = q + 1 := by rw [IntKind.wrap_i64]; omega
        have e4 : IntKind.i64.wrap ((q : Int) + 2) = q + 2 := by rw [IntKind.wrap_i64]; omega
        have e5 : IntKind.i64.wrap ((q : Int) + 3) = q + 3 := by rw [IntKind.wrap_i64]; omega
        have e6 : ((q : Int) + 1).toNat = q + 1 := by omega
        have e7 : ((q : Int) + 2).toNat = q + 2 := by omega
        have e8 : ((q : Int) + 3).toNat = q + 3 := by omega
        have f1 : (q : Int) < n := by omega
        have f2 : (q : Int) + 1 < n := by omega
        have f3 : (q : Int) + 2 < n := by omega
        have f4 : (0 : Int) ≤ (q : Int) + 1 := by omega
        have f5 : (0 : Int) ≤ (q : Int) + 2 := by omega
        have f6 : (0 : Int) ≤ (q : Int) + 3 := by omega
        clear hq
        go_wp2_with fail
        refine wp_region_planT (fun w' => w'.cell? ⟨g, off + q, none⟩ = some (.int .u8 c0) ∧ w'.cell? ⟨g, off + (q + 1), none⟩ = some (.int .u8 c1) ∧ w'.cell? ⟨g, off + (q + 2), none⟩ = some (.int .u8 c2) ∧ w'.cell? ⟨g, off + (q + 3), none⟩ = some (.int .u8 c3)) 35 [(0, 0), (1, 0), (2, 0), (3, 0), (4, 0), (5, 1), (6, 0), (7, 0), (8, 0), (9, 0), (10, 0), (11, 0), (12, 0), (13, 1), (14, 0), (15, 0), (16, 0), (17, 0), (18, 0), (19, 0), (20, 0), (21, 0), (22, 1), (23, 0), (24, 0), (25, 0), (26, 0), (27, 0), (28, 0), (29, 0), (30, 0), (31, 1), (32, 0), (33, 0), (34, 0), (35, 2)] (by kernel_rfl) (by kernel_rfl) HD.out ?_
        iterate 5 (refine pt_pure rfl rfl (fun K hK => ?_); go_simp; refine hK _ ?_; clear hK K)
        refine pt_take _ rfl rfl (fun w' hS => exec_load1 (P := Tryd.prog) 5 _ rfl rfl hS.1 Tryd.underlying5 rfl) (fun K hK => ?_); go_simp; refine hK _ ?_; clear hK K
        refine pt_is _ rfl rfl (fun _ => exec_conv8 _ _ _ rfl rfl hz0 Tryd.underlying5 Tryd.underlying38) (fun K hK => ?_); go_simp; refine hK _ ?_; clear hK K
        refine pt_is _ rfl rfl (fun _ => exec_shl 24 _ _ _ _ rfl rfl rfl (by omega)) (fun K hK => ?_); go_simp; refine hK _ ?_; clear hK K
        iterate 5 (refine pt_pure rfl rfl (fun K hK => ?_); go_simp; refine hK _ ?_; clear hK K)
        refine pt_take _ rfl rfl (fun w' hS => exec_load1 (P := Tryd.prog) 5 _ rfl rfl hS.2.1 Tryd.underlying5 rfl) (fun K hK => ?_); go_simp; refine hK _ ?_; clear hK K
        refine pt_is _ rfl rfl (fun _ => exec_conv8 _ _ _ rfl rfl hz1 Tryd.underlying5 Tryd.underlying38) (fun K hK => ?_); go_simp; refine hK _ ?_; clear hK K
        refine pt_is _ rfl rfl (fun _ => exec_shl 16 _ _ _ _ rfl rfl rfl (by omega)) (fun K hK => ?_); go_simp; refine hK _ ?_; clear hK K
        refine pt_is _ rfl rfl (fun _ => exec_or _ _ _ _ rfl rfl rfl) (fun K hK => ?_); go_simp; refine hK _ ?_; clear hK K
        iterate 5 (refine pt_pure rfl rfl (fun K hK => ?_); go_simp; refine hK _ ?_; clear hK K)
        refine pt_take _ rfl rfl (fun w' hS => exec_load1 (P := Tryd.prog) 5 _ rfl rfl hS.2.2.1 Tryd.underlying5 rfl) (fun K hK => ?_); go_simp; refine hK _ ?_; clear hK K
        refine pt_is _ rfl rfl (fun _ => exec_conv8 _ _ _ rfl rfl hz2 Tryd.underlying5 Tryd.underlying38) (fun K hK => ?_); go_simp; refine hK _ ?_; clear hK K
        refine pt_is _ rfl rfl (fun _ => exec_shl 8 _ _ _ _ rfl rfl rfl (by omega)) (fun K hK => ?_); go_simp; refine hK _ ?_; clear hK K
        refine pt_is _ rfl rfl (fun _ => exec_or _ _ _ _ rfl rfl rfl) (fun K hK => ?_); go_simp; refine hK _ ?_; clear hK K
        iterate 5 (refine pt_pure rfl rfl (fun K hK => ?_); go_simp; refine hK _ ?_; clear hK K)
        refine pt_take _ rfl rfl (fun w' hS => exec_load1 (P := Tryd.prog) 5 _ rfl rfl hS.2.2.2 Tryd.underlying5 rfl) (fun K hK => ?_); go_simp; refine hK _ ?_; clear hK K
        refine pt_is _ rfl rfl (fun _ => exec_conv8 _ _ _ rfl rfl hz3 Tryd.underlying5 Tryd.underlying38) (fun K hK => ?_); go_simp; refine hK _ ?_; clear hK K
        refine pt_is _ rfl rfl (fun _ => exec_or _ _ _ _ rfl rfl rfl) (fun K hK => ?_); go_simp; refine hK _ ?_; clear hK K
        iterate 1 (refine pt_pure rfl rfl (fun K hK => ?_); go_simp; refine hK _ ?_; clear hK K)
        have hlen := wsch_len m k
        have hcell : wo.cell? ⟨WB, k, none⟩ = some (wv 0#32) := by
          rw [HW.out.2.1.cell k, wvs_at]
          have : (padW (wsch m k))[k]? = some 0#32 := by
            unfold padW
            rw [List.getElem?_append_right (by omega), hlen, Nat.sub_self, List.getElem?_replicate, if_pos (by omega)]
          rw [this]; rfl
        have hfz := HW.out.2.1.frozen k
        refine pt_unit (w1 := wo.drew.setCell ⟨WB, k, none⟩ (wv (((B32 c0 <<< 24 ||| B32 c1 <<< 16) ||| B32 c2 <<< 8) ||| B32 c3))) rfl rfl (exec_store1 (P := Tryd.prog) 38 _ _ rfl rfl rfl hcell hfz rfl rfl rfl size_u32) (fun h => by simp at h) (fun K hK => ?_); go_simp; refine hK _ ?_; clear hK K
        refine pt_nil ?_
        rw [HW.out.1]
        have hb' := HW.out.2.1.drew.set_ k (wv (word m k))
        have hsp := padW_set (wsch m k) (word m k) (by omega)
        rw [hlen] at hsp
        rw [wvs_set, hsp] at hb'
        have hst : wsch m k ++ [word m k] = wsch m (k + 1) := by show _ = wsch m k ++ [if k < 16 then word m k else _]; rw [if_pos h16]
        rw [hst] at hb'
        have HB' := Lib.hid (And.intro hb' (HW.out.2.2.drew.setCell (p := ⟨WB, k, none⟩) (.inr rfl) (wv (word m k))))
        clear hb' hsp hst hlen hcell hfz e0 e1 e2 e3 e4 e5 e6 e7 e8
        go_wp2
        exact ⟨⟨k + 1, by omega, by go_num, HB'.out⟩, by simp [intOf]; omega⟩
      · have h16' : ¬ (k : Int) < 16 := by omega
        have hlen := wsch_len m k
        obtain ⟨p15, hp15⟩ : ∃ p : Nat, k - 15 = p := ⟨_, rfl⟩
        obtain ⟨p2, hp2⟩ : ∃ p : Nat, k - 2 = p := ⟨_, rfl⟩
        obtain ⟨p16, hp16⟩ : ∃ p : Nat, k - 16 = p := ⟨_, rfl⟩
        obtain ⟨p7, hp7⟩ : ∃ p : Nat, k - 7 = p := ⟨_, rfl⟩
        have hcell : ∀ j, j < k → wo.cell? ⟨WB, j, none⟩ = some (wv ((wsch m k).getD j 0#32)) := fun j hj => by
          rw [hbw.cell j, wvs_at, padW_at _ _ (by omega)]; rfl
        have d15 := hcell p15 (by omega)
        have d2 := hcell p2 (by omega)
        have d16 := hcell p16 (by omega)
        have d7 := hcell p7 (by omega)
        have hnx : (((wsch m k).getD p16 0#32 + (wsch m k).getD p7 0#32) + sig0 ((wsch m k).getD p15 0#32)) + sig1 ((wsch m k).getD p2 0#32) = wnext (wsch m k) k := by
          rw [← wnext_eq, hp16, hp15, hp7, hp2]
        generalize (wsch m k).getD p15 0#32 = x15 at *
        generalize (wsch m k).getD p2 0#32 = x2 at *
        generalize (wsch m k).getD p16 0#32 = x16 at *
        generalize (wsch m k).getD p7 0#32 = x7 at *
        have e15 : (k : Int) - 15 = (p15 : Int) := by omega
        have e2 : (k : Int) - 2 = (p2 : Int) := by omega
        have e16 : (k : Int) - 16 = (p16 : Int) := by omega
        have e7 : (k : Int) - 7 = (p7 : Int) := by omega
        have f15 : (p15 : Int) < 64 := by omega
        have f2 : (p2 : Int) < 64 := by omega
        have f16 : (p16 : Int) < 64 := by omega
        have f7 : (p7 : Int) < 64 := by omega
        have g15 : IntKind.i64.wrap (p15 : Int) = p15 := by rw [IntKind.wrap_i64]; omega
        have g2 : IntKind.i64.wrap (p2 : Int) = p2 := by rw [IntKind.wrap_i64]; omega
        have g16 : IntKind.i64.wrap (p16 : Int) = p16 := by rw [IntKind.wrap_i64]; omega
        have g7 : IntKind.i64.wrap (p7 : Int) = p7 := by rw [IntKind.wrap_i64]; omega
        have HE := Lib.hid (And.intro e15 (And.intro e2 (And.intro e16 (And.intro e7 (And.intro g15 (And.intro g2 (And.intro g16 g7)))))))
        have HW := Lib.hid (And.intro hnx (And.intro hbw (And.intro hmr hlen)))
        have HD := Lib.hid (And.intro d15 (And.intro d2 (And.intro d16 d7)))
        clear hnx hbw hmr hlen d15 d2 d16 d7 hcell hp15 hp2 hp16 hp7 e16 e7 g16 g7
        go_wp2_with fail
        refine wp_region_planC (fun w' => w'.cell? ⟨WB, p15, none⟩ = some (wv x15) ∧ w'.cell? ⟨WB, p2, none⟩ = some (wv x2)) ((List.range 10).map (fun i => (i, true))) (by kernel_rfl) (by kernel_rfl) ⟨HD.out.1, HD.out.2.1⟩ ?_
        simp only [List.range, List.range.loop, List.map_cons, List.map_nil]
        iterate 3 (refine pc_pure rfl rfl (fun K hK => ?_); go_simp; refine hK _ ?_; clear hK K)
        refine pc_take _ rfl rfl (fun w' hS => exec_load1 (P := Tryd.prog) 38 _ rfl rfl hS.1 Tryd.underlying38 rfl) (fun K hK => ?_); go_simp; refine hK _ ?_; clear hK K
        iterate 3 (refine pc_pure rfl rfl (fun K hK => ?_); go_simp; refine hK _ ?_; clear hK K)
        refine pc_take _ rfl rfl (fun w' hS => exec_load1 (P := Tryd.prog) 38 _ rfl rfl hS.2 Tryd.underlying38 rfl) (fun K hK => ?_); go_simp; refine hK _ ?_; clear hK K
        iterate 2 (refine pc_pure rfl rfl (fun K hK => ?_); go_simp; refine hK _ ?_; clear hK K)
        refine pc_nil ?_
        clear e15 e2 g15 g2
        obtain ⟨-, -, e16, e7, -, -, g16, g7⟩ := HE.out
        have d16 : wo.drew.cell? ⟨WB, p16, none⟩ = some (wv x16) := HD.out.2.2.1
        have d7 : wo.drew.cell? ⟨WB, p7, none⟩ = some (wv x7) := HD.out.2.2.2
        go_wp2_with fail
        refine wp_region_planT (fun w' => w'.cell? ⟨WB, p16, none⟩ = some (wv x16) ∧ w'.cell? ⟨WB, p7, none⟩ = some (wv x7)) 29 [(0, 0), (1, 0), (2, 0), (3, 0), (4, 1), (5, 0), (6, 0), (7, 0), (8, 1), (9, 0), (10, 0), (12, 0), (15, 0), (16, 0), (19, 0), (21, 0), (24, 0), (25, 0), (11, 2), (13, 2), (14, 0), (17, 0), (18, 0), (20, 2), (22, 2), (23, 0), (26, 0), (27, 0), (28, 0), (29, 2)] (by kernel_rfl) (by kernel_rfl) ⟨d16, d7⟩ ?_
        iterate 4 (refine pt_pure rfl rfl (fun K hK => ?_); go_simp; refine hK _ ?_; clear hK K)
        refine pt_take _ rfl rfl (fun w' hS => exec_load1 (P := Tryd.prog) 38 _ rfl rfl hS.1 Tryd.underlying38 rfl) (fun K hK => ?_); go_simp; refine hK _ ?_; clear hK K
        iterate 3 (refine pt_pure rfl rfl (fun K hK => ?_); go_simp; refine hK _ ?_; clear hK K)
        refine pt_take _ rfl rfl (fun w' hS => exec_load1 (P := Tryd.prog) 38 _ rfl rfl hS.2 Tryd.underlying38 rfl) (fun K hK => ?_); go_simp; refine hK _ ?_; clear hK K
        refine pt_is _ rfl rfl (fun _ => exec_add _ _ _ _ rfl rfl rfl) (fun K hK => ?_); go_simp; refine hK _ ?_; clear hK K
        iterate 3 (refine pt_pure rfl rfl (fun K hK => ?_); go_simp; refine hK _ ?_; clear hK K)
        refine pt_is _ rfl rfl (fun _ => exec_shr 3 _ _ _ _ rfl rfl rfl (by omega)) (fun K hK => ?_); go_simp; refine hK _ ?_; clear hK K
        iterate 3 (refine pt_pure rfl rfl (fun K hK => ?_); go_simp; refine hK _ ?_; clear hK K)
        refine pt_is _ rfl rfl (fun _ => exec_shr 10 _ _ _ _ rfl rfl rfl (by omega)) (fun K hK => ?_); go_simp; refine hK _ ?_; clear hK K
        refine pt_call rfl rfl (fun K hK => ?_); go_simp; refine ⟨_, _, ⟨rfl, rfl⟩, hK _ _ _ ?_⟩; clear hK K
        refine (pturned_any x15 7 (by decide) _).mono ?_
        rintro r w2 ⟨rfl, rfl⟩
        refine ⟨_, rfl, fun _ => ⟨d16, d7⟩, ?_⟩
        refine pt_call rfl rfl (fun K hK => ?_); go_simp; refine ⟨_, _, ⟨rfl, rfl⟩, hK _ _ _ ?_⟩; clear hK K
        refine (pturned_any x15 18 (by decide) _).mono ?_
        rintro r w2 ⟨rfl, rfl⟩
        refine ⟨_, rfl, fun _ => ⟨d16, d7⟩, ?_⟩
        refine pt_is _ rfl rfl (fun _ => exec_xor _ _ _ _ rfl rfl rfl) (fun K hK => ?_); go_simp; refine hK _ ?_; clear hK K
        refine pt_is _ rfl rfl (fun _ => exec_xor _ _ _ _ rfl rfl rfl) (fun K hK => ?_); go_simp; refine hK _ ?_; clear hK K
        refine pt_is _ rfl rfl (fun _ => exec_add _ _ _ _ rfl rfl rfl) (fun K hK => ?_); go_simp; refine hK _ ?_; clear hK K
        refine pt_call rfl rfl (fun K hK => ?_); go_simp; refine ⟨_, _, ⟨rfl, rfl⟩, hK _ _ _ ?_⟩; clear hK K
        refine (pturned_any x2 17 (by decide) _).mono ?_
        rintro r w2 ⟨rfl, rfl⟩
        refine ⟨_, rfl, fun _ => ⟨d16, d7⟩, ?_⟩
        refine pt_call rfl rfl (fun K hK => ?_); go_simp; refine ⟨_, _, ⟨rfl, rfl⟩, hK _ _ _ ?_⟩; clear hK K
        refine (pturned_any x2 19 (by decide) _).mono ?_
        rintro r w2 ⟨rfl, rfl⟩
        refine ⟨_, rfl, fun _ => ⟨d16, d7⟩, ?_⟩
        refine pt_is _ rfl rfl (fun _ => exec_xor _ _ _ _ rfl rfl rfl) (fun K hK => ?_); go_simp; refine hK _ ?_; clear hK K
        refine pt_is _ rfl rfl (fun _ => exec_xor _ _ _ _ rfl rfl rfl) (fun K hK => ?_); go_simp; refine hK _ ?_; clear hK K
        refine pt_is _ rfl rfl (fun _ => exec_add _ _ _ _ rfl rfl rfl) (fun K hK => ?_); go_simp; refine hK _ ?_; clear hK K
        iterate 1 (refine pt_pure rfl rfl (fun K hK => ?_); go_simp; refine hK _ ?_; clear hK K)
        have hlen := HW.out.2.2.2
        have hcell : wo.cell? ⟨WB, k, none⟩ = some (wv 0#32) := by
          rw [HW.out.2.1.cell k, wvs_at]
          have : (padW (wsch m k))[k]? = some 0#32 := by
            unfold padW
            rw [List.getElem?_append_right (by omega), hlen, Nat.sub_self, List.getElem?_replicate, if_pos (by omega)]
          rw [this]; rfl
        have hfz := HW.out.2.1.frozen k
        refine pt_unit (w1 := wo.drew.drew.setCell ⟨WB, k, none⟩ (wv (((x16 + x7) + sig0 x15) + sig1 x2))) rfl rfl (exec_store1 (P := Tryd.prog) 38 _ _ rfl rfl rfl hcell hfz rfl rfl rfl size_u32) (fun h => by simp at h) (fun K hK => ?_); go_simp; refine hK _ ?_; clear hK K
        refine pt_nil ?_
        rw [HW.out.1]
        have hb' := HW.out.2.1.drew.drew.set_ k (wv (wnext (wsch m k) k))
        have hsp := padW_set (wsch m k) (wnext (wsch m k) k) (by omega)
        rw [hlen] at hsp
        rw [wvs_set, hsp] at hb'
        have hst : wsch m k ++ [wnext (wsch m k) k] = wsch m (k + 1) := by show _ = wsch m k ++ [if k < 16 then word m k else _]; rw [if_neg h16]
        rw [hst] at hb'
        have HB' := Lib.hid (And.intro hb' (HW.out.2.2.1.drew.drew.setCell (p := ⟨WB, k, none⟩) (.inr rfl) (wv (wnext (wsch m k) k))))
        clear hb' hsp hst hlen hcell hfz e16 e7 g16 g7 d16 d7
        go_wp2
        first
          | exact ⟨⟨k + 1, by omega, by go_num, HB'.out⟩, by simp [intOf]; omega⟩
          | (refine ⟨?_, by simp [intOf]; omega⟩
             repeat apply Exists.intro
             exact ⟨⟨k + 1, by omega, by go_num, HB'.out⟩, rfl⟩)
    · have hlt' : ¬ (k : Int) < 64 := by omega
      have hk64 : k = 64 := by omega
      subst hk64
      have hw2 : (wvs (padW (wsch m 64))) = wvs (wsch m 64) := by unfold padW; rw [wsch_len]; simp
      rw [hw2] at hbw
      have hso := (H0.out.2.1.mod B1.out.2 (fun f => f)).mod hmr (fun e => HWB.out.2 e)
      have HBW := Lib.hid (And.intro hbw (And.intro hmr hso))
      clear hw2 hbw hmr hlt hlt' hk
      go_wp2_with fail
      refine wp_region_planC (fun w' => w'.cell? ⟨sb, 0, none⟩ = some (wv v.a) ∧ w'.cell? ⟨sb, 1, none⟩ = some (wv v.b) ∧ w'.cell? ⟨sb, 2, none⟩ = some (wv v.c) ∧ w'.cell? ⟨sb, 3, none⟩ = some (wv v.d) ∧ w'.cell? ⟨sb, 4, none⟩ = some (wv v.e) ∧ w'.cell? ⟨sb, 5, none⟩ = some (wv v.f) ∧ w'.cell? ⟨sb, 6, none⟩ = some (wv v.g) ∧ w'.cell? ⟨sb, 7, none⟩ = some (wv v.h)) ((List.range 40).map (fun i => (i, true))) (by kernel_rfl) (by kernel_rfl) ⟨HBW.out.2.2.cell 0, HBW.out.2.2.cell 1, HBW.out.2.2.cell 2, HBW.out.2.2.cell 3, HBW.out.2.2.cell 4, HBW.out.2.2.cell 5, HBW.out.2.2.cell 6, HBW.out.2.2.cell 7⟩ ?_
      simp only [List.range, List.range.loop, List.map_cons, List.map_nil]
      iterate 3 (refine pc_pure rfl rfl (fun K hK => ?_); go_simp; refine hK _ ?_; clear hK K)
      refine pc_take _ rfl rfl (fun w' hS => exec_load1 (P := Tryd.prog) 38 _ rfl rfl hS.1 Tryd.underlying38 rfl) (fun K hK => ?_); go_simp; refine hK _ ?_; clear hK K
      iterate 3 (refine pc_pure rfl rfl (fun K hK => ?_); go_simp; refine hK _ ?_; clear hK K)
      refine pc_take _ rfl rfl (fun w' hS => exec_load1 (P := Tryd.prog) 38 _ rfl rfl hS.2.1 Tryd.underlying38 rfl) (fun K hK => ?_); go_simp; refine hK _ ?_; clear hK K
      iterate 3 (refine pc_pure rfl rfl (fun K hK => ?_); go_simp; refine hK _ ?_; clear hK K)
      refine pc_take _ rfl rfl (fun w' hS => exec_load1 (P := Tryd.prog) 38 _ rfl rfl hS.2.2.1 Tryd.underlying38 rfl) (fun K hK => ?_); go_simp; refine hK _ ?_; clear hK K
      iterate 3 (refine pc_pure rfl rfl (fun K hK => ?_); go_simp; refine hK _ ?_; clear hK K)
      refine pc_take _ rfl rfl (fun w' hS => exec_load1 (P := Tryd.prog) 38 _ rfl rfl hS.2.2.2.1 Tryd.underlying38 rfl) (fun K hK => ?_); go_simp; refine hK _ ?_; clear hK K
      iterate 3 (refine pc_pure rfl rfl (fun K hK => ?_); go_simp; refine hK _ ?_; clear hK K)
      refine pc_take _ rfl rfl (fun w' hS => exec_load1 (P := Tryd.prog) 38 _ rfl rfl hS.2.2.2.2.1 Tryd.underlying38 rfl) (fun K hK => ?_); go_simp; refine hK _ ?_; clear hK K
      iterate 3 (refine pc_pure rfl rfl (fun K hK => ?_); go_simp; refine hK _ ?_; clear hK K)
      refine pc_take _ rfl rfl (fun w' hS => exec_load1 (P := Tryd.prog) 38 _ rfl rfl hS.2.2.2.2.2.1 Tryd.underlying38 rfl) (fun K hK => ?_); go_simp; refine hK _ ?_; clear hK K
      iterate 3 (refine pc_pure rfl rfl (fun K hK => ?_); go_simp; refine hK _ ?_; clear hK K)
      refine pc_take _ rfl rfl (fun w' hS => exec_load1 (P := Tryd.prog) 38 _ rfl rfl hS.2.2.2.2.2.2.1 Tryd.underlying38 rfl) (fun K hK => ?_); go_simp; refine hK _ ?_; clear hK K
      iterate 3 (refine pc_pure rfl rfl (fun K hK => ?_); go_simp; refine hK _ ?_; clear hK K)
      refine pc_take _ rfl rfl (fun w' hS => exec_load1 (P := Tryd.prog) 38 _ rfl rfl hS.2.2.2.2.2.2.2 Tryd.underlying38 rfl) (fun K hK => ?_); go_simp; refine hK _ ?_; clear hK K
      iterate 8 (refine pc_pure rfl rfl (fun K hK => ?_); go_simp; refine hK _ ?_; clear hK K)
      refine pc_nil ?_
      have hGl := (H0.out.1.nn B1.out.2).mod HBW.out.2.1 (fun e => by have e : 0 = WB := e; have := HWB.out.1; have := H0.out.1.lt; omega) (fun e => by have e : 1 = WB := e; have := HWB.out.1; have := H0.out.1.lt; omega)
      have HGL := Lib.hid hGl.drew
      have HV0 := Lib.hid (show rnds (wsch m 64) v 0 = v from rfl)
      have HI := Lib.hid (And.intro HBW.out.1.drew (And.intro HBW.out.2.1.drew HBW.out.2.2.drew))
      clear hGl HBW
      generalize wo.drew = wp at *
      go_wp2_with (first
        | (with_reducible change wpList _ _ _ (⟨some 132, _, _, _, _, _⟩ :: _) _ _
           go_must (refine wpList_val rfl (exec_load_cells (P := Tryd.prog) 64 _ rfl (cs := kK.map wv) rfl HGL.out.r Tryd.underlying64 rfl (by rw [size64]; rfl)) ?_)))
      rw [show (List.map wv kK).toArray = wvs kK from rfl]
      go_loopw [133, 8, 9, 10, 11, 12, 13, 14, 15] (fun i xa xb xc xd xe xf xg xh wr => ∃ (k : Nat) (V : S8), k ≤ 64 ∧ i = .int .i64 k ∧ V = rnds (wsch m 64) v k ∧ xa = wv V.a ∧ xb = wv V.b ∧ xc = wv V.c ∧ xd = wv V.d ∧ xe = wv V.e ∧ xf = wv V.f ∧ xg = wv V.g ∧ xh = wv V.h ∧ Mod Nn wp wr) (fun i _ _ _ _ _ _ _ _ _ => 64 - (intOf i).toNat)
      case atStart => exact ⟨0, v, by omega, rfl, rfl, rfl, rfl, rfl, rfl, rfl, rfl, rfl, rfl, Mod.refl _ _⟩
      case round =>
        obtain ⟨k, V, hk, rfl, hV, rfl, rfl, rfl, rfl, rfl, rfl, rfl, rfl, hmr⟩ := hrel
        obtain ⟨wx, rfl⟩ : ∃ wx : World, wx = wr := ⟨_, rfl⟩
        have HV := Lib.hid hV; clear hV
        by_cases hlt : k < 64
        · have hlt' : (k : Int) < 64 := by omega
          have hcw : wx.cell? ⟨WB, k, none⟩ = some (wv ((wsch m 64).getD k 0#32)) := by
            rw [(HI.out.1.mod hmr (fun f => f)).cell k, wvs_at, List.getD_eq_getElem?_getD, List.getElem?_eq_getElem (by rw [wsch_len]; omega)]; rfl
          have hkk : (wvs kK)[k]? = some (wv (kK.getD k 0#32)) := by
            rw [wvs_at, List.getD_eq_getElem?_getD, List.getElem?_eq_getElem (by rw [kK_len]; omega)]; rfl
          have hnext : rnds (wsch m 64) v (k + 1) = rnd V (kK.getD k 0#32) ((wsch m 64).getD k 0#32) := by rw [HV.out]; rfl
          generalize kK.getD k 0#32 = kk at *
          generalize (wsch m 64).getD k 0#32 = ww at *
          have HX := Lib.hid (And.intro hnext (And.intro hmr hkk))
          clear hnext hmr hkk
          go_wp2_with (first
            | (with_reducible change wpList _ _ _ (⟨some 136, _, _, _, _, _⟩ :: _) _ _
               go_must (refine wpList_val rfl (exec_index_arr (P := Tryd.prog) _ _ rfl rfl rfl Tryd.underlying64 Tryd.underlying38 size_u32 hlt HX.out.2.2) ?_)))
          have hcwD : wx.drew.cell? ⟨WB, k, none⟩ = some (wv ww) := hcw
          refine wp_region_planC (fun w' => w'.cell? ⟨WB, k, none⟩ = some (wv ww)) [(0, true), (1, true), (3, true), (6, true), (10, true), (11, true), (12, true), (13, true), (14, true), (15, true), (16, true), (18, true), (20, true), (21, true), (22, true), (2, false), (4, false), (5, true), (7, false), (8, true), (9, true), (17, true), (19, true), (23, true), (24, true)] (by kernel_rfl) (by kernel_rfl) hcwD ?_
          iterate 8 (refine pc_pure rfl rfl (fun K hK => ?_); go_simp; refine hK _ ?_; clear hK K)
          refine pc_take _ rfl rfl (fun _ _ => exec_xor _ _ _ _ rfl rfl rfl) (fun K hK => ?_); go_simp; refine hK _ ?_; clear hK K
          refine pc_take _ rfl rfl (fun _ _ => exec_and _ _ _ _ rfl rfl rfl) (fun K hK => ?_); go_simp; refine hK _ ?_; clear hK K
          refine pc_take _ rfl rfl (fun _ _ => exec_xor _ _ _ _ rfl rfl rfl) (fun K hK => ?_); go_simp; refine hK _ ?_; clear hK K
          iterate 3 (refine pc_pure rfl rfl (fun K hK => ?_); go_simp; refine hK _ ?_; clear hK K)
          refine pc_take _ rfl rfl (fun w' hS => exec_load1 (P := Tryd.prog) 38 _ rfl rfl hS Tryd.underlying38 rfl) (fun K hK => ?_); go_simp; refine hK _ ?_; clear hK K
          refine pc_call rfl rfl (fun K hK => ?_); go_simp; refine ⟨_, _, ⟨rfl, rfl⟩, hK _ _ _ ?_⟩; clear hK K
          refine (pturned_any V.e 6 (by decide) _).mono ?_
          rintro r w9 ⟨rfl, rfl⟩
          refine ⟨_, rfl, hcwD, ?_⟩
          refine pc_call rfl rfl (fun K hK => ?_); go_simp; refine ⟨_, _, ⟨rfl, rfl⟩, hK _ _ _ ?_⟩; clear hK K
          refine (pturned_any V.e 11 (by decide) _).mono ?_
          rintro r w9 ⟨rfl, rfl⟩
          refine ⟨_, rfl, hcwD, ?_⟩
          refine pc_take _ rfl rfl (fun _ _ => exec_xor _ _ _ _ rfl rfl rfl) (fun K hK => ?_); go_simp; refine hK _ ?_; clear hK K
          refine pc_call rfl rfl (fun K hK => ?_); go_simp; refine ⟨_, _, ⟨rfl, rfl⟩, hK _ _ _ ?_⟩; clear hK K
          refine (pturned_any V.e 25 (by decide) _).mono ?_
          rintro r w9 ⟨rfl, rfl⟩
          refine ⟨_, rfl, hcwD, ?_⟩
          refine pc_take _ rfl rfl (fun _ _ => exec_xor _ _ _ _ rfl rfl rfl) (fun K hK => ?_); go_simp; refine hK _ ?_; clear hK K
          refine pc_take _ rfl rfl (fun _ _ => exec_add _ _ _ _ rfl rfl rfl) (fun K hK => ?_); go_simp; refine hK _ ?_; clear hK K
          refine pc_take _ rfl rfl (fun _ _ => exec_add _ _ _ _ rfl rfl rfl) (fun K hK => ?_); go_simp; refine hK _ ?_; clear hK K
          refine pc_take _ rfl rfl (fun _ _ => exec_add _ _ _ _ rfl rfl rfl) (fun K hK => ?_); go_simp; refine hK _ ?_; clear hK K
          refine pc_take _ rfl rfl (fun _ _ => exec_add _ _ _ _ rfl rfl rfl) (fun K hK => ?_); go_simp; refine hK _ ?_; clear hK K
          iterate 1 (refine pc_pure rfl rfl (fun K hK => ?_); go_simp; refine hK _ ?_; clear hK K)
          refine pc_nil ?_
          clear hcw hcwD
          have ht1 : ((((V.h + ((rot V.e 6 ^^^ rot V.e 11) ^^^ rot V.e 25)) + (V.g ^^^ (V.e &&& (V.f ^^^ V.g)))) + kk) + ww) = T1 V kk ww := by rw [ch_eq]; rfl
          rw [ht1]
          go_wp2_with fail
          refine (pturned_any V.a 2 (by decide) _).mono ?_
          rintro r w9 ⟨rfl, rfl⟩
          go_wp2_with fail
          refine (pturned_any V.a 13 (by decide) _).mono ?_
          rintro r w9 ⟨rfl, rfl⟩
          go_wp2_with (first
          | (with_reducible change wpList _ _ _ (⟨_, Op.binOp BinOp.xor 38 _ _ _, _, _, _, _⟩ :: _) _ _
             go_must (refine wpList_val rfl (exec_xor _ _ _ _ rfl rfl rfl) ?_))
          | (with_reducible change wpList _ _ _ (⟨_, Op.binOp BinOp.and 38 _ _ _, _, _, _, _⟩ :: _) _ _
             go_must (refine wpList_val rfl (exec_and _ _ _ _ rfl rfl rfl) ?_))
          | (with_reducible change wpList _ _ _ (⟨_, Op.binOp BinOp.or 38 _ _ _, _, _, _, _⟩ :: _) _ _
             go_must (refine wpList_val rfl (exec_or _ _ _ _ rfl rfl rfl) ?_))
          | (with_reducible change wpList _ _ _ (⟨_, Op.binOp BinOp.add 38 _ _ _, _, _, _, _⟩ :: _) _ _
             go_must (refine wpList_val rfl (exec_add _ _ _ _ rfl rfl rfl) ?_)))
          refine (pturned_any V.a 22 (by decide) _).mono ?_
          rintro r w9 ⟨rfl, rfl⟩
          go_upto_region 15 with (first
          | (with_reducible change wpList _ _ _ (⟨_, Op.binOp BinOp.xor 38 _ _ _, _, _, _, _⟩ :: _) _ _
             go_must (refine wpList_val rfl (exec_xor _ _ _ _ rfl rfl rfl) ?_))
          | (with_reducible change wpList _ _ _ (⟨_, Op.binOp BinOp.and 38 _ _ _, _, _, _, _⟩ :: _) _ _
             go_must (refine wpList_val rfl (exec_and _ _ _ _ rfl rfl rfl) ?_))
          | (with_reducible change wpList _ _ _ (⟨_, Op.binOp BinOp.or 38 _ _ _, _, _, _, _⟩ :: _) _ _
             go_must (refine wpList_val rfl (exec_or _ _ _ _ rfl rfl rfl) ?_))
          | (with_reducible change wpList _ _ _ (⟨_, Op.binOp BinOp.add 38 _ _ _, _, _, _, _⟩ :: _) _ _
             go_must (refine wpList_val rfl (exec_add _ _ _ _ rfl rfl rfl) ?_)))
          have ht2 : ((rot V.a 2 ^^^ rot V.a 13) ^^^ rot V.a 22) + ((V.a &&& V.b) ||| (V.c &&& (V.a ||| V.b))) = T2 V := by rw [mj_eq]; rfl
          rw [ht2]
          generalize hT1 : T1 V kk ww = t1 at *
          generalize hT2 : T2 V = t2 at *
          have hrl : rnd V kk ww = ⟨t1 + t2, V.a, V.b, V.c, V.d + t1, V.e, V.f, V.g⟩ := by rw [← hT1, ← hT2]; rfl
          have HRL := Lib.hid (HX.out.1.trans hrl)
          have HMR := Lib.hid HX.out.2.1.drew
          clear hrl hT1 hT2 ht1 ht2 HX
          go_wp2_with (first
          | (with_reducible change wpList _ _ _ (⟨_, Op.binOp BinOp.xor 38 _ _ _, _, _, _, _⟩ :: _) _ _
             go_must (refine wpList_val rfl (exec_xor _ _ _ _ rfl rfl rfl) ?_))
          | (with_reducible change wpList _ _ _ (⟨_, Op.binOp BinOp.and 38 _ _ _, _, _, _, _⟩ :: _) _ _
             go_must (refine wpList_val rfl (exec_and _ _ _ _ rfl rfl rfl) ?_))
          | (with_reducible change wpList _ _ _ (⟨_, Op.binOp BinOp.or 38 _ _ _, _, _, _, _⟩ :: _) _ _
             go_must (refine wpList_val rfl (exec_or _ _ _ _ rfl rfl rfl) ?_))
          | (with_reducible change wpList _ _ _ (⟨_, Op.binOp BinOp.add 38 _ _ _, _, _, _, _⟩ :: _) _ _
             go_must (refine wpList_val rfl (exec_add _ _ _ _ rfl rfl rfl) ?_)))
          first
            | exact ⟨⟨k + 1, ⟨t1 + t2, V.a, V.b, V.c, V.d + t1, V.e, V.f, V.g⟩, by omega, by go_num, HRL.out.symm, rfl, rfl, rfl, rfl, rfl, rfl, rfl, rfl, HMR.out⟩, by simp [intOf]; omega⟩
            | (refine ⟨?_, by simp [intOf]; omega⟩
               repeat apply Exists.intro
               exact ⟨⟨k + 1, ⟨t1 + t2, V.a, V.b, V.c, V.d + t1, V.e, V.f, V.g⟩, by omega, by go_num, HRL.out.symm, rfl, rfl, rfl, rfl, rfl, rfl, rfl, rfl, HMR.out⟩, rfl⟩)
        · have hlt' : ¬ (k : Int) < 64 := by omega
          have hk64 : k = 64 := by omega
          subst hk64
          have hcm : (v.add V).l = (cmpr v m).l := by rw [HV.out]; rfl
          have HC := Lib.hid hcm; clear hcm hlt hlt' hk HV
          have HY := Lib.hid (And.intro (HI.out.2.2.mod hmr (fun f => f)) hmr); clear hmr
          go_wp2_with (first
            | (with_reducible change wpList _ _ _ (⟨some 200, _, _, _, _, _⟩ :: _) _ _
               go_must (refine wpList_val rfl (exec_build8s _ _ _ _ _ _ _ _ rfl rfl rfl rfl rfl rfl rfl rfl rfl) ?_)))
          rw [show wvs [V.a, V.b, V.c, V.d, V.e, V.f, V.g, V.h] = wvs V.l from rfl]
          go_loopw [201] (fun i wr => ∃ k : Nat, k ≤ 8 ∧ i = .int .i64 k ∧ Blk wr sb 63 (wvs (upTo v.l V.l k)) ∧ Mod (At sb) wp wr) (fun i _ => 8 - (intOf i).toNat)
          case atStart => exact ⟨0, Nat.zero_le _, rfl, HY.out.1, HY.out.2.nn⟩
          case round =>
            clear HY
            obtain ⟨k, hk, rfl, hb, hmr⟩ := hrel
            obtain ⟨wx, rfl⟩ : ∃ wx : World, wx = wr := ⟨_, rfl⟩
            by_cases hlt : k < 8
            · have hlt' : (k : Int) < 8 := by omega
              obtain ⟨x, hx⟩ : ∃ x, v.l[k]? = some x := ⟨_, List.getElem?_eq_getElem (by rw [S8_len]; exact hlt)⟩
              obtain ⟨y, hy⟩ : ∃ y, V.l[k]? = some y := ⟨_, List.getElem?_eq_getElem (by rw [S8_len]; exact hlt)⟩
              have hcx : wx.cell? ⟨sb, k, none⟩ = some (wv x) := by
                rw [hb.cell k, wvs_at, upTo_at (by rw [S8_len, S8_len]) (by rw [S8_len]; exact hlt), hx]; rfl
              have hvy : (wvs V.l)[k]? = some (wv y) := by rw [wvs_at, hy]; rfl
              have hfx := hb.frozen k
              have hset := hb.drew.set_ k (wv (x + y))
              rw [wvs_set, upTo_set (by rw [S8_len, S8_len]) hx hy] at hset
              have hms : Mod (At sb) wx.drew (wx.drew.setCell ⟨sb, k, none⟩ (wv (x + y))) := Mod.cellAt _ _ _ _
              have HE := Lib.hid (And.intro hset (And.intro (hmr.drew.trans hms) hvy))
              clear hset hms hb hmr hx hy hvy
              go_wp2_with (first
                | (with_reducible change wpList _ _ _ (⟨some 204, _, _, _, _, _⟩ :: _) _ _
                   go_must (refine wpList_val rfl (exec_index_arr (P := Tryd.prog) _ _ rfl rfl rfl Tryd.underlying63 Tryd.underlying38 size_u32 hlt HE.out.2.2) ?_)))
              refine wp_region_planT (fun w' => w'.cell? ⟨sb, k, none⟩ = some (wv x)) 9 [(0, 0), (1, 0), (2, 0), (3, 0), (4, 1), (5, 0), (6, 0), (7, 0), (8, 0), (9, 2)] (by kernel_rfl) (by kernel_rfl) hcx ?_
              iterate 4 (refine pt_pure rfl rfl (fun K hK => ?_); go_simp; refine hK _ ?_; clear hK K)
              refine pt_take _ rfl rfl (fun w' hS => exec_load1 (P := Tryd.prog) 38 _ rfl rfl hS Tryd.underlying38 rfl) (fun K hK => ?_); go_simp; refine hK _ ?_; clear hK K
              iterate 1 (refine pt_pure rfl rfl (fun K hK => ?_); go_simp; refine hK _ ?_; clear hK K)
              refine pt_is _ rfl rfl (fun _ => exec_add _ _ _ _ rfl rfl rfl) (fun K hK => ?_); go_simp; refine hK _ ?_; clear hK K
              iterate 2 (refine pt_pure rfl rfl (fun K hK => ?_); go_simp; refine hK _ ?_; clear hK K)
              refine pt_unit (w1 := wx.drew.setCell ⟨sb, k, none⟩ (wv (x + y))) rfl rfl (exec_store1 (P := Tryd.prog) 38 _ _ rfl rfl rfl hcx hfx rfl rfl rfl size_u32) (fun h => by simp at h) (fun K hK => ?_); go_simp; refine hK _ ?_; clear hK K
              refine pt_nil ?_
              clear hcx hfx
              go_wp2
              first
                | exact ⟨⟨k + 1, by omega, by go_num, HE.out.1, HE.out.2.1⟩, by simp [intOf]; omega⟩
                | (refine ⟨?_, by simp [intOf]; omega⟩
                   repeat apply Exists.intro
                   exact ⟨⟨k + 1, by omega, by go_num, HE.out.1, HE.out.2.1⟩, rfl⟩)
            · have hlt' : ¬ (k : Int) < 8 := by omega
              have hk8 : k = 8 := by omega
              subst hk8
              rw [upTo_S8, HC.out] at hb
              have hmod : Mod (At sb) w wx := by
                have h1 : Mod (At sb) w wp := (B1.out.2.nn).new_ HI.out.2.1 (by have := HWB.out.1; omega)
                exact h1.trans hmr
              have HF := Lib.hid (And.intro hb hmod)
              clear hb hmod hmr
              go_wp2
              go_end0
              exact ⟨rfl, HF.out⟩
end Go.Proofs.YtbocdgmkiajihaaDoor
