/- The document's block (peatbankref01.block). -/
import Derived.Test.YtbocdgmkiajihaaDoorSha1c
import Derived.BigQuiet
import Derived.Deep.DeepCutAuto
import Derived.Deep.QuietTactic
namespace Go.Proofs.YtbocdgmkiajihaaDoor
open Go.RowKit

/-- an array that is being filled -/
def padW (l : List W32) : List W32 := l ++ List.replicate (64 - l.length) 0#32
theorem padW_set (l : List W32) (x : W32) (h : l.length < 64) : (padW l).set l.length x = padW (l ++ [x]) := by
  unfold padW
  rw [List.set_append_right _ _ (Nat.le_refl _), Nat.sub_self, show 64 - l.length = (64 - (l ++ [x]).length) + 1 from by simp; omega, List.replicate_succ, List.set_cons_zero, List.append_assoc]
  rfl
theorem padW_at (l : List W32) (i : Nat) (h : i < l.length) : (padW l)[i]? = some (l.getD i 0#32) := by
  unfold padW
  rw [List.getElem?_append_left h, List.getD_eq_getElem?_getD, List.getElem?_eq_getElem h]; rfl

set_option maxRecDepth 100000 in
set_option maxHeartbeats 6400000 in
theorem rblock_any {w : World} (v : S8) {A : Option Addr} {c : Nat} {m : List Nat} (hr : Rd w A 64 (m.map (fun c : Nat => Value.int .u8 (c : Int)))) (hm : ∀ z ∈ m, z < 256) :
    Calls Tryd.prog 21 #[.agg (wvs v.l), .slice A 64 c] w fun e w' => e = .returned (.agg (wvs (cmpr v m).l)) ∧ Mod Nn w w' := by
  obtain ⟨Z8, hZ8⟩ : ∃ Z, Z = wvs (List.replicate 8 0#32) := ⟨_, rfl⟩
  obtain ⟨Z64, hZ64⟩ : ∃ Z, Z = wvs (padW []) := ⟨_, rfl⟩
  obtain ⟨H8, hH8⟩ : ∃ H, H = wvs v.l := ⟨_, rfl⟩
  have hz8 : ∀ w, (zeroValue 58).run Tryd.prog w = .ok (.agg Z8) w := fun w => by rw [hZ8]; exact zero_of zero8 w
  have hz64 : ∀ w, (zeroValue 64).run Tryd.prog w = .ok (.agg Z64) w := fun w => by rw [hZ64]; exact zero_of zero64 w
  rw [← hH8]
  have HZ := Lib.hid (And.intro hZ8 (And.intro hZ64 hH8)); clear hZ8 hZ64 hH8
  go_enter Tryd.func21, Tryd.ntmps21
  go_wp2_with fail
  clear hz8 hz64
  have hb : Blk (((w.alloc (.cells H8 58)).alloc (.cells Z8 58)).alloc (.cells Z64 64)) w.heap.size 58 H8 := ((Blk.new _ _ _).alloc _).alloc _
  have hq : Blk (((w.alloc (.cells H8 58)).alloc (.cells Z8 58)).alloc (.cells Z64 64)) (w.heap.size + 1) 58 Z8 := by
    have := (Blk.new (w.alloc (.cells H8 58)) 58 Z8).alloc (.cells Z64 64); rwa [World.size_alloc] at this
  have hw : Blk (((w.alloc (.cells H8 58)).alloc (.cells Z8 58)).alloc (.cells Z64 64)) (w.heap.size + 1 + 1) 64 Z64 := by
    have := Blk.new ((w.alloc (.cells H8 58)).alloc (.cells Z8 58)) 64 Z64; rwa [World.size_alloc, World.size_alloc] at this
  have hm1 : Mod Nn w (((w.alloc (.cells H8 58)).alloc (.cells Z8 58)).alloc (.cells Z64 64)) := (((Mod.refl Nn w).alloc _).alloc _).alloc _
  generalize ((w.alloc (.cells H8 58)).alloc (.cells Z8 58)).alloc (.cells Z64 64) = w1 at *
  rw [HZ.out.2.2] at hb
  rw [HZ.out.2.1] at hw
  have hA0 : ∀ j, Of A j → j < w.heap.size := fun j hj => hr.in_ (by omega) hj
  generalize hhB : w.heap.size = hB at *
  have HBL := Lib.hid hhB
  have HA := Lib.hid hA0
  have H1 := Lib.hid (And.intro hb (And.intro hq (And.intro hw hm1)))
  have HRR := Lib.hid (hr.mod hm1 (fun _ _ f => f))
  have HMM := Lib.hid hm
  clear hb hq hw hm1 hr hm hhB hA0
  go_loopw [6] (fun i wr => ∃ k : Nat, k ≤ 16 ∧ i = .int .i64 k ∧ Blk wr (hB + 1 + 1) 64 (wvs (padW (wsch m k))) ∧ Mod (At (hB + 1 + 1)) w1 wr) (fun i _ => 16 - (intOf i).toNat)
  case atStart => exact ⟨0, by omega, rfl, H1.out.2.2.1, Mod.refl _ _⟩
  case round =>
    obtain ⟨k, hk, rfl, hbw, hmr⟩ := hrel
    obtain ⟨wo, rfl⟩ : ∃ wo : World, wo = wr := ⟨_, rfl⟩
    by_cases hlt : k < 16
    · have hlt' : (k : Int) < 16 := by omega
      have hro := HRR.out.mod hmr (fun j hj e => by have := HA.out j hj; have e : j = _ := e; omega)
      obtain ⟨g, off, u0, rfl, hv0, d0⟩ := hro.at_ (show 4 * k < 64 by omega)
      obtain ⟨_, _, u1, hA', hv1, d1⟩ := hro.at_ (show 4 * k + 1 < 64 by omega)
      injection hA' with hA'; injection hA' with e1 e2 _; subst e1; subst e2
      obtain ⟨_, _, u2, hA', hv2, d2⟩ := hro.at_ (show 4 * k + 2 < 64 by omega)
      injection hA' with hA'; injection hA' with e1 e2 _; subst e1; subst e2
      obtain ⟨_, _, u3, hA', hv3, d3⟩ := hro.at_ (show 4 * k + 3 < 64 by omega)
      injection hA' with hA'; injection hA' with e1 e2 _; subst e1; subst e2
      rw [List.getElem?_map] at hv0 hv1 hv2 hv3
      obtain ⟨c0, hc0, rfl⟩ := Option.map_eq_some_iff.1 hv0
      obtain ⟨c1, hc1, rfl⟩ := Option.map_eq_some_iff.1 hv1
      obtain ⟨c2, hc2, rfl⟩ := Option.map_eq_some_iff.1 hv2
      obtain ⟨c3, hc3, rfl⟩ := Option.map_eq_some_iff.1 hv3
      have hz0 : c0 < 256 := HMM.out c0 (List.mem_of_getElem? hc0)
      have hz1 : c1 < 256 := HMM.out c1 (List.mem_of_getElem? hc1)
      have hz2 : c2 < 256 := HMM.out c2 (List.mem_of_getElem? hc2)
      have hz3 : c3 < 256 := HMM.out c3 (List.mem_of_getElem? hc3)
      have hword : ((B32 c0 <<< 24 ||| B32 c1 <<< 16) ||| B32 c2 <<< 8) ||| B32 c3 = word m k := by
        unfold word
        rw [List.getD_eq_getElem?_getD, List.getD_eq_getElem?_getD, List.getD_eq_getElem?_getD, List.getD_eq_getElem?_getD, hc0, hc1, hc2, hc3]; rfl
      have HW := Lib.hid (And.intro hword (And.intro hbw hmr))
      have HD := Lib.hid (And.intro d0 (And.intro d1 (And.intro d2 d3)))
      clear hword hbw hmr hv0 hv1 hv2 hv3 hc0 hc1 hc2 hc3 d0 d1 d2 d3 hro
      obtain ⟨q, hq⟩ : ∃ q : Nat, 4 * k = q := ⟨_, rfl⟩
      rw [hq] at HD
      have e0 : (4 : Int) * k = (q : Int) := by omega
      have e1 : (q : Int) + 3 < 64 := by omega
      have e2 : IntKind.i64.wrap (q : Int) = q := by rw [IntKind.wrap_i64]; omega
      have e3 : IntKind.i64.wrap ((q : Int) + 1) = q + 1 := by rw [IntKind.wrap_i64]; omega
      have e4 : IntKind.i64.wrap ((q : Int) + 2) = q + 2 := by rw [IntKind.wrap_i64]; omega
      have e5 : IntKind.i64.wrap ((q : Int) + 3) = q + 3 := by rw [IntKind.wrap_i64]; omega
      have e6 : ((q : Int) + 1).toNat = q + 1 := by omega
      have e7 : ((q : Int) + 2).toNat = q + 2 := by omega
      have e8 : ((q : Int) + 3).toNat = q + 3 := by omega
      have f1 : (q : Int) < 64 := by omega
      have f7 : (k : Int) < 64 := by omega
      have f2 : (q : Int) + 1 < 64 := by omega
      have f3 : (q : Int) + 2 < 64 := by omega
      have f4 : (0 : Int) ≤ (q : Int) + 1 := by omega
      have f5 : (0 : Int) ≤ (q : Int) + 2 := by omega
      have f6 : (0 : Int) ≤ (q : Int) + 3 := by omega
      clear hq
      go_wp2_with fail
      refine wp_region_planT (fun w' => w'.cell? ⟨g, off + q, none⟩ = some (.int .u8 c0) ∧ w'.cell? ⟨g, off + (q + 1), none⟩ = some (.int .u8 c1) ∧ w'.cell? ⟨g, off + (q + 2), none⟩ = some (.int .u8 c2) ∧ w'.cell? ⟨g, off + (q + 3), none⟩ = some (.int .u8 c3)) 35 [(0, 0), (1, 0), (2, 0), (3, 0), (4, 0), (5, 1), (6, 0), (7, 0), (8, 0), (9, 0), (10, 0), (11, 0), (12, 0), (13, 1), (14, 0), (15, 0), (16, 0), (17, 0), (18, 0), (19, 0), (20, 0), (21, 0), (22, 1), (23, 0), (24, 0), (25, 0), (26, 0), (27, 0), (28, 0), (29, 0), (30, 0), (31, 1), (32, 0), (33, 0), (34, 0), (35, 2)] (by kernel_rfl) (by kernel_rfl) HD.out ?_
      iterate 5 (refine pt_pure rfl rfl (fun K hK => ?_); go_simp; refine hK _ ?_; clear hK K)
      refine pt_take _ rfl rfl (fun w' hS => exec_load1 (P := Tryd.prog) 5 _ rfl rfl hS.1 Tryd.underlying5 rfl) (fun K hK => ?_); go_simp; refine hK _ ?_; clear hK K
      refine pt_is _ rfl rfl (fun _ => exec_conv8 _ _ _ rfl rfl hz0 Tryd.underlying5 Tryd.underlying38) (fun K hK => ?_); go_simp; refine hK _ ?_; clear hK K
      refine pt_is _ rfl rfl (fun _ => exec_shl 24 _ _ _ _ rfl rfl rfl (by omega)) (fun K hK => ?_); go_simp; refine hK _ ?_; clear hK K
      iterate 5 (refine pt_pure rfl rfl (fun K hK => ?_); go_simp; refine hK _ ?_; clear hK K)
      refine pt_take _ rfl rfl (fun w' hS => exec_load1 (P := Tryd.prog) 5 _ rfl rfl hS.2.1 Tryd.underlying5 rfl) (fun K hK => ?_); go_simp; refine hK _ ?_; clear hK K
      refine pt_is _ rfl rfl (fun _ => exec_conv8 _ _ _ rfl rfl hz1 Tryd.underlying5 Tryd.underlying38) (fun K hK => ?_); go_simp; refine hK _ ?_; clear hK K
      refine pt_is _ rfl rfl (fun _ => exec_shl 16 _ _ _ _ rfl rfl rfl (by omega)) (fun K hK => ?_); go_simp; refine hK _ ?_; clear hK K
      refine pt_is _ rfl rfl (fun _ => exec_or _ _ _ _ rfl rfl rfl) (fun K hK => ?_); go_simp; refine hK _ ?_; clear hK K
      iterate 5 (refine pt_pure rfl rfl (fun K hK => ?_); go_simp; refine hK _ ?_; clear hK K)
      refine pt_take _ rfl rfl (fun w' hS => exec_load1 (P := Tryd.prog) 5 _ rfl rfl hS.2.2.1 Tryd.underlying5 rfl) (fun K hK => ?_); go_simp; refine hK _ ?_; clear hK K
      refine pt_is _ rfl rfl (fun _ => exec_conv8 _ _ _ rfl rfl hz2 Tryd.underlying5 Tryd.underlying38) (fun K hK => ?_); go_simp; refine hK _ ?_; clear hK K
      refine pt_is _ rfl rfl (fun _ => exec_shl 8 _ _ _ _ rfl rfl rfl (by omega)) (fun K hK => ?_); go_simp; refine hK _ ?_; clear hK K
      refine pt_is _ rfl rfl (fun _ => exec_or _ _ _ _ rfl rfl rfl) (fun K hK => ?_); go_simp; refine hK _ ?_; clear hK K
      iterate 5 (refine pt_pure rfl rfl (fun K hK => ?_); go_simp; refine hK _ ?_; clear hK K)
      refine pt_take _ rfl rfl (fun w' hS => exec_load1 (P := Tryd.prog) 5 _ rfl rfl hS.2.2.2 Tryd.underlying5 rfl) (fun K hK => ?_); go_simp; refine hK _ ?_; clear hK K
      refine pt_is _ rfl rfl (fun _ => exec_conv8 _ _ _ rfl rfl hz3 Tryd.underlying5 Tryd.underlying38) (fun K hK => ?_); go_simp; refine hK _ ?_; clear hK K
      refine pt_is _ rfl rfl (fun _ => exec_or _ _ _ _ rfl rfl rfl) (fun K hK => ?_); go_simp; refine hK _ ?_; clear hK K
      iterate 1 (refine pt_pure rfl rfl (fun K hK => ?_); go_simp; refine hK _ ?_; clear hK K)
      have hlen := wsch_len m k
      have hcell : wo.cell? ⟨hB + 1 + 1, k, none⟩ = some (wv 0#32) := by
        rw [HW.out.2.1.cell k, wvs_at]
        have : (padW (wsch m k))[k]? = some 0#32 := by
          unfold padW
          rw [List.getElem?_append_right (by omega), hlen, Nat.sub_self, List.getElem?_replicate, if_pos (by omega)]
        rw [this]; rfl
      have hfz := HW.out.2.1.frozen k
      refine pt_unit (w1 := wo.drew.setCell ⟨hB + 1 + 1, k, none⟩ (wv (((B32 c0 <<< 24 ||| B32 c1 <<< 16) ||| B32 c2 <<< 8) ||| B32 c3))) rfl rfl (exec_store1 (P := Tryd.prog) 38 _ _ rfl rfl rfl hcell hfz rfl rfl rfl size_u32) (fun h => by simp at h) (fun K hK => ?_); go_simp; refine hK _ ?_; clear hK K
      refine pt_nil ?_
      rw [HW.out.1]
      have hb' := HW.out.2.1.drew.set_ k (wv (word m k))
      have hsp := padW_set (wsch m k) (word m k) (by omega)
      rw [hlen] at hsp
      rw [wvs_set, hsp] at hb'
      have hst : wsch m k ++ [word m k] = wsch m (k + 1) := by show _ = wsch m k ++ [if k < 16 then word m k else _]; rw [if_pos hlt]
      rw [hst] at hb'
      have HB' := Lib.hid (And.intro hb' (HW.out.2.2.drew.setCell (p := ⟨hB + 1 + 1, k, none⟩) (.inr rfl) (wv (word m k))))
      clear hb' hsp hst hlen hcell hfz e0 e1 e2 e3 e4 e5 e6 e7 e8
      go_wp2
      exact ⟨⟨k + 1, by omega, by go_num, HB'.out⟩, by simp [intOf]; omega⟩
    · have hlt' : ¬ (k : Int) < 16 := by omega
      have hk16 : k = 16 := by omega
      subst hk16
      clear hlt hlt'
      go_wp2
      have W16 : Blk wo (hB + 1 + 1) 64 (wvs (padW (wsch m 16))) := hbw
      go_loopw [7] (fun i wr => ∃ k : Nat, 16 ≤ k ∧ k ≤ 64 ∧ i = .int .i64 k ∧ Blk wr (hB + 1 + 1) 64 (wvs (padW (wsch m k))) ∧ Mod (At (hB + 1 + 1)) w1 wr) (fun i _ => 64 - (intOf i).toNat)
      case atStart => exact ⟨16, by omega, by omega, rfl, hbw, hmr⟩
      case round =>
        clear hbw hmr W16
        obtain ⟨k, hk0, hk, rfl, hbw, hmr⟩ := hrel
        obtain ⟨wo, rfl⟩ : ∃ wo : World, wo = wr := ⟨_, rfl⟩
        by_cases hlt : k < 64
        · have hlt' : (k : Int) < 64 := by omega
          have hlen := wsch_len m k
          obtain ⟨p15, hp15⟩ : ∃ p : Nat, k - 15 = p := ⟨_, rfl⟩
          obtain ⟨p2, hp2⟩ : ∃ p : Nat, k - 2 = p := ⟨_, rfl⟩
          obtain ⟨p16, hp16⟩ : ∃ p : Nat, k - 16 = p := ⟨_, rfl⟩
          obtain ⟨p7, hp7⟩ : ∃ p : Nat, k - 7 = p := ⟨_, rfl⟩
          have hcell : ∀ j, j < k → wo.cell? ⟨hB + 1 + 1, j, none⟩ = some (wv ((wsch m k).getD j 0#32)) := fun j hj => by
            rw [hbw.cell j, wvs_at, padW_at _ _ (by omega)]; rfl
          have d15 := hcell p15 (by omega)
          have d2 := hcell p2 (by omega)
          have d16 := hcell p16 (by omega)
          have d7 := hcell p7 (by omega)
          have hnx : ((((wsch m k).getD p16 0#32 + sig0 ((wsch m k).getD p15 0#32)) + (wsch m k).getD p7 0#32) + sig1 ((wsch m k).getD p2 0#32)) = wnext (wsch m k) k := by
            unfold wnext; rw [hp16, hp15, hp7, hp2]
          generalize (wsch m k).getD p15 0#32 = x15 at *
          generalize (wsch m k).getD p2 0#32 = x2 at *
          generalize (wsch m k).getD p16 0#32 = x16 at *
          generalize (wsch m k).getD p7 0#32 = x7 at *
          have e15 : (k : Int) - 15 = (p15 : Int) := by omega
          have e2 : (k : Int) - 2 = (p2 : Int) := by omega
          have e16 : (k : Int) - 16 = (p16 : Int) := by omega
          have e7 : (k : Int) - 7 = (p7 : Int) := by omega
          have f15 : (p15 : Int) < 64 := by omega
          have f2 : (p2 : Int) < 64 := by omega
          have f16 : (p16 : Int) < 64 := by omega
          have f7 : (p7 : Int) < 64 := by omega
          have g15 : IntKind.i64.wrap (p15 : Int) = p15 := by rw [IntKind.wrap_i64]; omega
          have g2 : IntKind.i64.wrap (p2 : Int) = p2 := by rw [IntKind.wrap_i64]; omega
          have g16 : IntKind.i64.wrap (p16 : Int) = p16 := by rw [IntKind.wrap_i64]; omega
          have g7 : IntKind.i64.wrap (p7 : Int) = p7 := by rw [IntKind.wrap_i64]; omega
          have HE := Lib.hid (And.intro e15 (And.intro e2 (And.intro e16 (And.intro e7 (And.intro g15 (And.intro g2 (And.intro g16 g7)))))))
          have HW := Lib.hid (And.intro hnx (And.intro hbw (And.intro hmr hlen)))
          have HD := Lib.hid (And.intro d15 (And.intro d2 (And.intro d16 d7)))
          clear hnx hbw hmr hlen d15 d2 d16 d7 hcell hp15 hp2 hp16 hp7 e16 e7 g16 g7
          go_wp2_with fail
          refine wp_region_planC (fun w' => w'.cell? ⟨hB + 1 + 1, p15, none⟩ = some (wv x15) ∧ w'.cell? ⟨hB + 1 + 1, p2, none⟩ = some (wv x2)) ((List.range 10).map (fun i => (i, true))) (by kernel_rfl) (by kernel_rfl) ⟨HD.out.1, HD.out.2.1⟩ ?_
          simp only [List.range, List.range.loop, List.map_cons, List.map_nil]
          iterate 3 (refine pc_pure rfl rfl (fun K hK => ?_); go_simp; refine hK _ ?_; clear hK K)
          refine pc_take _ rfl rfl (fun w' hS => exec_load1 (P := Tryd.prog) 38 _ rfl rfl hS.1 Tryd.underlying38 rfl) (fun K hK => ?_); go_simp; refine hK _ ?_; clear hK K
          iterate 3 (refine pc_pure rfl rfl (fun K hK => ?_); go_simp; refine hK _ ?_; clear hK K)
          refine pc_take _ rfl rfl (fun w' hS => exec_load1 (P := Tryd.prog) 38 _ rfl rfl hS.2 Tryd.underlying38 rfl) (fun K hK => ?_); go_simp; refine hK _ ?_; clear hK K
          iterate 2 (refine pc_pure rfl rfl (fun K hK => ?_); go_simp; refine hK _ ?_; clear hK K)
          refine pc_nil ?_
          clear e15 e2 g15 g2
          go_wp2_with fail
          refine (rturned_any x15 7 (by decide) _).mono ?_
          rintro r w2 ⟨rfl, rfl⟩
          go_wp2_with (first
          | (with_reducible change wpList _ _ _ (⟨_, Op.binOp BinOp.xor 38 _ _ _, _, _, _, _⟩ :: _) _ _
             go_must (refine wpList_val rfl (exec_xor _ _ _ _ rfl rfl rfl) ?_))
          | (with_reducible change wpList _ _ _ (⟨_, Op.binOp BinOp.shr 38 _ _ _, _, _, _, _⟩ :: _) _ _
             go_must (refine wpList_val rfl (exec_shr 3 _ _ _ _ rfl rfl rfl (by omega)) ?_)))
          refine (rturned_any x15 18 (by decide) _).mono ?_
          rintro r w2 ⟨rfl, rfl⟩
          go_wp2_with (first
          | (with_reducible change wpList _ _ _ (⟨_, Op.binOp BinOp.xor 38 _ _ _, _, _, _, _⟩ :: _) _ _
             go_must (refine wpList_val rfl (exec_xor _ _ _ _ rfl rfl rfl) ?_))
          | (with_reducible change wpList _ _ _ (⟨_, Op.binOp BinOp.shr 38 _ _ _, _, _, _, _⟩ :: _) _ _
             go_must (refine wpList_val rfl (exec_shr 3 _ _ _ _ rfl rfl rfl (by omega)) ?_)))
          refine (rturned_any x2 17 (by decide) _).mono ?_
          rintro r w2 ⟨rfl, rfl⟩
          go_wp2_with fail
          refine (rturned_any x2 19 (by decide) _).mono ?_
          rintro r w2 ⟨rfl, rfl⟩
          have e16 := HE.out.2.2.1
          have e7 := HE.out.2.2.2.1
          have g16 := HE.out.2.2.2.2.2.2.1
          have g7 := HE.out.2.2.2.2.2.2.2
          go_wp2_with (first
          | (with_reducible change wpList _ _ _ (⟨_, Op.binOp BinOp.xor 38 _ _ _, _, _, _, _⟩ :: _) _ _
             go_must (refine wpList_val rfl (exec_xor _ _ _ _ rfl rfl rfl) ?_))
          | (with_reducible change wpList _ _ _ (⟨_, Op.binOp BinOp.shr 38 _ _ _, _, _, _, _⟩ :: _) _ _
             go_must (refine wpList_val rfl (exec_shr 10 _ _ _ _ rfl rfl rfl (by omega)) ?_)))
          refine wp_region_planT (fun w' => w'.cell? ⟨hB + 1 + 1, p16, none⟩ = some (wv x16) ∧ w'.cell? ⟨hB + 1 + 1, p7, none⟩ = some (wv x7)) 15 [(0, 0), (1, 0), (2, 0), (3, 0), (4, 1), (5, 0), (6, 0), (7, 0), (8, 0), (9, 0), (10, 1), (11, 0), (12, 0), (13, 0), (14, 0), (15, 2)] (by kernel_rfl) (by kernel_rfl) ⟨HD.out.2.2.1, HD.out.2.2.2⟩ ?_
          iterate 4 (refine pt_pure rfl rfl (fun K hK => ?_); go_simp; refine hK _ ?_; clear hK K)
          refine pt_take _ rfl rfl (fun w' hS => exec_load1 (P := Tryd.prog) 38 _ rfl rfl hS.1 Tryd.underlying38 rfl) (fun K hK => ?_); go_simp; refine hK _ ?_; clear hK K
          iterate 1 (refine pt_pure rfl rfl (fun K hK => ?_); go_simp; refine hK _ ?_; clear hK K)
          refine pt_is _ rfl rfl (fun _ => exec_add _ _ _ _ rfl rfl rfl) (fun K hK => ?_); go_simp; refine hK _ ?_; clear hK K
          iterate 3 (refine pt_pure rfl rfl (fun K hK => ?_); go_simp; refine hK _ ?_; clear hK K)
          refine pt_take _ rfl rfl (fun w' hS => exec_load1 (P := Tryd.prog) 38 _ rfl rfl hS.2 Tryd.underlying38 rfl) (fun K hK => ?_); go_simp; refine hK _ ?_; clear hK K
          refine pt_is _ rfl rfl (fun _ => exec_add _ _ _ _ rfl rfl rfl) (fun K hK => ?_); go_simp; refine hK _ ?_; clear hK K
          iterate 1 (refine pt_pure rfl rfl (fun K hK => ?_); go_simp; refine hK _ ?_; clear hK K)
          refine pt_is _ rfl rfl (fun _ => exec_add _ _ _ _ rfl rfl rfl) (fun K hK => ?_); go_simp; refine hK _ ?_; clear hK K
          iterate 1 (refine pt_pure rfl rfl (fun K hK => ?_); go_simp; refine hK _ ?_; clear hK K)
          have hlen := HW.out.2.2.2
          have hcell : wo.cell? ⟨hB + 1 + 1, k, none⟩ = some (wv 0#32) := by
            rw [HW.out.2.1.cell k, wvs_at]
            have : (padW (wsch m k))[k]? = some 0#32 := by
              unfold padW
              rw [List.getElem?_append_right (by omega), hlen, Nat.sub_self, List.getElem?_replicate, if_pos (by omega)]
            rw [this]; rfl
          have hfz := HW.out.2.1.frozen k
          refine pt_unit (w1 := wo.drew.drew.setCell ⟨hB + 1 + 1, k, none⟩ (wv (((x16 + sig0 x15) + x7) + sig1 x2))) rfl rfl (exec_store1 (P := Tryd.prog) 38 _ _ rfl rfl rfl hcell hfz rfl rfl rfl size_u32) (fun h => by simp at h) (fun K hK => ?_); go_simp; refine hK _ ?_; clear hK K
          refine pt_nil ?_
          rw [HW.out.1]
          have hb' := HW.out.2.1.drew.drew.set_ k (wv (wnext (wsch m k) k))
          have hsp := padW_set (wsch m k) (wnext (wsch m k) k) (by omega)
          rw [hlen] at hsp
          rw [wvs_set, hsp] at hb'
          have hst : wsch m k ++ [wnext (wsch m k) k] = wsch m (k + 1) := by show _ = wsch m k ++ [if k < 16 then word m k else _]; rw [if_neg (by omega)]
          rw [hst] at hb'
          have HB' := Lib.hid (And.intro hb' (HW.out.2.2.1.drew.drew.setCell (p := ⟨hB + 1 + 1, k, none⟩) (.inr rfl) (wv (wnext (wsch m k) k))))
          clear hb' hsp hst hlen hcell hfz e16 e7 g16 g7
          go_wp2
          refine ⟨?_, by simp [intOf]; omega⟩
          repeat apply Exists.intro
          exact ⟨⟨k + 1, by omega, by omega, by go_num, HB'.out⟩, rfl⟩
        · have hlt' : ¬ (k : Int) < 64 := by omega
          have hk64 : k = 64 := by omega
          subst hk64
          clear hlt hlt' hk0 hk
          have hZ64' : (wvs (List.replicate 64 0#32)).size = 64 := by rw [wvs_size]; rfl
          have hw2 : (wvs (padW (wsch m 64))) = wvs (wsch m 64) := by unfold padW; rw [wsch_len]; simp
          rw [hw2] at hbw
          clear hw2
          have HBW := Lib.hid (And.intro hbw (And.intro hmr hZ64')); clear hbw hmr hZ64'
          go_wp2_with fail
          refine (rrounds_any _).mono ?_
          rintro r w2 ⟨rfl, m2⟩
          have hB2 := (H1.out.1.mod HBW.out.2.1 (fun e => by have e : hB = hB + 1 + 1 := e; omega)).mod m2 (fun f => f)
          have hQ2 := (H1.out.2.1.mod HBW.out.2.1 (fun e => by have e : hB + 1 = hB + 1 + 1 := e; omega)).mod m2 (fun f => f)
          have hW2 := HBW.out.1.mod m2 (fun f => f)
          have M2 : Mod Nn w w2 := (H1.out.2.2.2.new_ HBW.out.2.1 (by have := HBL.out; omega)).nn_ m2
          go_wp2_with (first
            | (with_reducible change wpList _ _ _ (⟨some 12, Op.alloc _, _, _, _, _⟩ :: _) _ _
               go_must (refine wpList_alloc_var 64 rfl rfl zero64 ?_)
               intro w3 b3 m3 z3)
            | (with_reducible change wpList _ _ _ (⟨none, Op.store 64 _ _, _, _, _, _⟩ :: _) _ _
               go_must (refine wpList_store_var 64 _ _ rfl rfl _ (wvs kK) _ _ rfl rfl b3 (by rw [size64]; rfl) (by show (wvs _).size = _; rw [wvs_size, wvs_size]; rfl) (wvs_one _) ?_)
               intro w4 b4 m4 z4
               have m24 : Mod Nn w2 w4 := m3.new_ m4 (Nat.le_refl _)
               have hB4 := hB2.mod m24 (fun f => f))
            | (with_reducible change wpList _ _ _ (⟨some 109, _, _, _, _, _⟩ :: _) _ _
               go_must (refine wpList_load_var 58 _ rfl rfl hB (wvs v.l) _ _ rfl hB4 Tryd.underlying58 rfl (by rw [size8]; rfl) ?_))
            | (with_reducible change wpList _ _ _ (⟨some 13, Op.alloc _, _, _, _, _⟩ :: _) _ _
               go_must (refine wpList_alloc_var 58 rfl rfl zero8 ?_)
               intro w5 b5 m5 z5)
            | (with_reducible change wpList _ _ _ (⟨none, Op.store 58 (Operand.tmp 13) _, _, _, _, _⟩ :: _) _ _
               go_must (refine wpList_store_var 58 _ _ rfl rfl _ (wvs v.l) _ _ rfl rfl b5 (by rw [size8]; rfl) (by show (wvs _).size = _; rw [wvs_size, wvs_size]; rfl) (wvs_one _) ?_)
               intro w6 b6 m6 z6))
          have m46 : Mod Nn w4 w6 := m5.new_ m6 (Nat.le_refl _)
          have m26 := m24.nn_ m46
          have kb1 := b3.lt
          have hKb := b4.mod m46 (fun f => f)
          generalize hkb : w2.heap.size = kb at *
          have hvb : w4.heap.size = kb + 1 := by omega
          rw [hvb] at b6
          have HI := Lib.hid (And.intro (hB2.mod m26 (fun f => f)) (And.intro (hQ2.mod m26 (fun f => f)) (And.intro (hW2.mod m26 (fun f => f)) (And.intro hKb (And.intro b6 (M2.nn_ m26))))))
          have HN := Lib.hid (show w.heap.size ≤ kb + 1 ∧ hB ≠ kb + 1 ∧ hB + 1 ≠ kb + 1 ∧ hB + 1 + 1 ≠ kb + 1 ∧ kb ≠ kb + 1 from by
            have h1 := hW2.lt; have h2 := M2.size; have h3 := m24.size
            refine ⟨by omega, by omega, by omega, by omega, by omega⟩)
          clear hkb hvb hKb b6 m46 m26 m24 M2 hB2 hQ2 hW2 b3 b4 b5 m2 m3 m4 m5 m6 z3 z4 z5 z6 kb1 hB4
          go_loopw [14] (fun i wr => ∃ k : Nat, k ≤ 64 ∧ i = .int .i64 k ∧ Blk wr hB 58 (wvs v.l) ∧ Blk wr (hB + 1) 58 Z8 ∧ Blk wr (hB + 1 + 1) 64 (wvs (wsch m 64)) ∧ Blk wr kb 64 (wvs kK) ∧ Blk wr (kb + 1) 58 (wvs (rnds (wsch m 64) v k).l) ∧ Mod Nn w wr) (fun i _ => 64 - (intOf i).toNat)
          case atStart => exact ⟨0, by omega, rfl, HI.out⟩
          case round =>
            clear HI
            obtain ⟨k, hk, rfl, hb, hq, hw, hkk, hv, hmr⟩ := hrel
            obtain ⟨wo, rfl⟩ : ∃ wo : World, wo = wr := ⟨_, rfl⟩
            by_cases hlt : k < 64
            · have hlt' : (k : Int) < 64 := by omega
              have hK : wo.cell? ⟨kb, k, none⟩ = some (wv (kK.getD k 0#32)) := by
                rw [hkk.cell k, wvs_at, List.getD_eq_getElem?_getD, List.getElem?_eq_getElem (by rw [kK_len]; omega)]; rfl
              have hW : wo.cell? ⟨hB + 1 + 1, k, none⟩ = some (wv ((wsch m 64).getD k 0#32)) := by
                rw [hw.cell k, wvs_at, List.getD_eq_getElem?_getD, List.getElem?_eq_getElem (by rw [wsch_len]; omega)]; rfl
              have hnext : rnds (wsch m 64) v (k + 1) = rnd (rnds (wsch m 64) v k) (kK.getD k 0#32) ((wsch m 64).getD k 0#32) := rfl
              generalize rnds (wsch m 64) v k = V at *
              generalize kK.getD k 0#32 = kk at *
              generalize (wsch m 64).getD k 0#32 = ww at *
              have HX := Lib.hid (And.intro hnext (And.intro hb (And.intro hq (And.intro hw (And.intro hkk (And.intro hv hmr))))))
              have HKW := Lib.hid (And.intro hK hW)
              clear hnext hb hq hw hkk hmr hK hW
              go_wp2_with fail
              refine wp_region_planC (fun w' => w'.cell? ⟨kb + 1, 0, none⟩ = some (wv V.a) ∧ w'.cell? ⟨kb + 1, 1, none⟩ = some (wv V.b) ∧ w'.cell? ⟨kb + 1, 2, none⟩ = some (wv V.c) ∧ w'.cell? ⟨kb + 1, 3, none⟩ = some (wv V.d) ∧ w'.cell? ⟨kb + 1, 4, none⟩ = some (wv V.e) ∧ w'.cell? ⟨kb + 1, 5, none⟩ = some (wv V.f) ∧ w'.cell? ⟨kb + 1, 6, none⟩ = some (wv V.g) ∧ w'.cell? ⟨kb + 1, 7, none⟩ = some (wv V.h)) ((List.range 24).map (fun i => (i, true))) (by kernel_rfl) (by kernel_rfl) ⟨hv.cell 0, hv.cell 1, hv.cell 2, hv.cell 3, hv.cell 4, hv.cell 5, hv.cell 6, hv.cell 7⟩ ?_
              simp only [List.range, List.range.loop, List.map_cons, List.map_nil]
              iterate 1 (refine pc_pure rfl rfl (fun K hK => ?_); go_simp; refine hK _ ?_; clear hK K)
              refine pc_take _ rfl rfl (fun w' hS => exec_load1 (P := Tryd.prog) 38 _ rfl rfl hS.1 Tryd.underlying38 rfl) (fun K hK => ?_); go_simp; refine hK _ ?_; clear hK K
              iterate 1 (refine pc_pure rfl rfl (fun K hK => ?_); go_simp; refine hK _ ?_; clear hK K)
              refine pc_take _ rfl rfl (fun w' hS => exec_load1 (P := Tryd.prog) 38 _ rfl rfl hS.2.1 Tryd.underlying38 rfl) (fun K hK => ?_); go_simp; refine hK _ ?_; clear hK K
              iterate 1 (refine pc_pure rfl rfl (fun K hK => ?_); go_simp; refine hK _ ?_; clear hK K)
              refine pc_take _ rfl rfl (fun w' hS => exec_load1 (P := Tryd.prog) 38 _ rfl rfl hS.2.2.1 Tryd.underlying38 rfl) (fun K hK => ?_); go_simp; refine hK _ ?_; clear hK K
              iterate 1 (refine pc_pure rfl rfl (fun K hK => ?_); go_simp; refine hK _ ?_; clear hK K)
              refine pc_take _ rfl rfl (fun w' hS => exec_load1 (P := Tryd.prog) 38 _ rfl rfl hS.2.2.2.1 Tryd.underlying38 rfl) (fun K hK => ?_); go_simp; refine hK _ ?_; clear hK K
              iterate 1 (refine pc_pure rfl rfl (fun K hK => ?_); go_simp; refine hK _ ?_; clear hK K)
              refine pc_take _ rfl rfl (fun w' hS => exec_load1 (P := Tryd.prog) 38 _ rfl rfl hS.2.2.2.2.1 Tryd.underlying38 rfl) (fun K hK => ?_); go_simp; refine hK _ ?_; clear hK K
              iterate 1 (refine pc_pure rfl rfl (fun K hK => ?_); go_simp; refine hK _ ?_; clear hK K)
              refine pc_take _ rfl rfl (fun w' hS => exec_load1 (P := Tryd.prog) 38 _ rfl rfl hS.2.2.2.2.2.1 Tryd.underlying38 rfl) (fun K hK => ?_); go_simp; refine hK _ ?_; clear hK K
              iterate 1 (refine pc_pure rfl rfl (fun K hK => ?_); go_simp; refine hK _ ?_; clear hK K)
              refine pc_take _ rfl rfl (fun w' hS => exec_load1 (P := Tryd.prog) 38 _ rfl rfl hS.2.2.2.2.2.2.1 Tryd.underlying38 rfl) (fun K hK => ?_); go_simp; refine hK _ ?_; clear hK K
              iterate 1 (refine pc_pure rfl rfl (fun K hK => ?_); go_simp; refine hK _ ?_; clear hK K)
              refine pc_take _ rfl rfl (fun w' hS => exec_load1 (P := Tryd.prog) 38 _ rfl rfl hS.2.2.2.2.2.2.2 Tryd.underlying38 rfl) (fun K hK => ?_); go_simp; refine hK _ ?_; clear hK K
              iterate 8 (refine pc_pure rfl rfl (fun K hK => ?_); go_simp; refine hK _ ?_; clear hK K)
              refine pc_nil ?_
              clear hv
              have hK := HKW.out.1
              have hW := HKW.out.2
              go_wp2_with fail
              refine wp_region_planC (fun w' => w'.cell? ⟨kb, k, none⟩ = some (wv kk) ∧ w'.cell? ⟨hB + 1 + 1, k, none⟩ = some (wv ww)) [(0, true), (1, true), (3, true), (6, true), (10, true), (11, true), (12, true), (13, true), (14, true), (15, true), (16, true), (17, true), (19, true), (20, true), (21, true), (23, true), (24, true), (25, true), (2, false), (4, false), (5, true), (7, false), (8, true), (9, true), (18, true), (22, true), (26, true), (27, true)] (by kernel_rfl) (by kernel_rfl) ⟨hK, hW⟩ ?_
              iterate 6 (refine pc_pure rfl rfl (fun K hK => ?_); go_simp; refine hK _ ?_; clear hK K)
              refine pc_take _ rfl rfl (fun _ _ => exec_and _ _ _ _ rfl rfl rfl) (fun K hK => ?_); go_simp; refine hK _ ?_; clear hK K
              iterate 1 (refine pc_pure rfl rfl (fun K hK => ?_); go_simp; refine hK _ ?_; clear hK K)
              refine pc_take _ rfl rfl (fun _ _ => exec_not _ _ rfl rfl) (fun K hK => ?_); go_simp; refine hK _ ?_; clear hK K
              iterate 1 (refine pc_pure rfl rfl (fun K hK => ?_); go_simp; refine hK _ ?_; clear hK K)
              refine pc_take _ rfl rfl (fun _ _ => exec_and _ _ _ _ rfl rfl rfl) (fun K hK => ?_); go_simp; refine hK _ ?_; clear hK K
              refine pc_take _ rfl rfl (fun _ _ => exec_xor _ _ _ _ rfl rfl rfl) (fun K hK => ?_); go_simp; refine hK _ ?_; clear hK K
              iterate 2 (refine pc_pure rfl rfl (fun K hK => ?_); go_simp; refine hK _ ?_; clear hK K)
              refine pc_take _ rfl rfl (fun w' hS => exec_load1 (P := Tryd.prog) 38 _ rfl rfl hS.1 Tryd.underlying38 rfl) (fun K hK => ?_); go_simp; refine hK _ ?_; clear hK K
              iterate 2 (refine pc_pure rfl rfl (fun K hK => ?_); go_simp; refine hK _ ?_; clear hK K)
              refine pc_take _ rfl rfl (fun w' hS => exec_load1 (P := Tryd.prog) 38 _ rfl rfl hS.2 Tryd.underlying38 rfl) (fun K hK => ?_); go_simp; refine hK _ ?_; clear hK K
              refine pc_call rfl rfl (fun K hK => ?_); go_simp; refine ⟨_, _, ⟨rfl, rfl⟩, hK _ _ _ ?_⟩; clear hK K
              refine (rturned_any V.e 6 (by decide) _).mono ?_
              rintro r w9 ⟨rfl, rfl⟩
              refine ⟨_, rfl, ⟨hK, hW⟩, ?_⟩
              refine pc_call rfl rfl (fun K hK => ?_); go_simp; refine ⟨_, _, ⟨rfl, rfl⟩, hK _ _ _ ?_⟩; clear hK K
              refine (rturned_any V.e 11 (by decide) _).mono ?_
              rintro r w9 ⟨rfl, rfl⟩
              refine ⟨_, rfl, ⟨hK, hW⟩, ?_⟩
              refine pc_take _ rfl rfl (fun _ _ => exec_xor _ _ _ _ rfl rfl rfl) (fun K hK => ?_); go_simp; refine hK _ ?_; clear hK K
              refine pc_call rfl rfl (fun K hK => ?_); go_simp; refine ⟨_, _, ⟨rfl, rfl⟩, hK _ _ _ ?_⟩; clear hK K
              refine (rturned_any V.e 25 (by decide) _).mono ?_
              rintro r w9 ⟨rfl, rfl⟩
              refine ⟨_, rfl, ⟨hK, hW⟩, ?_⟩
              refine pc_take _ rfl rfl (fun _ _ => exec_xor _ _ _ _ rfl rfl rfl) (fun K hK => ?_); go_simp; refine hK _ ?_; clear hK K
              refine pc_take _ rfl rfl (fun _ _ => exec_add _ _ _ _ rfl rfl rfl) (fun K hK => ?_); go_simp; refine hK _ ?_; clear hK K
              refine pc_take _ rfl rfl (fun _ _ => exec_add _ _ _ _ rfl rfl rfl) (fun K hK => ?_); go_simp; refine hK _ ?_; clear hK K
              refine pc_take _ rfl rfl (fun _ _ => exec_add _ _ _ _ rfl rfl rfl) (fun K hK => ?_); go_simp; refine hK _ ?_; clear hK K
              refine pc_take _ rfl rfl (fun _ _ => exec_add _ _ _ _ rfl rfl rfl) (fun K hK => ?_); go_simp; refine hK _ ?_; clear hK K
              iterate 1 (refine pc_pure rfl rfl (fun K hK => ?_); go_simp; refine hK _ ?_; clear hK K)
              refine pc_nil ?_
              clear hK hW
              go_wp2_with fail
              refine (rturned_any V.a 2 (by decide) _).mono ?_
              rintro r w9 ⟨rfl, rfl⟩
              go_wp2_with fail
              refine (rturned_any V.a 13 (by decide) _).mono ?_
              rintro r w9 ⟨rfl, rfl⟩
              go_wp2_with (first
              | (with_reducible change wpList _ _ _ (⟨_, Op.binOp BinOp.xor 38 _ _ _, _, _, _, _⟩ :: _) _ _
                 go_must (refine wpList_val rfl (exec_xor _ _ _ _ rfl rfl rfl) ?_))
              | (with_reducible change wpList _ _ _ (⟨_, Op.binOp BinOp.and 38 _ _ _, _, _, _, _⟩ :: _) _ _
                 go_must (refine wpList_val rfl (exec_and _ _ _ _ rfl rfl rfl) ?_))
              | (with_reducible change wpList _ _ _ (⟨_, Op.binOp BinOp.add 38 _ _ _, _, _, _, _⟩ :: _) _ _
                 go_must (refine wpList_val rfl (exec_add _ _ _ _ rfl rfl rfl) ?_)))
              refine (rturned_any V.a 22 (by decide) _).mono ?_
              rintro r w9 ⟨rfl, rfl⟩
              go_upto_region 21 with (first
              | (with_reducible change wpList _ _ _ (⟨_, Op.binOp BinOp.xor 38 _ _ _, _, _, _, _⟩ :: _) _ _
                 go_must (refine wpList_val rfl (exec_xor _ _ _ _ rfl rfl rfl) ?_))
              | (with_reducible change wpList _ _ _ (⟨_, Op.binOp BinOp.and 38 _ _ _, _, _, _, _⟩ :: _) _ _
                 go_must (refine wpList_val rfl (exec_and _ _ _ _ rfl rfl rfl) ?_))
              | (with_reducible change wpList _ _ _ (⟨_, Op.binOp BinOp.add 38 _ _ _, _, _, _, _⟩ :: _) _ _
                 go_must (refine wpList_val rfl (exec_add _ _ _ _ rfl rfl rfl) ?_)))
              rw [show ((((V.h + ((rot V.e 6 ^^^ rot V.e 11) ^^^ rot V.e 25)) + ((V.e &&& V.f) ^^^ (~~~ V.e &&& V.g))) + kk) + ww) = T1 V kk ww from rfl,
                show (((rot V.a 2 ^^^ rot V.a 13) ^^^ rot V.a 22) + (((V.a &&& V.b) ^^^ (V.a &&& V.c)) ^^^ (V.b &&& V.c))) = T2 V from rfl]
              have hrl : (rnd V kk ww).l = [T1 V kk ww + T2 V, V.a, V.b, V.c, V.d + T1 V kk ww, V.e, V.f, V.g] := rfl
              generalize T1 V kk ww = t1 at *
              generalize T2 V = t2 at *
              have HRL := Lib.hid hrl; clear hrl
              have HV := Lib.hid (And.intro HX.out.2.2.2.2.2.1.drew.drew (And.intro HX.out.2.2.2.2.2.2.drew.drew (And.intro HX.out.2.1.drew.drew (And.intro HX.out.2.2.1.drew.drew (And.intro HX.out.2.2.2.1.drew.drew HX.out.2.2.2.2.1.drew.drew)))))
              have HNX := Lib.hid HX.out.1
              clear HX
              generalize wo.drew.drew = wq at *
              go_upto_region 17 with (first
              | (with_reducible change wpList _ _ _ (⟨_, Op.binOp BinOp.add 38 _ _ _, _, _, _, _⟩ :: _) _ _
                 go_must (refine wpList_val rfl (exec_add _ _ _ _ rfl rfl rfl) ?_))
              | (with_reducible change wpList _ _ _ (⟨_, Op.build 58 _, _, _, _, _⟩ :: _) _ _
                 go_must (refine wpList_val rfl (exec_build8 _ _ _ _ _ _ _ _ rfl rfl rfl rfl rfl rfl rfl rfl rfl) ?_))
              | (with_reducible change wpList _ _ _ (⟨none, Op.store 58 (Operand.tmp 13) _, _, _, _, _⟩ :: _) _ _
                 go_must (refine wpList_store_var 58 _ _ rfl rfl (kb + 1) (wvs [t1 + t2, V.a, V.b, V.c, V.d + t1, V.e, V.f, V.g]) (wvs V.l) _ rfl rfl HV.out.1 (by rw [size8]; rfl) (by rw [wvs_size, wvs_size]; rfl) (wvs_one _) ?_)
                 intro w7 b7 m7 z7))
              have hrel := HNX.out
              have hl8 : (rnds (wsch m 64) v (k + 1)).l = [t1 + t2, V.a, V.b, V.c, V.d + t1, V.e, V.f, V.g] := by rw [hrel]; exact HRL.out
              rw [← hl8] at b7
              have HE := Lib.hid (And.intro (HV.out.2.2.1.mod m7 (fun e => HN.out.2.1 e)) (And.intro (HV.out.2.2.2.1.mod m7 (fun e => HN.out.2.2.1 e)) (And.intro (HV.out.2.2.2.2.1.mod m7 (fun e => HN.out.2.2.2.1 e)) (And.intro (HV.out.2.2.2.2.2.mod m7 (fun e => HN.out.2.2.2.2 e)) (And.intro b7 (HV.out.2.1.new_ m7 HN.out.1))))))
              clear hrel hl8 b7 m7 z7
              go_wp2
              exact ⟨⟨k + 1, by omega, by go_num, HE.out⟩, by simp [intOf]; omega⟩
            · have hlt' : ¬ (k : Int) < 64 := by omega
              have hk64 : k = 64 := by omega
              subst hk64
              have hcm : cmpr v m = v.add (rnds (wsch m 64) v 64) := rfl
              generalize rnds (wsch m 64) v 64 = R at *
              have HC := Lib.hid hcm; clear hcm hw hkk hlt hlt' hk
              have HY := Lib.hid (And.intro hb (And.intro hv (And.intro hq hmr))); clear hb hv hq hmr
              go_wp2
              go_loopw [25] (fun i wr => ∃ k : Nat, k ≤ 8 ∧ i = .int .i64 k ∧ Blk wr hB 58 (wvs (upTo v.l R.l k)) ∧ Blk wr (kb + 1) 58 (wvs R.l) ∧ Blk wr (hB + 1) 58 Z8 ∧ Mod Nn w wr) (fun i _ => 8 - (intOf i).toNat)
              case atStart => exact ⟨0, Nat.zero_le _, rfl, HY.out⟩
              case round =>
                clear HY
                obtain ⟨k, hk, rfl, hb, hv, hq, hmr⟩ := hrel
                obtain ⟨wx, rfl⟩ : ∃ wx : World, wx = wr := ⟨_, rfl⟩
                by_cases hlt : k < 8
                · have hlt' : (k : Int) < 8 := by omega
                  obtain ⟨x, hx⟩ : ∃ x, v.l[k]? = some x := ⟨_, List.getElem?_eq_getElem (by rw [S8_len]; exact hlt)⟩
                  obtain ⟨y, hy⟩ : ∃ y, R.l[k]? = some y := ⟨_, List.getElem?_eq_getElem (by rw [S8_len]; exact hlt)⟩
                  have hcx : wx.cell? ⟨hB, k, none⟩ = some (wv x) := by
                    rw [hb.cell k, wvs_at, upTo_at (by rw [S8_len, S8_len]) (by rw [S8_len]; exact hlt), hx]; rfl
                  have hcy : wx.cell? ⟨kb + 1, k, none⟩ = some (wv y) := by rw [hv.cell k, wvs_at, hy]; rfl
                  have hfx := hb.frozen k
                  have hset := hb.drew.set_ k (wv (x + y))
                  rw [wvs_set, upTo_set (by rw [S8_len, S8_len]) hx hy] at hset
                  have hms : Mod (At hB) wx.drew (wx.drew.setCell ⟨hB, k, none⟩ (wv (x + y))) := Mod.cellAt _ _ _ _
                  have HE := Lib.hid (And.intro hset (And.intro (hv.drew.mod hms (fun e => HN.out.2.1 (by have e : kb + 1 = hB := e; exact e.symm))) (And.intro (hq.drew.mod hms (fun e => by have e : hB + 1 = hB := e; omega)) (hmr.drew.new_ hms (by have := HBL.out; omega)))))
                  clear hset hms hb hv hq hmr hx hy
                  go_wp2_with fail
                  refine wp_region_planT (fun w' => w'.cell? ⟨hB, k, none⟩ = some (wv x) ∧ w'.cell? ⟨kb + 1, k, none⟩ = some (wv y)) 9 [(0, 0), (1, 0), (2, 0), (3, 1), (4, 0), (5, 0), (6, 1), (7, 0), (8, 0), (9, 2)] (by kernel_rfl) (by kernel_rfl) ⟨hcx, hcy⟩ ?_
                  iterate 3 (refine pt_pure rfl rfl (fun K hK => ?_); go_simp; refine hK _ ?_; clear hK K)
                  refine pt_take _ rfl rfl (fun w' hS => exec_load1 (P := Tryd.prog) 38 _ rfl rfl hS.1 Tryd.underlying38 rfl) (fun K hK => ?_); go_simp; refine hK _ ?_; clear hK K
                  iterate 2 (refine pt_pure rfl rfl (fun K hK => ?_); go_simp; refine hK _ ?_; clear hK K)
                  refine pt_take _ rfl rfl (fun w' hS => exec_load1 (P := Tryd.prog) 38 _ rfl rfl hS.2 Tryd.underlying38 rfl) (fun K hK => ?_); go_simp; refine hK _ ?_; clear hK K
                  refine pt_is _ rfl rfl (fun _ => exec_add _ _ _ _ rfl rfl rfl) (fun K hK => ?_); go_simp; refine hK _ ?_; clear hK K
                  iterate 1 (refine pt_pure rfl rfl (fun K hK => ?_); go_simp; refine hK _ ?_; clear hK K)
                  refine pt_unit (w1 := wx.drew.setCell ⟨hB, k, none⟩ (wv (x + y))) rfl rfl (exec_store1 (P := Tryd.prog) 38 _ _ rfl rfl rfl hcx hfx rfl rfl rfl size_u32) (fun h => by simp at h) (fun K hK => ?_); go_simp; refine hK _ ?_; clear hK K
                  refine pt_nil ?_
                  clear hcx hcy hfx
                  go_wp2
                  first
                    | exact ⟨⟨k + 1, by omega, by go_num, HE.out⟩, by simp [intOf]; omega⟩
                    | (refine ⟨?_, by simp [intOf]; omega⟩
                       repeat apply Exists.intro
                       exact ⟨⟨k + 1, by omega, by go_num, HE.out⟩, rfl⟩)
                · have hlt' : ¬ (k : Int) < 8 := by omega
                  have hk8 : k = 8 := by omega
                  subst hk8
                  rw [upTo_S8, ← HC.out] at hb
                  have hzs : Z8.size = (wvs (cmpr v m).l).size := by rw [HZ.out.1, wvs_size, wvs_size, S8_len, List.length_replicate]
                  have HX := Lib.hid (And.intro hb (And.intro hq (And.intro hmr hzs)))
                  clear hb hv hq hmr hlt hk hzs
                  go_wp2_with (first
                    | (with_reducible change wpList _ _ _ (⟨some 203, _, _, _, _, _⟩ :: _) _ _
                       go_must (refine wpList_load_var 58 _ rfl rfl hB (wvs (cmpr v m).l) _ _ rfl HX.out.1 Tryd.underlying58 rfl (by rw [size8]; rfl) ?_))
                    | (with_reducible change wpList _ _ _ (⟨none, Op.store 58 (Operand.tmp 4) _, _, _, _, _⟩ :: _) _ _
                       go_must (refine wpList_store_var 58 _ _ rfl rfl (hB + 1) (wvs (cmpr v m).l) Z8 _ rfl rfl HX.out.2.1 (by rw [size8]; rfl) HX.out.2.2.2 (wvs_one _) ?_)
                       intro w9 b9 m9 z9))
                  exact bodyPost_ret (results_cell_row (P := Tryd.prog) rfl _ w9 _ _ _ (0, 0) _ rfl b9 Tryd.underlying58 rfl (by rw [size8]; rfl)) rfl ⟨rfl, HX.out.2.2.1.new_ m9 (by have := HBL.out; omega)⟩
end Go.Proofs.YtbocdgmkiajihaaDoor
