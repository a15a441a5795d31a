/- peatbanklaw16.TreeNone. -/
import Derived.Test.YtkcpmkeckcnobaaTr32
namespace Go.Proofs.Ytkcpmkeckcnobaa
open Go.RowKit

theorem uuT : Try.prog.underlying 88 = some (.slice 35) := Try.underlying88
theorem size_pt : (Try.prog.info? 35).map (·.size) = some 1 := by kernel_rfl
theorem info_pt2 : (Try.prog.info? 35).map (fun i => (i.zero, i.size)) = some (some (.pointer none), 1) := by kernel_rfl
theorem built_tree0 : Try.prog.built 39 [] = some #[.nilIface, .int .i64 0] := by kernel_rfl
theorem exec_tree0 {w : World} {o : Oper} {a : Act} (ho : o.op = .build 39 #[]) : (execOp a.eval o).run Try.prog w = .ok (.value (.agg #[.nilIface, .int .i64 0])) w := by
  have hr := run_build (P := Try.prog) w 39 _ _ built_tree0
  simp only [execOp, ho]
  simp [hr, Result.andThen]
theorem exec_ptrs2 {w : World} {o : Oper} {a : Act} {x : Operand} {p q : Option Addr} (ho : o.op = .buildSlice 88 2 #[(0, .const (.pointer p)), (1, x)]) (hx : a.eval x = .pointer q) :
    (execOp a.eval o).run Try.prog w = .ok (.value (.slice (some ⟨w.heap.size, 0, none⟩) 2 2)) (w.alloc (.cells #[.pointer p, .pointer q] 35)) := by
  have e : a.eval (.const (.pointer p)) = .pointer p := rfl
  exact exec_bsliceN (P := Try.prog) (w := w) (a := a) 88 35 2 _ [.pointer p, .pointer q] ho uuT info_pt2 (by omega) (by omega) (by simp [hx, e, List.zipIdx]) rfl (by
    intro v hv
    simp only [List.mem_cons, List.not_mem_nil, or_false] at hv
    rcases hv with rfl | rfl <;> rfl)
theorem getL_nil (κ : List Nat) : getL [] κ = none := rfl
section
variable {w : World}
set_option maxRecDepth 100000 in
set_option maxHeartbeats 6400000 in
theorem treenone_any (kd n : Int) (v : Nat) (hv : v < 256) : Calls Try.prog 9 #[deedV kd n v] w fun r w' => r = .returned (.bool true) ∧ Mod Nn w w' := by
  unfold deedV
  go_enter Try.func9, Try.ntmps9
  go_wp2_with (first
    | (with_reducible change wpList _ _ _ (⟨some 1, Op.box _ _, _, _, _, _⟩ :: _) _ _
       go_must (refine wpList_box_var 69 _ rfl rfl #[.int .i64 kd, .int .i64 n, .int .u8 (v : Int)] rfl ?_)
       intro w1 b1 m1 z1
       clear z1
       have hs1 : w.heap.size < w1.heap.size := b1.lt
       have H1 := Lib.hid (And.intro m1 b1)
       clear m1 b1))
  refine (awake16 w1).mono ?_
  rintro r w2 ⟨rfl, m2⟩
  have hs2 : w1.heap.size ≤ w2.heap.size := m2.size
  have H2 := Lib.hid (And.intro (H1.out.1.nn_ m2) (H1.out.2.mod m2 (fun f => f)))
  clear m2
  go_wp2_with (first
    | (with_reducible change wpList _ _ _ (⟨some 13, _, _, _, _, _⟩ :: _) _ _
       go_must (refine wpList_val rfl (exec_tree0 rfl) ?_))
    | (with_reducible change wpList _ _ _ (⟨some 14, Op.box _ _, _, _, _, _⟩ :: _) _ _
       go_must (refine wpList_box_var 39 _ rfl rfl #[.nilIface, .int .i64 0] rfl ?_)
       intro w3 b3 m3 z3
       clear z3
       have hs3 : w2.heap.size < w3.heap.size := b3.lt
       have H3 := Lib.hid (And.intro (H2.out.1.nn_ m3) (And.intro (H2.out.2.mod m3 (fun f => f)) b3))
       clear m3 b3)
    | (with_reducible change wpList _ _ _ (⟨some 15, _, _, _, _, _⟩ :: _) _ _
       go_must (refine wpList_val rfl (exec_ptrs2 rfl rfl) ?_)
       have b4 : Blk (w3.alloc (.cells #[.pointer none, .pointer (some ⟨w2.heap.size, 0, none⟩)] 35)) w3.heap.size 35 #[.pointer none, .pointer (some ⟨w2.heap.size, 0, none⟩)] := Blk.new _ _ _
       have m4 : Mod Nn w3 (w3.alloc (.cells #[.pointer none, .pointer (some ⟨w2.heap.size, 0, none⟩)] 35)) := (Mod.refl _ _).alloc _
       generalize w3.alloc (.cells #[.pointer none, .pointer (some ⟨w2.heap.size, 0, none⟩)] 35) = w4 at *
       have H4 := Lib.hid (And.intro (H3.out.1.nn_ m4) (And.intro (H3.out.2.1.mod m4 (fun f => f)) (And.intro (H3.out.2.2.mod m4 (fun f => f)) b4)))
       clear b4 m4))
  -- zzA
  obtain ⟨gr, hgr⟩ : ∃ gr, w3.heap.size = gr := ⟨_, rfl⟩
  rw [hgr] at H4 ⊢
  go_loopw [4] (fun i wr => ∃ j : Nat, j ≤ 2 ∧ i = .int .i64 j ∧ Hid (Mod Nn w4 wr)) (fun i _ => 2 - (intOf i).toNat)
  case atStart => exact ⟨0, by omega, rfl, Lib.hid (Mod.refl _ _)⟩
  case round =>
    obtain ⟨j, hj2, rfl, HM⟩ := hrel
    by_cases hj : j < 2
    · have hj' : (j : Int) < 2 := by omega
      have hw : Mod Nn w wr := H4.out.1.nn_ HM.out
      obtain ⟨p, hp⟩ : ∃ p : Value, (∀ w', Mod Nn wr w' → w'.cell? ⟨gr, j, none⟩ = some p) ∧ (∀ w', Mod Nn wr w' → Calls Try.prog 43 #[p] w' fun e w'' => e = .returned (.bool false) ∧ Mod Nn w' w'') ∧ (∀ w', Mod Nn wr w' → Calls Try.prog 20 #[p] w' fun e w'' => e = .returned (.int .i64 0) ∧ Mod Nn w' w'') := by
        have hb := H4.out.2.2.2.mod HM.out (fun f => f)
        have ht := H4.out.2.2.1.mod HM.out (fun f => f)
        match j, hj with
        | 0, _ => exact ⟨.pointer none, fun w' hm => (hb.mod hm (fun f => f)).cell 0, fun w' _ => there_nil w', fun w' _ => tlen_nil w'⟩
        | 1, _ => exact ⟨_, fun w' hm => (hb.mod hm (fun f => f)).cell 1, fun w' hm => there_none (ht.mod hm (fun f => f)), fun w' hm => tlen_none (ht.mod hm (fun f => f))⟩
      have HP0 := Lib.hid hp
      have HD0 := Lib.hid (H4.out.2.1.mod HM.out (fun f => f))
      have HW0 := Lib.hid hw
      clear hp hw
      obtain ⟨w40, hw40⟩ : ∃ x : World, x = wr := ⟨_, rfl⟩
      go_wp2_with fail
      -- zzR7
      go_cut [6] from 20 to 30 (fun v wx => v = .bool false ∧ Mod Nn wr wx)
      case first =>
        have HP := HP0
        have HD := HD0
        have hget : ∀ wz, Mod Nn wr wz → Calls Try.prog 35 #[p, .agg (bv (kn (pk n))).toArray] wz (AftT wz none) := fun wz hz => tget_gen (L := []) (fun r hr => by cases hr) (kn_len _) (kn_lt (pk_spec n).2) (fun w1 h1 => tafter_no ⟨_, kn_len _, rfl⟩ (fun w2 h2 => HP.out.2.1 w2 ((hz.nn_ h1).nn_ h2)))
        refine wp_region_planV (fun w' => Mod Nn wr w') 12 (.pure 0 (.pure 1 (.pure 2 (.read 3 (.pure 4 (.read 5 (.fork 6 11 (.fork 7 11 (.pure 8 (.pure 9 (.pure 10 (.alone 11 (.alone 12 (.pure 13 .nil)))))) (.alone 7 (.pure 8 (.pure 9 (.pure 10 (.alone 12 (.pure 13 .nil))))))) (.alone 6 (.alone 7 (.pure 8 (.pure 9 (.pure 10 (.alone 12 (.pure 13 .nil)))))))))))))) (by kernel_rfl) (by kernel_rfl) (Mod.refl Nn wr).drew ?_
        iterate 2 (refine pv_pure rfl rfl (fun K hK => ?_); go_simp; refine hK _ ?_; clear hK K)
        refine pv_is (.pointer (some ⟨gr, 0 + j * 1, none⟩)) rfl rfl (fun w' => exec_elem (P := Try.prog) (g := gr) (off := 0) (q := j) 88 (.tmp 21) (.tmp 22) rfl 35 1 uuT size_pt rfl rfl hj) (fun K hK => ?_); go_simp; refine hK _ ?_; clear hK K
        refine pv_take p rfl rfl (fun w' hS => exec_load1 (P := Try.prog) (ad := ⟨gr, j, none⟩) 35 (.tmp 23) rfl rfl (HP.out.1 w' hS) Try.underlying35 rfl) (fun K hK => ?_); go_simp; refine hK _ ?_; clear hK K
        iterate 1 (refine pv_pure rfl rfl (fun K hK => ?_); go_simp; refine hK _ ?_; clear hK K)
        refine pv_take (.int .i64 n) rfl rfl (fun w' hS => exec_load1 (P := Try.prog) (ad := ⟨w.heap.size, 1, none⟩) 3 (.tmp 25) rfl rfl ((HD.out.mod hS (fun f => f)).cell 1) Try.underlying3 rfl) (fun K hK => ?_); go_simp; refine hK _ ?_; clear hK K
        refine pv_fork ?_ ?_
        · refine pv_call rfl rfl (fun K hK => ?_); go_simp; refine ⟨_, _, ⟨rfl, rfl⟩, hK _ _ _ ?_⟩; clear hK K
          refine (key16_any _ n).mono ?_
          rintro r wk ⟨rfl, mk⟩
          have MK := Lib.hid ((Mod.refl Nn wr).drew.nn_ mk)
          clear mk
          refine ⟨_, rfl, fun _ => MK.out, ?_⟩
          refine pv_fork ?_ ?_
          · refine pv_call rfl rfl (fun K hK => ?_); go_simp; refine ⟨_, _, ⟨rfl, rfl⟩, hK _ _ _ ?_⟩; clear hK K
            refine (hget _ MK.out).mono ?_
            rintro r wg ⟨rfl, mg⟩
            unfold optV
            have MG := Lib.hid (And.intro (MK.out.nn_ mg) mg)
            clear mg
            refine ⟨_, rfl, fun _ => MG.out.1, ?_⟩
            iterate 3 (refine pv_pure rfl rfl (fun K hK => ?_); go_simp; refine hK _ ?_; clear hK K)
            refine pv_val rfl rfl (exec_alloc (P := Try.prog) 28 rfl info_entz) (fun _ => MG.out.1.alloc _) (fun K hK => ?_); go_simp; refine hK _ ?_; clear hK K
            have hsa : wr.heap.size ≤ (wg).heap.size := MG.out.1.size
            have MA := Lib.hid (And.intro (Blk.new (wg) 28 (Value.agg (bv ze).toArray).cells) (MG.out.1.alloc (.cells (Value.agg (bv ze).toArray).cells 28)))
            obtain ⟨g, hg⟩ : ∃ g, (wg).heap.size = g := ⟨_, rfl⟩
            rw [hg] at MA hsa ⊢
            clear hg
            generalize (wg).alloc (.cells (Value.agg (bv ze).toArray).cells 28) = wa at *
            refine pv_unit rfl rfl (exec_store_row (P := Try.prog) 28 (.tmp 5) (.tmp 29) rfl (g := g) (cells := (bv ze).toArray) rfl rfl MA.out.1 (size_ente ze_len) rfl (bv_all _)) (fun h => by simp at h) (fun K hK => ?_); go_simp; refine hK _ ?_; clear hK K
            iterate 1 (refine pv_pure rfl rfl (fun K hK => ?_); go_simp; refine hK _ ?_; clear hK K)
            refine pv_nil ?_
            have hm9 : Mod Nn wr ((wa).setRow g (bv ze).toArray) := MA.out.2.new_ (Mod.rowAt _ g _) hsa
            generalize (wa).setRow g (bv ze).toArray = w9 at *
            go_wp2
            go_meet
            exact ⟨rfl, hm9⟩
          · refine pv_val rfl rfl (exec_alloc (P := Try.prog) 28 rfl info_entz) (fun _ => MK.out.alloc _) (fun K hK => ?_); go_simp; refine hK _ ?_; clear hK K
            have hsa : wr.heap.size ≤ (wk).heap.size := MK.out.size
            have MA := Lib.hid (And.intro (Blk.new (wk) 28 (Value.agg (bv ze).toArray).cells) (MK.out.alloc (.cells (Value.agg (bv ze).toArray).cells 28)))
            obtain ⟨g, hg⟩ : ∃ g, (wk).heap.size = g := ⟨_, rfl⟩
            rw [hg] at MA hsa ⊢
            clear hg
            generalize (wk).alloc (.cells (Value.agg (bv ze).toArray).cells 28) = wa at *
            refine pv_call rfl rfl (fun K hK => ?_); go_simp; refine ⟨_, _, ⟨rfl, rfl⟩, hK _ _ _ ?_⟩; clear hK K
            refine (hget _ MA.out.2).mono ?_
            rintro r wg ⟨rfl, mg⟩
            unfold optV
            have MG := Lib.hid (And.intro (MA.out.2.nn_ mg) mg)
            clear mg
            refine ⟨_, rfl, fun _ => MG.out.1, ?_⟩
            iterate 3 (refine pv_pure rfl rfl (fun K hK => ?_); go_simp; refine hK _ ?_; clear hK K)
            refine pv_unit rfl rfl (exec_store_row (P := Try.prog) 28 (.tmp 5) (.tmp 29) rfl (g := g) (cells := (bv ze).toArray) rfl rfl (MA.out.1.mod MG.out.2 (fun f => f)) (size_ente ze_len) rfl (bv_all _)) (fun h => by simp at h) (fun K hK => ?_); go_simp; refine hK _ ?_; clear hK K
            iterate 1 (refine pv_pure rfl rfl (fun K hK => ?_); go_simp; refine hK _ ?_; clear hK K)
            refine pv_nil ?_
            have hm9 : Mod Nn wr ((wg).setRow g (bv ze).toArray) := MG.out.1.new_ (Mod.rowAt _ g _) hsa
            generalize (wg).setRow g (bv ze).toArray = w9 at *
            go_wp2
            go_meet
            exact ⟨rfl, hm9⟩
        · refine pv_val rfl rfl (exec_alloc (P := Try.prog) 28 rfl info_entz) (fun _ => (Mod.refl Nn wr).drew.alloc _) (fun K hK => ?_); go_simp; refine hK _ ?_; clear hK K
          have hb0 : Blk (wr.drew.alloc (.cells (Value.agg (bv ze).toArray).cells 28)) wr.heap.size 28 (Value.agg (bv ze).toArray).cells := Blk.new wr.drew _ _
          obtain ⟨g, hg⟩ : ∃ g, wr.heap.size = g := ⟨_, rfl⟩
          have hsa : wr.heap.size ≤ g := by omega
          rw [hg] at hb0 ⊢
          have MA := Lib.hid (And.intro hb0 ((Mod.refl Nn wr).drew.alloc (.cells (Value.agg (bv ze).toArray).cells 28)))
          clear hg hb0
          generalize wr.drew.alloc (.cells (Value.agg (bv ze).toArray).cells 28) = wa at *
          refine pv_call rfl rfl (fun K hK => ?_); go_simp; refine ⟨_, _, ⟨rfl, rfl⟩, hK _ _ _ ?_⟩; clear hK K
          refine (key16_any _ n).mono ?_
          rintro r wk ⟨rfl, mk⟩
          have MK := Lib.hid (MA.out.2.nn_ mk)
          have MB := Lib.hid (MA.out.1.mod mk (fun f => f))
          clear mk
          refine ⟨_, rfl, fun _ => MK.out, ?_⟩
          refine pv_call rfl rfl (fun K hK => ?_); go_simp; refine ⟨_, _, ⟨rfl, rfl⟩, hK _ _ _ ?_⟩; clear hK K
          refine (hget _ MK.out).mono ?_
          rintro r wg ⟨rfl, mg⟩
          unfold optV
          have MG := Lib.hid (And.intro (MK.out.nn_ mg) mg)
          clear mg
          refine ⟨_, rfl, fun _ => MG.out.1, ?_⟩
          iterate 3 (refine pv_pure rfl rfl (fun K hK => ?_); go_simp; refine hK _ ?_; clear hK K)
          refine pv_unit rfl rfl (exec_store_row (P := Try.prog) 28 (.tmp 5) (.tmp 29) rfl (g := g) (cells := (bv ze).toArray) rfl rfl (MB.out.mod MG.out.2 (fun f => f)) (size_ente ze_len) rfl (bv_all _)) (fun h => by simp at h) (fun K hK => ?_); go_simp; refine hK _ ?_; clear hK K
          iterate 1 (refine pv_pure rfl rfl (fun K hK => ?_); go_simp; refine hK _ ?_; clear hK K)
          refine pv_nil ?_
          have hm9 : Mod Nn wr ((wg).setRow g (bv ze).toArray) := MG.out.1.new_ (Mod.rowAt _ g _) hsa
          generalize (wg).setRow g (bv ze).toArray = w9 at *
          go_wp2
          go_meet
          exact ⟨rfl, hm9⟩
      case rest =>
        obtain ⟨rfl, hm7⟩ := hcut
        have HP7 := Lib.hid (And.intro (fun w' hm => HP0.out.1 w' (hm7.nn_ hm)) (And.intro (fun w' hm => HP0.out.2.1 w' (hm7.nn_ hm)) (fun w' hm => HP0.out.2.2 w' (hm7.nn_ hm))))
        have HD7 := Lib.hid (HD0.out.mod hm7 (fun f => f))
        have HW7 := Lib.hid (HW0.out.nn_ hm7)
        have HM7 := Lib.hid (HM.out.nn_ hm7)
        clear hm7 HP0 HD0 HW0 HM hw40 w40
        obtain ⟨w7, rfl⟩ : ∃ x : World, x = wc := ⟨_, rfl⟩
        go_wp2_with fail
        go_cut [8] from 31 to 41 (fun v wx => v = .bool false ∧ Mod Nn w7 wx)
        case first =>
          have haft : ∀ wz, Mod Nn w7 wz → Calls Try.prog 36 #[p, .agg (bv (kn (pk n))).toArray, .bool true] wz (AftT wz none) := fun wz hz => tafter_no ⟨_, kn_len _, rfl⟩ (fun w2 h2 => HP7.out.2.1 w2 (hz.nn_ h2))
          refine wp_region_planV (fun w' => Mod Nn w7 w') 12 (.pure 0 (.pure 1 (.pure 2 (.read 3 (.pure 4 (.read 5 (.fork 6 11 (.fork 7 11 (.pure 8 (.pure 9 (.pure 10 (.alone 11 (.alone 12 (.pure 13 .nil)))))) (.alone 7 (.pure 8 (.pure 9 (.pure 10 (.alone 12 (.pure 13 .nil))))))) (.alone 6 (.alone 7 (.pure 8 (.pure 9 (.pure 10 (.alone 12 (.pure 13 .nil)))))))))))))) (by kernel_rfl) (by kernel_rfl) (Mod.refl Nn w7).drew ?_
          iterate 2 (refine pv_pure rfl rfl (fun K hK => ?_); go_simp; refine hK _ ?_; clear hK K)
          refine pv_is (.pointer (some ⟨gr, 0 + j * 1, none⟩)) rfl rfl (fun w' => exec_elem (P := Try.prog) (g := gr) (off := 0) (q := j) 88 (.tmp 32) (.tmp 33) rfl 35 1 uuT size_pt rfl rfl hj) (fun K hK => ?_); go_simp; refine hK _ ?_; clear hK K
          refine pv_take p rfl rfl (fun w' hS => exec_load1 (P := Try.prog) (ad := ⟨gr, j, none⟩) 35 (.tmp 34) rfl rfl (HP7.out.1 w' hS) Try.underlying35 rfl) (fun K hK => ?_); go_simp; refine hK _ ?_; clear hK K
          iterate 1 (refine pv_pure rfl rfl (fun K hK => ?_); go_simp; refine hK _ ?_; clear hK K)
          refine pv_take (.int .i64 n) rfl rfl (fun w' hS => exec_load1 (P := Try.prog) (ad := ⟨w.heap.size, 1, none⟩) 3 (.tmp 36) rfl rfl ((HD7.out.mod hS (fun f => f)).cell 1) Try.underlying3 rfl) (fun K hK => ?_); go_simp; refine hK _ ?_; clear hK K
          refine pv_fork ?_ ?_
          · refine pv_call rfl rfl (fun K hK => ?_); go_simp; refine ⟨_, _, ⟨rfl, rfl⟩, hK _ _ _ ?_⟩; clear hK K
            refine (key16_any _ n).mono ?_
            rintro r wk ⟨rfl, mk⟩
            have MK := Lib.hid ((Mod.refl Nn w7).drew.nn_ mk)
            clear mk
            refine ⟨_, rfl, fun _ => MK.out, ?_⟩
            refine pv_fork ?_ ?_
            · refine pv_call rfl rfl (fun K hK => ?_); go_simp; refine ⟨_, _, ⟨rfl, rfl⟩, hK _ _ _ ?_⟩; clear hK K
              refine (haft _ MK.out).mono ?_
              rintro r wg ⟨rfl, mg⟩
              unfold optV
              have MG := Lib.hid (And.intro (MK.out.nn_ mg) mg)
              clear mg
              refine ⟨_, rfl, fun _ => MG.out.1, ?_⟩
              iterate 3 (refine pv_pure rfl rfl (fun K hK => ?_); go_simp; refine hK _ ?_; clear hK K)
              refine pv_val rfl rfl (exec_alloc (P := Try.prog) 28 rfl info_entz) (fun _ => MG.out.1.alloc _) (fun K hK => ?_); go_simp; refine hK _ ?_; clear hK K
              have hsa : w7.heap.size ≤ (wg).heap.size := MG.out.1.size
              have MA := Lib.hid (And.intro (Blk.new (wg) 28 (Value.agg (bv ze).toArray).cells) (MG.out.1.alloc (.cells (Value.agg (bv ze).toArray).cells 28)))
              obtain ⟨g, hg⟩ : ∃ g, (wg).heap.size = g := ⟨_, rfl⟩
              rw [hg] at MA hsa ⊢
              clear hg
              generalize (wg).alloc (.cells (Value.agg (bv ze).toArray).cells 28) = wa at *
              refine pv_unit rfl rfl (exec_store_row (P := Try.prog) 28 (.tmp 7) (.tmp 40) rfl (g := g) (cells := (bv ze).toArray) rfl rfl MA.out.1 (size_ente ze_len) rfl (bv_all _)) (fun h => by simp at h) (fun K hK => ?_); go_simp; refine hK _ ?_; clear hK K
              iterate 1 (refine pv_pure rfl rfl (fun K hK => ?_); go_simp; refine hK _ ?_; clear hK K)
              refine pv_nil ?_
              have hm9 : Mod Nn w7 ((wa).setRow g (bv ze).toArray) := MA.out.2.new_ (Mod.rowAt _ g _) hsa
              generalize (wa).setRow g (bv ze).toArray = w9 at *
              go_wp2
              go_meet
              exact ⟨rfl, hm9⟩
            · refine pv_val rfl rfl (exec_alloc (P := Try.prog) 28 rfl info_entz) (fun _ => MK.out.alloc _) (fun K hK => ?_); go_simp; refine hK _ ?_; clear hK K
              have hsa : w7.heap.size ≤ (wk).heap.size := MK.out.size
              have MA := Lib.hid (And.intro (Blk.new (wk) 28 (Value.agg (bv ze).toArray).cells) (MK.out.alloc (.cells (Value.agg (bv ze).toArray).cells 28)))
              obtain ⟨g, hg⟩ : ∃ g, (wk).heap.size = g := ⟨_, rfl⟩
              rw [hg] at MA hsa ⊢
              clear hg
              generalize (wk).alloc (.cells (Value.agg (bv ze).toArray).cells 28) = wa at *
              refine pv_call rfl rfl (fun K hK => ?_); go_simp; refine ⟨_, _, ⟨rfl, rfl⟩, hK _ _ _ ?_⟩; clear hK K
              refine (haft _ MA.out.2).mono ?_
              rintro r wg ⟨rfl, mg⟩
              unfold optV
              have MG := Lib.hid (And.intro (MA.out.2.nn_ mg) mg)
              clear mg
              refine ⟨_, rfl, fun _ => MG.out.1, ?_⟩
              iterate 3 (refine pv_pure rfl rfl (fun K hK => ?_); go_simp; refine hK _ ?_; clear hK K)
              refine pv_unit rfl rfl (exec_store_row (P := Try.prog) 28 (.tmp 7) (.tmp 40) rfl (g := g) (cells := (bv ze).toArray) rfl rfl (MA.out.1.mod MG.out.2 (fun f => f)) (size_ente ze_len) rfl (bv_all _)) (fun h => by simp at h) (fun K hK => ?_); go_simp; refine hK _ ?_; clear hK K
              iterate 1 (refine pv_pure rfl rfl (fun K hK => ?_); go_simp; refine hK _ ?_; clear hK K)
              refine pv_nil ?_
              have hm9 : Mod Nn w7 ((wg).setRow g (bv ze).toArray) := MG.out.1.new_ (Mod.rowAt _ g _) hsa
              generalize (wg).setRow g (bv ze).toArray = w9 at *
              go_wp2
              go_meet
              exact ⟨rfl, hm9⟩
          · refine pv_val rfl rfl (exec_alloc (P := Try.prog) 28 rfl info_entz) (fun _ => (Mod.refl Nn w7).drew.alloc _) (fun K hK => ?_); go_simp; refine hK _ ?_; clear hK K
            have hb0 : Blk (w7.drew.alloc (.cells (Value.agg (bv ze).toArray).cells 28)) w7.heap.size 28 (Value.agg (bv ze).toArray).cells := Blk.new w7.drew _ _
            obtain ⟨g, hg⟩ : ∃ g, w7.heap.size = g := ⟨_, rfl⟩
            have hsa : w7.heap.size ≤ g := by omega
            rw [hg] at hb0 ⊢
            have MA := Lib.hid (And.intro hb0 ((Mod.refl Nn w7).drew.alloc (.cells (Value.agg (bv ze).toArray).cells 28)))
            clear hg hb0
            generalize w7.drew.alloc (.cells (Value.agg (bv ze).toArray).cells 28) = wa at *
            refine pv_call rfl rfl (fun K hK => ?_); go_simp; refine ⟨_, _, ⟨rfl, rfl⟩, hK _ _ _ ?_⟩; clear hK K
            refine (key16_any _ n).mono ?_
            rintro r wk ⟨rfl, mk⟩
            have MK := Lib.hid (MA.out.2.nn_ mk)
            have MB := Lib.hid (MA.out.1.mod mk (fun f => f))
            clear mk
            refine ⟨_, rfl, fun _ => MK.out, ?_⟩
            refine pv_call rfl rfl (fun K hK => ?_); go_simp; refine ⟨_, _, ⟨rfl, rfl⟩, hK _ _ _ ?_⟩; clear hK K
            refine (haft _ MK.out).mono ?_
            rintro r wg ⟨rfl, mg⟩
            unfold optV
            have MG := Lib.hid (And.intro (MK.out.nn_ mg) mg)
            clear mg
            refine ⟨_, rfl, fun _ => MG.out.1, ?_⟩
            iterate 3 (refine pv_pure rfl rfl (fun K hK => ?_); go_simp; refine hK _ ?_; clear hK K)
            refine pv_unit rfl rfl (exec_store_row (P := Try.prog) 28 (.tmp 7) (.tmp 40) rfl (g := g) (cells := (bv ze).toArray) rfl rfl (MB.out.mod MG.out.2 (fun f => f)) (size_ente ze_len) rfl (bv_all _)) (fun h => by simp at h) (fun K hK => ?_); go_simp; refine hK _ ?_; clear hK K
            iterate 1 (refine pv_pure rfl rfl (fun K hK => ?_); go_simp; refine hK _ ?_; clear hK K)
            refine pv_nil ?_
            have hm9 : Mod Nn w7 ((wg).setRow g (bv ze).toArray) := MG.out.1.new_ (Mod.rowAt _ g _) hsa
            generalize (wg).setRow g (bv ze).toArray = w9 at *
            go_wp2
            go_meet
            exact ⟨rfl, hm9⟩
        case rest =>
          obtain ⟨rfl, hm8⟩ := hcut
          have HP8 := Lib.hid (And.intro (fun w' hm => HP7.out.1 w' (hm8.nn_ hm)) (And.intro (fun w' hm => HP7.out.2.1 w' (hm8.nn_ hm)) (fun w' hm => HP7.out.2.2 w' (hm8.nn_ hm))))
          have HD8 := Lib.hid (HD7.out.mod hm8 (fun f => f))
          have HW8 := Lib.hid (HW7.out.nn_ hm8)
          have HM8 := Lib.hid (HM7.out.nn_ hm8)
          clear hm8 HP7 HD7 HW7 HM7
          obtain ⟨w8, rfl⟩ : ∃ x : World, x = wc := ⟨_, rfl⟩
          have hpc : w8.cell? ⟨gr, j, none⟩ = some p := HP8.out.1 w8 (Mod.refl _ _)
          go_wp2_with (first
            | (with_reducible change wpList _ _ _ (⟨some 45, _, _, _, _, _⟩ :: _) _ _
               go_must (refine wpList_val rfl (exec_elem (P := Try.prog) (g := gr) (off := 0) (q := j) 88 _ _ rfl 35 1 uuT size_pt rfl rfl hj) ?_)
               rw [show 0 + j * 1 = j from by omega])
            | (with_reducible change wpList _ _ _ (⟨some 46, _, _, _, _, _⟩ :: _) _ _
               go_must (refine wpList_val rfl (exec_load1 (P := Try.prog) (v := p) (ad := ⟨gr, j, none⟩) 35 _ rfl rfl hpc Try.underlying35 rfl) ?_)))
          clear hpc
          refine (tnodes_no HP8.out.2.1).mono ?_
          rintro r w9 ⟨rfl, m9⟩
          have HP9 := Lib.hid (And.intro (fun w' hm => HP8.out.1 w' (m9.nn_ hm)) (And.intro (fun w' hm => HP8.out.2.1 w' (m9.nn_ hm)) (fun w' hm => HP8.out.2.2 w' (m9.nn_ hm))))
          have HD9 := Lib.hid (HD8.out.mod m9 (fun f => f))
          have HM9 := Lib.hid (HM8.out.nn_ m9)
          clear m9 HP8 HD8 HW8 HM8
          go_wp2_with fail
          -- zzX
          refine wp_region_planC (fun w' => Mod Nn w9 w') [(0, true), (1, true), (2, true), (3, true), (4, true), (5, false), (6, false), (7, true), (8, true), (9, true), (10, true), (11, true), (12, true), (13, true), (14, true), (15, false), (16, false), (17, true), (18, true), (19, true), (20, true), (21, true), (22, true), (23, true), (24, true), (25, true), (26, true), (27, true), (28, true), (29, true), (30, false), (31, true), (32, true), (33, true), (34, true), (35, true), (36, true), (37, true), (38, true), (39, true), (40, true), (41, true)] (by kernel_rfl) (by kernel_rfl) (Mod.refl Nn w9).drew ?_
          iterate 2 (refine pc_pure rfl rfl (fun K hK => ?_); go_simp; refine hK _ ?_; clear hK K)
          refine pc_take (.pointer (some ⟨gr, 0 + j * 1, none⟩)) rfl rfl (fun w' _ => exec_elem (P := Try.prog) (g := gr) (off := 0) (q := j) 88 (.tmp 50) (.tmp 51) rfl 35 1 uuT size_pt rfl rfl hj) (fun K hK => ?_); go_simp; refine hK _ ?_; clear hK K
          refine pc_take p rfl rfl (fun w' hS => exec_load1 (P := Try.prog) (ad := ⟨gr, j, none⟩) 35 (.tmp 52) rfl rfl (HP9.out.1 w' hS) Try.underlying35 rfl) (fun K hK => ?_); go_simp; refine hK _ ?_; clear hK K
          refine pc_take (deedV kd n v) rfl rfl (fun w' hS => exec_load_row (P := Try.prog) (g := w.heap.size) (cs := #[.int .i64 kd, .int .i64 n, .int .u8 (v : Int)]) 69 (.tmp 1) rfl rfl (HD9.out.mod hS (fun f => f)) Try.underlying69 rfl size_deed) (fun K hK => ?_); go_simp; refine hK _ ?_; clear hK K
          refine pc_call rfl rfl (fun K hK => ?_); go_simp; refine ⟨_, _, ⟨rfl, rfl⟩, hK _ _ _ ?_⟩; clear hK K
          refine (entry16_any _ kd n v hv).mono ?_
          rintro r wq ⟨rfl, mq⟩
          have M1 := Lib.hid ((Mod.refl Nn w9).drew.nn_ mq)
          clear mq
          refine ⟨_, rfl, M1.out, ?_⟩
          refine pc_call rfl rfl (fun K hK => ?_); go_simp; refine ⟨_, _, ⟨rfl, rfl⟩, hK _ _ _ ?_⟩; clear hK K
          refine (tset_no (en_len _ _) (fun w1 h1 => HP9.out.2.1 w1 (M1.out.nn_ h1))).mono ?_
          rintro r wq ⟨rfl, mq⟩
          have M2 := Lib.hid (M1.out.nn_ mq)
          clear mq
          refine ⟨_, rfl, M2.out, ?_⟩
          iterate 4 (refine pc_pure rfl rfl (fun K hK => ?_); go_simp; refine hK _ ?_; clear hK K)
          refine pc_take (.pointer (some ⟨gr, 0 + j * 1, none⟩)) rfl rfl (fun w' _ => exec_elem (P := Try.prog) (g := gr) (off := 0) (q := j) 88 (.tmp 59) (.tmp 60) rfl 35 1 uuT size_pt rfl rfl hj) (fun K hK => ?_); go_simp; refine hK _ ?_; clear hK K
          refine pc_take p rfl rfl (fun w' hS => exec_load1 (P := Try.prog) (ad := ⟨gr, j, none⟩) 35 (.tmp 61) rfl rfl (HP9.out.1 w' hS) Try.underlying35 rfl) (fun K hK => ?_); go_simp; refine hK _ ?_; clear hK K
          iterate 1 (refine pc_pure rfl rfl (fun K hK => ?_); go_simp; refine hK _ ?_; clear hK K)
          refine pc_take (.int .i64 n) rfl rfl (fun w' hS => exec_load1 (P := Try.prog) (ad := ⟨w.heap.size, 1, none⟩) 3 (.tmp 63) rfl rfl ((HD9.out.mod hS (fun f => f)).cell 1) Try.underlying3 rfl) (fun K hK => ?_); go_simp; refine hK _ ?_; clear hK K
          refine pc_call rfl rfl (fun K hK => ?_); go_simp; refine ⟨_, _, ⟨rfl, rfl⟩, hK _ _ _ ?_⟩; clear hK K
          refine (key16_any _ n).mono ?_
          rintro r wq ⟨rfl, mq⟩
          have M3 := Lib.hid (M2.out.nn_ mq)
          clear mq
          refine ⟨_, rfl, M3.out, ?_⟩
          refine pc_call rfl rfl (fun K hK => ?_); go_simp; refine ⟨_, _, ⟨rfl, rfl⟩, hK _ _ _ ?_⟩; clear hK K
          refine (tdel_no (kn_len _) (fun w1 h1 => HP9.out.2.1 w1 (M3.out.nn_ h1))).mono ?_
          rintro r wq ⟨rfl, mq⟩
          have M4 := Lib.hid (M3.out.nn_ mq)
          clear mq
          refine ⟨_, rfl, M4.out, ?_⟩
          iterate 11 (refine pc_pure rfl rfl (fun K hK => ?_); go_simp; refine hK _ ?_; clear hK K)
          refine pc_take (.pointer (some ⟨gr, 0 + j * 1, none⟩)) rfl rfl (fun w' _ => exec_elem (P := Try.prog) (g := gr) (off := 0) (q := j) 88 (.tmp 76) (.tmp 77) rfl 35 1 uuT size_pt rfl rfl hj) (fun K hK => ?_); go_simp; refine hK _ ?_; clear hK K
          refine pc_take p rfl rfl (fun w' hS => exec_load1 (P := Try.prog) (ad := ⟨gr, j, none⟩) 35 (.tmp 78) rfl rfl (HP9.out.1 w' hS) Try.underlying35 rfl) (fun K hK => ?_); go_simp; refine hK _ ?_; clear hK K
          refine pc_call rfl rfl (fun K hK => ?_); go_simp; refine ⟨_, _, ⟨rfl, rfl⟩, hK _ _ _ ?_⟩; clear hK K
          refine (HP9.out.2.2 _ M4.out).mono ?_
          rintro r wq ⟨rfl, mq⟩
          have M5 := Lib.hid (M4.out.nn_ mq)
          clear mq
          refine ⟨_, rfl, M5.out, ?_⟩
          iterate 11 (refine pc_pure rfl rfl (fun K hK => ?_); go_simp; refine hK _ ?_; clear hK K)
          refine pc_nil ?_
          have HE := Lib.hid (HM9.out.nn_ M5.out)
          go_wp2
          exact ⟨⟨j + 1, by omega, by go_num, HE⟩, by simp [intOf]; omega⟩
    · have hje : j = 2 := by omega
      subst hje
      go_wp2
      go_ret
      exact ⟨rfl, H4.out.1.nn_ HM.out⟩
end
end Go.Proofs.Ytkcpmkeckcnobaa
