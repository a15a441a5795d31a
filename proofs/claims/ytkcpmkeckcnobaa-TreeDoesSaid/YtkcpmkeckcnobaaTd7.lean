/- peatbanklaw16.TreeDoes: the walk (under way). -/
import Derived.Test.YtkcpmkeckcnobaaTd6
import Derived.Test.YtkcpmkeckcnobaaUn5
import Derived.Test.YtkcpmkeckcnobaaTr32
namespace Go.Proofs.Ytkcpmkeckcnobaa
open Go.RowKit

theorem built_rtree0 : Try.prog.built 83 [] = some #[.slice none 0 0] := by kernel_rfl
theorem wp_valD {P : Program} {o : Oper} {a : Act} {w w' : World} {next : Act → World → Prop} {Q : Exit → Act → World → Prop} {v : Value} (hrun : (execOp a.eval o).run P w = .ok (.value v) w') (h : next (a.put o.dst v) w') : o.wp P a w next Q := by
  unfold Oper.wp
  rw [hrun]
  exact h
theorem exec_rtree0 {w : World} {o : Oper} {a : Act} (ho : o.op = .build 83 #[]) : (execOp a.eval o).run Try.prog w = .ok (.value (.agg #[.slice none 0 0])) w := by
  have hr := run_build (P := Try.prog) w 83 _ _ built_rtree0
  simp only [execOp, ho]
  simp [hr, Result.andThen]
section
variable {w : World} {A B : Option Addr} {n c m e : Nat} {Ds : List DeedR} {bs : List Bool}
set_option maxRecDepth 100000 in
set_option maxHeartbeats 6400000 in
theorem treedoes_any (hd : DeedsAt w A n Ds) (hb : BoolsAt w B m bs) : Calls Try.prog 8 #[.slice A n c, .slice B m e] w fun r w' => r = .returned (.bool true) ∧ Mod Nn w w' := by
  have HD := Lib.hid (And.intro hd hb)
  have hDl := hd.2
  have HDL := Lib.hid hDl
  clear hd hb hDl
  go_enter Try.func8, Try.ntmps8
  go_wp2_with fail
  refine (awake16 w).mono ?_
  rintro r w0 ⟨rfl, m0⟩
  have H0 := Lib.hid m0
  clear m0
  by_cases hbig : 600 < n
  · have hbig' : (600 : Int) < n := by omega
    go_wp2
    go_ret
    exact ⟨rfl, H0.out⟩
  by_cases hbig2 : 600 < m
  · have hsm : ¬ (600 : Int) < n := by omega
    have hbig' : (600 : Int) < m := by omega
    go_wp2
    go_ret
    exact ⟨rfl, H0.out⟩
  have hsm : ¬ (600 : Int) < n := by omega
  have hsm2 : ¬ (600 : Int) < m := by omega
  go_wp2_with fail
  refine (tnew_any w0).mono ?_
  rintro r w1 ⟨b, G1, rfl, ht1, hG1, m1⟩
  have hs0 : w.heap.size ≤ w0.heap.size := H0.out.size
  have hs1 : w0.heap.size ≤ w1.heap.size := m1.size
  have H1 := Lib.hid (And.intro ht1 (And.intro hG1 (H0.out.nn_ m1)))
  clear ht1 hG1 m1
  go_wp2_with (first
    | (with_reducible change wpList _ _ _ (⟨some 23, _, _, _, _, _⟩ :: _) _ _
       go_must (refine wpList_val rfl (exec_rtree0 rfl) ?_))
    | (with_reducible change wpList _ _ _ (⟨some 24, Op.box _ _, _, _, _, _⟩ :: _) _ _
       go_must (refine wpList_box_var 83 _ rfl rfl #[.slice none 0 0] rfl ?_)
       intro w2 b2 m2 z2
       clear z2
       have H2 := Lib.hid (And.intro m2 b2)
       clear m2 b2))
  -- zzA
  have hDb : Dbl w w2 b w1.heap.size [] [] G1 none 0 0 := by
    refine ⟨H1.out.1.nn H2.out.1, ⟨H2.out.2, ⟨rfl, fun h => absurd h (by omega)⟩, (fun r hr => by cases hr), rfl, List.Pairwise.nil, Nat.le_refl _, (fun g hg => by obtain ⟨_, h, _⟩ := hg; cases h)⟩, fun hx => by have := H1.out.1.lt _ hx; omega, (fun g hg => by obtain ⟨_, h, _⟩ := hg; cases h), Nat.zero_le _, fun g hg => by have := H1.out.2.1 g hg; omega, by omega, H1.out.2.2.nn_ H2.out.1⟩
  have HB := Lib.hid hDb
  obtain ⟨rb, hrb⟩ : ∃ rb, w1.heap.size = rb := ⟨_, rfl⟩
  rw [hrb] at HB ⊢
  clear hDb
  go_loopw [7] (fun i wr => ∃ (j : Nat) (G : List Nat) (A' : Option Addr) (n' c' : Nat), j ≤ n ∧ i = .int .i64 j ∧ Hid (Dbl w wr b rb (runL (Ds.take j)) (runL (Ds.take j)) G A' n' c')) (fun i _ => n - (intOf i).toNat)
  case atStart => exact ⟨0, G1, none, 0, 0, Nat.zero_le _, rfl, HB⟩
  case round =>
    obtain ⟨j, G, A', n', c', hj, rfl, HR⟩ := hrel
    by_cases hjn : j < n
    · have hj' : (j : Int) < n := by omega
      obtain ⟨d, hd⟩ : ∃ d, Ds[j]? = some d := ⟨_, List.getElem?_eq_getElem (by rw [HDL.out]; exact hjn)⟩
      obtain ⟨gD, oD, eA, hcell⟩ := HD.out.1.at_ hd
      subst eA
      have hc2 : ∀ q v, d.cells[q]? = some v → wr.cell? ⟨gD, oD + j * 3 + q, none⟩ = some v := fun q v hq => by
        have h1 := hcell q v hq
        rw [HR.out.md.cell (p := ⟨gD, oD + j * 3 + q, none⟩) (World.block_lt_of_cell? w _ h1) (fun f => f)]
        exact h1
      have HC := Lib.hid (And.intro hd hc2)
      clear hd hcell hc2
      go_wp2_with (first
        | (with_reducible change wpList _ _ _ (⟨some 35, _, _, _, _, _⟩ :: _) _ _
           go_must (refine wpList_val rfl (exec_elem (P := Try.prog) (g := gD) (off := oD) (q := j) 79 _ _ rfl 69 3 Try.underlying79 size_deed3 rfl rfl hjn) ?_))
        | (with_reducible change wpList _ _ _ (⟨some 36, _, _, _, _, _⟩ :: _) _ _
           go_must (refine wpList_val rfl (exec_load_cells (P := Try.prog) (b := gD) (off := oD + j * 3) (cs := d.cells) 69 _ rfl rfl HC.out.2 Try.underlying69 rfl size_deed3) ?_)))
      have hlj := runL_ok (Ds.take j)
      have hll : (runL (Ds.take j)).length ≤ 600 := by have h1 := hlj.2; rw [List.length_take] at h1; omega
      refine (do16_any (kd := d.kd) (kv := d.n) (v := d.v) HR.out (by omega) d.hv).mono ?_
      rintro r w4 ⟨rfl, G4, A4, n4, c4, hD4⟩
      rw [← runL_take HC.out.1] at hD4
      have hn4 := hD4.u.len.symm
      subst hn4
      have H4 := Lib.hid hD4
      clear hD4 hlj hll
      -- zzB
      obtain ⟨ab, hab⟩ : ∃ ab : Bool, j < m → ∃ gB oB, B = some ⟨gB, oB, none⟩ ∧ w4.cell? ⟨gB, oB + j, none⟩ = some (.bool ab) := by
        by_cases hjm : j < m
        · have hbl : bs.length = m := by simpa using HD.out.2.1
          obtain ⟨gB, oB, e, hcB⟩ := HD.out.2.2 (by omega)
          have h1 := hcB j (.bool bs[j]) (by rw [List.getElem?_map, List.getElem?_eq_getElem (by omega)]; rfl)
          exact ⟨bs[j], fun _ => ⟨gB, oB, e, by rw [H4.out.md.cell (p := ⟨gB, oB + j, none⟩) (World.block_lt_of_cell? w _ h1) (fun f => f)]; exact h1⟩⟩
        · exact ⟨false, fun h => absurd h hjm⟩
      have HAB := Lib.hid hab
      clear hab
      go_upto_region 11 with fail
      go_simp
      -- zzC
      go_cut [65] from 39 to 64 (fun x wx => (∃ x' : Bool, x = .bool x') ∧ w4 = wx)
      case first =>
        obtain ⟨q, hq⟩ : ∃ q : Nat, Int.tmod (j : Int) 40 = (q : Int) := ⟨j % 40, rfl⟩
        obtain ⟨p, hp⟩ : ∃ p : Nat, Int.tmod (j : Int) 5 = (p : Int) := ⟨j % 5, rfl⟩
        by_cases c39 : q = 39
        · subst c39
          go_wp2
          go_meet
          exact ⟨⟨_, rfl⟩, rfl⟩
        · have d39 : ((q : Int) == 39) = false := by rw [beq_eq_false_iff_ne]; omega
          by_cases hjm : j < m
          · have hjm' : (j : Int) < m := by omega
            have djm : decide ((j : Int) < m) = true := decide_eq_true hjm'
            obtain ⟨gB, oB, eB, hcB⟩ := HAB.out hjm
            subst eB
            cases ab
            · (try dsimp only); (try go_simp); repeat' (first | ((fail_if_success (with_reducible change Oper.wp _ ⟨some 50, _, _, _, _, _⟩ _ _ _ _)); first | go_values | go_skip | go_guarded | go_step | go_upon | go_back))
              refine wp_valD (exec_elem (P := Try.prog) (g := gB) (off := oB) (q := j) 80 _ _ rfl 4 1 uuB size_boolu rfl rfl hjm) ?_
              (try dsimp only); (try go_simp); repeat' (first | ((fail_if_success (with_reducible change Oper.wp _ ⟨some 51, _, _, _, _, _⟩ _ _ _ _)); first | go_values | go_skip | go_guarded | go_step | go_upon | go_back))
              refine wp_valD (exec_load1 (P := Try.prog) (v := .bool false) (ad := ⟨gB, oB + j, none⟩) 4 _ rfl rfl hcB Try.underlying4 rfl) ?_
              go_wp2
              go_meet
              exact ⟨⟨_, rfl⟩, rfl⟩
            · by_cases c5 : p = 0
              · have d5 : ((p : Int) == 0) = true := by rw [beq_iff_eq]; omega
                (try dsimp only); (try go_simp); repeat' (first | ((fail_if_success (with_reducible change Oper.wp _ ⟨some 50, _, _, _, _, _⟩ _ _ _ _)); first | go_values | go_skip | go_guarded | go_step | go_upon | go_back))
                refine wp_valD (exec_elem (P := Try.prog) (g := gB) (off := oB) (q := j) 80 _ _ rfl 4 1 uuB size_boolu rfl rfl hjm) ?_
                (try dsimp only); (try go_simp); repeat' (first | ((fail_if_success (with_reducible change Oper.wp _ ⟨some 51, _, _, _, _, _⟩ _ _ _ _)); first | go_values | go_skip | go_guarded | go_step | go_upon | go_back))
                refine wp_valD (exec_load1 (P := Try.prog) (v := .bool true) (ad := ⟨gB, oB + j, none⟩) 4 _ rfl rfl hcB Try.underlying4 rfl) ?_
                go_wp2
                go_meet
                exact ⟨⟨_, rfl⟩, rfl⟩
              · have d5 : ((p : Int) == 0) = false := by rw [beq_eq_false_iff_ne]; omega
                (try dsimp only); (try go_simp); repeat' (first | ((fail_if_success (with_reducible change Oper.wp _ ⟨some 50, _, _, _, _, _⟩ _ _ _ _)); first | go_values | go_skip | go_guarded | go_step | go_upon | go_back))
                refine wp_valD (exec_elem (P := Try.prog) (g := gB) (off := oB) (q := j) 80 _ _ rfl 4 1 uuB size_boolu rfl rfl hjm) ?_
                (try dsimp only); (try go_simp); repeat' (first | ((fail_if_success (with_reducible change Oper.wp _ ⟨some 51, _, _, _, _, _⟩ _ _ _ _)); first | go_values | go_skip | go_guarded | go_step | go_upon | go_back))
                refine wp_valD (exec_load1 (P := Try.prog) (v := .bool true) (ad := ⟨gB, oB + j, none⟩) 4 _ rfl rfl hcB Try.underlying4 rfl) ?_
                go_wp2
                go_meet
                exact ⟨⟨_, rfl⟩, rfl⟩
          · have hjm' : ¬ (j : Int) < m := by omega
            have djm : decide ((j : Int) < m) = false := decide_eq_false hjm'
            go_wp2
            go_meet
            exact ⟨⟨_, rfl⟩, rfl⟩
      case rest =>
      obtain ⟨⟨x, rfl⟩, rfl⟩ := hcut
      cases x
      · go_wp2
        exact ⟨⟨j + 1, G4, A4, _, c4, by omega, by go_num, H4⟩, by simp [intOf]; omega⟩
      · go_wp2_with fail
        refine (tnodes_any H4.out.t (by have := (runL_ok (Ds.take (j + 1))).2; rw [List.length_take] at this; omega)).mono ?_
        rintro r w5 ⟨vn, i5, Us, rfl, hN, m5⟩
        have H5 := Lib.hid (And.intro (H4.out.nn m5) hN)
        clear hN m5
        go_wp2_with fail
        refine (tload_any H5.out.2 H5.out.1.t.srt (by have := (runL_ok (Ds.take (j + 1))).2; rw [List.length_take] at this; omega)).mono ?_
        rintro r w6 ⟨m6, hr6⟩
        obtain ⟨b6, A6, c6, rfl, hb6, hrd6, hro6, hc6, hb6w, hA6⟩ := hr6
        obtain ⟨N, hN⟩ : ∃ N, (runL (Ds.take (j + 1))).length = N := ⟨_, rfl⟩
        have hlen := nodesT_len H5.out.2.is_
        rw [List.length_map, hN] at hlen
        have hNl : N ≤ 600 := by rw [← hN]; have := (runL_ok (Ds.take (j + 1))).2; rw [List.length_take] at this; omega
        obtain ⟨An, cn, evn, _, _⟩ := own_form H5.out.2.row
        subst evn
        have H6 := Lib.hid (And.intro (H5.out.1.nn m6) (And.intro hb6 hrd6))
        rw [hN] at H6
        have HN6 := Lib.hid hN
        have hbl6 : Blk w6 b6 83 #[.slice A6 N c6] := by have := hb6; rwa [hN] at this
        have hrd7 : RdC w6 A6 N 80 (bv (runL (Ds.take (j + 1))).flatten) := by have := hrd6; rwa [hN] at this
        have HBL := Lib.hid (And.intro hbl6 hrd7)
        clear m6 hb6 hrd6 hbl6 hrd7
        obtain ⟨N4, hN4⟩ : ∃ N4 : Nat, (N : Int) / 4 = (N4 : Int) := ⟨N / 4, by omega⟩
        have hgt : ¬ (N4 : Int) + 1 < (Us.length : Int) := by omega
        have hw4 : IntKind.i64.wrap ((N : Int) / 4) = (N4 : Int) := by rw [IntKind.wrap_i64]; omega
        have hw5 : IntKind.i64.wrap ((N4 : Int) + 1) = (N4 : Int) + 1 := by rw [IntKind.wrap_i64]; omega
        have HW := Lib.hid (And.intro hw4 hw5)
        clear hN4 hw4 hw5
        go_wp2_with fail
        refine wp_region_planC (fun w' => Mod Nn w6 w') [(0, true), (1, true), (2, true), (3, true), (4, true), (5, true), (6, true), (7, true), (8, true), (9, true), (10, true), (11, false), (12, true), (13, true), (14, true), (15, true), (16, true), (17, true), (18, true), (19, true), (20, true), (21, true), (22, true), (23, true), (24, true), (25, true)] (by kernel_rfl) (by kernel_rfl) (Mod.refl Nn w6).drew ?_
        iterate 6 (refine pc_pure rfl rfl (fun K hK => ?_); go_simp; refine hK _ ?_; clear hK K)
        refine pc_take (.slice A6 N c6) rfl rfl (fun w' hS => exec_load1 (P := Try.prog) (v := .slice A6 N c6) (ad := ⟨b6, 0, none⟩) 40 (.tmp 82) rfl rfl ((HBL.out.1.mod hS (fun f => f)).cell 0) Try.underlying40 rfl) (fun K hK => ?_); go_simp; refine hK _ ?_; clear hK K
        iterate 3 (refine pc_pure rfl rfl (fun K hK => ?_); go_simp; refine hK _ ?_; clear hK K)
        refine pc_take (.slice A4 N c4) rfl rfl (fun w' hS => exec_load1 (P := Try.prog) (v := .slice A4 N c4) (ad := ⟨rb, 0, none⟩) 40 (.tmp 86) rfl rfl ((H6.out.1.u.blk.mod hS (fun f => f)).cell 0) Try.underlying40 rfl) (fun K hK => ?_); go_simp; refine hK _ ?_; clear hK K
        refine pc_call rfl rfl (fun K hK => ?_); go_simp; refine ⟨_, _, ⟨rfl, rfl⟩, hK _ _ _ ?_⟩; clear hK K
        refine (sameE_yes (HBL.out.2.md (by omega) (Mod.refl Nn w6).drew (fun _ _ f => f)) (H6.out.1.u.rd.md (by omega) (Mod.refl Nn w6).drew (fun _ _ f => f)) H6.out.1.u.rows HN6.out (by omega)).mono ?_
        rintro r w7 ⟨rfl, m7⟩
        have H7 := Lib.hid ((H6.out.1.nn (Mod.refl Nn w6).drew).nn m7)
        have M7 := Lib.hid ((Mod.refl Nn w6).drew.nn_ m7)
        clear m7
        refine ⟨_, rfl, M7.out, ?_⟩
        iterate 8 (refine pc_pure rfl rfl (fun K hK => ?_); go_simp; refine hK _ ?_; clear hK K)
        refine pc_take (.slice A4 N c4) rfl rfl (fun w' hS => exec_load1 (P := Try.prog) (v := .slice A4 N c4) (ad := ⟨rb, 0, none⟩) 40 (.tmp 96) rfl rfl ((H6.out.1.u.blk.mod hS (fun f => f)).cell 0) Try.underlying40 rfl) (fun K hK => ?_); go_simp; refine hK _ ?_; clear hK K
        -- zzQ
        iterate 2 (refine pc_pure rfl rfl (fun K hK => ?_); go_simp; refine hK _ ?_; clear hK K)
        rw [HW.out.1]
        iterate 1 (refine pc_pure rfl rfl (fun K hK => ?_); go_simp; refine hK _ ?_; clear hK K)
        rw [HW.out.2]
        iterate 2 (refine pc_pure rfl rfl (fun K hK => ?_); go_simp; refine hK _ ?_; clear hK K)
        refine pc_nil ?_
        go_wp2
        exact ⟨⟨j + 1, G4, A4, N, c4, by omega, by go_num, H7⟩, by simp [intOf]; omega⟩
    · go_wp2
      go_ret
      exact ⟨rfl, HR.out.md⟩
end
end Go.Proofs.Ytkcpmkeckcnobaa
