/- law16's awake: thirteen entries are three nodes. -/
import Derived.Test.YtkcpmkeckcnobaaTrM
import Derived.Test.YtkcpmkeckcnobaaTrK
import Derived.Test.YtkcpmkeckcnobaaEqK
namespace Go.Proofs.Ytkcpmkeckcnobaa
open Go.RowKit

theorem pk_small {k : Nat} (h : k < 1000) : pk (k : Int) = k := by
  have e : (k : Int).tmod 1000 = ((k % 1000 : Nat) : Int) := rfl
  have : pick (k : Int) 1000 = (k : Int) := by
    unfold pick
    rw [if_neg (by omega), e, if_neg (by omega), Nat.mod_eq_of_lt h]
  unfold pk; rw [this]; rfl
theorem built_deed1 (n : Int) : Try.prog.built 69 [(1, .int .i64 n)] = some #[.int .i64 0, .int .i64 n, .int .u8 0] := by kernel_rfl
theorem built_deed2 (n v : Int) : Try.prog.built 69 [(1, .int .i64 n), (2, .int .u8 v)] = some #[.int .i64 0, .int .i64 n, .int .u8 v] := by kernel_rfl
section
variable {w : World} {o : Oper} {a : Act} {x : Operand} {n : Int}
theorem exec_deed1 (ho : o.op = .build 69 #[(1, x)]) (hx : a.eval x = .int .i64 n) : (execOp a.eval o).run Try.prog w = .ok (.value (deedV 0 n 0)) w := by
  have hr := run_build (P := Try.prog) w 69 _ _ (built_deed1 n)
  simp only [execOp, ho]
  simp [hx, hr, Result.andThen, deedV]
theorem exec_deed2 {v : Nat} (ho : o.op = .build 69 #[(1, x), (2, .const (.int .u8 (v : Int)))]) (hx : a.eval x = .int .i64 n) : (execOp a.eval o).run Try.prog w = .ok (.value (deedV 0 n v)) w := by
  have hr := run_build (P := Try.prog) w 69 _ _ (built_deed2 n v)
  have e : a.eval (.const (.int .u8 (v : Int))) = .int .u8 (v : Int) := rfl
  simp only [execOp, ho]
  simp [hx, e, hr, Result.andThen, deedV]
end
/-- the entries of awake, some of them set -/
def awT (i : Nat) : List (List Nat) := ((List.range i).map (fun j => en (12 - j) 7)).foldl ins []
theorem awT_succ (i : Nat) : awT (i + 1) = ins (awT i) (en (12 - i) 7) := by
  unfold awT
  rw [List.range_succ, List.map_append, List.foldl_append]
  rfl
theorem awT_13 : awT 13 = (List.range 13).map (fun j => en j 7) := by kernel_rfl
theorem awT_len : (awT 13).length = 13 := by rw [awT_13]; rfl
theorem awT_aft : aft (awT 13) (kn 3) false = some (en 4 7) := by kernel_rfl
theorem awT_has : has (awT 13) (kn 5) = true := by kernel_rfl
def awD : List (List Nat) := dele (awT 13) (kn 5)
theorem awD_has : has awD (kn 5) = false := by kernel_rfl
theorem awD_len : awD.length = 12 := by kernel_rfl
theorem awD2_len : (dele awD (kn 5)).length = 12 := by kernel_rfl
theorem len_ins_le {L : List (List Nat)} (h : Srt L) (e : List Nat) : (ins L e).length ≤ L.length + 1 := by
  rw [len_ins h]; split <;> omega
theorem kn_ok {k : Nat} (h : k < 1000) : (kn k).length = 40 ∧ ∀ z ∈ kn k, z < 256 := ⟨kn_len k, kn_lt h⟩
set_option maxRecDepth 100000 in
set_option maxHeartbeats 6400000 in
theorem awake16 (w : World) : Calls Try.prog 27 #[] w fun r w' => r = .returned (.bool true) ∧ Mod Nn w w' := by
  go_enter Try.func27, Try.ntmps27
  go_wp2_with fail
  refine (tnew_any w).mono ?_
  rintro r w1 ⟨b, G1, rfl, ht1, hG1, m1⟩
  have H1 := Lib.hid (And.intro ht1 (And.intro hG1 m1))
  clear ht1 hG1 m1
  go_wp2_with fail
  -- zzA
  go_loopw [2] (fun i wr => ∃ (j : Nat) (G : List Nat), j ≤ 13 ∧ i = .int .i64 j ∧ Hid (TrAt wr b (awT j) G ∧ (∀ g ∈ G, w.heap.size ≤ g) ∧ Mod Nn w wr ∧ (awT j).length ≤ j)) (fun i _ => 13 - (intOf i).toNat)
  case atStart => exact ⟨0, G1, by omega, rfl, Lib.hid ⟨H1.out.1, H1.out.2.1, H1.out.2.2, Nat.le_refl _⟩⟩
  case round =>
    obtain ⟨j, G, hj, rfl, HR⟩ := hrel
    have hsr : w.heap.size ≤ wr.heap.size := HR.out.2.2.1.size
    by_cases hjn : j < 13
    · have hj' : (j : Int) < 13 := by omega
      go_wp2_with (first
        | (with_reducible change wpList _ _ _ (⟨some 17, _, _, _, _, _⟩ :: _) _ _
           go_must (refine wpList_val rfl (exec_deed2 (v := 7) rfl rfl) ?_)))
      refine (entry16_any wr 0 _ 7 (by omega)).mono ?_
      rintro r w4 ⟨rfl, m4⟩
      rw [show (12 : Int) - (j : Int) = ((12 - j : Nat) : Int) by omega, pk_small (by omega)]
      have H4 := Lib.hid m4
      have hs4 : wr.heap.size ≤ w4.heap.size := m4.size
      clear m4
      go_wp2_with fail
      refine (tset_any (HR.out.1.nn H4.out) (en_len _ _) (en_lt (by omega) (by omega)) (by have := HR.out.2.2.2; omega)).mono ?_
      rintro r w5 ⟨rfl, G5, ht5, hG5, m5⟩
      rw [← awT_succ] at ht5
      have hl5 : (awT (j + 1)).length ≤ j + 1 := by
        rw [awT_succ]
        have := len_ins_le HR.out.1.srt (en (12 - j) 7)
        have := HR.out.2.2.2
        omega
      have H5 := Lib.hid (show TrAt w5 b (awT (j + 1)) G5 ∧ (∀ g ∈ G5, w.heap.size ≤ g) ∧ Mod Nn w w5 ∧ (awT (j + 1)).length ≤ j + 1 from ⟨ht5, fun g hg => (hG5 g hg).elim (HR.out.2.1 g) (fun h => by omega), (HR.out.2.2.1.nn_ H4.out).then_ m5 (fun g hg h => by have := HR.out.2.1 g h; omega), hl5⟩)
      clear ht5 hG5 m5 hl5
      go_wp2
      exact ⟨⟨j + 1, G5, by omega, by go_num, H5⟩, by simp [intOf]; omega⟩
    · have hje : j = 13 := by omega
      subst hje
      have hl13 := awT_len
      go_wp2_with fail
      refine (tnodes_any HR.out.1 (by rw [awT_len]; omega)).mono ?_
      rintro r w5 ⟨v5, i5, Us, rfl, hN, m5⟩
      obtain ⟨hU3, hi2, nq, hnq, hkq⟩ := nodesT_13 hN.is_ awT_len
      subst hi2
      rw [List.length_map] at hU3
      have hrow := hN.row
      rw [hU3] at hrow
      obtain ⟨g5, p5, _, rfl, _⟩ := own_blk hrow (by omega)
      rw [List.getElem?_map, Option.map_eq_some_iff] at hnq
      obtain ⟨tq, htq, rfl⟩ := hnq
      have hkc : (flat TN.cells Us)[2 * 4 + 3]? = some (.slice tq.cA 2 tq.cc) := by
        rw [flat_at TN.len Us 2 3 (by omega), htq]
        simp [TN.cells, hkq]
      have hcell := own_cell hrow hkc
      have hgw5 : g5 < w5.heap.size := own_lt hrow
      have hs5 : wr.heap.size ≤ w5.heap.size := m5.size
      have H5 := Lib.hid (And.intro (HR.out.1.nn m5) (And.intro (HR.out.2.2.1.nn_ m5) hcell))
      have hg5 : wr.heap.size ≤ g5 := by
        obtain ⟨_, _, _, h, _, _⟩ := own_blk_eq hrow (g := g5) rfl
        exact h
      clear hN m5 hcell hkc hrow htq hkq hl13
      go_wp2_with fail
      refine (key16_any w5 3).mono ?_
      rintro r w6 ⟨rfl, m6⟩
      rw [show pk 3 = 3 from pk_small (k := 3) (by omega)]
      have hs6 : w5.heap.size ≤ w6.heap.size := m6.size
      have H6 := Lib.hid (And.intro (H5.out.1.nn m6) (And.intro (H5.out.2.1.nn_ m6) ((m6.cell (p := ⟨g5, 2 * 4 + 3, none⟩) hgw5 (fun f => f)).trans H5.out.2.2)))
      clear m6
      go_wp2_with fail
      refine (tafter_any H6.out.1 (kn_len 3) (kn_lt (by omega))).mono ?_
      rintro r w7 ⟨rfl, m7⟩
      rw [awT_aft]
      unfold optV
      have hs7 : w6.heap.size ≤ w7.heap.size := m7.size
      have H7 := Lib.hid (And.intro (H6.out.1.nn m7) (And.intro (H6.out.2.1.nn_ m7) ((m7.cell (p := ⟨g5, 2 * 4 + 3, none⟩) (by show g5 < _; omega) (fun f => f)).trans H6.out.2.2)))
      clear m7
      have l4 : (en 4 7).length = 80 := en_len 4 7
      go_wp2_with (first
        | (with_reducible change wpList _ _ _ (⟨some 5, Op.alloc _, _, _, _, _⟩ :: _) _ _
           go_must (refine wpList_alloc_var 28 rfl rfl info_entz ?_)
           intro w8 b8 m8 z8
           clear z8
           have H8 := Lib.hid (And.intro m8 b8)
           clear m8 b8)
        | (with_reducible change wpList _ _ _ (⟨none, Op.store _ (Operand.tmp 5) _, _, _, _, _⟩ :: _) _ _
           go_must (refine wpList_store_var 28 _ _ rfl rfl w7.heap.size (bv (en 4 7)).toArray _ _ rfl rfl H8.out.2 (size_ente l4) (by rw [bv_size, l4]; rfl) (bv_all _) ?_)
           intro w9 b9 m9 z9
           clear z9
           have H9 := Lib.hid (And.intro (H8.out.1.new_ m9 (Nat.le_refl _)) b9)
           clear m9 b9))
      -- zzB
      have hs9 : w7.heap.size < w9.heap.size := H9.out.2.lt
      refine (key16_any w9 5).mono ?_
      rintro r w10 ⟨rfl, m10⟩
      rw [show pk 5 = 5 from pk_small (k := 5) (by omega)]
      have m710 : Mod Nn w7 w10 := H9.out.1.nn_ m10
      have hs10 : w9.heap.size ≤ w10.heap.size := m10.size
      have H10 := Lib.hid (And.intro (H7.out.1.nn m710) (And.intro (H7.out.2.1.nn_ m710) (And.intro ((m710.cell (p := ⟨g5, 2 * 4 + 3, none⟩) (by show g5 < _; omega) (fun f => f)).trans H7.out.2.2) (H9.out.2.mod m10 (fun f => f)))))
      clear m10 m710
      go_wp2_with fail
      refine (tdel_any H10.out.1 (kn_len 5) (kn_lt (by omega)) (by rw [awT_len]; omega)).mono ?_
      rintro r w11 ⟨rfl, G11, ht11, hG11, m11⟩
      rw [awT_has]
      have hGw : ∀ g ∈ G, g < wr.heap.size := HR.out.1.lt
      have hs11 : w10.heap.size ≤ w11.heap.size := m11.size
      have H11 := Lib.hid (show TrAt w11 b awD G11 ∧ (∀ g ∈ G11, w.heap.size ≤ g) ∧ (∀ g ∈ G11, g ≠ g5 ∧ g ≠ w7.heap.size) ∧ Mod Nn w w11 ∧ w11.cell? ⟨g5, 2 * 4 + 3, none⟩ = some (.slice tq.cA 2 tq.cc) ∧ Blk w11 w7.heap.size 28 (bv (en 4 7)).toArray from
        ⟨ht11, fun g hg => (hG11 g hg).elim (HR.out.2.1 g) (fun h => by omega), fun g hg => (hG11 g hg).elim (fun h => by have := hGw g h; omega) (fun h => by omega), H10.out.2.1.then_ m11 (fun g hg h => by have := HR.out.2.1 g h; omega), (m11.cell (p := ⟨g5, 2 * 4 + 3, none⟩) (by show g5 < _; omega) (fun h => by have := hGw g5 h; omega)).trans H10.out.2.2.1, H10.out.2.2.2.mod m11 (fun h => by have := hGw _ h; omega)⟩)
      clear ht11 hG11 m11
      go_wp2_with fail
      refine (key16_any w11 5).mono ?_
      rintro r w12 ⟨rfl, m12⟩
      rw [show pk 5 = 5 from pk_small (k := 5) (by omega)]
      have hs12 : w11.heap.size ≤ w12.heap.size := m12.size
      have H12 := Lib.hid (And.intro (H11.out.1.nn m12) (And.intro (H11.out.2.2.2.1.nn_ m12) (And.intro ((m12.cell (p := ⟨g5, 2 * 4 + 3, none⟩) (by show g5 < _; omega) (fun f => f)).trans H11.out.2.2.2.2.1) (H11.out.2.2.2.2.2.mod m12 (fun f => f)))))
      clear m12
      go_wp2_with fail
      refine (tdel_any H12.out.1 (kn_len 5) (kn_lt (by omega)) (by rw [awD_len]; omega)).mono ?_
      rintro r w13 ⟨rfl, G13, ht13, hG13, m13⟩
      rw [awD_has]
      have hs13 : w12.heap.size ≤ w13.heap.size := m13.size
      have H13 := Lib.hid (show TrAt w13 b (dele awD (kn 5)) G13 ∧ Mod Nn w w13 ∧ w13.cell? ⟨g5, 2 * 4 + 3, none⟩ = some (.slice tq.cA 2 tq.cc) ∧ Blk w13 w7.heap.size 28 (bv (en 4 7)).toArray from
        ⟨ht13, H12.out.2.1.then_ m13 (fun g hg h => by have := H11.out.2.1 g h; omega), (m13.cell (p := ⟨g5, 2 * 4 + 3, none⟩) (by show g5 < _; omega) (fun h => (H11.out.2.2.1 g5 h).1 rfl)).trans H12.out.2.2.1, H12.out.2.2.2.mod m13 (fun h => (H11.out.2.2.1 _ h).2 rfl)⟩)
      have hg13 : g5 < w13.heap.size := by omega
      clear ht13 hG13 m13
      go_wp2_with fail
      -- zzC
      refine wp_region_planC (fun w' => Mod Nn w13 w') [(0, true), (1, true), (2, true), (3, true), (4, true), (5, true), (6, true), (7, true), (8, true), (9, true), (10, true), (11, true), (12, true), (13, true), (14, true), (15, true), (16, true), (17, true), (18, true), (19, true), (20, true), (21, true), (22, true), (23, true), (24, true), (25, true), (26, false), (27, true), (28, true), (29, true), (30, true), (31, true), (32, true), (33, true), (34, true), (35, true), (36, true), (37, true), (38, true), (39, false), (40, true), (41, true), (42, true)] (by kernel_rfl) (by kernel_rfl) (Mod.refl Nn w13).drew ?_
      iterate 14 (refine pc_pure rfl rfl (fun K hK => ?_); go_simp; refine hK _ ?_; clear hK K)
      refine pc_take (.pointer (some ⟨g5, 0 + 2 * 4, none⟩)) rfl rfl (fun w' _ => exec_elem (P := Try.prog) (g := g5) (off := 0) (q := 2) 72 (.tmp 50) (.tmp 51) rfl 77 4 uuN sizeN rfl rfl (by omega)) (fun K hK => ?_); go_simp; refine hK _ ?_; clear hK K
      iterate 1 (refine pc_pure rfl rfl (fun K hK => ?_); go_simp; refine hK _ ?_; clear hK K)
      refine pc_take (.slice tq.cA 2 tq.cc) rfl rfl (fun w' hS => exec_load1 (P := Try.prog) (ad := ⟨g5, 2 * 4 + 3, none⟩) 64 (.tmp 53) rfl rfl ((hS.cell (p := ⟨g5, 2 * 4 + 3, none⟩) hg13 (fun f => f)).trans H13.out.2.2.1) Try.underlying64 rfl) (fun K hK => ?_); go_simp; refine hK _ ?_; clear hK K
      iterate 8 (refine pc_pure rfl rfl (fun K hK => ?_); go_simp; refine hK _ ?_; clear hK K)
      refine pc_take (.agg (bv (keyOf (en 4 7))).toArray) rfl rfl (fun w' hS => exec_load_cells (P := Try.prog) (b := w7.heap.size) (off := 0) (cs := bv (keyOf (en 4 7))) 23 (.tmp 62) rfl rfl (key_cells (H13.out.2.2.2.mod hS (fun f => f))) Try.underlying23 rfl (by rw [bv_len, keyOf_len l4]; exact size_keyT)) (fun K hK => ?_); go_simp; refine hK _ ?_; clear hK K
      refine pc_call rfl rfl (fun K hK => ?_); go_simp; refine ⟨_, _, ⟨rfl, rfl⟩, hK _ _ _ ?_⟩; clear hK K
      refine (key16_any _ 4).mono ?_
      rintro r w14 ⟨rfl, m14⟩
      rw [show pk 4 = 4 from pk_small (k := 4) (by omega)]
      refine ⟨_, rfl, m14.of_drew, ?_⟩
      have H14 := Lib.hid m14.of_drew
      clear m14
      rw [keyOf_en]
      refine pc_take (.bool true) rfl rfl (fun w' _ => exec_eql_agg (P := Try.prog) (b := true) 23 23 _ _ rfl rfl rfl Try.eqGuardType23 (by have := eqK3 (w := w') (kn_len 4) (kn_len 4) (kn_lt (k := 4) (by omega)) (kn_lt (k := 4) (by omega)); rwa [decide_eq_true rfl] at this)) (fun K hK => ?_); go_simp; refine hK _ ?_; clear hK K
      iterate 11 (refine pc_pure rfl rfl (fun K hK => ?_); go_simp; refine hK _ ?_; clear hK K)
      refine pc_call rfl rfl (fun K hK => ?_); go_simp; refine ⟨_, _, ⟨rfl, rfl⟩, hK _ _ _ ?_⟩; clear hK K
      refine (tlen_any (H13.out.1.nn H14.out)).mono ?_
      rintro r w15 ⟨rfl, m15⟩
      rw [awD2_len]
      refine ⟨_, rfl, H14.out.nn_ m15, ?_⟩
      have H15 := Lib.hid (H14.out.nn_ m15)
      clear m15
      iterate 3 (refine pc_pure rfl rfl (fun K hK => ?_); go_simp; refine hK _ ?_; clear hK K)
      refine pc_nil ?_
      go_wp2
      go_ret
      exact ⟨rfl, H13.out.2.1.nn_ H15.out⟩
end Go.Proofs.Ytkcpmkeckcnobaa
