/- peatbanklaw16.TreeEmpties. -/
import Derived.Test.YtkcpmkeckcnobaaTr33
namespace Go.Proofs.Ytkcpmkeckcnobaa
open Go.RowKit

theorem size_int : (Try.prog.info? 3).map (·.size) = some 1 := by kernel_rfl
section
variable {w : World} {A : Option Addr} {n c : Nat} {zs : List Int}
set_option maxRecDepth 100000 in
set_option maxHeartbeats 6400000 in
theorem empties_any (hr : IntsAt w A n zs) (bk : Bool) : Calls Try.prog 7 #[.slice A n c, .bool bk] w fun r w' => r = .returned (.bool true) ∧ Mod Nn w w' := by
  have hzl := hr.len
  have HA := Lib.hid hr
  have HZ := Lib.hid hzl
  clear hr hzl
  go_enter Try.func7, Try.ntmps7
  go_wp2_with fail
  refine (awake16 w).mono ?_
  rintro r w0 ⟨rfl, m0⟩
  have H0 := Lib.hid m0
  clear m0
  by_cases hbig : 400 < n
  · have hbig' : (400 : Int) < n := by omega
    go_wp2
    go_ret
    exact ⟨rfl, H0.out⟩
  have hsm : ¬ (400 : Int) < n := by omega
  go_wp2_with fail
  refine (tnew_any w0).mono ?_
  rintro r w1 ⟨b, G1, rfl, ht1, hG1, m1⟩
  have hs0 : w.heap.size ≤ w0.heap.size := H0.out.size
  have H1 := Lib.hid (show TrAt w1 b [] G1 ∧ (∀ g ∈ G1, w.heap.size ≤ g) ∧ Mod Nn w w1 from ⟨ht1, fun g hg => by have := hG1 g hg; omega, H0.out.nn_ m1⟩)
  clear ht1 hG1 m1
  go_wp2_with fail
  -- zzA
  go_loopw [6] (fun i wr => ∃ (j : Nat) (G : List Nat), j ≤ n ∧ i = .int .i64 j ∧ Hid (TrAt wr b (setsL [] ((zs0 zs).take j)) G ∧ (∀ g ∈ G, w.heap.size ≤ g) ∧ Mod Nn w wr ∧ (setsL [] ((zs0 zs).take j)).length ≤ j)) (fun i _ => n - (intOf i).toNat)
  case atStart => exact ⟨0, G1, by omega, rfl, Lib.hid ⟨H1.out.1, H1.out.2.1, H1.out.2.2, Nat.le_refl _⟩⟩
  case round =>
    obtain ⟨j, G, hj, rfl, HR⟩ := hrel
    have hsr : w.heap.size ≤ wr.heap.size := HR.out.2.2.1.size
    by_cases hjn : j < n
    · have hj' : (j : Int) < n := by omega
      obtain ⟨z, hz⟩ := ints_get HA.out.len hjn
      have hcz := (HA.out.nn HR.out.2.2.1)
      obtain ⟨gA, oA, rfl, hcA⟩ := hcz.at_ (by omega)
      have hcA := hcA _ _ hz
      have HO := Lib.hid (zs0_at hz)
      clear hz hcz
      go_wp2_with (first
        | (with_reducible change wpList _ _ _ (⟨some 26, _, _, _, _, _⟩ :: _) _ _
           go_must (refine wpList_val rfl (exec_elem (P := Try.prog) (g := gA) (off := oA) (q := j) 64 _ _ rfl 3 1 uuI size_int rfl rfl (by omega)) ?_))
        | (with_reducible change wpList _ _ _ (⟨some 27, _, _, _, _, _⟩ :: _) _ _
           go_must (refine wpList_val rfl (exec_load1 (P := Try.prog) (v := .int .i64 z) (ad := ⟨gA, oA + j, none⟩) 3 _ rfl (by rw [Nat.mul_one]; rfl) hcA Try.underlying3 rfl) ?_))
        | (with_reducible change wpList _ _ _ (⟨some 28, _, _, _, _, _⟩ :: _) _ _
           go_must (refine wpList_val rfl (exec_deed1 rfl rfl) ?_)))
      clear hcA
      refine (entry16_any wr 0 z 0 (by omega)).mono ?_
      rintro r w4 ⟨rfl, m4⟩
      have H4 := Lib.hid m4
      have hs4 : wr.heap.size ≤ w4.heap.size := m4.size
      clear m4
      go_wp2_with fail
      refine (tset_any (HR.out.1.nn H4.out) (en_len _ _) (en_lt (pk_spec z).2 (by omega)) (by have := HR.out.2.2.2; omega)).mono ?_
      rintro r w5 ⟨rfl, G5, ht5, hG5, m5⟩
      rw [← setsL_take HO.out] at ht5
      have hl5 : (setsL [] ((zs0 zs).take (j + 1))).length ≤ j + 1 := by
        have := setsL_len ((zs0 zs).take (j + 1)) (L := []) List.Pairwise.nil
        rw [List.length_take] at this
        simp only [List.length_nil] at this
        omega
      have H5 := Lib.hid (show TrAt w5 b (setsL [] ((zs0 zs).take (j + 1))) G5 ∧ (∀ g ∈ G5, w.heap.size ≤ g) ∧ Mod Nn w w5 ∧ (setsL [] ((zs0 zs).take (j + 1))).length ≤ j + 1 from ⟨ht5, fun g hg => (hG5 g hg).elim (HR.out.2.1 g) (fun h => by omega), (HR.out.2.2.1.nn_ H4.out).then_ m5 (fun g hg h => by have := HR.out.2.1 g h; omega), hl5⟩)
      clear ht5 hG5 m5 hl5
      go_wp2
      exact ⟨⟨j + 1, G5, by omega, by go_num, H5⟩, by simp [intOf]; omega⟩
    · have hje : n = j := by omega
      subst hje
      have hall : (zs0 zs).take n = zs0 zs := List.take_of_length_le (by rw [zs0_len, HZ.out]; exact Nat.le_refl _)
      rw [hall] at HR
      clear hall hj
      go_wp2_with fail
      -- zzB
      go_loopw [7] (fun i wr => ∃ (j : Nat) (G : List Nat), j ≤ n ∧ i = .int .i64 j ∧ Hid (TrAt wr b (delsL (setsL [] (zs0 zs)) ((ordB bk zs).take j)) G ∧ (∀ g ∈ G, w.heap.size ≤ g) ∧ Mod Nn w wr ∧ (delsL (setsL [] (zs0 zs)) ((ordB bk zs).take j)).length ≤ 400)) (fun i _ => n - (intOf i).toNat)
      case atStart => exact ⟨0, G, by omega, rfl, Lib.hid ⟨HR.out.1, HR.out.2.1, HR.out.2.2.1, by have := HR.out.2.2.2; show (setsL [] (zs0 zs)).length ≤ 400; omega⟩⟩
      case round =>
        clear HR hsr G
        obtain ⟨j, G, hj, rfl, HR⟩ := hrel
        have hsr : w.heap.size ≤ wr.heap.size := HR.out.2.2.1.size
        by_cases hjn : j < n
        · cases bk
          · have hj' : (j : Int) < n := by omega
            obtain ⟨z, hz⟩ := ints_get HA.out.len (show j < n by omega)
            have hoz : (ordB false zs)[j]? = some z := by rw [ordB_false]; exact hz
            have hcz := (HA.out.nn HR.out.2.2.1)
            obtain ⟨gA, oA, rfl, hcA⟩ := hcz.at_ (by omega)
            have hcA := hcA _ _ hz
            have HO := Lib.hid hoz
            clear hz hoz hcz
            go_wp2_with (first
              | (with_reducible change wpList _ _ _ (⟨some 47, _, _, _, _, _⟩ :: _) _ _
                 go_must (refine wpList_val rfl (exec_elem (P := Try.prog) (g := gA) (off := oA) (q := j) 64 _ _ rfl 3 1 uuI size_int rfl rfl (by omega)) ?_))
              | (with_reducible change wpList _ _ _ (⟨some 48, _, _, _, _, _⟩ :: _) _ _
                 go_must (refine wpList_val rfl (exec_load1 (P := Try.prog) (v := .int .i64 z) (ad := ⟨gA, oA + j, none⟩) 3 _ rfl (by rw [Nat.mul_one]; rfl) hcA Try.underlying3 rfl) ?_)))
            clear hcA
            refine (key16_any wr z).mono ?_
            rintro r w4 ⟨rfl, m4⟩
            have H4 := Lib.hid m4
            have hs4 : wr.heap.size ≤ w4.heap.size := m4.size
            clear m4
            go_wp2_with fail
            refine (tdel_any (HR.out.1.nn H4.out) (kn_len _) (kn_lt (pk_spec z).2) (by have := HR.out.2.2.2; omega)).mono ?_
            rintro r w5 ⟨rfl, G5, ht5, hG5, m5⟩
            obtain ⟨er, her⟩ : ∃ er : Int, (if has (delsL (setsL [] (zs0 zs)) ((ordB false zs).take j)) (kn (pk z)) then 0 else 6 : Int) = er := ⟨_, rfl⟩
            rw [her]
            clear her
            rw [← delsL_take HO.out] at ht5
            have hl5 : (delsL (setsL [] (zs0 zs)) ((ordB false zs).take (j + 1))).length ≤ 400 := by
              rw [delsL_take HO.out]
              have := len_dele (k := kn (pk z)) HR.out.1.srt
              have := HR.out.2.2.2
              omega
            have H5 := Lib.hid (show TrAt w5 b (delsL (setsL [] (zs0 zs)) ((ordB false zs).take (j + 1))) G5 ∧ (∀ g ∈ G5, w.heap.size ≤ g) ∧ Mod Nn w w5 ∧ (delsL (setsL [] (zs0 zs)) ((ordB false zs).take (j + 1))).length ≤ 400 from ⟨ht5, fun g hg => (hG5 g hg).elim (HR.out.2.1 g) (fun h => by omega), (HR.out.2.2.1.nn_ H4.out).then_ m5 (fun g hg h => by have := HR.out.2.1 g h; omega), hl5⟩)
            clear ht5 hG5 m5 hl5
            go_wp2
            exact ⟨⟨j + 1, G5, by omega, by go_num, H5⟩, by simp [intOf]; omega⟩
          · have hj' : (j : Int) < n := by omega
            obtain ⟨z, hz⟩ := ints_get HA.out.len (show (n - 1 - j) < n by omega)
            have hoz : (ordB true zs)[j]? = some z := by rw [ordB_true HA.out.len hjn]; exact hz
            have hcz := (HA.out.nn HR.out.2.2.1)
            obtain ⟨gA, oA, rfl, hcA⟩ := hcz.at_ (by omega)
            have hcA := hcA _ _ hz
            have HO := Lib.hid hoz
            clear hz hoz hcz
            go_wp2_with (first
              | (with_reducible change wpList _ _ _ (⟨some 47, _, _, _, _, _⟩ :: _) _ _
                 go_must (refine wpList_val rfl (exec_elem (P := Try.prog) (g := gA) (off := oA) (q := (n - 1 - j)) 64 _ _ rfl 3 1 uuI size_int rfl (by rw [show ((n - 1 - j : Nat) : Int) = (n : Int) - 1 - j from by omega]; rfl) (by omega)) ?_))
              | (with_reducible change wpList _ _ _ (⟨some 48, _, _, _, _, _⟩ :: _) _ _
                 go_must (refine wpList_val rfl (exec_load1 (P := Try.prog) (v := .int .i64 z) (ad := ⟨gA, oA + (n - 1 - j), none⟩) 3 _ rfl (by rw [Nat.mul_one]; rfl) hcA Try.underlying3 rfl) ?_)))
            clear hcA
            refine (key16_any wr z).mono ?_
            rintro r w4 ⟨rfl, m4⟩
            have H4 := Lib.hid m4
            have hs4 : wr.heap.size ≤ w4.heap.size := m4.size
            clear m4
            go_wp2_with fail
            refine (tdel_any (HR.out.1.nn H4.out) (kn_len _) (kn_lt (pk_spec z).2) (by have := HR.out.2.2.2; omega)).mono ?_
            rintro r w5 ⟨rfl, G5, ht5, hG5, m5⟩
            obtain ⟨er, her⟩ : ∃ er : Int, (if has (delsL (setsL [] (zs0 zs)) ((ordB true zs).take j)) (kn (pk z)) then 0 else 6 : Int) = er := ⟨_, rfl⟩
            rw [her]
            clear her
            rw [← delsL_take HO.out] at ht5
            have hl5 : (delsL (setsL [] (zs0 zs)) ((ordB true zs).take (j + 1))).length ≤ 400 := by
              rw [delsL_take HO.out]
              have := len_dele (k := kn (pk z)) HR.out.1.srt
              have := HR.out.2.2.2
              omega
            have H5 := Lib.hid (show TrAt w5 b (delsL (setsL [] (zs0 zs)) ((ordB true zs).take (j + 1))) G5 ∧ (∀ g ∈ G5, w.heap.size ≤ g) ∧ Mod Nn w w5 ∧ (delsL (setsL [] (zs0 zs)) ((ordB true zs).take (j + 1))).length ≤ 400 from ⟨ht5, fun g hg => (hG5 g hg).elim (HR.out.2.1 g) (fun h => by omega), (HR.out.2.2.1.nn_ H4.out).then_ m5 (fun g hg h => by have := HR.out.2.1 g h; omega), hl5⟩)
            clear ht5 hG5 m5 hl5
            go_wp2
            exact ⟨⟨j + 1, G5, by omega, by go_num, H5⟩, by simp [intOf]; omega⟩
        · have hje : n = j := by omega
          subst hje
          have hall : (ordB bk zs).take n = ordB bk zs := List.take_of_length_le (by rw [ordB_len, HZ.out]; exact Nat.le_refl _)
          rw [hall, empties ordB_mem] at HR
          clear hall hj
          go_wp2_with fail
          refine (tnodes_any HR.out.1 (by simp)).mono ?_
          rintro r w5 ⟨v5, i5, Us, rfl, hN, m5⟩
          obtain ⟨hU1, hi0⟩ := nodesT_nil hN.is_
          subst hi0
          have hl1 : Us.length = 1 := by have := congrArg List.length hU1; simpa using this
          obtain ⟨t, rfl⟩ := List.length_eq_one_iff.1 hl1
          have hn0 : t.n = ⟨true, [], [], []⟩ := by simpa using hU1
          have hrow : w5.ownsRow wr.heap.size 77 4 v5 1 t.cells := by have := hN.row; rwa [flat_one] at this
          obtain ⟨g5, p5, _, rfl, _⟩ := own_blk hrow (by omega)
          have hc0 : w5.cell? ⟨g5, 0, none⟩ = some (.bool true) := own_cell hrow (by simp [TN.cells, hn0])
          have hc1 : w5.cell? ⟨g5, 1, none⟩ = some (.slice t.eA 0 t.ec) := own_cell hrow (by simp [TN.cells, hn0])
          have hgw5 : g5 < w5.heap.size := own_lt hrow
          have H5 := Lib.hid (And.intro (HR.out.1.nn m5) (And.intro (HR.out.2.2.1.nn_ m5) (And.intro hc0 hc1)))
          clear hN m5 hc0 hc1 hrow hU1 hn0 hl1
          go_wp2_with fail
          refine (tlen_any H5.out.1).mono ?_
          rintro r w6 ⟨rfl, m6⟩
          have hc0 : w6.cell? ⟨g5, 0, none⟩ = some (.bool true) := (m6.cell (p := ⟨g5, 0, none⟩) hgw5 (fun f => f)).trans H5.out.2.2.1
          have hc1 : w6.cell? ⟨g5, 1, none⟩ = some (.slice t.eA 0 t.ec) := (m6.cell (p := ⟨g5, 1, none⟩) hgw5 (fun f => f)).trans H5.out.2.2.2
          have H6 := Lib.hid (H5.out.2.1.nn_ m6)
          clear m6
          -- zzE
          go_wp2
          go_ret
          exact ⟨rfl, H6.out⟩
end
end Go.Proofs.Ytkcpmkeckcnobaa
