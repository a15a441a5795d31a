/- peatbanklaw15.NodeRise: the walk. -/
import Derived.Test.YtjndcgpfikngaaaNdRi
namespace Go.Proofs.Ytjndcgpfikngaaa
open Go.RowKit

/-- after the copies: one with an entry less, one with an entry twice -/
theorem less_right {L : List (List Nat)} (h : Rows 80 L) (hl : L.length ≤ 12) (hr : riseB (L.map keyOf) = true) {a : Nat} (ha : a < L.length) : (⟨true, L.take a ++ L.drop (a + 1), [], []⟩ : Nd).right = true := by
  unfold Nd.right
  rw [if_pos rfl]
  have h2 : riseB ((L.take a ++ L.drop (a + 1)).map keyOf) = true := by
    rw [List.map_append, List.map_take, List.map_drop]
    exact rise_less hr (by rw [List.length_map]; exact ha)
  simp only [h2, List.length_append, List.length_take, List.length_drop]
  simp
  omega
theorem twice_wrong {L : List (List Nat)} {a : Nat} {r : List Nat} (hi : L[a]? = some r) : (⟨true, L ++ [r], [], []⟩ : Nd).right = false := by
  unfold Nd.right
  rw [if_pos rfl]
  have ha := (List.getElem?_eq_some_iff.1 hi).1
  have h2 : riseB ((L ++ [r]).map keyOf) = false := by
    rw [List.map_append]
    exact rise_twice (a := a) (x := keyOf r) (by rw [List.length_map]; exact ha) (by rw [List.getD_eq_getElem?_getD, List.getElem?_map, hi]; rfl)
  simp only [h2, Bool.and_false]
theorem rows_sub {s : Nat} {L : List (List Nat)} (h : Rows s L) (a : Nat) : Rows s (L.take a ++ L.drop (a + 1)) := fun r hr => (List.mem_append.1 hr).elim (fun hr => h r (List.mem_of_mem_take hr)) (fun hr => h r (List.mem_of_mem_drop hr))
theorem flat_snoc' (L : List (List Nat)) (r : List Nat) : bv (L ++ [r]).flatten = bv L.flatten ++ bv r := by simp [bv]
section
variable {w : World} {N : Nd} {EA KA CA : Option Addr} {en ec kn kc cn cc : Nat}
set_option maxRecDepth 100000 in
set_option maxHeartbeats 6400000 in
theorem nrise_any (x : Int) (h : NdQ w N EA en KA kn CA cn) (hs : en + kn + cn ≤ 9223372036854775807) :
    Calls Try.prog 10 #[ndV N.leaf EA en ec KA kn kc CA cn cc, .int .i64 x] w fun r w' => r = .returned (.bool true) ∧ Mod Nn w w' := by
  obtain ⟨lf, hlf⟩ : ∃ lf, N.leaf = lf := ⟨_, rfl⟩
  rw [hlf]
  have m0 : Mod Nn w (w.alloc (.cells #[.bool lf, .slice EA en ec, .slice KA kn kc, .slice CA cn cc] 48)) := (Mod.refl Nn w).alloc _
  have b0 : Blk (w.alloc (.cells #[.bool lf, .slice EA en ec, .slice KA kn kc, .slice CA cn cc] 48)) w.heap.size 48 #[.bool lf, .slice EA en ec, .slice KA kn kc, .slice CA cn cc] := Blk.new _ _ _
  have H0 := Lib.hid (And.intro m0 b0)
  have HG := Lib.hid (fun w => great_any (w := w) (EA := EA) (KA := KA) (CA := CA) (ec := ec) (kc := kc) (cc := cc) (lf := lf) hs)
  clear m0 b0
  unfold ndV at *
  go_enter Try.func10, Try.ntmps10
  go_wp2_with fail
  refine (nd_awake _).mono ?_
  rintro r w1 ⟨rfl, m1⟩
  have H1 := Lib.hid (And.intro (H0.out.1.nn_ m1) (H0.out.2.mod m1 (fun f => f)))
  clear m1
  go_wp2_with (first
    | (with_reducible change wpList _ _ _ (⟨some 11, Op.load _ _, _, _, _, _⟩ :: _) _ _
       go_must (refine wpList_load_var 48 _ rfl rfl w.heap.size _ _ _ rfl H1.out.2 Try.underlying48 rfl size_node ?_)))
  refine (HG.out _).mono ?_
  rintro r w2 ⟨rfl, m2⟩
  have H2 := Lib.hid (And.intro (H1.out.1.nn_ m2) (H1.out.2.mod m2 (fun f => f)))
  clear m2
  by_cases hbig : 3000 < en + kn + cn
  · rw [decide_eq_true hbig]
    clear h
    go_wp2
    go_ret
    exact ⟨rfl, H2.out.1⟩
  rw [decide_eq_false hbig]
  have C0 := H2.out.2.cell 0
  cases lf
  case false =>
    clear h
    go_wp2
    go_ret
    exact ⟨rfl, H2.out.1⟩
  case true =>
    have hn := h.r hbig
    have HN := Lib.hid (And.intro hn (And.intro hlf (show ∀ w', Mod Nn w w' → NdR w' N EA en KA kn CA cn from fun w' hm => hn.nn hm)))
    have hen : en ≤ 3000 := by omega
    have hr0 : N.right = ((kn == 0) && (cn == 0) && decide (en ≤ 12) && riseB (N.ents.map keyOf)) := by
      unfold Nd.right
      rw [if_pos hlf, hn.kl, hn.cl, hn.el]
    have hkl : (N.ents.map keyOf).length = en := by rw [List.length_map, hn.el]
    obtain ⟨K, hK⟩ : ∃ K, N.ents.map keyOf = K := ⟨_, rfl⟩
    rw [hK] at hr0 hkl
    obtain ⟨b0, hb0⟩ : ∃ b0 : Bool, (decide (en ≤ 12) && (kn == 0) && (cn == 0)) = b0 := ⟨_, rfl⟩
    have hr1 : N.right = (b0 && riseB K) := by
      rw [hr0, ← hb0]
      cases decide (en ≤ 12) <;> cases (kn == 0) <;> cases (cn == 0) <;> rfl
    have HR := Lib.hid (And.intro hr1 (And.intro hK (And.intro hkl hb0)))
    have C1 := H2.out.2.cell 1; have C2 := H2.out.2.cell 2; have C3 := H2.out.2.cell 3
    clear h hn hlf hbig hr0 hK hkl hr1 hb0
    go_upto_region 5 with fail
    go_cut [5] from 18 to 33 (fun v wx => v = .bool b0 ∧ wx = w2)
    case first =>
      have hb0 := HR.out.2.2.2
      clear HR HN
      by_cases h1 : en ≤ 12
      · have g1 : (en : Int) ≤ 12 := by omega
        by_cases h2 : kn = 0
        · have g2 : ((kn : Int) == 0) = true := by simp [h2]
          by_cases h3 : cn = 0
          · have g3 : ((cn : Int) == 0) = true := by simp [h3]
            have HV := Lib.hid (show b0 = true by rw [← hb0]; simp [h1, h2, h3])
            clear hb0 h1 h2 h3
            go_wp2
            go_meet
            exact ⟨by rw [HV.out], rfl⟩
          · have g3 : ((cn : Int) == 0) = false := by simp [h3]
            have HV := Lib.hid (show b0 = false by rw [← hb0]; simp [h3])
            clear hb0 h1 h2 h3
            go_wp2
            go_meet
            exact ⟨by rw [HV.out], rfl⟩
        · have g2 : ((kn : Int) == 0) = false := by simp [h2]
          have HV := Lib.hid (show b0 = false by rw [← hb0]; simp [h2])
          clear hb0 h1 h2
          go_wp2
          go_meet
          exact ⟨by rw [HV.out], rfl⟩
      · have g1 : decide ((en : Int) ≤ 12) = false := decide_eq_false (by omega)
        have HV := Lib.hid (show b0 = false by rw [← hb0]; simp [h1])
        clear hb0 h1
        go_wp2
        go_meet
        exact ⟨by rw [HV.out], rfl⟩
    case rest =>
      obtain ⟨rfl, rfl⟩ := hcut
      clear C0 C1 C2 C3
      go_wp2
      go_loopw [5, 6] (fun b i wr => ∃ k : Nat, (k + 1 ≤ en ∨ k = 0) ∧ i = .int .i64 k ∧ b = .bool (b0 && riseN K k) ∧ Hid (Mod Nn w wr ∧ Blk wr w.heap.size 48 #[.bool true, .slice EA en ec, .slice KA kn kc, .slice CA cn cc])) (fun _ i _ => en - (intOf i).toNat)
      case atStart => exact ⟨0, .inr rfl, rfl, (by cases b0 <;> rfl), H2⟩
      case round =>
        obtain ⟨k, hk, rfl, rfl, HH⟩ := hrel
        obtain ⟨wo, rfl⟩ : ∃ wo : World, wo = wr := ⟨_, rfl⟩
        have C1 : wo.cell? ⟨w.heap.size, 1, none⟩ = some (.slice EA en ec) := HH.out.2.cell 1
        by_cases hlt : k + 1 < en
        · have hlt' : (k : Int) + 1 < en := by omega
          have hlt0 : k < en := by omega
          have hlt1 : (0 : Int) ≤ (k : Int) + 1 := by omega
          have hsu := riseN_succ K k
          obtain ⟨rb, hrb⟩ : ∃ rb, (b0 && riseN K k) = rb := ⟨_, rfl⟩
          have HS := Lib.hid (And.intro hsu hrb)
          rw [hrb]
          clear hsu hrb
          cases rb
          case false =>
            have HE := Lib.hid (show Value.bool false = .bool (b0 && riseN K (k + 1)) by rw [HS.out.1, ← Bool.and_assoc, HS.out.2]; rfl)
            go_wp2_with fail
            refine wp_region_planC (fun w' => w'.cell? ⟨w.heap.size, 1, none⟩ = some (.slice EA en ec)) ((List.range 19).map (fun i => (i, true))) (by kernel_rfl) (by kernel_rfl) C1 ?_
            simp only [List.range, List.range.loop, List.map_cons, List.map_nil]
            iterate 2 (refine pc_pure rfl rfl (fun K hK => ?_); go_simp; refine hK _ ?_; clear hK K)
            iterate 15 (refine pc_skip rfl rfl (fun K hK => ?_); go_simp; refine hK _ ?_; clear hK K)
            iterate 2 (refine pc_pure rfl rfl (fun K hK => ?_); go_simp; refine hK _ ?_; clear hK K)
            refine pc_nil ?_
            clear C1
            go_wp2
            exact ⟨⟨k + 1, .inl (by omega), by go_num, HE.out, Lib.hid ⟨HH.out.1.drew, HH.out.2.drew⟩⟩, by simp [intOf]; omega⟩
          case true =>
            have hL := HN.out.1.el
            obtain ⟨r1, i1⟩ : ∃ r, N.ents[k]? = some r := ⟨_, List.getElem?_eq_getElem (by rw [hL]; omega)⟩
            obtain ⟨r2, i2⟩ : ∃ r, N.ents[k + 1]? = some r := ⟨_, List.getElem?_eq_getElem (by rw [hL]; omega)⟩
            obtain ⟨l1, z1⟩ := HN.out.1.ok.e r1 (List.mem_of_getElem? i1)
            obtain ⟨l2, z2⟩ := HN.out.1.ok.e r2 (List.mem_of_getElem? i2)
            have hrd := (HN.out.2.2 _ HH.out.1).e
            obtain ⟨g, off, hA1, hc1⟩ := hrd.row HN.out.1.ok.e i1 (by omega)
            obtain ⟨_, _, hA, hc2⟩ := hrd.row HN.out.1.ok.e i2 (by omega)
            rw [hA1] at hA
            injection hA with hA; injection hA with e1 e2 _; subst e1; subst e2
            have hin : g < wo.heap.size := by
              have h0 : 0 < (bv r1).length := by rw [bv_len, l1]; omega
              exact World.block_lt_of_cell? wo _ (hc1 0 (bv r1)[0] (List.getElem?_eq_getElem h0))
            have hk1 : ∀ j v, (bv (keyOf r1))[j]? = some v → wo.cell? ⟨g, off + k * 80 + j, none⟩ = some v := fun j v hv => by
              unfold keyOf at hv
              rw [bv_at, List.getElem?_take] at hv
              split at hv
              · exact hc1 j v (by rw [bv_at]; exact hv)
              · cases hv
            have hk2 : ∀ j v, (bv (keyOf r2))[j]? = some v → wo.cell? ⟨g, off + (k + 1) * 80 + j, none⟩ = some v := fun j v hv => by
              unfold keyOf at hv
              rw [bv_at, List.getElem?_take] at hv
              split at hv
              · exact hc2 j v (by rw [bv_at]; exact hv)
              · cases hv
            have hq1 : K.getD k [] = keyOf r1 := by rw [← HR.out.2.1, List.getD_eq_getElem?_getD, List.getElem?_map, i1]; rfl
            have hq2 : K.getD (k + 1) [] = keyOf r2 := by rw [← HR.out.2.1, List.getD_eq_getElem?_getD, List.getElem?_map, i2]; rfl
            have HE := Lib.hid (show Value.bool (decide (lexc (keyOf r1) (keyOf r2) < 0)) = .bool (b0 && riseN K (k + 1)) by rw [HS.out.1, ← Bool.and_assoc, HS.out.2, hq1, hq2]; rfl)
            have HX := Lib.hid (And.intro hk1 (And.intro hk2 hin))
            have HL := Lib.hid (And.intro (keyOf_len l1) (And.intro (keyOf_len l2) (And.intro (keyOf_lt z1) (keyOf_lt z2))))
            have HA := Lib.hid hA1
            clear l1 l2 z1 z2 i1 i2 hc1 hc2 hin hk1 hk2 hq1 hq2 hrd hL hA1
            generalize keyOf r1 = k1 at *
            generalize keyOf r2 = k2 at *
            have hEA := HA.out
            subst hEA
            go_wp2_with fail
            refine wp_region_planC (fun w' => Mod Nn wo w') [(0, true), (1, true), (2, true), (3, true), (4, true), (5, true), (6, true), (7, true), (8, true), (9, true), (10, true), (11, true), (12, true), (13, true), (14, true), (15, false), (16, true), (17, true), (18, true)] (by kernel_rfl) (by kernel_rfl) (Mod.refl Nn wo).drew ?_
            have HB1 := Lib.hid (show ∀ w', Mod Nn wo w' → w'.cell? ⟨w.heap.size, 1, none⟩ = some (.slice (some ⟨g, off, none⟩) en ec) from fun w' hm => (HH.out.2.mod hm (fun f => f)).cell 1)
            clear C1
            iterate 3 (refine pc_pure rfl rfl (fun K hK => ?_); go_simp; refine hK _ ?_; clear hK K)
            refine pc_take _ rfl rfl (fun w' hS => exec_load1 (P := Try.prog) 44 _ rfl rfl (HB1.out w' hS) Try.underlying44 rfl) (fun K hK => ?_); go_simp; refine hK _ ?_; clear hK K
            iterate 3 (refine pc_pure rfl rfl (fun K hK => ?_); go_simp; refine hK _ ?_; clear hK K)
            refine pc_take _ rfl rfl (fun w' hS => exec_load_cells (P := Try.prog) 58 _ rfl (cs := bv k1) rfl (fun j v hv => (hS.cell (p := ⟨g, off + k * 80 + j, none⟩) HX.out.2.2 (fun f => f)).trans (HX.out.1 j v hv)) Try.underlying58 rfl (by rw [size_tk, bv_len, HL.out.1])) (fun K hK => ?_); go_simp; refine hK _ ?_; clear hK K
            iterate 1 (refine pc_pure rfl rfl (fun K hK => ?_); go_simp; refine hK _ ?_; clear hK K)
            refine pc_take _ rfl rfl (fun w' hS => exec_load1 (P := Try.prog) 44 _ rfl rfl (HB1.out w' hS) Try.underlying44 rfl) (fun K hK => ?_); go_simp; refine hK _ ?_; clear hK K
            iterate 2 (refine pc_pure rfl rfl (fun K hK => ?_); go_simp; refine hK _ ?_; clear hK K)
            rw [show IntKind.i64.wrap ((k : Int) + 1) = ((k + 1 : Nat) : Int) from by rw [IntKind.wrap_i64]; omega]
            iterate 2 (refine pc_pure rfl rfl (fun K hK => ?_); go_simp; refine hK _ ?_; clear hK K)
            refine pc_take _ rfl rfl (fun w' hS => exec_load_cells (P := Try.prog) 58 _ rfl (cs := bv k2) rfl (fun j v hv => (hS.cell (p := ⟨g, off + (k + 1) * 80 + j, none⟩) HX.out.2.2 (fun f => f)).trans (HX.out.2.1 j v hv)) Try.underlying58 rfl (by rw [size_tk, bv_len, HL.out.2.1])) (fun K hK => ?_); go_simp; refine hK _ ?_; clear hK K
            refine pc_call rfl rfl (fun K hK => ?_); go_simp; refine ⟨_, _, ⟨rfl, rfl⟩, hK _ _ _ ?_⟩; clear hK K
            refine (ecompare_any _ HL.out.2.2.1 HL.out.2.2.2 HL.out.1 HL.out.2.1).mono ?_
            rintro e w9 ⟨rfl, m9⟩
            have q9 : Mod Nn wo w9 := (Mod.refl Nn wo).drew.nn_ m9
            refine ⟨_, rfl, q9, ?_⟩
            have H9 : Hid (Mod Nn w w9 ∧ Blk w9 w.heap.size 48 #[.bool true, .slice (some ⟨g, off, none⟩) en ec, .slice KA kn kc, .slice CA cn cc]) := Lib.hid ⟨HH.out.1.nn_ q9, HH.out.2.mod q9 (fun f => f)⟩
            clear m9 q9
            generalize lexc k1 k2 = X at *
            iterate 3 (refine pc_pure rfl rfl (fun K hK => ?_); go_simp; refine hK _ ?_; clear hK K)
            refine pc_nil ?_
            go_wp2
            exact ⟨⟨k + 1, .inl (by omega), by go_num, HE.out, H9⟩, by simp [intOf]; omega⟩
        · have hlt' : ¬ (k : Int) + 1 < en := by omega
          have hkl : k + 1 = K.length ∨ (k = 0 ∧ K.length = 0) := by rw [HR.out.2.2.1]; omega
          rw [riseN_all K hkl]
          rw [← HR.out.1]
          have hk9 : k ≤ 3000 := by omega
          clear hkl hlt hk
          go_wp2_with (first
            | (with_reducible change wpList _ _ _ (⟨some 61, Op.load _ _, _, _, _, _⟩ :: _) _ _
               go_must (refine wpList_load_var 48 _ rfl rfl w.heap.size _ _ _ rfl HH.out.2 Try.underlying48 rfl size_node ?_)))
          refine (nright_leaf (HN.out.2.2 _ HH.out.1) HN.out.2.1).mono ?_
          rintro r w3 ⟨rfl, m3⟩
          have H3 := Lib.hid (And.intro (HH.out.1.nn_ m3) (HH.out.2.mod m3 (fun f => f)))
          have hsz3 : w.heap.size < w3.heap.size := H3.out.2.lt
          have HZ3 := Lib.hid hsz3
          clear m3 C1 hsz3
          obtain ⟨R, hR⟩ : ∃ R, N.right = R := ⟨_, rfl⟩
          rw [hR]
          cases R
          case false =>
            clear hR
            go_wp2
            go_ret
            exact ⟨rfl, H3.out.1⟩
          case true =>
            obtain ⟨q1, q2, q3, q4, _⟩ := nd_right hR
            have q5 := q4 HN.out.2.1
            have hrB : riseB K = true := (Bool.and_eq_true_iff.1 (show (b0 && riseB K) = true by rw [← HR.out.1]; exact hR)).2
            have hel := HN.out.1.el; have hkl := HN.out.1.kl; have hcl := HN.out.1.cl
            have hk0 : kn = 0 := by omega
            have hc0 : cn = 0 := by omega
            have hen12 : en ≤ 12 := by omega
            subst hk0; subst hc0
            have HQ := Lib.hid (And.intro hrB (And.intro hel (And.intro hkl hcl)))
            clear q1 q2 q3 q4 q5 hrB hkl hcl hR
            have C1 : w3.cell? ⟨w.heap.size, 1, none⟩ = some (.slice EA en ec) := H3.out.2.cell 1
            by_cases h0 : en = 0
            · have g0 : ((en : Int) == 0) = true := by simp [h0]
              clear h0 hel
              go_wp2
              go_ret
              exact ⟨rfl, H3.out.1⟩
            have g0 : ((en : Int) == 0) = false := by simp [h0]
            go_wp2_with fail
            clear g0
            refine (pick_any x en _ (by omega)).mono ?_
            rintro r w4 ⟨rfl, rfl⟩
            have hpk := pick_range x (en : Int) (by omega)
            obtain ⟨a, ha⟩ : ∃ a : Nat, pick x en = a := ⟨(pick x en).toNat, by omega⟩
            rw [ha] at hpk ⊢
            have hae : a < en := by omega
            clear ha hpk C1
            obtain ⟨rr, i1⟩ : ∃ r, N.ents[a]? = some r := ⟨_, List.getElem?_eq_getElem (by rw [hel]; exact hae)⟩
            have HI := Lib.hid (And.intro i1 (HN.out.1.ok.e rr (List.mem_of_getElem? i1)))
            clear i1 hel
            go_wp2_with (first
              | (with_reducible change wpList _ _ _ (⟨some 77, Op.load _ _, _, _, _, _⟩ :: _) _ _
                 go_must (refine wpList_load_var 48 _ rfl rfl w.heap.size _ _ _ rfl H3.out.2 Try.underlying48 rfl size_node ?_)))
            refine (copyN_any (lf := true) (HN.out.2.2 _ H3.out.1)).mono ?_
            rintro r w5 ⟨ev, kv, cv, rfl, n5, m5⟩
            have hoe := n5.e
            rw [HQ.out.2.1] at hoe
            obtain ⟨g1, cap1, cur1, rfl, hg1, hb1, hnc1, hcm1, _, _⟩ := own_blk hoe (by omega)
            obtain ⟨K1, kc1, rfl, _, _⟩ := own_form n5.k
            obtain ⟨C1, cc1, rfl, _, _⟩ := own_form n5.c
            have hk1 := HQ.out.2.2.1; have hc1 := HQ.out.2.2.2
            rw [hk1, hc1]
            have H5 := Lib.hid (And.intro (H3.out.1.nn_ m5) (And.intro (H3.out.2.mod m5 (fun f => f)) (And.intro (own_base (base' := 0) hoe (fun _ _ => Nat.zero_le _)) (And.intro hg1 (And.intro hb1.lt hcm1)))))
            clear hk1 hc1 hoe n5 m5 hg1 hb1
            have hcm1' : cap1 ≤ 9223372036854775807 := by unfold maxLen at hcm1; omega
            clear hcm1
            go_upto_region 16 with (first
              | (with_reducible change wpList _ _ _ (⟨some 7, Op.alloc _, _, _, _, _⟩ :: _) _ _
                 go_must (refine wpList_alloc_var 48 rfl rfl info_node ?_)
                 intro wa ba ma za
                 have HA := Lib.hid (And.intro ba ma)
                 clear ba ma za)
              | (with_reducible change wpList _ _ _ (⟨none, Op.store _ (.tmp 7) _, _, _, _, _⟩ :: _) _ _
                 go_must (refine wpList_store_var 48 _ _ rfl rfl w5.heap.size #[.bool true, .slice (some ⟨g1, 0, none⟩) en cap1, .slice K1 0 kc1, .slice C1 0 cc1] _ _ rfl rfl HA.out.1 size_node rfl (one_nd _ _ _ _ _ _ _ _ _ _) ?_)
                 intro w6 b6 m6 z6
                 have q6 : Mod Nn w5 w6 := HA.out.2.new_ m6 (Nat.le_refl _)
                 have H6 : Hid (RiS w w6 w.heap.size w5.heap.size g1 #[.bool true, .slice EA en ec, .slice KA 0 kc, .slice CA 0 cc] #[.bool true, .slice (some ⟨g1, 0, none⟩) en cap1, .slice K1 0 kc1, .slice C1 0 cc1] en cap1 (bv N.ents.flatten)) :=
                   Lib.hid ⟨H5.out.1.nn_ q6, H5.out.2.1.mod q6 (fun f => f), b6, own_mod H5.out.2.2.1 q6 (fun _ _ f => f)⟩
                 clear b6 m6 z6 q6))
            have C6 : w6.cell? ⟨w5.heap.size, 1, none⟩ = some (.slice (some ⟨g1, 0, none⟩) en cap1) := H6.out.less.cell 1
            refine wp_region_planT (fun w' => w'.cell? ⟨w5.heap.size, 1, none⟩ = some (.slice (some ⟨g1, 0, none⟩) en cap1)) 11 [(0, 0), (1, 1), (2, 0), (3, 0), (4, 0), (5, 1), (6, 0), (7, 0), (8, 0), (9, 2), (10, 0), (11, 2)] (by kernel_rfl) (by kernel_rfl) C6 ?_
            iterate 1 (refine pt_pure rfl rfl (fun K hK => ?_); go_simp; refine hK _ ?_; clear hK K)
            refine pt_take _ rfl rfl (fun w' hS => exec_load1 (P := Try.prog) 44 _ rfl rfl hS Try.underlying44 rfl) (fun K hK => ?_); go_simp; refine hK _ ?_; clear hK K
            iterate 1 (refine pt_pure rfl rfl (fun K hK => ?_); go_simp; refine hK _ ?_; clear hK K)
            refine pt_is (.slice (some ⟨g1, 0, none⟩) a cap1) rfl rfl (fun w' => exec_sub_h0 (P := Try.prog) (n := en) 44 _ _ rfl 61 80 Try.underlying44 size_ent (by rfl) (by rfl) (by omega)) (fun K hK => ?_); go_simp; refine hK _ ?_; clear hK K
            iterate 1 (refine pt_pure rfl rfl (fun K hK => ?_); go_simp; refine hK _ ?_; clear hK K)
            refine pt_take _ rfl rfl (fun w' hS => exec_load1 (P := Try.prog) 44 _ rfl rfl hS Try.underlying44 rfl) (fun K hK => ?_); go_simp; refine hK _ ?_; clear hK K
            iterate 2 (refine pt_pure rfl rfl (fun K hK => ?_); go_simp; refine hK _ ?_; clear hK K)
            refine pt_is _ rfl rfl (fun w' => exec_sub_l (P := Try.prog) (w := w') (A := some ⟨g1, 0, none⟩) (n := en) (c := cap1) (l := a + 1) 44 _ _ rfl 61 80 Try.underlying44 size_ent (by rfl) (by first | rfl | exact congrArg (Value.int .i64) (by rw [IntKind.wrap_i64]; omega)) (by omega)) (fun K hK => ?_); go_simp; refine hK _ ?_; clear hK K
            have hroom : a + (en - (a + 1)) ≤ cap1 := by omega
            refine pt_append_spare 44 _ _ rfl rfl rfl _ 80 80 Try.underlying44 infoE rfl (own_pre (show w6.drew.ownsRow 0 61 80 (.slice (some ⟨g1, 0, none⟩) en cap1) en (bv N.ents.flatten) from H6.out.own) (k := a) (by omega)) rfl ((own_rdC (show w6.drew.ownsRow 0 61 80 (.slice (some ⟨g1, 0, none⟩) en cap1) en (bv N.ents.flatten) from H6.out.own)).post (c := cap1) (by omega) (a + 1) (by omega) hnc1) (fun u hu => bv_one _ u (List.mem_of_mem_drop hu)) hroom (fun w7 own7 gr7 => ?_)
            have m7 : Mod (At g1) w6 w7 := ((Mod.refl (At g1) w6).drew).grown gr7 (fun g h => .inr (by injection h with h; exact h.symm))
            have hlt7 : g1 < w5.heap.size ∧ w3.heap.size ≤ g1 := ⟨H5.out.2.2.2.2.1, H5.out.2.2.2.1⟩
            have H7 : Hid (Mod Nn w w7 ∧ Blk w7 w.heap.size 48 #[.bool true, .slice EA en ec, .slice KA 0 kc, .slice CA 0 cc] ∧ Blk w7 w5.heap.size 48 #[.bool true, .slice (some ⟨g1, 0, none⟩) en cap1, .slice K1 0 kc1, .slice C1 0 cc1] ∧ w7.ownsRow 0 61 80 (.slice (some ⟨g1, 0, none⟩) (a + (en - (a + 1))) cap1) (a + (en - (a + 1))) (bv (N.ents.take a ++ N.ents.drop (a + 1)).flatten)) :=
              Lib.hid ⟨H6.out.m.new_ m7 (by have := HZ3.out; omega), H6.out.box.mod m7 (fun e => by have e : w.heap.size = g1 := e; have := HZ3.out; omega), H6.out.less.mod m7 (fun e => by have e : w5.heap.size = g1 := e; omega), by rw [← flat_cut HN.out.1.ok.e a (by rw [HQ.out.2.1]; exact hae)]; exact own7⟩
            have C7 : w7.cell? ⟨w5.heap.size, 1, none⟩ = some (.slice (some ⟨g1, 0, none⟩) en cap1) := H7.out.2.2.1.cell 1
            have F7 := H7.out.2.2.1.frozen 1
            clear own7 gr7 m7 C6
            refine ⟨fun _ => C7, fun K hK => ?_⟩
            go_simp
            refine hK _ ?_
            clear hK K
            have hel1 : (N.ents.take a ++ N.ents.drop (a + 1)).length = a + (en - (a + 1)) := by rw [List.length_append, List.length_take, List.length_drop, HQ.out.2.1]; omega
            have HE1 := Lib.hid (And.intro hel1 (show a + (en - (a + 1)) ≤ 12 by omega))
            clear hel1
            generalize a + (en - (a + 1)) = e1 at *
            iterate 1 (refine pt_pure rfl rfl (fun K hK => ?_); go_simp; refine hK _ ?_; clear hK K)
            have H8 : Hid (RiS w (w7.setCell ⟨w5.heap.size, 1, none⟩ (.slice (some ⟨g1, 0, none⟩) e1 cap1)) w.heap.size w5.heap.size g1 #[.bool true, .slice EA en ec, .slice KA 0 kc, .slice CA 0 cc] #[.bool true, .slice (some ⟨g1, 0, none⟩) e1 cap1, .slice K1 0 kc1, .slice C1 0 cc1] e1 cap1 (bv (N.ents.take a ++ N.ents.drop (a + 1)).flatten)) := by
              have m8 : Mod (At w5.heap.size) w7 (w7.setCell ⟨w5.heap.size, 1, none⟩ (.slice (some ⟨g1, 0, none⟩) e1 cap1)) := Mod.cellAt _ _ _ _
              have hz := HZ3.out
              exact Lib.hid ⟨H7.out.1.new_ m8 (by omega), H7.out.2.1.mod m8 (fun e => by have e : w.heap.size = w5.heap.size := e; omega), H7.out.2.2.1.set_ 1 _, own_mod H7.out.2.2.2 m8 (fun g hg e => by injection hg with hg; have hg : g1 = g := hg; have e : g = w5.heap.size := e; omega)⟩
            refine pt_unit (w1 := w7.setCell ⟨w5.heap.size, 1, none⟩ (.slice (some ⟨g1, 0, none⟩) e1 cap1)) rfl rfl (exec_store1 (P := Try.prog) 44 _ _ rfl rfl rfl C7 F7 rfl rfl rfl (by kernel_rfl)) (fun h => by simp at h) (fun K hK => ?_); go_simp; refine hK _ ?_; clear hK K
            refine pt_nil ?_
            clear C7 F7 hroom
            generalize w7.setCell ⟨w5.heap.size, 1, none⟩ (.slice (some ⟨g1, 0, none⟩) e1 cap1) = w8 at *
            have HZ8 := Lib.hid (And.intro H8.out.less.lt (And.intro HZ3.out (show w3.heap.size < w5.heap.size by omega)))
            clear H5 H6 H7 HA hlt7
            go_wp2_with (first
              | (with_reducible change wpList _ _ _ (⟨some 90, Op.load _ _, _, _, _, _⟩ :: _) _ _
                 go_must (refine wpList_load_var 48 _ rfl rfl w.heap.size _ _ _ rfl H8.out.box Try.underlying48 rfl size_node ?_)))
            refine (copyN_any (lf := true) (HN.out.2.2 _ H8.out.m)).mono ?_
            rintro r w9 ⟨ev2, kv2, cv2, rfl, n9, m9⟩
            have hoe := n9.e
            rw [HQ.out.2.1] at hoe
            obtain ⟨g2, cap2, cur2, rfl, hg2, hb2, hnc2, hcm2, _, _⟩ := own_blk hoe (by omega)
            obtain ⟨K2, kc2, rfl, _, _⟩ := own_form n9.k
            obtain ⟨C2, cc2, rfl, _, _⟩ := own_form n9.c
            have hk1 := HQ.out.2.2.1; have hc1 := HQ.out.2.2.2
            rw [hk1, hc1]
            have H9 := Lib.hid (And.intro (H8.out.nn m9) (And.intro hoe (And.intro hg2 (And.intro hb2.lt m9.size))))
            clear hk1 hc1 hoe n9 m9 hg2 hb2
            have hcm2' : cap2 ≤ 9223372036854775807 := by unfold maxLen at hcm2; omega
            clear hcm2
            go_upto_region 18 with (first
              | (with_reducible change wpList _ _ _ (⟨some 8, Op.alloc _, _, _, _, _⟩ :: _) _ _
                 go_must (refine wpList_alloc_var 48 rfl rfl info_node ?_)
                 intro wa ba ma za
                 have HA := Lib.hid (And.intro ba ma)
                 clear ba ma za)
              | (with_reducible change wpList _ _ _ (⟨none, Op.store _ (.tmp 8) _, _, _, _, _⟩ :: _) _ _
                 go_must (refine wpList_store_var 48 _ _ rfl rfl w9.heap.size #[.bool true, .slice (some ⟨g2, 0, none⟩) en cap2, .slice K2 0 kc2, .slice C2 0 cc2] _ _ rfl rfl HA.out.1 size_node rfl (one_nd _ _ _ _ _ _ _ _ _ _) ?_)
                 intro w10 b10 m10 z10
                 have q10 : Mod Nn w9 w10 := HA.out.2.new_ m10 (Nat.le_refl _)
                 have H10 := Lib.hid (And.intro (H9.out.1.nn q10) (And.intro b10 (own_mod H9.out.2.1 q10 (fun _ _ f => f))))
                 clear b10 m10 z10 q10))
            obtain ⟨g, off, rfl, hc⟩ := HN.out.1.e.row HN.out.1.ok.e HI.out.1 (by omega)
            have hgw : g < w.heap.size := by
              have h0 : 0 < (bv rr).length := by rw [bv_len, HI.out.2.1]; omega
              exact World.block_lt_of_cell? w _ (hc 0 (bv rr)[0] (List.getElem?_eq_getElem h0))
            have hS : ∀ w', Mod (fun k => k = g2) w10 w' → w'.cell? ⟨w9.heap.size, 1, none⟩ = some (.slice (some ⟨g2, 0, none⟩) en cap2) ∧ w'.cell? ⟨w.heap.size, 1, none⟩ = some (.slice (some ⟨g, off, none⟩) en ec) ∧ (∀ j v, (bv rr)[j]? = some v → w'.cell? ⟨g, off + a * 80 + j, none⟩ = some v) := fun w' hm => by
              have h1 := H9.out.2.2; have h2 := HZ8.out; have h3 := H10.out.1.m.size
              refine ⟨(H10.out.2.1.mod hm (fun e => by have e : w9.heap.size = g2 := e; omega)).cell 1, (H10.out.1.box.mod hm (fun e => by have e : w.heap.size = g2 := e; omega)).cell 1, fun j v hv => ?_⟩
              have q1 := hm.cell (p := ⟨g, off + a * 80 + j, none⟩) (show g < w10.heap.size by omega) (fun e => by have e : g = g2 := e; omega)
              have q2 := H10.out.1.m.cell (p := ⟨g, off + a * 80 + j, none⟩) hgw (fun f => f)
              rw [q1, q2]
              exact hc j v hv
            have HS := Lib.hid hS
            clear hS hc
            refine wp_region_planT (fun w' => w'.cell? ⟨w9.heap.size, 1, none⟩ = some (.slice (some ⟨g2, 0, none⟩) en cap2) ∧ w'.cell? ⟨w.heap.size, 1, none⟩ = some (.slice (some ⟨g, off, none⟩) en ec) ∧ (∀ j v, (bv rr)[j]? = some v → w'.cell? ⟨g, off + a * 80 + j, none⟩ = some v)) 10 [(0, 0), (1, 1), (2, 0), (3, 1), (4, 0), (5, 0), (6, 1), (7, 2), (8, 2), (9, 0), (10, 2)] (by kernel_rfl) (by kernel_rfl) (HS.out _ (Mod.refl _ w10).drew) ?_
            iterate 1 (refine pt_pure rfl rfl (fun K hK => ?_); go_simp; refine hK _ ?_; clear hK K)
            refine pt_take _ rfl rfl (fun w' hS => exec_load1 (P := Try.prog) 44 _ rfl rfl hS.1 Try.underlying44 rfl) (fun K hK => ?_); go_simp; refine hK _ ?_; clear hK K
            iterate 1 (refine pt_pure rfl rfl (fun K hK => ?_); go_simp; refine hK _ ?_; clear hK K)
            refine pt_take _ rfl rfl (fun w' hS => exec_load1 (P := Try.prog) 44 _ rfl rfl hS.2.1 Try.underlying44 rfl) (fun K hK => ?_); go_simp; refine hK _ ?_; clear hK K
            iterate 2 (refine pt_pure rfl rfl (fun K hK => ?_); go_simp; refine hK _ ?_; clear hK K)
            refine pt_take _ rfl rfl (fun w' hS => exec_load_cells (P := Try.prog) 61 _ rfl (cs := bv rr) rfl hS.2.2 Try.underlying61 rfl (by rw [size_ent, bv_len, HI.out.2.1])) (fun K hK => ?_); go_simp; refine hK _ ?_; clear hK K
            have m11 : Mod Nn w10 (w10.drew.alloc (.cells (bv rr).toArray 61)) := (Mod.refl Nn w10).drew.alloc _
            have H11 := Lib.hid (And.intro m11 (And.intro (Blk.new w10.drew 61 (bv rr).toArray) (show (w10.drew.alloc (.cells (bv rr).toArray 61)).heap.size = w10.heap.size + 1 by simp)))
            clear m11
            refine pt_val rfl rfl (exec_bslice1 (P := Try.prog) 44 61 _ rfl (s := 80) Try.underlying44 info_ent (by omega) (by omega) rfl (X := (bv rr).toArray) rfl (by rw [bv_size, HI.out.2.1])) (fun _ => HS.out _ H11.out.1.nn) (fun K hK => ?_); go_simp; refine hK _ ?_; clear hK K
            generalize w10.drew.alloc (.cells (bv rr).toArray 61) = w11 at *
            have b11 : Blk w11 w10.heap.size 61 (bv rr).toArray := H11.out.2.1
            refine pt_append 44 _ _ rfl rfl rfl w8.heap.size 61 _ 80 80 Try.underlying44 infoE (by rw [Value.cells, bv_size, List.length_replicate]) (by omega) (.slice (some ⟨g2, 0, none⟩) en cap2) en _ rfl (own_mod H10.out.2.2 H11.out.1 (fun _ _ f => f)) _ 1 1 (bv rr) rfl (RdC.of_blk b11 (by rw [bv_len, HI.out.2.1])) (bv_one _) (by omega) (by omega) (by have := H9.out.2.2.2.2; have := H10.out.2.1.lt; have := H11.out.2.2; omega) (fun v12 w12 own12 gr12 ob12 => ?_)
            have m12 : Mod (fun k => k = g2) w11 w12 := (Mod.refl (fun k => k = g2) w11).grown gr12 (fun g h => .inr (by injection h with h; exact h.symm))
            have q12 : Mod (fun k => k = g2) w10 w12 := H11.out.1.nn.trans m12
            obtain ⟨A12, c12, rfl, -, -⟩ := own_form own12
            have hob : ∀ g, Of A12 g → g ≠ w9.heap.size := fun g hg e => by
              have h1 := of_own (m := en + 1) (c := c12) hg
              rcases ob12 with h | h
              · rw [h1] at h
                injection h with h
                have h : g = g2 := h
                have := H9.out.2.2.2.1; omega
              · rw [h1] at h
                injection h with h
                have := H11.out.2.2; have := H10.out.2.1.lt; omega
            have hbounds := HZ8.out; have hg2' := H9.out.2.2.1
            rw [← flat_snoc'] at own12
            have hS12 := HS.out _ q12
            have hg12 : g1 ≠ g2 := fun e => by
              have h1 := own_blk_lt H8.out.own (g := g1) rfl
              omega
            have H12 : Hid (RiS w w12 w.heap.size w5.heap.size g1 #[.bool true, .slice (some ⟨g, off, none⟩) en ec, .slice KA 0 kc, .slice CA 0 cc] #[.bool true, .slice (some ⟨g1, 0, none⟩) e1 cap1, .slice K1 0 kc1, .slice C1 0 cc1] e1 cap1 (bv (N.ents.take a ++ N.ents.drop (a + 1)).flatten) ∧ Blk w12 w9.heap.size 48 #[.bool true, .slice (some ⟨g2, 0, none⟩) en cap2, .slice K2 0 kc2, .slice C2 0 cc2] ∧ w12.ownsRow w8.heap.size 61 80 (.slice A12 (en + 1) c12) (en + 1) (bv (N.ents ++ [rr]).flatten)) :=
              Lib.hid ⟨H10.out.1.mod q12 (fun k hk e => by omega) (fun e => by have e : w.heap.size = g2 := e; omega) (fun e => by have e : w5.heap.size = g2 := e; omega) hg12, H10.out.2.1.mod q12 (fun e => by have e : w9.heap.size = g2 := e; have := H9.out.2.2.2.1; omega), own12⟩
            have C12 : w12.cell? ⟨w9.heap.size, 1, none⟩ = some (.slice (some ⟨g2, 0, none⟩) en cap2) := H12.out.2.1.cell 1
            have F12 := H12.out.2.1.frozen 1
            have HO := Lib.hid hob
            clear own12 gr12 ob12 m12 q12 hob b11 hg12
            refine ⟨fun _ => hS12, fun K hK => ?_⟩
            go_simp
            refine hK _ ?_
            clear hK K hS12
            iterate 1 (refine pt_pure rfl rfl (fun K hK => ?_); go_simp; refine hK _ ?_; clear hK K)
            have H13 : Hid (RiS w (w12.setCell ⟨w9.heap.size, 1, none⟩ (.slice A12 (en + 1) c12)) w.heap.size w5.heap.size g1 #[.bool true, .slice (some ⟨g, off, none⟩) en ec, .slice KA 0 kc, .slice CA 0 cc] #[.bool true, .slice (some ⟨g1, 0, none⟩) e1 cap1, .slice K1 0 kc1, .slice C1 0 cc1] e1 cap1 (bv (N.ents.take a ++ N.ents.drop (a + 1)).flatten) ∧ Blk (w12.setCell ⟨w9.heap.size, 1, none⟩ (.slice A12 (en + 1) c12)) w9.heap.size 48 #[.bool true, .slice A12 (en + 1) c12, .slice K2 0 kc2, .slice C2 0 cc2] ∧ (w12.setCell ⟨w9.heap.size, 1, none⟩ (.slice A12 (en + 1) c12)).ownsRow w8.heap.size 61 80 (.slice A12 (en + 1) c12) (en + 1) (bv (N.ents ++ [rr]).flatten)) := by
              have m13 : Mod (At w9.heap.size) w12 (w12.setCell ⟨w9.heap.size, 1, none⟩ (.slice A12 (en + 1) c12)) := Mod.cellAt _ _ _ _
              have h9 := H9.out.2.2.2
              have h1 := own_blk_lt H8.out.own (g := g1) rfl
              exact Lib.hid ⟨H12.out.1.mod m13 (fun k hk e => by have e : k = w9.heap.size := e; omega) (fun e => by have e : w.heap.size = w9.heap.size := e; omega) (fun e => by have e : w5.heap.size = w9.heap.size := e; omega) (fun e => by have e : g1 = w9.heap.size := e; omega), H12.out.2.1.set_ 1 _, own_mod H12.out.2.2 m13 (fun k hk e => HO.out k (own_of hk) e)⟩
            refine pt_unit (w1 := w12.setCell ⟨w9.heap.size, 1, none⟩ (.slice A12 (en + 1) c12)) rfl rfl (exec_store1 (P := Try.prog) 44 _ _ rfl rfl rfl C12 F12 rfl rfl rfl (by kernel_rfl)) (fun h => by simp at h) (fun K hK => ?_); go_simp; refine hK _ ?_; clear hK K
            refine pt_nil ?_
            clear C12 F12
            generalize w12.setCell ⟨w9.heap.size, 1, none⟩ (.slice A12 (en + 1) c12) = w13 at *
            clear H8 H9 H10 H11 H12 HS HO HA hbounds hg2' hgw
            go_wp2_with (first
              | (with_reducible change wpList _ _ _ (⟨some 102, Op.load _ _, _, _, _, _⟩ :: _) _ _
                 go_must (refine wpList_load_var 48 _ rfl rfl w5.heap.size _ _ _ rfl H13.out.1.less Try.underlying48 rfl size_node ?_)))
            have hent := HN.out.1.ok.e
            have hel := HQ.out.2.1
            refine (nright_leaf (N := ⟨true, N.ents.take a ++ N.ents.drop (a + 1), [], []⟩) (EA := some ⟨g1, 0, none⟩) (KA := K1) (CA := C1) (en := e1) (kn := 0) (cn := 0) (ec := cap1) (kc := kc1) (cc := cc1) ⟨own_rdC H13.out.1.own, ⟨rfl, fun h => absurd h (by omega)⟩, ⟨rfl, fun h => absurd h (by omega)⟩, HE1.out.1, rfl, rfl, ⟨rows_sub hent a, (fun r hr => by cases hr)⟩, by have := HE1.out.2; omega, by omega, by omega⟩ rfl).mono ?_
            rintro r w14 ⟨rfl, m14⟩
            rw [less_right hent (by omega) (by rw [HR.out.2.1]; exact HQ.out.1) (by omega)]
            have H14 := Lib.hid (And.intro (H13.out.1.m.nn_ m14) (And.intro (H13.out.2.1.mod m14 (fun f => f)) (own_mod H13.out.2.2 m14 (fun _ _ f => f))))
            clear m14
            go_wp2_with (first
              | (with_reducible change wpList _ _ _ (⟨some 105, Op.load _ _, _, _, _, _⟩ :: _) _ _
                 go_must (refine wpList_load_var 48 _ rfl rfl w9.heap.size _ _ _ rfl H14.out.2.1 Try.underlying48 rfl size_node ?_)))
            refine (nright_leaf (N := ⟨true, N.ents ++ [rr], [], []⟩) (EA := A12) (KA := K2) (CA := C2) (en := en + 1) (kn := 0) (cn := 0) (ec := c12) (kc := kc2) (cc := cc2) ⟨own_rdC H14.out.2.2, ⟨rfl, fun h => absurd h (by omega)⟩, ⟨rfl, fun h => absurd h (by omega)⟩, by simp [hel], rfl, rfl, ⟨fun r hr => (List.mem_append.1 hr).elim (hent r) (fun h => by rw [List.mem_singleton.1 h]; exact HI.out.2), (fun r hr => by cases hr)⟩, by omega, by omega, by omega⟩ rfl).mono ?_
            rintro r w15 ⟨rfl, m15⟩
            rw [twice_wrong HI.out.1]
            have H15 := Lib.hid (H14.out.1.nn_ m15)
            clear m15
            go_wp2
            go_ret
            exact ⟨rfl, H15.out⟩
end
end Go.Proofs.Ytjndcgpfikngaaa
