/- The document's row of all entries: peatbankref17.All. -/
import Derived.Test.YtkcpmkeckcnobaaGreatWk5
import Derived.Test.YtkcpmkeckcnobaaGreatRCmp
namespace Go.Proofs.YtkcpmkeckcnobaaGreat
open Go.RowKit

theorem rcmp_any' {a b : List Nat} (w : World) (ha : a.length = 40) (hb : b.length = 40) (za : ∀ z ∈ a, z < 256) (zb : ∀ z ∈ b, z < 256) : Calls Tryz.prog 58 #[.agg (bv a).toArray, .agg (bv b).toArray] w fun e w' => e = .returned (.int .i64 (lexc a b)) ∧ Mod Nn w w' := rcompare_any w za zb ha hb
/-- where an entry is put -/
theorem ins_at {O : List (List Nat)} {r : List Nat} {q : Nat} (hs : Srt O) (hq : q ≤ O.length) (hlo : ∀ t x, t < q → O[t]? = some x → klt (keyOf x) (keyOf r)) (hhi : ∀ x, O[q]? = some x → ¬ klt (keyOf x) (keyOf r)) (hne : ∀ x ∈ O, keyOf x ≠ keyOf r) : ins O r = O.take q ++ (r :: O.drop q) := by
  have hcut : Cut O (keyOf r) (O.take q) (O.drop q) := ⟨(List.take_append_drop q O).symm, fun x hx => by
    obtain ⟨t, ht, rfl⟩ := List.getElem_of_mem hx
    rw [List.length_take] at ht
    rw [List.getElem_take]
    exact hlo t _ (by omega) (List.getElem?_eq_getElem (by omega)), fun x hx => by
    obtain ⟨t, ht, rfl⟩ := List.getElem_of_mem hx
    rw [List.length_drop] at ht
    rw [List.getElem_drop]
    have h0 : O[q]? = some (O[q]'(by omega)) := List.getElem?_eq_getElem (by omega)
    rcases Nat.eq_zero_or_pos t with rfl | hp
    · exact hhi _ h0
    · intro hc
      exact hhi _ h0 (klt_trans (srt_get hs h0 (List.getElem?_eq_getElem (show q + t < O.length by omega)) (by omega)) hc)⟩
  obtain ⟨h1, h2, _⟩ := hcut.not_there hs (fun x hx => hne x (List.mem_of_mem_drop (List.mem_of_mem_head? hx)))
  unfold ins
  rw [h1, h2]
theorem OwnE.app {w : World} {base : Nat} {v : Value} {R S : List (List Nat)} (h : w.ownsRow base 43 80 v (R.length + S.length) (bv R.flatten ++ bv S.flatten)) : OwnE w base v (R ++ S) := by
  unfold OwnE
  rw [List.length_append, List.flatten_append, bv_append]
  exact h
section
variable {w : World} {A : Option Addr} {n c : Nat} {R L : List (List Nat)}
set_option maxRecDepth 100000 in
set_option maxHeartbeats 12800000 in
theorem rall_any (hr : RowsAt w A n R) (hL : Like R L) (hn : n ≤ 1000) : Calls Tryz.prog 20 #[.slice A n c] w fun r w' => ∃ v, r = .returned v ∧ OwnE w' w.heap.size v L ∧ Mod Nn w w' := by
  have hlen := hr.2.2
  have hord := hL.ord
  have hmem := ord_mem hL.nd
  have hnd := hL.nd
  have HB := Lib.hid (And.intro hr (And.intro hord (And.intro hmem hnd)))
  clear hr hL hord hmem hnd
  go_enter Tryz.func20, Tryz.ntmps20
  go_wp2_with fail
  go_loopw [3, 4] (fun s i wr => ∃ j : Nat, j ≤ n ∧ i = .int .i64 j ∧ Hid (OwnE wr w.heap.size s (ordR (R.take j)) ∧ Mod Nn w wr)) (fun _ i _ => n - (intOf i).toNat)
  case atStart => exact ⟨0, Nat.zero_le _, rfl, Lib.hid ⟨OwnE.nil _ _, Mod.refl _ _⟩⟩
  case round =>
    obtain ⟨j, hj, rfl, HR⟩ := hrel
    obtain ⟨wo, rfl⟩ : ∃ wo : World, wo = wr := ⟨_, rfl⟩
    by_cases hjn : j < n
    · have hjn' : (j : Int) < n := by omega
      obtain ⟨r, hr⟩ : ∃ r, R[j]? = some r := ⟨_, List.getElem?_eq_getElem (by omega)⟩
      have hr80 := HB.out.1.2.1 r (List.mem_of_getElem? hr)
      have hrl := hr80.1
      have hke := keyOf_len hrl
      obtain ⟨O, hO⟩ : ∃ O, ordR (R.take j) = O := ⟨_, rfl⟩
      have hOs : Srt O := by rw [← hO]; exact ord_srt _
      have hOm := HB.out.2.2.1 j (by omega)
      rw [hO] at hOm
      have hOrow : Rows 80 O := fun x hx => HB.out.1.2.1 x (List.mem_of_mem_take ((hOm x).1 hx))
      have hOne : ∀ x ∈ O, keyOf x ≠ keyOf r := fun x hx e => by
        obtain ⟨t, ht, he⟩ := List.getElem_of_mem ((hOm x).1 hx)
        rw [List.length_take] at ht
        rw [List.getElem_take] at he
        obtain ⟨h1, rfl⟩ := List.getElem?_eq_some_iff.1 hr
        have := List.pairwise_iff_getElem.1 (List.pairwise_map.1 HB.out.2.2.2) t j (by omega) h1 (by omega)
        exact this (by rw [he]; exact e)
      have hOl : O.length ≤ j := by
        have := nodup_sub_len O (R.take j) (nd_of_keys (srt_keys hOs)) (fun x hx => (hOm x).1 hx)
        rw [List.length_take] at this; omega
      have hnext := ordR_take hr
      rw [hO] at hnext
      have hRo := HR.out.1
      rw [hO] at hRo
      obtain ⟨A3, c3, hv3, hc3, hc3m, hr3, hof3⟩ := hRo.slice
      subst hv3
      obtain ⟨m, hm⟩ : ∃ m, O.length = m := ⟨_, rfl⟩
      have hat : ∀ w', Mod Nn w w' → ∃ g off, A = some ⟨g, off, none⟩ ∧ ∀ q v, (bv r)[q]? = some v → w'.cell? ⟨g, off + j * 80 + q, none⟩ = some v := fun w' hm => (HB.out.1.nn hm).1.row HB.out.1.2.1 hr (by omega)
      obtain ⟨g, off, rfl, _⟩ := hat wo HR.out.2
      have hat2 : ∀ w', Mod Nn w w' → ∀ q v, (bv r)[q]? = some v → w'.cell? ⟨g, off + j * 80 + q, none⟩ = some v := fun w' hm q v hq => by
        obtain ⟨g', off', e, hc⟩ := hat w' hm
        injection e with e; injection e with e1 e2 _; subst e1; subst e2
        exact hc q v hq
      rw [hm] at hc3 hr3 hOl hRo ⊢
      have HO := Lib.hid (And.intro hRo (And.intro hr3 (And.intro hOs (And.intro hOrow (And.intro hOne (And.intro hm hnext))))))
      have HC := Lib.hid (And.intro hat2 (And.intro hr80.2 (keyOf_lt hr80.2)))
      clear hRo hr3 hOs hOm hOrow hOne hm hnext hat hat2 hr80 hr hO hof3
      go_wp2_with fail
      go_loopw [5] (fun i wr => ∃ q : Nat, q ≤ m ∧ i = .int .i64 q ∧ Hid ((∀ t x, t < q → O[t]? = some x → klt (keyOf x) (keyOf r)) ∧ Mod Nn wo wr)) (fun i _ => m - (intOf i).toNat)
      case atStart => exact ⟨0, Nat.zero_le _, rfl, Lib.hid ⟨fun t x ht => by omega, Mod.refl _ _⟩⟩
      case round =>
        obtain ⟨q, hq, rfl, HQ⟩ := hrel
        obtain ⟨wq, rfl⟩ : ∃ wq : World, wq = wr := ⟨_, rfl⟩
        -- what is done where the place is found
        have hstop : ∀ (wd : World), Mod Nn wq wd → (∀ x, O[q]? = some x → ¬ klt (keyOf x) (keyOf r)) → OwnE wd w.heap.size (.slice A3 m c3) O ∧ RdC wd A3 m 80 (bv O.flatten) ∧ ins O r = O.take q ++ (r :: O.drop q) ∧ Mod Nn w wd := fun wd hmd hhi =>
          ⟨(HO.out.1.nn HQ.out.2).nn hmd, (HO.out.2.1.md (by omega) (HQ.out.2.nn_ hmd) (fun _ _ f => f)), ins_at HO.out.2.2.1 (by rw [HO.out.2.2.2.2.2.1]; exact hq) HQ.out.1 hhi HO.out.2.2.2.2.1, HR.out.2.nn_ (HQ.out.2.nn_ hmd)⟩
        have HST := Lib.hid hstop
        clear hstop
        by_cases hqm : q < m
        · have hqm' : (q : Int) < m := by omega
          obtain ⟨x, hx⟩ : ∃ x, O[q]? = some x := ⟨_, List.getElem?_eq_getElem (by rw [HO.out.2.2.2.2.2.1]; exact hqm)⟩
          have hx80 := HO.out.2.2.2.1 x (List.mem_of_getElem? hx)
          have hkx := keyOf_len hx80.1
          have hatx : ∀ w', Mod Nn wq w' → ∃ g off, A3 = some ⟨g, off, none⟩ ∧ ∀ t v, (bv x)[t]? = some v → w'.cell? ⟨g, off + q * 80 + t, none⟩ = some v := fun w' hm => RdC.row (HO.out.2.1.md (by omega) (HQ.out.2.nn_ hm) (fun _ _ f => f)) HO.out.2.2.2.1 hx (by omega)
          obtain ⟨g3, off3, rfl, _⟩ := hatx wq (Mod.refl _ _)
          have hatx2 : ∀ w', Mod Nn wq w' → ∀ t v, (bv (keyOf x))[t]? = some v → w'.cell? ⟨g3, off3 + q * 80 + t, none⟩ = some v := fun w' hm t v ht => by
            obtain ⟨g', off', e, hc⟩ := hatx w' hm
            injection e with e; injection e with e1 e2 _; subst e1; subst e2
            exact hc t v (key_pre ht)
          obtain ⟨V, hV⟩ : ∃ V, lexc (keyOf x) (keyOf r) = V := ⟨_, rfl⟩
          have HX := Lib.hid (And.intro hatx2 (And.intro (keyOf_lt hx80.2) (And.intro hx hV)))
          clear hatx hatx2 hx80 hx hV
          go_wp2_with fail
          refine wp_region_planC (fun w' => Mod Nn wq w') [(0, true), (1, true), (2, true), (3, true), (4, true), (5, true), (6, true), (7, true), (8, true), (9, true), (10, true), (11, true), (12, true), (13, true), (14, true), (15, false), (16, true), (17, true)] (by kernel_rfl) (by kernel_rfl) (Mod.refl Nn wq).drew ?_
          iterate 7 (refine pc_pure rfl rfl (fun K hK => ?_); go_simp; refine hK _ ?_; clear hK K)
          refine pc_take (.pointer (some ⟨g3, off3 + q * 80, none⟩)) rfl rfl (fun w' _ => exec_elem (P := Tryz.prog) (g := g3) (off := off3) (q := q) 28 (.tmp 18) (.tmp 19) rfl 43 80 uuE sizeE rfl rfl hqm) (fun K hK => ?_); go_simp; refine hK _ ?_; clear hK K
          iterate 1 (refine pc_pure rfl rfl (fun K hK => ?_); go_simp; refine hK _ ?_; clear hK K)
          refine pc_take (.agg (bv (keyOf x)).toArray) rfl rfl (fun w' hS => exec_load_cells (P := Tryz.prog) (b := g3) (off := off3 + q * 80) (cs := bv (keyOf x)) 40 (.tmp 21) rfl rfl (HX.out.1 w' hS) Tryz.underlying40 rfl (by rw [bv_len, hkx]; exact size_keyT)) (fun K hK => ?_); go_simp; refine hK _ ?_; clear hK K
          iterate 2 (refine pc_pure rfl rfl (fun K hK => ?_); go_simp; refine hK _ ?_; clear hK K)
          refine pc_take (.pointer (some ⟨g, off + j * 80, none⟩)) rfl rfl (fun w' _ => exec_elem (P := Tryz.prog) (g := g) (off := off) (q := j) 28 (.tmp 23) (.tmp 24) rfl 43 80 uuE sizeE rfl rfl hjn) (fun K hK => ?_); go_simp; refine hK _ ?_; clear hK K
          iterate 1 (refine pc_pure rfl rfl (fun K hK => ?_); go_simp; refine hK _ ?_; clear hK K)
          refine pc_take (.agg (bv (keyOf r)).toArray) rfl rfl (fun w' hS => exec_load_cells (P := Tryz.prog) (b := g) (off := off + j * 80) (cs := bv (keyOf r)) 40 (.tmp 26) rfl rfl (fun t v ht => HC.out.1 w' (HR.out.2.nn_ (HQ.out.2.nn_ hS)) t v (key_pre ht)) Tryz.underlying40 rfl (by rw [bv_len, hke]; exact size_keyT)) (fun K hK => ?_); go_simp; refine hK _ ?_; clear hK K
          refine pc_call rfl rfl (fun K hK => ?_); go_simp; refine ⟨_, _, ⟨rfl, rfl⟩, hK _ _ _ ?_⟩; clear hK K
          refine (rcmp_any' _ hkx hke HX.out.2.1 HC.out.2.2).mono ?_
          rintro e w7 ⟨rfl, m7⟩
          rw [HX.out.2.2.2]
          refine ⟨_, rfl, m7.of_drew, ?_⟩
          have H7 := Lib.hid m7.of_drew
          clear m7
          by_cases hV0 : V < 0
          · have HV := Lib.hid hV0
            iterate 2 (refine pc_pure rfl rfl (fun K hK => ?_); go_simp; refine hK _ ?_; clear hK K)
            refine pc_nil ?_
            go_wp2
            refine ⟨⟨q + 1, by omega, by go_num, Lib.hid ⟨fun t y ht hy => ?_, HQ.out.2.nn_ H7.out⟩⟩, by simp [intOf]; omega⟩
            rcases Nat.lt_or_ge t q with h | h
            · exact HQ.out.1 t y h hy
            · obtain rfl : t = q := by omega
              rw [HX.out.2.2.1] at hy; injection hy with hy; subst hy
              unfold klt; rw [HX.out.2.2.2]; exact HV.out
          · have HD := Lib.hid (HST.out w7 H7.out (fun y hy hc => by
              rw [HX.out.2.2.1] at hy; injection hy with hy; subst hy
              unfold klt at hc; rw [HX.out.2.2.2] at hc; exact hV0 hc))
            iterate 2 (refine pc_pure rfl rfl (fun K hK => ?_); go_simp; refine hK _ ?_; clear hK K)
            refine pc_nil ?_
            have hp1 := HD.out.2.1.sub (c := c3) (by omega) 0 q (by omega) hc3
            rw [Nat.zero_mul, List.drop_zero] at hp1
            have hp2 := HD.out.2.1.tail (c := c3) (k := q) (by omega) hq hc3
            go_wp2_with (first
              | (with_reducible change wpList _ _ _ (⟨some 33, _, _, _, _, _⟩ :: _) _ _
                 go_must (refine wpList_val rfl (exec_bslice0 (P := Tryz.prog) 28 43 rfl uuE sizeE) ?_)
                 have b8 : Blk (w7.alloc (.cells #[] 43)) w7.heap.size 43 #[] := Blk.new _ _ _
                 have m8 : Mod Nn w7 (w7.alloc (.cells #[] 43)) := (Mod.refl _ _).alloc _
                 generalize w7.alloc (.cells #[] 43) = w8 at *
                 have H8 := Lib.hid (And.intro m8 (own_of_blkS b8 (Nat.le_refl w7.heap.size) (by simp) (Nat.zero_le _) (Nat.zero_le _) rfl : w8.ownsRow w7.heap.size 43 80 (.slice (some ⟨w7.heap.size, 0, none⟩) 0 0) 0 []))
                 clear b8 m8)
              | (with_reducible change wpList _ _ _ (⟨some 36, _, _, _, _, _⟩ :: _) _ _
                 go_must (refine wpList_val rfl (exec_sub_h (P := Tryz.prog) 28 (.tmp 34) (.tmp 35) rfl 43 80 uuE sizeE (h := q) rfl rfl (by omega)) ?_))
              | (with_reducible change wpList _ _ _ (⟨some 37, _, _, _, _, _⟩ :: _) _ _
                 go_must (refine wpList_append_rd 28 _ _ rfl rfl w7.heap.size 43 zE 80 80 Tryz.underlying28 infoE zsE (by omega) _ 0 [] rfl H8.out.2 _ q c3 _ rfl (hp1.md (by omega) H8.out.1 (fun _ _ f => f)) (fun u hu => bv_one _ u (List.mem_of_mem_take hu)) (by omega) (by omega) H8.out.1.size ?_)
                 intro v9 w9 own9 gr9 ob9
                 have m9 : Mod Nn w7 w9 := H8.out.1.grown gr9 (fun x h => by injection h with h; exact .inl (Nat.le_of_eq h))
                 have H9 := Lib.hid (And.intro m9 own9)
                 clear own9 gr9 ob9 m9)
              | (with_reducible change wpList _ _ _ (⟨some 41, _, _, _, _, _⟩ :: _) _ _
                 go_must (refine wpList_val rfl (exec_elem (P := Tryz.prog) (g := g) (off := off) (q := j) 28 (.tmp 39) (.tmp 40) rfl 43 80 uuE sizeE rfl rfl hjn) ?_))
              | (with_reducible change wpList _ _ _ (⟨some 42, _, _, _, _, _⟩ :: _) _ _
                 go_must (refine wpList_val rfl (exec_load_cells (P := Tryz.prog) (b := g) (off := off + j * 80) (cs := bv r) 43 (.tmp 41) rfl rfl (HC.out.1 w9 (HD.out.2.2.2.nn_ H9.out.1)) Tryz.underlying43 rfl (by rw [bv_len, hrl]; exact size_entT)) ?_))
              | (with_reducible change wpList _ _ _ (⟨some 43, _, _, _, _, _⟩ :: _) _ _
                 go_must (refine wpList_mk1 (P := Tryz.prog) 28 43 _ rfl rfl (s := 80) Tryz.underlying28 infoE2 (by omega) (by omega) (v := .agg (bv r).toArray) (ys := bv r) rfl rfl (by rw [bv_len, hrl]) ?_)
                 intro w10 b10 m10
                 have H10 := Lib.hid (And.intro (H9.out.1.nn_ m10) (And.intro b10 (own_mod H9.out.2 m10 (fun _ _ f => f))))
                 clear b10 m10)
              | (with_reducible change wpList _ _ _ (⟨some 44, _, _, _, _, _⟩ :: _) _ _
                 go_must (refine wpList_append_rd 28 _ _ rfl rfl w7.heap.size 43 zE 80 80 Tryz.underlying28 infoE zsE (by omega) _ (0 + q) _ rfl H10.out.2.2 (some ⟨w9.heap.size, 0, none⟩) 1 1 (bv r) rfl (RdC.of_blk H10.out.2.1 (by rw [bv_len, hrl])) (bv_one _) (by omega) (by omega) H10.out.1.size ?_)
                 intro v11 w11 own11 gr11 ob11
                 have m11 : Mod Nn w7 w11 := H10.out.1.grown gr11 (fun x h => by have := (own_blk_eq H10.out.2.2 h); obtain ⟨_, _, _, h1, _⟩ := this; exact .inl h1)
                 have H11 := Lib.hid (And.intro m11 own11)
                 clear own11 gr11 ob11 m11)
              | (with_reducible change wpList _ _ _ (⟨some 48, _, _, _, _, _⟩ :: _) _ _
                 go_must (refine wpList_val rfl (exec_sub_l (P := Tryz.prog) 28 (.tmp 46) (.tmp 47) rfl 43 80 uuE sizeE (l := q) rfl rfl hq) ?_))
              | (with_reducible change wpList _ _ _ (⟨some 49, _, _, _, _, _⟩ :: _) _ _
                 go_must (refine wpList_append_rd 28 _ _ rfl rfl w7.heap.size 43 zE 80 80 Tryz.underlying28 infoE zsE (by omega) _ (0 + q + 1) _ rfl H11.out.2 _ (m - q) (c3 - q) _ rfl (hp2.md (by omega) H11.out.1 (fun _ _ f => f)) (fun u hu => bv_one _ u (List.mem_of_mem_drop hu)) (by omega) (by omega) H11.out.1.size ?_)
                 intro v12 w12 own12 gr12 ob12
                 have m12 : Mod Nn w7 w12 := H11.out.1.grown gr12 (fun x h => by have := (own_blk_eq H11.out.2 h); obtain ⟨_, _, _, h1, _⟩ := this; exact .inl h1)
                 have H12 := Lib.hid (And.intro m12 own12)
                 clear own12 gr12 ob12 m12))
            -- zzZ
            have hs7 : w.heap.size ≤ w7.heap.size := HD.out.2.2.2.size
            have hfl : [] ++ (bv O.flatten).take (q * 80) ++ bv r ++ (bv O.flatten).drop (q * 80) = bv (O.take q ++ (r :: O.drop q)).flatten := by
              rw [bv_take, bv_drop, rows_take (fun x hx => (HO.out.2.2.2.1 x hx).1), rows_drop (fun x hx => (HO.out.2.2.2.1 x hx).1), List.flatten_append, List.flatten_cons, bv_append, bv_append]
              simp
            have hln : 0 + q + 1 + (m - q) = (O.take q ++ (r :: O.drop q)).length := by
              rw [List.length_append, List.length_take, List.length_cons, List.length_drop, HO.out.2.2.2.2.2.1]; omega
            have hown := H12.out.2
            rw [hfl, hln, ← HD.out.2.2.1] at hown
            refine ⟨⟨j + 1, by omega, by go_num, Lib.hid ⟨?_, HD.out.2.2.2.nn_ H12.out.1⟩⟩, by simp [intOf]; omega⟩
            rw [HO.out.2.2.2.2.2.2]
            exact own_base hown (fun x hx => by obtain ⟨_, _, _, h1, _⟩ := own_blk_eq hown hx; omega)
        · have hqm' : ¬ (q : Int) < m := by omega
          go_wp2_with fail
          refine wp_region_planC (fun w' => Mod Nn wq w') [(0, true), (1, true), (2, true), (3, true), (4, true), (5, true), (6, true), (7, true), (8, true), (9, true), (10, true), (11, true), (12, true), (13, true), (14, true), (15, true), (16, true), (17, true)] (by kernel_rfl) (by kernel_rfl) (Mod.refl Nn wq).drew ?_
          iterate 5 (refine pc_pure rfl rfl (fun K hK => ?_); go_simp; refine hK _ ?_; clear hK K)
          iterate 12 (refine pc_skip rfl rfl (fun K hK => ?_); go_simp; refine hK _ ?_; clear hK K)
          iterate 1 (refine pc_pure rfl rfl (fun K hK => ?_); go_simp; refine hK _ ?_; clear hK K)
          refine pc_nil ?_
          have hmd : Mod Nn wq wq.drew := (Mod.refl Nn wq).drew
          have HD := Lib.hid (HST.out wq.drew hmd (fun y hy => by
            have := (List.getElem?_eq_some_iff.1 hy).1
            rw [HO.out.2.2.2.2.2.1] at this; omega))
          have H7 := Lib.hid hmd
          clear hmd
          generalize wq.drew = w7 at *
          have hp1 := HD.out.2.1.sub (c := c3) (by omega) 0 q (by omega) hc3
          rw [Nat.zero_mul, List.drop_zero] at hp1
          have hp2 := HD.out.2.1.tail (c := c3) (k := q) (by omega) hq hc3
          go_wp2_with (first
            | (with_reducible change wpList _ _ _ (⟨some 33, _, _, _, _, _⟩ :: _) _ _
               go_must (refine wpList_val rfl (exec_bslice0 (P := Tryz.prog) 28 43 rfl uuE sizeE) ?_)
               have b8 : Blk (w7.alloc (.cells #[] 43)) w7.heap.size 43 #[] := Blk.new _ _ _
               have m8 : Mod Nn w7 (w7.alloc (.cells #[] 43)) := (Mod.refl _ _).alloc _
               generalize w7.alloc (.cells #[] 43) = w8 at *
               have H8 := Lib.hid (And.intro m8 (own_of_blkS b8 (Nat.le_refl w7.heap.size) (by simp) (Nat.zero_le _) (Nat.zero_le _) rfl : w8.ownsRow w7.heap.size 43 80 (.slice (some ⟨w7.heap.size, 0, none⟩) 0 0) 0 []))
               clear b8 m8)
            | (with_reducible change wpList _ _ _ (⟨some 36, _, _, _, _, _⟩ :: _) _ _
               go_must (refine wpList_val rfl (exec_sub_h (P := Tryz.prog) 28 (.tmp 34) (.tmp 35) rfl 43 80 uuE sizeE (h := q) rfl rfl (by omega)) ?_))
            | (with_reducible change wpList _ _ _ (⟨some 37, _, _, _, _, _⟩ :: _) _ _
               go_must (refine wpList_append_rd 28 _ _ rfl rfl w7.heap.size 43 zE 80 80 Tryz.underlying28 infoE zsE (by omega) _ 0 [] rfl H8.out.2 _ q c3 _ rfl (hp1.md (by omega) H8.out.1 (fun _ _ f => f)) (fun u hu => bv_one _ u (List.mem_of_mem_take hu)) (by omega) (by omega) H8.out.1.size ?_)
               intro v9 w9 own9 gr9 ob9
               have m9 : Mod Nn w7 w9 := H8.out.1.grown gr9 (fun x h => by injection h with h; exact .inl (Nat.le_of_eq h))
               have H9 := Lib.hid (And.intro m9 own9)
               clear own9 gr9 ob9 m9)
            | (with_reducible change wpList _ _ _ (⟨some 41, _, _, _, _, _⟩ :: _) _ _
               go_must (refine wpList_val rfl (exec_elem (P := Tryz.prog) (g := g) (off := off) (q := j) 28 (.tmp 39) (.tmp 40) rfl 43 80 uuE sizeE rfl rfl hjn) ?_))
            | (with_reducible change wpList _ _ _ (⟨some 42, _, _, _, _, _⟩ :: _) _ _
               go_must (refine wpList_val rfl (exec_load_cells (P := Tryz.prog) (b := g) (off := off + j * 80) (cs := bv r) 43 (.tmp 41) rfl rfl (HC.out.1 w9 (HD.out.2.2.2.nn_ H9.out.1)) Tryz.underlying43 rfl (by rw [bv_len, hrl]; exact size_entT)) ?_))
            | (with_reducible change wpList _ _ _ (⟨some 43, _, _, _, _, _⟩ :: _) _ _
               go_must (refine wpList_mk1 (P := Tryz.prog) 28 43 _ rfl rfl (s := 80) Tryz.underlying28 infoE2 (by omega) (by omega) (v := .agg (bv r).toArray) (ys := bv r) rfl rfl (by rw [bv_len, hrl]) ?_)
               intro w10 b10 m10
               have H10 := Lib.hid (And.intro (H9.out.1.nn_ m10) (And.intro b10 (own_mod H9.out.2 m10 (fun _ _ f => f))))
               clear b10 m10)
            | (with_reducible change wpList _ _ _ (⟨some 44, _, _, _, _, _⟩ :: _) _ _
               go_must (refine wpList_append_rd 28 _ _ rfl rfl w7.heap.size 43 zE 80 80 Tryz.underlying28 infoE zsE (by omega) _ (0 + q) _ rfl H10.out.2.2 (some ⟨w9.heap.size, 0, none⟩) 1 1 (bv r) rfl (RdC.of_blk H10.out.2.1 (by rw [bv_len, hrl])) (bv_one _) (by omega) (by omega) H10.out.1.size ?_)
               intro v11 w11 own11 gr11 ob11
               have m11 : Mod Nn w7 w11 := H10.out.1.grown gr11 (fun x h => by have := (own_blk_eq H10.out.2.2 h); obtain ⟨_, _, _, h1, _⟩ := this; exact .inl h1)
               have H11 := Lib.hid (And.intro m11 own11)
               clear own11 gr11 ob11 m11)
            | (with_reducible change wpList _ _ _ (⟨some 48, _, _, _, _, _⟩ :: _) _ _
               go_must (refine wpList_val rfl (exec_sub_l (P := Tryz.prog) 28 (.tmp 46) (.tmp 47) rfl 43 80 uuE sizeE (l := q) rfl rfl hq) ?_))
            | (with_reducible change wpList _ _ _ (⟨some 49, _, _, _, _, _⟩ :: _) _ _
               go_must (refine wpList_append_rd 28 _ _ rfl rfl w7.heap.size 43 zE 80 80 Tryz.underlying28 infoE zsE (by omega) _ (0 + q + 1) _ rfl H11.out.2 _ (m - q) (c3 - q) _ rfl (hp2.md (by omega) H11.out.1 (fun _ _ f => f)) (fun u hu => bv_one _ u (List.mem_of_mem_drop hu)) (by omega) (by omega) H11.out.1.size ?_)
               intro v12 w12 own12 gr12 ob12
               have m12 : Mod Nn w7 w12 := H11.out.1.grown gr12 (fun x h => by have := (own_blk_eq H11.out.2 h); obtain ⟨_, _, _, h1, _⟩ := this; exact .inl h1)
               have H12 := Lib.hid (And.intro m12 own12)
               clear own12 gr12 ob12 m12))
          -- zzZ
          have hs7 : w.heap.size ≤ w7.heap.size := HD.out.2.2.2.size
          have hfl : [] ++ (bv O.flatten).take (q * 80) ++ bv r ++ (bv O.flatten).drop (q * 80) = bv (O.take q ++ (r :: O.drop q)).flatten := by
            rw [bv_take, bv_drop, rows_take (fun x hx => (HO.out.2.2.2.1 x hx).1), rows_drop (fun x hx => (HO.out.2.2.2.1 x hx).1), List.flatten_append, List.flatten_cons, bv_append, bv_append]
            simp
          have hln : 0 + q + 1 + (m - q) = (O.take q ++ (r :: O.drop q)).length := by
            rw [List.length_append, List.length_take, List.length_cons, List.length_drop, HO.out.2.2.2.2.2.1]; omega
          have hown := H12.out.2
          rw [hfl, hln, ← HD.out.2.2.1] at hown
          refine ⟨⟨j + 1, by omega, by go_num, Lib.hid ⟨?_, HD.out.2.2.2.nn_ H12.out.1⟩⟩, by simp [intOf]; omega⟩
          rw [HO.out.2.2.2.2.2.2]
          exact own_base hown (fun x hx => by obtain ⟨_, _, _, h1, _⟩ := own_blk_eq hown hx; omega)
    · have hjn' : ¬ (j : Int) < n := by omega
      have htk : R.take j = R := List.take_of_length_le (by omega)
      have hfin := HR.out.1
      rw [htk, HB.out.2.1] at hfin
      have HF := Lib.hid hfin
      clear htk hfin
      go_wp2
      go_ret
      exact ⟨_, rfl, HF.out, HR.out.2⟩
end
end Go.Proofs.YtkcpmkeckcnobaaGreat
