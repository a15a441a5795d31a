/- Own lemmas of several kinds, put together: Tr27, Tr29. -/
import Derived.Test.YtkcpmkeckcnobaaTrI
/- tree.nodes of an inner. -/
namespace Go.Proofs.Ytkcpmkeckcnobaa
open Go.RowKit

theorem uuI : Try.prog.underlying 64 = some (.slice 3) := Try.underlying64
theorem infoI : (Try.prog.info? 3).map (fun i => (i.zero, i.size, i.bytes)) = some (some (.int .i64 0), 1, 8) := by kernel_rfl
theorem infoI2 : (Try.prog.info? 3).map (fun i => (i.zero, i.size)) = some (some (.int .i64 0), 1) := by kernel_rfl
theorem size_slI : (Try.prog.info? 64).map (·.size) = some 1 := by kernel_rfl
theorem size_slK_ : (Try.prog.info? 75).map (·.size) = some 1 := by kernel_rfl
theorem iv_len (l : List Nat) : (iv l).length = l.length := by simp [iv]
theorem bl_own {w : World} {base bl : Nat} {lv : Value} {Ts : List TN} (h : LAt w base bl lv Ts) {g : Nat} (hg : w.heap.size ≤ g) : lv.ownBlock ≠ some g := fun e => by
  obtain ⟨_, _, _, _, hb, _⟩ := own_blk_eq h.row e
  have := hb.lt; omega
theorem inn_len {d b : Nat} {ts : List Kid} {qs : List KQ} (hQ : QOk d b ts qs) (hbd : ∀ t ∈ ts, loB d ≤ t.k ∧ t.k ≤ hiB d) : 4 * (msOf qs).length + 2 * qs.length ≤ (entsOf (ts.take qs.length)).length := by
  rw [← hQ.ents]
  refine msOf_len qs (fun q hq => ?_)
  obtain ⟨j, hj⟩ := List.mem_iff_getElem?.1 hq
  obtain ⟨t, a1, a2, a3, a4⟩ := hQ j q hj
  exact nodes_len d _ _ _ _ _ a4 (by rw [a3]; exact (hbd t (List.mem_of_getElem? a1)).1)
theorem inn_len2 {d b : Nat} {ts : List Kid} {qs : List KQ} {t : Kid} (hQ : QOk d b ts qs) (hbd : ∀ t ∈ ts, loB d ≤ t.k ∧ t.k ≤ hiB d) (ht : ts[qs.length]? = some t) : (msOf qs).length + t.L.length ≤ (entsOf ts).length := by
  have h1 := inn_len hQ hbd
  obtain ⟨hj, he⟩ := List.getElem?_eq_some_iff.1 ht
  have h2 : ts = ts.take qs.length ++ t :: ts.drop (qs.length + 1) := by
    rw [← he, ← List.drop_eq_getElem_cons hj, List.take_append_drop]
  have h3 : (entsOf ts).length = (entsOf (ts.take qs.length)).length + (t.L.length + (entsOf (ts.drop (qs.length + 1))).length) := by
    conv => lhs; rw [h2]
    simp [entsOf]
  omega
theorem inn_len3 {d b : Nat} {ts : List Kid} {qs : List KQ} (hQ : QOk d b ts qs) (hbd : ∀ t ∈ ts, loB d ≤ t.k ∧ t.k ≤ hiB d) (hl : qs.length = ts.length) : (msOf qs).length ≤ (entsOf ts).length := by
  have h1 := inn_len hQ hbd
  rw [hl, List.take_length] at h1
  omega
section
variable {w : World} {base bl d b kc cc : Nat} {lv : Value} {Ts : List TN} {ks : List (List Nat)} {ts : List Kid} {F : List Nat} {K C : Option Addr}
set_option maxRecDepth 100000 in
set_option maxHeartbeats 6400000 in
theorem nodes_inner (h : InnerAt (TreeAt w d) w b ks ts F K kc C cc) (hbd : ∀ t ∈ ts, loB d ≤ t.k ∧ t.k ≤ hiB d) (hF : ∀ g ∈ F, g < base) (hl : LAt w base bl lv Ts) (hn : Ts.length + (entsOf ts).length ≤ 549755813888) (hk : ts.length ≤ 549755813888)
    (IH : ∀ wz t lu Us, t ∈ ts → TreeAt wz d t.v t.L t.k t.F → LAt wz base bl lu Us → Us.length + t.L.length ≤ 549755813888 → Calls Try.prog 47 #[t.v, .pointer (some ⟨bl, 0, none⟩)] wz (NodesP wz d t.L t.k base bl lu Us)) : Calls Try.prog 47 #[innerV b, .pointer (some ⟨bl, 0, none⟩)] w (NodesP w (d + 1) (entsOf ts) ts.length base bl lv Ts) := by
  have hbw := h.blk.lt
  have hblw := hl.box.lt
  have hkl := h.len
  have hc0 : w.cell? ⟨b, 0, none⟩ = some (.slice K ks.length kc) := h.blk.cell 0
  have HB := Lib.hid (And.intro h (And.intro hbd (And.intro hF (And.intro hl IH))))
  clear h hbd hF hl IH
  generalize hXX : innerV b = XX
  have HX := Lib.hid hXX
  unfold innerV at hXX
  subst hXX
  go_enter Try.func47, Try.ntmps47
  go_wp2_with (first
    | (with_reducible change wpList _ _ _ (⟨some 5, Op.alloc _, _, _, _, _⟩ :: _) _ _
       go_must (refine wpList_alloc_var 77 rfl rfl infoN2 ?_)
       intro w1 b1 m1 z1
       clear z1
       have hs1 : w.heap.size < w1.heap.size := b1.lt
       replace hc0 : w1.cell? ⟨b, 0, none⟩ = some (.slice K ks.length kc) := (m1.cell (p := ⟨b, 0, none⟩) hbw (fun f => f)).trans hc0
       have H1 := Lib.hid (And.intro m1 b1)
       clear m1 b1)
    | (with_reducible change wpList _ _ _ (⟨some 11, _, _, _, _, _⟩ :: _) _ _
       go_must (refine wpList_val rfl (exec_assert_no (P := Try.prog) _ _ _ rfl rfl (by decide) Try.underlying109 info_pleaf) ?_))
    | (with_reducible change wpList _ _ _ (⟨some 20, _, _, _, _, _⟩ :: _) _ _
       go_must (refine wpList_val rfl (exec_assert_yes (P := Try.prog) _ _ _ _ rfl rfl Try.underlying103) ?_)
       rw [if_pos rfl]))
  refine (scloneK_own (c := kc) (HB.out.1.krow.nn H1.out.1).rd (bv_one _) (by omega)).mono ?_
  rintro r w2 ⟨K', kc', rfl, hh, m2⟩
  have hfr := own_of_ge hh
  have hs2 : w1.heap.size ≤ w2.heap.size := m2.size
  have H2 := Lib.hid (And.intro (H1.out.1.nn_ m2) (And.intro (H1.out.2.mod m2 (fun f => f)) (And.intro hh hfr)))
  clear m2 hh hfr hc0
  have hc2 : w2.cell? ⟨w.heap.size, 2, none⟩ = some (.slice none 0 0) := H2.out.2.1.cell 2
  have hf2 : w2.frozen? ⟨w.heap.size, 2, none⟩ = false := H2.out.2.1.frozen 2
  -- zzA
  obtain ⟨gC, rfl⟩ := HB.out.1.crow.of_ (by omega)
  have hFn : ∀ g ∈ F, ¬ LSet lv bl g := fun g hg hs => by
    have := (LSet.at_ HB.out.2.2.2.1 hs).1
    have := HB.out.2.2.1 g hg
    omega
  have HF := Lib.hid hFn
  clear hFn
  go_wp2_with (first
    | (with_reducible change wpList _ _ _ (⟨none, Op.store _ (Operand.tmp 28) _, _, _, _, _⟩ :: _) _ _
       go_must (refine wpList_unit rfl (exec_store1 (P := Try.prog) (ad := ⟨w.heap.size, 2, none⟩) (v := .slice K' ks.length kc') (u := .slice none 0 0) 75 _ _ rfl rfl rfl hc2 hf2 rfl rfl rfl size_slK_) ?_)
       have b3 : Blk (w2.setCell ⟨w.heap.size, 2, none⟩ (.slice K' ks.length kc')) w.heap.size 77 #[.bool false, .slice none 0 0, .slice K' ks.length kc', .slice none 0 0] := H2.out.2.1.set_ 2 _
       have m3 : Mod (At w.heap.size) w2 (w2.setCell ⟨w.heap.size, 2, none⟩ (.slice K' ks.length kc')) := Mod.cellAt _ _ _ _
       generalize w2.setCell ⟨w.heap.size, 2, none⟩ (.slice K' ks.length kc') = w3 at *
       have H3 := Lib.hid (And.intro (H2.out.1.new_ m3 (Nat.le_refl _)) (And.intro b3 (own_mod H2.out.2.2.1 m3 (fun g hg e => by have := H2.out.2.2.2 g (own_of hg); have e : g = w.heap.size := e; omega))))
       have hc1 : w3.cell? ⟨b, 1, none⟩ = some (.slice (some ⟨gC, 0, none⟩) ts.length cc) := (HB.out.1.blk.mod H3.out.1 (fun f => f)).cell 1
       clear m3 b3 hc2 hf2))
  -- zzB
  clear hc1
  go_loopw [34] (fun i wr => ∃ (j : Nat) (lu : Value) (Us : List TN) (zs : List Nat) (qs : List KQ) (A : Option Addr) (c : Nat), j ≤ ts.length ∧ i = .int .i64 j ∧ InnM w wr w.heap.size base bl lv Ts ks K' kc' lu Us zs A c ∧ Hid (zs = qs.map (·.i) ∧ Us.map (·.n) = msOf qs ∧ qs.length = j ∧ QOk d Ts.length ts qs)) (fun i _ => ts.length - (intOf i).toNat)
  case atStart =>
    refine ⟨0, lv, [], [], [], none, 0, by omega, rfl, ?_, Lib.hid ⟨rfl, rfl, rfl, fun i q h => by simp at h⟩⟩
    have hl := HB.out.2.2.2.1
    refine ⟨H3.out.2.1, own_base H3.out.2.2 (fun g hg => by have := H2.out.2.2.2 g (own_of hg); omega), World.ownsRow_nil _ _ _ _, by rw [List.append_nil]; exact hl.nn H3.out.1, H3.out.1.nn, fun g hg => .inl hg, bl_own hl (Nat.le_refl _), by omega, Nat.le_refl _, fun t ht g hg => ?_, fun t ht => by simp at ht, fun g hg => ?_, fun g hg => ?_⟩
    · rw [List.append_nil] at ht
      have h1 := (hl.ok t ht).lt g hg
      refine ⟨fun hk => ?_, fun hk => ?_⟩
      · have := H2.out.2.2.2 g hk; omega
      · obtain ⟨_, hk, _⟩ := hk; cases hk
    · have := H2.out.2.2.2 g hg; omega
    · obtain ⟨_, hk, _⟩ := hg; cases hk
  case round =>
    obtain ⟨j, lu, Us, zs, qs, A, c, hjn, rfl, hM, hQ⟩ := hrel
    have HM := Lib.hid hM
    clear hM
    by_cases hj : j < ts.length
    · have hj' : (j : Int) < ts.length := by omega
      obtain ⟨t, ht⟩ : ∃ t, ts[j]? = some t := ⟨_, List.getElem?_eq_getElem hj⟩
      have htm : t ∈ ts := List.mem_of_getElem? ht
      have hcell : wr.cell? ⟨gC, j, none⟩ = some t.v := by
        obtain ⟨g, off, e, hc⟩ := (HB.out.1.crow.mod HM.out.md (fun g hg => HF.out g (HB.out.1.mem.2 (.inr (.inr (.inl hg)))))).rd.2 (by omega)
        injection e with e; injection e with e1 e2 _; subst e1; subst e2
        have := hc j t.v (by rw [List.getElem?_map, ht]; rfl)
        rwa [Nat.zero_add] at this
      have hMd := HM.out.nn (w' := wr.drew) (Mod.refl Nn wr).drew
      have hbk := HB.out.2.1 t htm
      have hcall : Calls Try.prog 47 #[t.v, .pointer (some ⟨bl, 0, none⟩)] wr.drew (NodesP wr.drew d t.L t.k base bl lu (Ts ++ Us)) :=
        HB.out.2.2.2.2 wr.drew t lu (Ts ++ Us) htm ((HB.out.1.kids t htm).mod hMd.md (fun g hg => HF.out g (HB.out.1.mem.2 (.inr (.inr (.inr ⟨t, htm, hg⟩)))))) hMd.lat (by
          obtain ⟨h1, h2, h3, h4⟩ := hQ.out
          have := inn_len2 h4 HB.out.2.1 (by rw [h3]; exact ht)
          have h5 : Us.length = (msOf qs).length := by rw [← h2, List.length_map]
          rw [List.length_append]; omega)
      have hzl : zs.length ≤ ts.length := by
        obtain ⟨h1, h2, h3, h4⟩ := hQ.out
        rw [h1, List.length_map]; omega
      have HC := Lib.hid (And.intro hcall (And.intro hMd (And.intro ht htm)))
      clear hcall hMd ht htm hbk
      go_wp2_with (first
        | (with_reducible change wpList _ _ _ (⟨some 36, _, _, _, _, _⟩ :: _) _ _
           go_must (refine wpList_val rfl (exec_elem (P := Try.prog) (g := gC) (off := 0) (q := j) 104 _ _ rfl 37 1 uuP sizeP rfl rfl hj) ?_)
           rw [show 0 + j * 1 = j from by omega])
        | (with_reducible change wpList _ _ _ (⟨some 37, _, _, _, _, _⟩ :: _) _ _
           go_must (refine wpList_val rfl (exec_load1 (P := Try.prog) (ad := ⟨gC, j, none⟩) 37 _ rfl rfl hcell Try.underlying37 rfl) ?_)))
      clear hcell
      -- zzC
      refine wp_region_planT (fun w' => Blk w' w.heap.size 77 #[.bool false, .slice none 0 0, .slice K' ks.length kc', .slice A zs.length c]) 8 [(0, 0), (1, 1), (2, 0), (3, 0), (4, 2), (5, 2), (6, 2), (7, 0), (8, 2)] (by kernel_rfl) (by kernel_rfl) HC.out.2.1.blk ?_
      iterate 1 (refine pt_pure rfl rfl (fun K hK => ?_); go_simp; refine hK _ ?_; clear hK K)
      refine pt_take (.slice A zs.length c) rfl rfl (fun w' hS => exec_load1 (P := Try.prog) (ad := ⟨w.heap.size, 3, none⟩) 64 (.tmp 38) rfl rfl (hS.cell 3) Try.underlying64 rfl) (fun K hK => ?_); go_simp; refine hK _ ?_; clear hK K
      iterate 2 (refine pt_pure rfl rfl (fun K hK => ?_); go_simp; refine hK _ ?_; clear hK K)
      refine pt_call rfl rfl (fun K hK => ?_); go_simp; refine ⟨_, _, ⟨rfl, rfl⟩, hK _ _ _ ?_⟩; clear hK K
      refine HC.out.1.mono ?_
      rintro e w4 ⟨lx, Xs, i, rfl, hN, hl4, m4, ho4, hf4⟩
      have H4 := Lib.hid (And.intro (HC.out.2.1.call hl4 m4 ho4 hf4) hN)
      clear hl4 m4 ho4 hf4 hN
      refine ⟨_, rfl, fun _ => H4.out.1.blk, ?_⟩
      refine pt_mk1 (ys := [.int .i64 i]) (v := .int .i64 i) 64 3 (.tmp 42) rfl rfl rfl uuI infoI2 (by omega) (by omega) rfl rfl rfl (fun w5 b5 m5 => ⟨fun _ => H4.out.1.blk.mod m5 (fun f => f), ?_⟩)
      refine (fun K hK => ?_); go_simp; refine hK _ ?_; clear hK K
      have H5 := Lib.hid (And.intro (H4.out.1.nn m5) b5)
      clear m5 b5
      refine pt_append 64 (.tmp 39) (.tmp 43) rfl rfl rfl w.heap.size 3 (.int .i64 0) 1 8 uuI infoI rfl (by omega) (.slice A zs.length c) zs.length (iv zs) rfl H5.out.1.crow _ 1 _ [.int .i64 i] rfl (RdC.of_blk H5.out.2 rfl) (by simp [Value.oneCell']) (by omega) (by omega) (by have := H5.out.1.md.size; omega) (fun v6 w6 own6 gr6 ob6 => ?_)
      have m6 : Mod (Of A) w5 w6 := (Mod.refl _ w5).grown gr6 (fun g hg => .inr (own_of hg))
      refine ⟨fun _ => H5.out.1.blk.mod m6 (hold_ne H5.out.1.ch H5.out.1.blk (by decide)), ?_⟩
      refine (fun K hK => ?_); go_simp; refine hK _ ?_; clear hK K
      obtain ⟨A', c', rfl, _⟩ := own_form own6
      have hA' : ∀ g, Of A' g → Of A g ∨ w5.heap.size ≤ g := fun g hg => by
        rcases ob6 with h | h
        · exact .inl (own_of (h.symm.trans (of_own hg)))
        · have := of_own (m := zs.length + 1) (c := c') hg
          rw [h] at this; injection this with this; exact .inr (Nat.le_of_eq this)
      have hh := own6
      have hB6 := H5.out.1.blk.mod m6 (hold_ne H5.out.1.ch H5.out.1.blk (by decide))
      have H6 := Lib.hid (And.intro hB6 (H5.out.1.app (z := i) hh m6 hA'))
      clear hB6 hh m6 hA' own6 gr6 ob6
      iterate 1 (refine pt_pure rfl rfl (fun K hK => ?_); go_simp; refine hK _ ?_; clear hK K)
      refine pt_unit rfl rfl (exec_store1 (P := Try.prog) (ad := ⟨w.heap.size, 3, none⟩) (v := .slice A' (zs.length + 1) c') (u := .slice A zs.length c) 64 (.tmp 45) (.tmp 44) rfl rfl rfl (H6.out.1.cell 3) (H6.out.1.frozen 3) rfl rfl rfl size_slI) (fun h => by simp at h) (fun K hK => ?_); go_simp; refine hK _ ?_; clear hK K
      refine pt_nil ?_
      have h7 := H6.out.2
      generalize w6.setCell ⟨w.heap.size, 3, none⟩ (.slice A' (zs.length + 1) c') = w7 at *
      have H7 := Lib.hid h7
      clear h7
      -- zzD
      go_wp2
      refine ⟨⟨j + 1, lx, Us ++ Xs, zs ++ [i], qs ++ [⟨t.L, t.k, Xs.map (·.n), i⟩], A', c', by omega, by go_num, H7.out, Lib.hid ?_⟩, by simp [intOf]; omega⟩
      obtain ⟨h1, h2, h3, h4⟩ := hQ.out
      have h5 : Us.length = (msOf qs).length := by rw [← h2, List.length_map]
      refine ⟨by rw [h1, List.map_append]; rfl, by rw [List.map_append, h2]; simp [msOf], by rw [List.length_append, h3]; rfl, h4.snoc (t := t) (by rw [h3]; exact HC.out.2.2.1) rfl rfl ?_⟩
      have := H4.out.2
      rwa [List.length_append, h5] at this
    · -- zzE
      have hj' : ¬ (j : Int) < ts.length := by omega
      obtain ⟨hz, hu, hqj, hq⟩ := hQ.out
      have hql : qs.length = ts.length := by omega
      have hul : Us.length = (msOf qs).length := by rw [← hu, List.length_map]
      have hms := inn_len3 hq HB.out.2.1 hql
      have hni := NodesIs.inner hq hql hkl HB.out.1.krows HB.out.1.ksrt HB.out.1.sep HB.out.2.1
      have HQ := Lib.hid (And.intro hz (And.intro hu hni))
      have hbb : base ≤ bl := HB.out.2.2.2.1.hb
      have hM := HM.out
      have ht : TN.Ok ⟨⟨false, [], ks, zs⟩, none, 0, K', kc', A, c⟩ wr base := by
        refine ⟨World.ownsRow_nil _ _ _ _, own_base hM.krow (fun g hg => by have := hM.kf g (own_of hg); omega), own_base hM.crow (fun g hg => by have := hM.cf g (own_of hg); omega), (fun r hr => absurd hr (by simp)), HB.out.1.krows, fun g hg => ?_⟩
        rcases hg with ⟨_, hg, _⟩ | hg | hg
        · cases hg
        · have := hM.kf g hg; omega
        · have := hM.cf g hg; omega
      have hfr : ∀ g, TN.rows ⟨⟨false, [], ks, zs⟩, none, 0, K', kc', A, c⟩ g → w.heap.size ≤ g := fun g hg => by
        rcases hg with ⟨_, hg, _⟩ | hg | hg
        · cases hg
        · exact hM.kf g hg
        · exact hM.cf g hg
      have hfar : ∀ x ∈ Ts ++ Us, x.Far ⟨⟨false, [], ks, zs⟩, none, 0, K', kc', A, c⟩ := fun x hx g hg hg' => by
        rcases hg' with ⟨_, hg', _⟩ | hg' | hg'
        · cases hg'
        · exact (hM.far x hx g hg).1 hg'
        · exact (hM.far x hx g hg).2 hg'
      have hVl : (Ts ++ Us).length ≤ 549755813888 := by rw [List.length_append]; omega
      have hVu : (Ts ++ Us).length = Ts.length + (msOf qs).length := by rw [List.length_append, hul]
      have HV := Lib.hid (And.intro hVu (show Ts ++ (Us ++ [(⟨⟨false, [], ks, zs⟩, none, 0, K', kc', A, c⟩ : TN)]) = (Ts ++ Us) ++ [⟨⟨false, [], ks, zs⟩, none, 0, K', kc', A, c⟩] from (List.append_assoc _ _ _).symm))
      have HW := Lib.hid (And.intro hM.md (And.intro hM.own (And.intro hM.fresh hM.on0)))
      have HB0 := Lib.hid hM.blk
      have hL := hM.lat
      clear hz hu hqj hq hql hul hms hni hM HM hQ hVu
      generalize Ts ++ Us = Vs at *
      have hbn : bl < wr.heap.size := hL.box.lt
      have hsw : w.heap.size ≤ wr.heap.size := HW.out.1.size
      have hc0 := hL.box.cell 0
      have HFR := Lib.hid hfar
      have HFW := Lib.hid hfr
      have HL := Lib.hid (And.intro hL ht)
      clear hfr hfar hL ht
      go_wp2_with fail
      -- zzG
      refine wp_region_planT (fun w' => w'.cell? ⟨bl, 0, none⟩ = some lu ∧ Blk w' w.heap.size 77 #[.bool false, .slice none 0 0, .slice K' ks.length kc', .slice A zs.length c]) 8 [(0, 0), (1, 0), (2, 0), (3, 1), (4, 1), (5, 2), (6, 2), (7, 0), (8, 2)] (by kernel_rfl) (by kernel_rfl) ⟨(Mod.refl Nn wr).drew.cell (p := ⟨bl, 0, none⟩) (World.block_lt_of_cell? wr _ hc0) (fun f => f) |>.trans hc0, HB0.out.drew⟩ ?_
      iterate 3 (refine pt_pure rfl rfl (fun K hK => ?_); go_simp; refine hK _ ?_; clear hK K)
      refine pt_take _ rfl rfl (fun w' hS => exec_load1 (P := Try.prog) 72 _ rfl rfl hS.1 Try.underlying72 rfl) (fun K hK => ?_); go_simp; refine hK _ ?_; clear hK K
      refine pt_take _ rfl rfl (fun w' hS => exec_load_row (P := Try.prog) (g := w.heap.size) 77 (.tmp 5) rfl rfl hS.2 Try.underlying77 rfl sizeN) (fun K hK => ?_); go_simp; refine hK _ ?_; clear hK K
      refine pt_mk1 (ys := [.bool false, .slice none 0 0, .slice K' ks.length kc', .slice A zs.length c]) (v := .agg #[.bool false, .slice none 0 0, .slice K' ks.length kc', .slice A zs.length c]) 72 77 (.tmp 51) rfl rfl rfl uuN infoN2 (by omega) (by omega) rfl rfl rfl (fun w4 b4 m4 => ⟨fun _ => ⟨((Mod.of_drew m4).cell (p := ⟨bl, 0, none⟩) (World.block_lt_of_cell? wr _ hc0) (fun f => f)).trans hc0, HB0.out.mod (Mod.of_drew m4) (fun f => f)⟩, ?_⟩)
      refine (fun K hK => ?_); go_simp; refine hK _ ?_; clear hK K
      have m4' := m4.of_drew
      have hs4 : wr.heap.size < w4.heap.size := b4.lt
      have H4 := Lib.hid (And.intro m4' b4)
      clear m4 m4' b4
      refine pt_append 72 (.tmp 50) (.tmp 52) rfl rfl rfl base 77 zN 4 80 uuN infoNt rfl (by omega) lu Vs.length (flat TN.cells Vs) rfl (HL.out.1.nn H4.out.1).row _ 1 _ [.bool false, .slice none 0 0, .slice K' ks.length kc', .slice A zs.length c] rfl (RdC.of_blk H4.out.2 rfl) (by simp [Value.oneCell']) (by omega) (by omega) (by omega) (fun v5 w5 own5 gr5 ob5 => ?_)
      have hl4 := HL.out.1.nn H4.out.1
      have m45 : Mod (fun g => lu.ownBlock = some g) w4 w5 := (Mod.refl _ w4).grown gr5 (fun g hg => .inr hg)
      have hbl4 : bl < w4.heap.size := by omega
      have c5 : w5.cell? ⟨bl, 0, none⟩ = some lu := (m45.cell (p := ⟨bl, 0, none⟩) hbl4 hl4.own_ne).trans (hl4.box.cell 0)
      have hf5 : w5.frozen? ⟨bl, 0, none⟩ = false := (hl4.box.mod m45 hl4.own_ne).frozen 0
      refine ⟨fun _ => ⟨c5, (HB0.out.mod H4.out.1 (fun f => f)).mod m45 HW.out.2.2.2⟩, ?_⟩
      refine (fun K hK => ?_); go_simp; refine hK _ ?_; clear hK K
      obtain ⟨g5, p5, _, rfl, _⟩ := own_blk own5 (by omega)
      have hvo : ∀ g, (Value.slice (some ⟨g5, 0, none⟩) (Vs.length + 1) p5).ownBlock = some g → lu.ownBlock = some g ∨ w4.heap.size ≤ g := fun g hg => by
        rcases ob5 with h | h
        · exact .inl (h.symm.trans hg)
        · exact .inr (by rw [h] at hg; injection hg with hg; omega)
      have hp := hl4.push (HL.out.2.mod H4.out.1 (fun _ _ f => f)) HFR.out m45 own5 hvo
      have HP := Lib.hid (And.intro hp (And.intro hvo H4.out.1))
      clear hp hvo m45 hl4 own5 gr5 ob5
      iterate 1 (refine pt_pure rfl rfl (fun K hK => ?_); go_simp; refine hK _ ?_; clear hK K)
      refine pt_unit rfl rfl (exec_store1 (P := Try.prog) (ad := ⟨bl, 0, none⟩) (v := .slice (some ⟨g5, 0, none⟩) (Vs.length + 1) p5) (u := lu) 72 (.tmp 54) (.tmp 53) rfl rfl rfl c5 hf5 rfl rfl rfl size_slN) (fun h => by simp at h) (fun K hK => ?_); go_simp; refine hK _ ?_; clear hK K
      refine pt_nil ?_
      have hps := HP.out.1
      generalize w5.setCell ⟨bl, 0, none⟩ (.slice (some ⟨g5, 0, none⟩) (Vs.length + 1) p5) = w6 at *
      have c6 := hps.1.box.cell 0
      have HR := Lib.hid hps
      clear hps c5 hf5
      go_wp2
      go_ret
      -- zzH
      refine ⟨_, Us ++ [⟨⟨false, [], ks, zs⟩, none, 0, K', kc', A, c⟩], Vs.length, rfl, ?_, by rw [HV.out.2]; exact HR.out.1, ?_, fun g hg => ?_, fun t ht g hg => ?_⟩
      · rw [HV.out.1, List.map_append, HQ.out.2.1, List.map_singleton, HQ.out.1]
        exact HQ.out.2.2
      · exact HW.out.1.then_ (HP.out.2.2.nn.trans HR.out.2) (fun g hg hs => hs.elim .inl (fun hs => (HW.out.2.1 g hs).elim .inr (fun h => by omega)))
      · exact (HP.out.2.1 g hg).elim (HW.out.2.1 g) (fun h => .inr (by omega))
      · rcases List.mem_append.1 ht with ht | ht
        · exact HW.out.2.2.1 t ht g hg
        · rw [List.mem_singleton] at ht; subst ht; exact HFW.out g hg
end
section
variable {w : World}
theorem nodes_any : ∀ (d : Nat) (w : World) (v : Value) (L : List (List Nat)) (k : Nat) (F : List Nat) (base bl : Nat) (lv : Value) (Ts : List TN), TreeAt w d v L k F → (∀ g ∈ F, g < base) → LAt w base bl lv Ts → Ts.length + L.length ≤ 549755813888 → k ≤ 549755813888 → Calls Try.prog 47 #[v, .pointer (some ⟨bl, 0, none⟩)] w (NodesP w d L k base bl lv Ts)
  | 0, w, v, L, k, F, base, bl, lv, Ts, ⟨b, A, c, h⟩, hF, hl, hn, hk => nodes_leaf h hl (by omega) (by omega)
  | d + 1, w, v, L, k, F, base, bl, lv, Ts, ⟨b, ks, ts, K, kc, C, cc, h, e1, e2, e3, hbd⟩, hF, hl, hn, hk => by
    subst e1 e2 e3
    exact nodes_inner h hbd hF hl hn hk (fun wz t lu Us ht hT hlz hnz => nodes_any d wz t.v t.L t.k t.F base bl lu Us hT (fun g hg => hF g (h.mem.2 (.inr (.inr (.inr ⟨t, ht, hg⟩))))) hlz hnz (by
      have := (hbd t ht).2
      cases d <;> simp only [hiB] at this <;> omega))
end
end Go.Proofs.Ytkcpmkeckcnobaa

/- (*tree.Tree).Nodes. -/
namespace Go.Proofs.Ytkcpmkeckcnobaa
open Go.RowKit

theorem info_slNt : (Try.prog.info? 72).map (fun i => (i.zero, i.size)) = some (some (.slice none 0 0), 1) := by kernel_rfl
/-- nodes that were told: an own row of them, each with rows of its own, all from block base on -/
structure NodesV (w : World) (base : Nat) (L : List (List Nat)) (v : Value) (i : Nat) (Us : List TN) : Prop where
  is_ : NodesT L (Us.map (·.n)) i
  row : w.ownsRow base 77 4 v Us.length (flat TN.cells Us)
  ok : ∀ t ∈ Us, t.Ok w base
  ap : Us.Pairwise TN.Far
theorem NodesV.mod {w w' : World} {base i : Nat} {L : List (List Nat)} {v : Value} {Us : List TN} {S : Nat → Prop} (h : NodesV w base L v i Us) (hm : Mod S w w') (hS : ∀ g, base ≤ g → ¬ S g) : NodesV w' base L v i Us :=
  ⟨h.is_, own_mod h.row hm (fun g hg => by
    obtain ⟨_, _, _, hb, _, _⟩ := own_blk_eq h.row hg
    exact hS g hb), fun t ht => (h.ok t ht).mod hm (fun g hg => hS g ((h.ok t ht).b g hg)), h.ap⟩
section
variable {w : World} {b : Nat} {L : List (List Nat)} {G : List Nat}
def NodesO (w : World) (L : List (List Nat)) (r : Ending) (w' : World) : Prop := ∃ v i Us, r = .returned (.tuple #[v, .int .i64 (i : Nat)]) ∧ NodesV w' w.heap.size L v i Us ∧ Mod Nn w w'
set_option maxRecDepth 100000 in
set_option maxHeartbeats 3200000 in
theorem tnodes_any (h : TrAt w b L G) (hn : L.length ≤ 549755813888) : Calls Try.prog 32 #[.pointer (some ⟨b, 0, none⟩)] w (NodesO w L) := by
  have hGw := h.lt
  obtain ⟨v, d, k, F, h1, h2, h3, h4, rfl, h6⟩ := h
  have hk : k ≤ 549755813888 := by cases d <;> simp [hiB] at h3 <;> omega
  have HB := Lib.hid (And.intro h1 (And.intro h2 (And.intro (tree_iface h2) (And.intro hGw (And.intro h3 h4)))))
  clear h1 h2 h3 h4 h6 hGw
  go_enter Try.func32, Try.ntmps32
  go_wp2_with fail
  refine (there_yes HB.out.1 HB.out.2.2.1).mono ?_
  rintro r w1 ⟨rfl, m1⟩
  have H1 := Lib.hid m1
  have hs1 : w.heap.size ≤ w1.heap.size := m1.size
  clear m1
  go_wp2_with (first
    | (with_reducible change wpList _ _ _ (⟨some 4, Op.alloc _, _, _, _, _⟩ :: _) _ _
       go_must (refine wpList_alloc_var 72 rfl rfl info_slNt ?_)
       intro w2 b2 m2 z2
       clear z2
       have hs2 : w1.heap.size < w2.heap.size := b2.lt
       have H2 := Lib.hid (And.intro (H1.out.nn_ m2) b2)
       clear m2 b2)
    | (with_reducible change wpList _ _ _ (⟨some 12, _, _, _, _, _⟩ :: _) _ _
       go_must (refine wpList_val rfl (exec_load1 (P := Try.prog) (v := v) (ad := ⟨b, 0, none⟩) 37 _ rfl rfl ((HB.out.1.mod H2.out.1 (fun f => f)).cell 0) Try.underlying37 rfl) ?_)))
  -- zzA
  have hl : LAt w2 w.heap.size w1.heap.size (.slice none 0 0) [] := ⟨H2.out.2, World.ownsRow_nil _ _ _ _, (fun t ht => by cases ht), hs1, List.Pairwise.nil⟩
  refine (nodes_any d w2 v L k F w.heap.size w1.heap.size _ _ (HB.out.2.1.nn H2.out.1) (fun g hg => HB.out.2.2.2.1 g (List.mem_cons_of_mem _ hg)) hl (by simpa using hn) hk).mono ?_
  rintro r w3 ⟨v', Us, i, rfl, hN, hl3, m3, ho3, hf3⟩
  have hc3 := hl3.box.cell 0
  have hm3 : Mod Nn w w3 := H2.out.1.then_ m3 (fun g hg hs => by
    rcases hs with rfl | hs
    · omega
    · cases hs)
  have H3 := Lib.hid (And.intro hN (And.intro hl3 hm3))
  clear hN hl3 m3 ho3 hf3 hm3 hl
  go_wp2
  go_ret2
  refine ⟨v', i, Us, rfl, ⟨⟨d, k, H3.out.1, HB.out.2.2.2.2.1, HB.out.2.2.2.2.2⟩, ?_, ?_, ?_⟩, H3.out.2.2⟩
  · have := H3.out.2.1.row; simpa using this
  · have := H3.out.2.1.ok; simpa using this
  · have := H3.out.2.1.ap; simpa using this
/-- no tree: no nodes -/
theorem tnodes_no {p : Value} (ht : ∀ w', Mod Nn w w' → Calls Try.prog 43 #[p] w' fun e w'' => e = .returned (.bool false) ∧ Mod Nn w' w'') : Calls Try.prog 32 #[p] w fun r w' => r = .returned (.tuple #[.slice none 0 0, .int .i64 0]) ∧ Mod Nn w w' := by
  have HT := Lib.hid ht
  clear ht
  go_enter Try.func32, Try.ntmps32
  go_wp2_with fail
  refine (HT.out w (Mod.refl _ _)).mono ?_
  rintro r w1 ⟨rfl, m1⟩
  have H1 := Lib.hid m1
  clear m1
  go_wp2
  go_ret2
  exact ⟨rfl, H1.out⟩
end
end Go.Proofs.Ytkcpmkeckcnobaa
