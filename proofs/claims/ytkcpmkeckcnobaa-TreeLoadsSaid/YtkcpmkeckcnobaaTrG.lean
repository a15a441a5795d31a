/- Own lemmas of several kinds, put together: Tr17, Tr18, Tr19. -/
import Derived.Test.YtkcpmkeckcnobaaTrF
import Derived.Test.YtkcpmkeckcnobaaKitF
import Derived.Test.YtkcpmkeckcnobaaKitD
/- tree.after of any part: in plain words. -/
namespace Go.Proofs.Ytkcpmkeckcnobaa
open Go.RowKit

section
variable {X Z : List Kid} {t : Kid} {κ : List Nat} {wi : Bool} {L : List (List Nat)}
theorem aft_from (hX : Ahead (entsOf X) κ) : aft (entsOf (X ++ Z)) κ wi = aft (entsOf Z) κ wi := by
  rw [entsOf_append, aft_append, aft_ahead hX]; rfl
theorem aft_kid : aft (entsOf (t :: Z)) κ wi = (aft t.L κ wi).or (aft (entsOf Z) κ wi) := by
  rw [entsOf_cons, aft_append]
theorem aft_nil : aft (entsOf []) κ wi = none := rfl
theorem aft_mem {r : List Nat} (h : aft L κ wi = some r) : r ∈ L := by
  unfold aft at h
  exact (List.mem_filter.1 (List.mem_of_mem_head? h)).1
theorem aft_len (hr : Rows 80 L) : ((aft L κ wi).getD ze).length = 80 := by
  cases h : aft L κ wi with
  | none => exact ze_len
  | some r => exact (hr r (aft_mem h)).1
end
end Go.Proofs.Ytkcpmkeckcnobaa

/- tree.after of any part. -/
namespace Go.Proofs.Ytkcpmkeckcnobaa
open Go.RowKit

section
variable {b c kc cc d : Nat} {κ : List Nat} {wi : Bool}
def AftP (w : World) (L : List (List Nat)) (κ : List Nat) (wi : Bool) (r : Ending) (w' : World) : Prop := r = .returned (optV (aft L κ wi)) ∧ Mod Nn w w'
set_option maxRecDepth 100000 in
set_option maxHeartbeats 6400000 in
theorem after_any (he : κ.length = 40) (hez : ∀ z ∈ κ, z < 256) : ∀ (d : Nat) (w : World) (v : Value) (L : List (List Nat)) (k : Nat) (F : List Nat), TreeAt w d v L k F → k ≤ 274877906944 → Calls Try.prog 53 #[v, .agg (bv κ).toArray, .bool wi] w (AftP w L κ wi) := by
  intro d
  induction d with
  | zero =>
    rintro w v L k F ⟨b, A, c, h⟩ hk
    exact after_leaf h (by rw [← h.ke]; omega) he hez
  | succ d ih =>
    rintro w v L k F ⟨b, ks, ts, K, kc, C, cc, h, rfl, rfl, rfl, hbd⟩ hk
    have hkl := h.len
    have HB := Lib.hid (And.intro h (And.intro hbd (And.intro hez ih)))
    clear h hbd hez ih
    generalize hXX : innerV b = XX
    have HX := Lib.hid hXX
    unfold innerV at hXX
    subst hXX
    go_enter Try.func53, Try.ntmps53
    go_wp2_with (first
      | (with_reducible change wpList _ _ _ (⟨some 4, Op.box _ _, _, _, _, _⟩ :: _) _ _
         go_must (refine wpList_box_var 23 _ rfl rfl (bv κ).toArray rfl ?_)
         intro w1 b1 m1 z1
         clear z1
         have hs1 : w.heap.size < w1.heap.size := b1.lt
         have H1 := Lib.hid (And.intro m1 b1)
         clear m1 b1)
      | (with_reducible change wpList _ _ _ (⟨some 6, Op.alloc _, _, _, _, _⟩ :: _) _ _
         go_must (refine wpList_alloc_var 28 rfl rfl info_entz ?_)
         intro w2 b2 m2 z2
         clear z2
         have hs2 : w1.heap.size < w2.heap.size := b2.lt
         have H2 := Lib.hid (And.intro (H1.out.1.nn_ m2) (And.intro (H1.out.2.mod m2 (fun f => f)) b2))
         clear m2 b2)
      | (with_reducible change wpList _ _ _ (⟨some 16, _, _, _, _, _⟩ :: _) _ _
         go_must (refine wpList_val rfl (exec_assert_no (P := Try.prog) _ _ _ rfl rfl (by decide) Try.underlying109 info_pleaf) ?_))
      | (with_reducible change wpList _ _ _ (⟨some 46, _, _, _, _, _⟩ :: _) _ _
         go_must (refine wpList_val rfl (exec_assert_yes (P := Try.prog) _ _ _ _ rfl rfl Try.underlying103) ?_)
         rw [if_pos rfl])
      | (with_reducible change wpList _ _ _ (⟨some 50, _, _, _, _, _⟩ :: _) _ _
         go_must (refine wpList_val rfl (exec_load_row (P := Try.prog) (g := w.heap.size) (cs := (bv κ).toArray) 23 _ rfl rfl H2.out.2.1 Try.underlying23 rfl (size_keyk he)) ?_)))
    refine (kid_any (HB.out.1.blk.mod H2.out.1 (fun f => f)) (HB.out.1.krow.nn H2.out.1).rd HB.out.1.krows rfl he HB.out.2.2.1 (by omega) HB.out.1.ksrt).mono ?_
    rintro r w3 ⟨i, rfl, hkx, m3⟩
    obtain ⟨X, t, Y, hts, hXi, hXk, hYk⟩ := kid_split hkx HB.out.1.sep hkl
    have hs3 : w2.heap.size ≤ w3.heap.size := m3.size
    have hi0 : i < ts.length := by rw [hts, ← hXi]; simp
    have hstart : aft (entsOf ts) κ wi = aft (entsOf (ts.drop i)) κ wi := by
      rw [show ts.drop i = t :: Y from by rw [hts, ← hXi, List.drop_left], hts]; exact aft_from hXk
    have H3 := Lib.hid (And.intro (H2.out.1.nn_ m3) (And.intro (H2.out.2.1.mod m3 (fun f => f)) (And.intro (H2.out.2.2.mod m3 (fun f => f)) hstart)))
    clear m3 hkx hts hXi hXk hYk hstart X t Y
    obtain ⟨gC, rfl⟩ := HB.out.1.crow.of_ (by omega)
    go_wp2_with fail
    -- zzA
    go_loopw [12] (fun i wr => ∃ j : Nat, j ≤ ts.length ∧ i = .int .i64 j ∧ Mod Nn w3 wr ∧ Hid (aft (entsOf ts) κ wi = aft (entsOf (ts.drop j)) κ wi)) (fun i _ => ts.length - (intOf i).toNat)
    case atStart => exact ⟨i, by omega, rfl, Mod.refl _ _, Lib.hid H3.out.2.2.2⟩
    case round =>
      obtain ⟨j, hjn, rfl, hm, haft⟩ := hrel
      have hm' : Mod Nn w _ := H3.out.1.nn_ hm
      have hc1 := (HB.out.1.blk.mod hm' (fun f => f)).cell 1
      by_cases hj : j < ts.length
      · have hj' : (j : Int) < ts.length := by omega
        obtain ⟨t, ht⟩ : ∃ t, ts[j]? = some t := ⟨_, List.getElem?_eq_getElem hj⟩
        have htm : t ∈ ts := List.mem_of_getElem? ht
        have hdrop : ts.drop j = t :: ts.drop (j + 1) := by
          rw [List.drop_eq_getElem_cons hj]
          rw [List.getElem?_eq_getElem hj] at ht
          injection ht with ht; rw [ht]
        have hcell : ∀ w', Mod Nn w w' → w'.cell? ⟨gC, j, none⟩ = some t.v := fun w' hmw => by
          obtain ⟨g, off, e, hc⟩ := (HB.out.1.crow.nn hmw).rd.2 (by omega)
          injection e with e; injection e with e1 e2 _; subst e1; subst e2
          have := hc j t.v (by rw [List.getElem?_map, ht]; rfl)
          rwa [Nat.zero_add] at this
        have hbk := HB.out.2.1 t htm
        have hbig : hiB d ≤ 20 := by cases d <;> simp [hiB]
        have hcall : ∀ wz, Mod Nn wr wz → Calls Try.prog 53 #[t.v, .agg (bv κ).toArray, .bool wi] wz fun e w' => ∃ u, e = .returned u ∧ Mod Nn wz w' ∧ u = optV (aft t.L κ wi) := fun wz hz =>
          (HB.out.2.2.2 wz t.v t.L t.k t.F ((HB.out.1.kids t htm).nn (hm'.nn_ hz)) (by omega)).mono fun e w' hA => ⟨_, hA.1, hA.2, rfl⟩
        have htl : ((aft t.L κ wi).getD ze).length = 80 := aft_len (HB.out.1.kids t htm).rows
        rw [hdrop, aft_kid] at haft
        have H4 := Lib.hid (And.intro hm (And.intro hm' (And.intro (H3.out.2.2.1.mod hm (fun f => f)) (And.intro (HB.out.1.blk.mod hm' (fun f => f)) (And.intro (H3.out.2.1.mod hm (fun f => f)) (And.intro hcell (And.intro hcall haft.out)))))))
        clear hm hm' haft hcell hcall hdrop ht htm hbk hbig
        go_wp2_with fail
        -- zzB
        refine wp_region_planV (fun w' => Mod Nn wr w') 14 (.pure 0 (.pure 1 (.pure 2 (.read 3 (.pure 4 (.pure 5 (.read 6 (.read 7 (.pure 8 (.fork 9 13 (.pure 10 (.pure 11 (.pure 12 (.alone 13 (.alone 14 (.pure 15 .nil)))))) (.alone 9 (.pure 10 (.pure 11 (.pure 12 (.alone 14 (.pure 15 .nil)))))))))))))))) (by kernel_rfl) (by kernel_rfl) (Mod.refl Nn wr).drew ?_
        iterate 3 (refine pv_pure rfl rfl (fun K hK => ?_); go_simp; refine hK _ ?_; clear hK K)
        refine pv_take (.slice (some ⟨gC, 0, none⟩) ts.length cc) rfl rfl (fun w' hS => exec_load1 (P := Try.prog) 104 (.tmp 64) rfl rfl ((H4.out.2.2.2.1.mod hS (fun f => f)).cell 1) Try.underlying104 rfl) (fun K hK => ?_); go_simp; refine hK _ ?_; clear hK K
        iterate 1 (refine pv_pure rfl rfl (fun K hK => ?_); go_simp; refine hK _ ?_; clear hK K)
        refine pv_is (.pointer (some ⟨gC, 0 + j * 1, none⟩)) rfl rfl (fun w' => exec_elem (P := Try.prog) (g := gC) (off := 0) (q := j) 104 (.tmp 65) (.tmp 66) rfl 37 1 uuP sizeP rfl rfl hj) (fun K hK => ?_); go_simp; refine hK _ ?_; clear hK K
        refine pv_take t.v rfl rfl (fun w' hS => exec_load1 (P := Try.prog) (ad := ⟨gC, j, none⟩) 37 (.tmp 67) rfl rfl (H4.out.2.2.2.2.2.1 w' (H4.out.2.1.nn_ hS)) Try.underlying37 rfl) (fun K hK => ?_); go_simp; refine hK _ ?_; clear hK K
        refine pv_take (.agg (bv κ).toArray) rfl rfl (fun w' hS => exec_load_row (P := Try.prog) (g := w.heap.size) (cs := (bv κ).toArray) 23 (.tmp 4) rfl rfl (H4.out.2.2.2.2.1.mod hS (fun f => f)) Try.underlying23 rfl (size_keyk he)) (fun K hK => ?_); go_simp; refine hK _ ?_; clear hK K
        iterate 1 (refine pv_pure rfl rfl (fun K hK => ?_); go_simp; refine hK _ ?_; clear hK K)
        have hszr : w3.heap.size ≤ wr.heap.size := H4.out.1.size
        obtain ⟨bo, ho⟩ : ∃ bo, (aft t.L κ wi).isSome = bo := ⟨_, rfl⟩
        have HO := Lib.hid ho
        clear ho
        refine pv_fork ?_ ?_
        · refine pv_call rfl rfl (fun K hK => ?_); go_simp; refine ⟨_, _, ⟨rfl, rfl⟩, hK _ _ _ ?_⟩; clear hK K
          refine (H4.out.2.2.2.2.2.2.1 wr.drew (Mod.refl Nn wr).drew).mono ?_
          rintro e w4 ⟨u, rfl, m4, rfl⟩
          refine ⟨_, rfl, fun _ => m4.of_drew, ?_⟩
          unfold optV
          rw [HO.out]
          iterate 3 (refine pv_pure rfl rfl (fun K hK => ?_); go_simp; refine hK _ ?_; clear hK K)
          refine pv_val rfl rfl (exec_alloc (P := Try.prog) 28 rfl info_entz) (fun _ => m4.of_drew.alloc _) (fun K hK => ?_); go_simp; refine hK _ ?_; clear hK K
          obtain ⟨g, hg⟩ : ∃ g, w4.heap.size = g := ⟨_, rfl⟩
          have hs5 : wr.heap.size ≤ g := by rw [← hg]; exact m4.of_drew.size
          have H5 := Lib.hid (And.intro (hg ▸ Blk.new w4 28 (Value.agg (bv ze).toArray).cells : Blk (w4.alloc (.cells (Value.agg (bv ze).toArray).cells 28)) g 28 (Value.agg (bv ze).toArray).cells) (m4.of_drew.alloc (.cells (Value.agg (bv ze).toArray).cells 28)))
          rw [hg]
          clear m4 hg
          generalize w4.alloc (.cells (Value.agg (bv ze).toArray).cells 28) = w5 at *
          refine pv_unit rfl rfl (exec_store_row (P := Try.prog) 28 (.tmp 13) (.tmp 72) rfl (g := g) (cells := (bv ((aft t.L κ wi).getD ze)).toArray) rfl rfl H5.out.1 (size_ente htl) (by rw [bv_size, htl]; rfl) (bv_all _)) (fun h => by simp at h) (fun K hK => ?_); go_simp; refine hK _ ?_; clear hK K
          iterate 1 (refine pv_pure rfl rfl (fun K hK => ?_); go_simp; refine hK _ ?_; clear hK K)
          refine pv_nil ?_
          have H6 := Lib.hid (And.intro (H5.out.1.setRow_ (bv ((aft t.L κ wi).getD ze)).toArray) (H5.out.2.new_ (Mod.rowAt w5 g (bv ((aft t.L κ wi).getD ze)).toArray) hs5))
          clear H5
          generalize w5.setRow g (bv ((aft t.L κ wi).getD ze)).toArray = w6 at *
          -- zzE
          cases bo
          · have hn : aft t.L κ wi = none := Option.isNone_iff_eq_none.1 (by simpa using HO.out)
            have hn2 : aft (entsOf ts) κ wi = aft (entsOf (ts.drop (j + 1))) κ wi := by rw [H4.out.2.2.2.2.2.2.2, hn, Option.none_or]
            have H7 := Lib.hid hn2
            clear hn hn2
            go_wp2
            exact ⟨⟨j + 1, by omega, by go_num, H4.out.1.nn_ H6.out.2, H7⟩, by simp [intOf]; omega⟩
          · go_wp2_with (first
              | (with_reducible change wpList _ _ _ (⟨some 75, _, _, _, _, _⟩ :: _) _ _
                 go_must (refine wpList_val rfl (exec_load_row (P := Try.prog) (g := g) (cs := (bv ((aft t.L κ wi).getD ze)).toArray) 28 _ rfl rfl H6.out.1 Try.underlying28 rfl (size_ente htl)) ?_))
              | (with_reducible change wpList _ _ _ (⟨none, Op.store _ (Operand.tmp 6) _, _, _, _, _⟩ :: _) _ _
                 go_must (refine wpList_store_var 28 _ _ rfl rfl w1.heap.size (bv ((aft t.L κ wi).getD ze)).toArray _ _ rfl rfl (H4.out.2.2.1.mod H6.out.2 (fun f => f)) (size_ente htl) (by rw [bv_size, htl]; rfl) (bv_all _) ?_)
                 intro w7 b7 m7 z7
                 clear z7
                 have H7 := Lib.hid (And.intro ((H4.out.2.1.nn_ H6.out.2).new_ m7 (by omega)) b7)
                 clear m7 b7))
            refine bodyPost_ret (results_cell_tmp_row (P := Try.prog) (g := w1.heap.size) rfl _ rfl H7.out.2 Try.underlying28 rfl (size_ente htl)) rfl ?_
            refine ⟨?_, H7.out.1⟩
            rw [H4.out.2.2.2.2.2.2.2]
            obtain ⟨r, hr⟩ := Option.isSome_iff_exists.1 HO.out
            rw [hr]; rfl
        · refine pv_val rfl rfl (exec_alloc (P := Try.prog) 28 rfl info_entz) (fun _ => (Mod.refl Nn wr).drew.alloc _) (fun K hK => ?_); go_simp; refine hK _ ?_; clear hK K
          have hb4 : Blk (wr.drew.alloc (.cells (Value.agg (bv ze).toArray).cells 28)) wr.heap.size 28 (Value.agg (bv ze).toArray).cells := Blk.new wr.drew _ _
          obtain ⟨g, hg⟩ : ∃ g, wr.heap.size = g := ⟨_, rfl⟩
          have hs5 : wr.heap.size ≤ g := by omega
          rw [hg] at hb4 ⊢
          have H4b := Lib.hid (And.intro hb4 ((Mod.refl Nn wr).drew.alloc (.cells (Value.agg (bv ze).toArray).cells 28)))
          clear hg hb4
          generalize wr.drew.alloc (.cells (Value.agg (bv ze).toArray).cells 28) = w4 at *
          refine pv_call rfl rfl (fun K hK => ?_); go_simp; refine ⟨_, _, ⟨rfl, rfl⟩, hK _ _ _ ?_⟩; clear hK K
          refine (H4.out.2.2.2.2.2.2.1 w4 H4b.out.2).mono ?_
          rintro e w5 ⟨u, rfl, m5, rfl⟩
          refine ⟨_, rfl, fun _ => H4b.out.2.nn_ m5, ?_⟩
          unfold optV
          rw [HO.out]
          iterate 3 (refine pv_pure rfl rfl (fun K hK => ?_); go_simp; refine hK _ ?_; clear hK K)
          have H5 := Lib.hid (And.intro (H4b.out.1.mod m5 (fun f => f)) (H4b.out.2.nn_ m5))
          clear m5 H4b
          refine pv_unit rfl rfl (exec_store_row (P := Try.prog) 28 (.tmp 13) (.tmp 72) rfl (g := g) (cells := (bv ((aft t.L κ wi).getD ze)).toArray) rfl rfl H5.out.1 (size_ente htl) (by rw [bv_size, htl]; rfl) (bv_all _)) (fun h => by simp at h) (fun K hK => ?_); go_simp; refine hK _ ?_; clear hK K
          iterate 1 (refine pv_pure rfl rfl (fun K hK => ?_); go_simp; refine hK _ ?_; clear hK K)
          refine pv_nil ?_
          have H6 := Lib.hid (And.intro (H5.out.1.setRow_ (bv ((aft t.L κ wi).getD ze)).toArray) (H5.out.2.new_ (Mod.rowAt w5 g (bv ((aft t.L κ wi).getD ze)).toArray) hs5))
          clear H5
          generalize w5.setRow g (bv ((aft t.L κ wi).getD ze)).toArray = w6 at *
          -- zzE
          cases bo
          · have hn : aft t.L κ wi = none := Option.isNone_iff_eq_none.1 (by simpa using HO.out)
            have hn2 : aft (entsOf ts) κ wi = aft (entsOf (ts.drop (j + 1))) κ wi := by rw [H4.out.2.2.2.2.2.2.2, hn, Option.none_or]
            have H7 := Lib.hid hn2
            clear hn hn2
            go_wp2
            exact ⟨⟨j + 1, by omega, by go_num, H4.out.1.nn_ H6.out.2, H7⟩, by simp [intOf]; omega⟩
          · go_wp2_with (first
              | (with_reducible change wpList _ _ _ (⟨some 75, _, _, _, _, _⟩ :: _) _ _
                 go_must (refine wpList_val rfl (exec_load_row (P := Try.prog) (g := g) (cs := (bv ((aft t.L κ wi).getD ze)).toArray) 28 _ rfl rfl H6.out.1 Try.underlying28 rfl (size_ente htl)) ?_))
              | (with_reducible change wpList _ _ _ (⟨none, Op.store _ (Operand.tmp 6) _, _, _, _, _⟩ :: _) _ _
                 go_must (refine wpList_store_var 28 _ _ rfl rfl w1.heap.size (bv ((aft t.L κ wi).getD ze)).toArray _ _ rfl rfl (H4.out.2.2.1.mod H6.out.2 (fun f => f)) (size_ente htl) (by rw [bv_size, htl]; rfl) (bv_all _) ?_)
                 intro w7 b7 m7 z7
                 clear z7
                 have H7 := Lib.hid (And.intro ((H4.out.2.1.nn_ H6.out.2).new_ m7 (by omega)) b7)
                 clear m7 b7))
            refine bodyPost_ret (results_cell_tmp_row (P := Try.prog) (g := w1.heap.size) rfl _ rfl H7.out.2 Try.underlying28 rfl (size_ente htl)) rfl ?_
            refine ⟨?_, H7.out.1⟩
            rw [H4.out.2.2.2.2.2.2.2]
            obtain ⟨r, hr⟩ := Option.isSome_iff_exists.1 HO.out
            rw [hr]; rfl
      · have hj' : ¬ (j : Int) < ts.length := by omega
        have haft' : aft (entsOf ts) κ wi = none := by rw [haft.out, List.drop_of_length_le (by omega)]; rfl
        have H4 := Lib.hid (And.intro hm' (And.intro (H3.out.2.2.1.mod hm (fun f => f)) haft'))
        clear hm hm' haft haft'
        go_wp2_with (first
          | (with_reducible change wpList _ _ _ (⟨some 76, _, _, _, _, _⟩ :: _) _ _
             go_must (refine wpList_val rfl (exec_zero_ent rfl) ?_))
          | (with_reducible change wpList _ _ _ (⟨none, Op.store _ (Operand.tmp 6) _, _, _, _, _⟩ :: _) _ _
             go_must (refine wpList_store_var 28 _ _ rfl rfl w1.heap.size (bv ze).toArray _ _ rfl rfl H4.out.2.1 (size_ente ze_len) rfl (bv_all _) ?_)
             intro w5 b5 m5 z5
             clear z5
             have H5 := Lib.hid (And.intro (H4.out.1.new_ m5 (by omega)) b5)
             clear m5 b5))
        refine bodyPost_ret (results_cell_tmp_row (P := Try.prog) (g := w1.heap.size) rfl _ rfl H5.out.2 Try.underlying28 rfl (size_ente ze_len)) rfl ?_
        refine ⟨?_, H5.out.1⟩
        rw [H4.out.2.2]; rfl
end
end Go.Proofs.Ytkcpmkeckcnobaa

/- A *tree.Tree in memory; there, New, Len, After, Get. -/
namespace Go.Proofs.Ytkcpmkeckcnobaa
open Go.RowKit

/-- a tree: its block, its entries, all its blocks -/
def TrAt (w : World) (b : Nat) (L : List (List Nat)) (G : List Nat) : Prop :=
  ∃ v d k F, Blk w b 39 #[v, .int .i64 L.length] ∧ TreeAt w d v L k F ∧ k ≤ hiB d ∧ (d = 0 ∨ 2 ≤ k) ∧ G = b :: F ∧ b ∉ F
section
variable {w w' : World} {S : Nat → Prop} {b : Nat} {L : List (List Nat)} {G : List Nat}
theorem TrAt.mod (h : TrAt w b L G) (hm : Mod S w w') (hS : ∀ g ∈ G, ¬ S g) : TrAt w' b L G := by
  obtain ⟨v, d, k, F, h1, h2, h3, h4, rfl, h6⟩ := h
  exact ⟨v, d, k, F, h1.mod hm (hS b List.mem_cons_self), h2.mod hm (fun g hg => hS g (List.mem_cons_of_mem _ hg)), h3, h4, rfl, h6⟩
theorem TrAt.nn (h : TrAt w b L G) (hm : Mod Nn w w') : TrAt w' b L G := h.mod hm (fun _ _ f => f)
theorem TrAt.lt (h : TrAt w b L G) : ∀ g ∈ G, g < w.heap.size := by
  obtain ⟨v, d, k, F, h1, h2, h3, h4, rfl, h6⟩ := h
  intro g hg
  rcases List.mem_cons.1 hg with rfl | hg
  · exact h1.lt
  · exact h2.lt g hg
theorem TrAt.srt (h : TrAt w b L G) : Srt L := by
  obtain ⟨v, d, k, F, h1, h2, h3, h4, rfl, h6⟩ := h
  exact h2.srt
theorem TrAt.rows (h : TrAt w b L G) : Rows 80 L := by
  obtain ⟨v, d, k, F, h1, h2, h3, h4, rfl, h6⟩ := h
  exact h2.rows
theorem TrAt.self (h : TrAt w b L G) : b ∈ G := by
  obtain ⟨v, d, k, F, h1, h2, h3, h4, rfl, h6⟩ := h
  exact List.mem_cons_self
end
/-! ## there, Len -/
theorem there_nil (w : World) : Calls Try.prog 43 #[.pointer none] w fun e w' => e = .returned (.bool false) ∧ Mod Nn w w' := by
  go_enter Try.func43, Try.ntmps43
  go_wp2
  go_ret
  exact ⟨rfl, Mod.refl _ _⟩
theorem there_none {w : World} {b : Nat} {n : Value} (h : Blk w b 39 #[.nilIface, n]) : Calls Try.prog 43 #[.pointer (some ⟨b, 0, none⟩)] w fun e w' => e = .returned (.bool false) ∧ Mod Nn w w' := by
  have hc := h.cell 0
  go_enter Try.func43, Try.ntmps43
  go_wp2
  go_ret
  exact ⟨rfl, Mod.refl _ _⟩
theorem there_yes {w : World} {b : Nat} {v n : Value} (h : Blk w b 39 #[v, n]) (hv : ∃ T g, v = .iface T (.pointer (some ⟨g, 0, none⟩))) : Calls Try.prog 43 #[.pointer (some ⟨b, 0, none⟩)] w fun e w' => e = .returned (.bool true) ∧ Mod Nn w w' := by
  obtain ⟨T, g, rfl⟩ := hv
  have hc := h.cell 0
  go_enter Try.func43, Try.ntmps43
  go_wp2
  go_ret
  exact ⟨rfl, Mod.refl _ _⟩
theorem tlen_any {w : World} {b : Nat} {L : List (List Nat)} {G : List Nat} (h : TrAt w b L G) : Calls Try.prog 20 #[.pointer (some ⟨b, 0, none⟩)] w fun e w' => e = .returned (.int .i64 L.length) ∧ Mod Nn w w' := by
  obtain ⟨v, d, k, F, h1, h2, h3, h4, rfl, h6⟩ := h
  obtain ⟨n, hn⟩ : ∃ n : Nat, L.length = n := ⟨_, rfl⟩
  rw [hn] at h1 ⊢
  have HB := Lib.hid (And.intro h1 (tree_iface h2))
  clear h1 h2 h3 h4 h6 hn
  go_enter Try.func20, Try.ntmps20
  go_wp2_with fail
  refine (there_yes HB.out.1 HB.out.2).mono ?_
  rintro e w1 ⟨rfl, m1⟩
  have hc : w1.cell? ⟨b, 1, none⟩ = some (.int .i64 n) := (HB.out.1.mod m1 (fun f => f)).cell 1
  have H1 := Lib.hid m1
  clear m1
  go_wp2
  go_ret
  exact ⟨rfl, H1.out⟩
theorem tlen_nil (w : World) : Calls Try.prog 20 #[.pointer none] w fun e w' => e = .returned (.int .i64 0) ∧ Mod Nn w w' := by
  go_enter Try.func20, Try.ntmps20
  go_wp2_with fail
  refine (there_nil w).mono ?_
  rintro e w1 ⟨rfl, m1⟩
  have H1 := Lib.hid m1
  clear m1
  go_wp2
  go_ret
  exact ⟨rfl, H1.out⟩
theorem tlen_none {w : World} {b : Nat} {n : Value} (h : Blk w b 39 #[.nilIface, n]) : Calls Try.prog 20 #[.pointer (some ⟨b, 0, none⟩)] w fun e w' => e = .returned (.int .i64 0) ∧ Mod Nn w w' := by
  go_enter Try.func20, Try.ntmps20
  go_wp2_with fail
  refine (there_none h).mono ?_
  rintro e w1 ⟨rfl, m1⟩
  have H1 := Lib.hid m1
  clear m1
  go_wp2
  go_ret
  exact ⟨rfl, H1.out⟩
theorem tnew_any (w : World) : Calls Try.prog 28 #[] w fun e w' => ∃ b G, e = .returned (.pointer (some ⟨b, 0, none⟩)) ∧ TrAt w' b [] G ∧ (∀ g ∈ G, w.heap.size ≤ g) ∧ Mod Nn w w' := by
  go_enter Try.func28, Try.ntmps28
  go_wp2
  go_ret
  -- zzN
  have b1 : Blk (w.alloc (.cells #[.slice none 0 0] 111)) w.heap.size 111 #[.slice none 0 0] := Blk.new _ _ _
  have m1 : Mod Nn w (w.alloc (.cells #[.slice none 0 0] 111)) := (Mod.refl _ _).alloc _
  generalize hw1 : w.alloc (.cells #[.slice none 0 0] 111) = w1 at *
  have hs1 : w.heap.size + 1 = w1.heap.size := by rw [← hw1]; simp
  refine ⟨w1.heap.size, [w1.heap.size, w.heap.size], by rw [← hs1]; rfl, ⟨leafV w.heap.size, 0, 0, [w.heap.size], Blk.new _ _ _, ⟨w.heap.size, none, 0, rfl, b1.alloc _, Hold.nil _ _ _, (fun r hr => by cases hr), List.Pairwise.nil, rfl, rfl, by simp⟩, by simp [hiB], .inl rfl, rfl, by simp; omega⟩, ?_, m1.alloc _⟩
  intro g hg
  simp only [List.mem_cons, List.not_mem_nil, or_false] at hg
  omega
/-! ## After, Get -/
section
variable {w : World} {b : Nat} {L : List (List Nat)} {G : List Nat} {κ : List Nat} {wi : Bool}
def AftT (w : World) (o : Option (List Nat)) (r : Ending) (w' : World) : Prop := r = .returned (optV o) ∧ Mod Nn w w'
set_option maxRecDepth 100000 in
set_option maxHeartbeats 3200000 in
theorem tafter_no {v0 : Value} (hk : ∃ hs : List Nat, hs.length = 40 ∧ v0 = .agg (bv hs).toArray) {p : Value} (ht : ∀ w', Mod Nn w w' → Calls Try.prog 43 #[p] w' fun e w'' => e = .returned (.bool false) ∧ Mod Nn w' w'') : Calls Try.prog 36 #[p, v0, .bool wi] w (AftT w none) := by
  obtain ⟨κ, he, rfl⟩ := hk
  have HT := Lib.hid ht
  clear ht
  go_enter Try.func36, Try.ntmps36
  go_wp2_with (first
    | (with_reducible change wpList _ _ _ (⟨some 4, Op.box _ _, _, _, _, _⟩ :: _) _ _
       go_must (refine wpList_box_var 23 _ rfl rfl (bv κ).toArray rfl ?_)
       intro w1 b1 m1 z1
       clear z1 b1
       have H1 := Lib.hid m1
       clear m1)
    | (with_reducible change wpList _ _ _ (⟨some 6, Op.alloc _, _, _, _, _⟩ :: _) _ _
       go_must (refine wpList_alloc_var 28 rfl rfl info_entz ?_)
       intro w2 b2 m2 z2
       clear z2
       have hs2 : w.heap.size ≤ w1.heap.size := H1.out.size
       have H2 := Lib.hid (And.intro (H1.out.nn_ m2) b2)
       clear m2 b2))
  refine (HT.out w2 H2.out.1).mono ?_
  rintro e w3 ⟨rfl, m3⟩
  have H3 := Lib.hid (And.intro (H2.out.1.nn_ m3) (H2.out.2.mod m3 (fun f => f)))
  clear m3
  go_wp2_with (first
    | (with_reducible change wpList _ _ _ (⟨some 11, _, _, _, _, _⟩ :: _) _ _
       go_must (refine wpList_val rfl (exec_zero_ent rfl) ?_))
    | (with_reducible change wpList _ _ _ (⟨none, Op.store _ (Operand.tmp 6) _, _, _, _, _⟩ :: _) _ _
       go_must (refine wpList_store_var 28 _ _ rfl rfl w1.heap.size (bv ze).toArray _ _ rfl rfl H3.out.2 (size_ente ze_len) rfl (bv_all _) ?_)
       intro w4 b4 m4 z4
       clear z4
       have H4 := Lib.hid (And.intro (H3.out.1.new_ m4 hs2) b4)
       clear m4 b4))
  refine bodyPost_ret (results_cell_tmp_row (P := Try.prog) (g := w1.heap.size) rfl _ rfl H4.out.2 Try.underlying28 rfl (size_ente ze_len)) rfl ?_
  exact ⟨rfl, H4.out.1⟩
set_option maxRecDepth 100000 in
set_option maxHeartbeats 3200000 in
theorem tafter_any (h : TrAt w b L G) (he : κ.length = 40) (hez : ∀ z ∈ κ, z < 256) : Calls Try.prog 36 #[.pointer (some ⟨b, 0, none⟩), .agg (bv κ).toArray, .bool wi] w (AftT w (aft L κ wi)) := by
  have hal : ((aft L κ wi).getD ze).length = 80 := aft_len h.rows
  obtain ⟨v, d, k, F, h1, h2, h3, h4, rfl, h6⟩ := h
  have hk : k ≤ 274877906944 := by cases d <;> simp [hiB] at h3 <;> omega
  have HB := Lib.hid (And.intro h1 (And.intro h2 (And.intro (tree_iface h2) (And.intro hez hal))))
  clear h1 h2 h3 h4 h6 hez hal
  go_enter Try.func36, Try.ntmps36
  go_wp2_with (first
    | (with_reducible change wpList _ _ _ (⟨some 4, Op.box _ _, _, _, _, _⟩ :: _) _ _
       go_must (refine wpList_box_var 23 _ rfl rfl (bv κ).toArray rfl ?_)
       intro w1 b1 m1 z1
       clear z1
       have H1 := Lib.hid (And.intro m1 b1)
       clear m1 b1)
    | (with_reducible change wpList _ _ _ (⟨some 6, Op.alloc _, _, _, _, _⟩ :: _) _ _
       go_must (refine wpList_alloc_var 28 rfl rfl info_entz ?_)
       intro w2 b2 m2 z2
       clear z2
       have hs2 : w.heap.size ≤ w1.heap.size := H1.out.1.size
       have H2 := Lib.hid (And.intro (H1.out.1.nn_ m2) (And.intro (H1.out.2.mod m2 (fun f => f)) b2))
       clear m2 b2))
  refine (there_yes (HB.out.1.mod H2.out.1 (fun f => f)) HB.out.2.2.1).mono ?_
  rintro e w3 ⟨rfl, m3⟩
  have H3 := Lib.hid (And.intro (H2.out.1.nn_ m3) (And.intro (H2.out.2.1.mod m3 (fun f => f)) (And.intro (H2.out.2.2.mod m3 (fun f => f)) (HB.out.1.mod (H2.out.1.nn_ m3) (fun f => f)))))
  clear m3
  go_wp2_with fail
  refine wp_region_planT (fun w' => Mod Nn w3 w') 9 [(0, 0), (1, 0), (2, 0), (3, 1), (4, 1), (5, 0), (6, 2), (7, 0), (8, 0), (9, 2), (10, 0)] (by kernel_rfl) (by kernel_rfl) (Mod.refl Nn w3).drew ?_
  iterate 3 (refine pt_pure rfl rfl (fun K hK => ?_); go_simp; refine hK _ ?_; clear hK K)
  refine pt_take v rfl rfl (fun w' hS => exec_load1 (P := Try.prog) 37 (.tmp 14) rfl rfl ((H3.out.2.2.2.mod hS (fun f => f)).cell 0) Try.underlying37 rfl) (fun K hK => ?_); go_simp; refine hK _ ?_; clear hK K
  refine pt_take (.agg (bv κ).toArray) rfl rfl (fun w' hS => exec_load_row (P := Try.prog) (g := w.heap.size) (cs := (bv κ).toArray) 23 (.tmp 4) rfl rfl (H3.out.2.1.mod hS (fun f => f)) Try.underlying23 rfl (size_keyk he)) (fun K hK => ?_); go_simp; refine hK _ ?_; clear hK K
  iterate 1 (refine pt_pure rfl rfl (fun K hK => ?_); go_simp; refine hK _ ?_; clear hK K)
  refine pt_call rfl rfl (fun K hK => ?_); go_simp; refine ⟨_, _, ⟨rfl, rfl⟩, hK _ _ _ ?_⟩; clear hK K
  refine (after_any he HB.out.2.2.2.1 d w3.drew v L k F (HB.out.2.1.nn (H3.out.1.nn_ (Mod.refl Nn w3).drew)) hk).mono ?_
  rintro r w5 ⟨rfl, m5⟩
  refine ⟨_, rfl, fun _ => m5.of_drew, ?_⟩
  have H5 := Lib.hid (And.intro (H3.out.1.nn_ m5.of_drew) (H3.out.2.2.1.mod m5.of_drew (fun f => f)))
  clear m5
  unfold optV
  iterate 2 (refine pt_pure rfl rfl (fun K hK => ?_); go_simp; refine hK _ ?_; clear hK K)
  refine pt_unit rfl rfl (exec_store_row (P := Try.prog) 28 (.tmp 6) (.tmp 19) rfl (g := w1.heap.size) (cells := (bv ((aft L κ wi).getD ze)).toArray) rfl rfl H5.out.2 (size_ente HB.out.2.2.2.2) (by rw [bv_size, HB.out.2.2.2.2]; rfl) (bv_all _)) (fun h => by simp at h) (fun K hK => ?_); go_simp; refine hK _ ?_; clear hK K
  iterate 1 (refine pt_pure rfl rfl (fun K hK => ?_); go_simp; refine hK _ ?_; clear hK K)
  refine pt_nil ?_
  have H6 := Lib.hid (And.intro (H5.out.2.setRow_ (bv ((aft L κ wi).getD ze)).toArray) (H5.out.1.new_ (Mod.rowAt w5 w1.heap.size (bv ((aft L κ wi).getD ze)).toArray) hs2))
  clear H5
  generalize w5.setRow w1.heap.size (bv ((aft L κ wi).getD ze)).toArray = w6 at *
  go_wp2
  refine bodyPost_ret (results_cell_tmp_row (P := Try.prog) (g := w1.heap.size) rfl _ rfl H6.out.1 Try.underlying28 rfl (size_ente HB.out.2.2.2.2)) rfl ?_
  exact ⟨rfl, H6.out.2⟩
end
end Go.Proofs.Ytkcpmkeckcnobaa
