/- Own lemmas of several kinds, put together: Tr2, Tr3, Tr4, Tr5. -/
import Derived.Test.YtkcpmkeckcnobaaTr1
import Derived.Test.YtkcpmkeckcnobaaKitF
import Derived.Lib.IfaceNeq
/- tree.cut of a leaf. -/
namespace Go.Proofs.Ytkcpmkeckcnobaa
open Go.RowKit

def zk : List Nat := List.replicate 40 0
theorem info_keyz : (Try.prog.info? 23).map (fun i => (i.zero, i.size)) = some (some (.agg (bv zk).toArray), 40) := by kernel_rfl
theorem zero_keyz : (Try.prog.info? 23).map (·.zero) = some (some (.agg (bv (List.replicate 40 0)).toArray)) := by kernel_rfl
theorem size_keyk {l : List Nat} (h : l.length = 40) : (Try.prog.info? 23).map (·.size) = some (bv l).toArray.size := by rw [bv_size, h]; exact size_keyT
theorem size_u8t : (Try.prog.info? 5).map (·.size) = some 1 := by kernel_rfl
theorem size_slE : (Try.prog.info? 40).map (·.size) = some 1 := by kernel_rfl
theorem zk_len : zk.length = 40 := rfl
/-- what cut tells -/
def CutP (w : World) (d : Nat) (v : Value) (L : List (List Nat)) (k : Nat) (F : List Nat) (r : Ending) (w' : World) : Prop :=
  (k ≤ hiB d ∧ r = .returned (.tuple #[.nilIface, .agg (bv zk).toArray]) ∧ Mod Nn w w') ∨
  (hiB d < k ∧ ∃ u κ L1 L2 F1 F2, r = .returned (.tuple #[u, .agg (bv κ).toArray]) ∧ L = L1 ++ L2 ∧ TreeAt w' d v L1 (k / 2) F1 ∧ TreeAt w' d u L2 (k - k / 2) F2 ∧ (F1 ++ F2).Nodup ∧ (∀ g ∈ F1 ++ F2, g ∈ F ∨ w.heap.size ≤ g) ∧ Mod (· ∈ F) w w' ∧ κ.length = 40 ∧ (∀ z ∈ κ, z < 256) ∧ Ahead L1 κ ∧ ∀ r ∈ L2, ¬ klt (keyOf r) κ)
theorem info_pleaf : (Try.prog.info? 109).map (fun i => (i.zero, i.size)) = some (some (.pointer none), 1) := by kernel_rfl
theorem info_pinner : (Try.prog.info? 103).map (fun i => (i.zero, i.size)) = some (some (.pointer none), 1) := by kernel_rfl
section
variable {w : World} {v : Value} {L : List (List Nat)} {k b c : Nat} {F : List Nat} {A : Option Addr}
set_option maxRecDepth 100000 in
set_option maxHeartbeats 3200000 in
theorem cut_leaf (h : LeafAt w v L k F b A c) (hn : L.length ≤ 1099511627776) : Calls Try.prog 45 #[v] w (CutP w 0 v L k F) := by
  obtain ⟨rfl, hb, hrow, hrows, hsrt, rfl, rfl, hnd⟩ := h
  unfold leafV
  by_cases hk : L.length ≤ 12
  case pos =>
    have hk' : (L.length : Int) ≤ 12 := by omega
    have HB := Lib.hid hb
    clear hb hrow hrows hsrt hnd
    go_enter Try.func45, Try.ntmps45
    go_wp2_with (first
      | (with_reducible change wpList _ _ _ (⟨some 3, Op.alloc _, _, _, _, _⟩ :: _) _ _
         go_must (refine wpList_alloc_var 23 rfl rfl info_keyz ?_)
         intro w2 b2 m2 z2
         clear z2
         have hc0 : w2.cell? ⟨b, 0, none⟩ = some (.slice A L.length c) := (HB.out.mod m2 (fun f => f)).cell 0
         have H2 := Lib.hid (And.intro m2 b2)
         clear m2 b2)
      | (with_reducible change wpList _ _ _ (⟨some 12, _, _, _, _, _⟩ :: _) _ _
         go_must (refine wpList_val rfl (exec_assert_yes (P := Try.prog) _ _ _ _ rfl rfl Try.underlying109) ?_)
         rw [if_pos rfl])
      | (with_reducible change wpList _ _ _ (⟨some 21, _, _, _, _, _⟩ :: _) _ _
         go_must (refine wpList_val rfl (exec_zero_bytes (P := Try.prog) 23 5 40 rfl Try.underlying23 size_u8t zero_keyz) ?_))
      | (with_reducible change wpList _ _ _ (⟨none, Op.store _ (Operand.tmp 3) _, _, _, _, _⟩ :: _) _ _
         go_must (refine wpList_store_var 23 _ _ rfl rfl w.heap.size (bv zk).toArray _ _ rfl rfl H2.out.2 (size_keyk zk_len) rfl (bv_all _) ?_)
         intro w3 b3 m3 z3
         clear z3
         have H3 := Lib.hid (And.intro (H2.out.1.new_ m3 (Nat.le_refl _)) b3)
         clear m3 b3))
    refine bodyPost_ret (results_tmp_cell_row (P := Try.prog) (g := w.heap.size) rfl _ rfl H3.out.2 Try.underlying23 rfl (size_keyk zk_len)) rfl ?_
    exact .inl ⟨hk, rfl, H3.out.1⟩
  obtain ⟨M, hM⟩ : ∃ M, L.length / 2 = M := ⟨_, rfl⟩
  have hMI : (L.length : Int) / 2 = M := by omega
  have hMn : M ≤ L.length := by omega
  have hk' : ¬ (L.length : Int) ≤ 12 := by omega
  have hle := hrow.le
  obtain ⟨ga, rfl⟩ := hrow.of_ (by omega)
  have hrd : RdC w (subA (some ⟨ga, 0, none⟩) c M 80) (L.length - M) 80 (bv (L.drop M).flatten) := by
    have := hrow.rd.tail (c := c) (by omega) hMn hle.1
    rwa [bv_drop, rows_drop (fun r hr => (hrows r hr).1)] at this
  obtain ⟨r0, L2, hL2⟩ : ∃ r0 L2, L.drop M = r0 :: L2 := by
    cases h0 : L.drop M with
    | nil => have := congrArg List.length h0; rw [List.length_drop] at this; simp at this; omega
    | cons r0 L2 => exact ⟨r0, L2, rfl⟩
  have hr0 : r0 ∈ L := List.mem_of_mem_drop (by rw [hL2]; exact List.mem_cons_self)
  have hga : ga ≠ b := by
    intro e; subst e
    simp [blks] at hnd
  have HB := Lib.hid (And.intro hb (And.intro hrow (And.intro hrows (And.intro hsrt (And.intro hnd (And.intro hrd (And.intro hL2 (And.intro hr0 hM))))))))
  clear hb hrow hrows hsrt hnd hrd hL2 hr0 hM
  go_enter Try.func45, Try.ntmps45
  go_wp2_with (first
    | (with_reducible change wpList _ _ _ (⟨some 3, Op.alloc _, _, _, _, _⟩ :: _) _ _
       go_must (refine wpList_alloc_var 23 rfl rfl info_keyz ?_)
       intro w2 b2 m2 z2
       clear z2
       have hc0 : w2.cell? ⟨b, 0, none⟩ = some (.slice (some ⟨ga, 0, none⟩) L.length c) := (HB.out.1.mod m2 (fun f => f)).cell 0
       have H2 := Lib.hid (And.intro m2 b2)
       clear m2 b2)
    | (with_reducible change wpList _ _ _ (⟨some 12, _, _, _, _, _⟩ :: _) _ _
       go_must (refine wpList_val rfl (exec_assert_yes (P := Try.prog) _ _ _ _ rfl rfl Try.underlying109) ?_)
       rw [if_pos rfl])
    | (with_reducible change wpList _ _ _ (⟨some 33, Op.slice _ _ _ _ _, _, _, _, _⟩ :: _) _ _
       go_must (refine wpList_sub_l 40 _ _ rfl rfl 28 80 uuE sizeE M rfl rfl hMn ?_)))
  refine (scloneE_any (HB.out.2.2.2.2.2.1.md (by omega) H2.out.1 (fun _ _ f => f)) (bv_one _) (by omega)).mono ?_
  rintro r w3 ⟨A3, c3, rfl, h3, m3, hA3⟩
  have hd2 : (L.drop M).length = L.length - M := List.length_drop ..
  obtain ⟨g3, rfl⟩ := h3.of_ (by omega)
  have hg3 : w2.heap.size ≤ g3 := hA3 _ ⟨_, rfl, rfl⟩
  have hg3' : g3 < w3.heap.size := h3.lt ⟨_, rfl, rfl⟩
  have hww : w.heap.size < w2.heap.size := H2.out.2.lt
  have H3 := Lib.hid (And.intro (H2.out.1.nn_ m3) (And.intro (H2.out.2.mod m3 (fun f => f)) h3))
  clear m3 h3 hA3 hc0
  go_wp2_with (first
    | (with_reducible change wpList _ _ _ (⟨some 36, Op.box _ _, _, _, _, _⟩ :: _) _ _
       go_must (refine wpList_box_var 111 _ rfl rfl #[.slice (some ⟨g3, 0, none⟩) (L.length - M) c3] rfl ?_)
       intro w4 b4 m4 z4
       have hc1 : w4.cell? ⟨b, 0, none⟩ = some (.slice (some ⟨ga, 0, none⟩) L.length c) := (HB.out.1.mod (H3.out.1.nn_ m4) (fun f => f)).cell 0
       have H4 := Lib.hid (And.intro (H3.out.1.nn_ m4) (And.intro (H3.out.2.1.mod m4 (fun f => f)) (And.intro (H3.out.2.2.nn m4) (And.intro b4 (HB.out.1.mod (H3.out.1.nn_ m4) (fun f => f))))))
       clear b4 m4)
    | (with_reducible change wpList _ _ _ (⟨some 44, Op.slice _ _ _ _ _, _, _, _, _⟩ :: _) _ _
       go_must (refine wpList_val rfl (exec_sub_hm (P := Try.prog) (k := M) 80 40 _ _ _ rfl uuE sizeE rfl rfl rfl (by omega)) ?_))
    | (with_reducible change wpList _ _ _ (⟨none, Op.store _ (Operand.tmp 46) _, _, _, _, _⟩ :: _) _ _
       go_must (refine wpList_unit rfl (exec_store1 (P := Try.prog) (ad := ⟨b, 0, none⟩) (v := .slice (some ⟨ga, 0, none⟩) M M) (u := .slice (some ⟨ga, 0, none⟩) L.length c) 40 _ _ rfl rfl rfl hc1 (H4.out.2.2.2.2.frozen 0) rfl rfl rfl size_slE) ?_)
       have b5 := H4.out.2.2.2.2.set_ 0 (.slice (some ⟨ga, 0, none⟩) M M)
       have m5 := Mod.cellAt w4 b 0 (.slice (some ⟨ga, 0, none⟩) M M)
       obtain ⟨w5, hw5⟩ : ∃ w5, w4.setCell ⟨b, 0, none⟩ (.slice (some ⟨ga, 0, none⟩) M M) = w5 := ⟨_, rfl⟩
       rw [hw5] at b5 m5 ⊢
       have hbw : b < w.heap.size := HB.out.1.lt
       have h51 : Blk w5 w.heap.size 23 (bv zk).toArray := H4.out.2.1.mod m5 (fun e => by have e : w.heap.size = b := e; omega)
       have h52 : Hold w5 28 80 (some ⟨g3, 0, none⟩) (L.length - M) c3 (bv (L.drop M).flatten) := H4.out.2.2.1.mod m5 (fun g hg e => by
         obtain ⟨a, ha, hx⟩ := hg; injection ha with ha; subst ha; have e : g = b := e; have hx : g3 = g := hx; omega)
       have h53 : Blk w5 w3.heap.size 111 #[.slice (some ⟨g3, 0, none⟩) (L.length - M) c3] := H4.out.2.2.2.1.mod m5 (fun e => by have e : w3.heap.size = b := e; omega)
       have h54 : Mod (At b) w w5 := (H4.out.1.nn : Mod (At b) w w4).trans m5
       have H5 := Lib.hid (And.intro h54 (And.intro h51 (And.intro h52 (And.intro h53 (show Blk w5 b 111 #[.slice (some ⟨ga, 0, none⟩) M M] from b5)))))
       clear b5 m5 hw5 h51 h52 h53 h54 hc1))
  have hg3w : g3 ≠ w.heap.size := by omega
  have hw3w : w3.heap.size ≠ w.heap.size := by omega
  have hkey : ∀ w', Mod (At w.heap.size) w5 w' → ∀ j v, (bv (keyOf r0))[j]? = some v → w'.cell? ⟨g3, 0 + j, none⟩ = some v := fun w' hm j v hv => by
    have hr := (H5.out.2.2.1.mod hm (fun g hg e => by obtain ⟨a, ha, hx⟩ := hg; injection ha with ha; subst ha; have e : g = w.heap.size := e; have hx : g3 = g := hx; omega)).rd
    obtain ⟨g, off, e, hc⟩ := hr.2 (by omega)
    injection e with e; injection e with e1 e2 _; subst e1; subst e2
    refine hc j v ?_
    have hj : j < 40 := by
      refine Classical.byContradiction fun hc => ?_
      rw [List.getElem?_eq_none (by rw [bv_len]; unfold keyOf; rw [List.length_take]; omega)] at hv; cases hv
    rw [HB.out.2.2.2.2.2.2.1, List.flatten_cons, bv_append, List.getElem?_append_left (by rw [bv_len, (HB.out.2.2.1 r0 HB.out.2.2.2.2.2.2.2.1).1]; omega)]
    rw [bv_at] at hv ⊢
    unfold keyOf at hv
    rwa [List.getElem?_take_of_lt hj] at hv
  have hkl : (keyOf r0).length = 40 := by unfold keyOf; rw [List.length_take, (HB.out.2.2.1 r0 HB.out.2.2.2.2.2.2.2.1).1]; omega
  have HK := Lib.hid (And.intro hkey hkl)
  clear hkey hkl
  refine wp_region_planC (fun w' => Mod (At w.heap.size) w5 w') [(0, true), (1, true), (2, true), (3, true), (4, true), (5, true), (6, true), (7, true), (8, true), (9, true), (10, false)] (by kernel_rfl) (by kernel_rfl) (Mod.refl _ w5).drew ?_
  iterate 5 (refine pc_pure rfl rfl (fun K hK => ?_); go_simp; refine hK _ ?_; clear hK K)
  refine pc_take (.slice (some ⟨g3, 0, none⟩) (L.length - M) c3) rfl rfl (fun w' hS => exec_load1 (P := Try.prog) 40 (.tmp 51) rfl rfl ((H5.out.2.2.2.1.mod hS hw3w).cell 0) Try.underlying40 rfl) (fun K hK => ?_); go_simp; refine hK _ ?_; clear hK K
  refine pc_take (.pointer (some ⟨g3, 0, none⟩)) rfl rfl (fun w' hS => exec_elem (g := g3) (off := 0) (q := 0) 40 (.tmp 52) _ rfl 28 80 uuE sizeE rfl rfl (by omega)) (fun K hK => ?_); go_simp; refine hK _ ?_; clear hK K
  iterate 1 (refine pc_pure rfl rfl (fun K hK => ?_); go_simp; refine hK _ ?_; clear hK K)
  refine pc_take (.agg (bv (keyOf r0)).toArray) rfl rfl (fun w' hS => exec_load_cells (P := Try.prog) (b := g3) (off := 0) (cs := bv (keyOf r0)) 23 (.tmp 54) rfl rfl (HK.out.1 w' hS) Try.underlying23 rfl (by rw [bv_len, HK.out.2]; exact size_keyT)) (fun K hK => ?_); go_simp; refine hK _ ?_; clear hK K
  iterate 1 (refine pc_pure rfl rfl (fun K hK => ?_); go_simp; refine hK _ ?_; clear hK K)
  refine pc_unit rfl rfl (exec_store_row (P := Try.prog) (g := w.heap.size) (cells := (bv (keyOf r0)).toArray) 23 (.tmp 3) (.tmp 55) rfl rfl rfl H5.out.2.1.drew (size_keyk HK.out.2) (by rw [bv_size, bv_size, HK.out.2]; rfl) (bv_all _)) ((Mod.refl (At w.heap.size) w5).drew.setRow (p := w.heap.size) (.inr (rfl : w.heap.size = w.heap.size)) _) (fun K hK => ?_); go_simp; refine hK _ ?_; clear hK K
  refine pc_nil ?_
  have m6 : Mod (At w.heap.size) w5 (w5.drew.setRow w.heap.size (bv (keyOf r0)).toArray) := (Mod.refl (At w.heap.size) w5).drew.setRow (p := w.heap.size) (.inr (rfl : w.heap.size = w.heap.size)) _
  have b6 := H5.out.2.1.drew.setRow_ (bv (keyOf r0)).toArray
  have H6 := Lib.hid (And.intro (H5.out.1.new_ m6 (Nat.le_refl _)) (And.intro b6 m6))
  clear m6 b6
  generalize w5.drew.setRow w.heap.size (bv (keyOf r0)).toArray = w6 at *
  go_wp2
  refine bodyPost_ret (results_tmp_cell_row (P := Try.prog) (g := w.heap.size) rfl _ rfl H6.out.2.1 Try.underlying23 rfl (size_keyk HK.out.2)) rfl ?_
  have hbn : b < w.heap.size := HB.out.1.lt
  have hgan : ga < w.heap.size := HB.out.2.1.lt ⟨_, rfl, rfl⟩
  have hs2 := (HB.out.2.2.2.1 : Srt L)
  have hsp : L = L.take M ++ L.drop M := (List.take_append_drop M L).symm
  have hpar := (hsp ▸ hs2 : Srt (L.take M ++ L.drop M)).parts
  have hl1 : (L.take M).length = M := by rw [List.length_take]; omega
  refine .inr ⟨by show 12 < L.length; omega, leafV w3.heap.size, keyOf r0, L.take M, L.drop M, b :: blks (some ⟨ga, 0, none⟩), [w3.heap.size, g3], rfl, hsp, ⟨b, some ⟨ga, 0, none⟩, M, ?_⟩, ⟨w3.heap.size, some ⟨g3, 0, none⟩, c3, ?_⟩, ?_, ?_, ?_, HK.out.2, ?_, ?_, ?_⟩
  · refine ⟨rfl, ?_, ?_, fun r hr => HB.out.2.2.1 r (List.mem_of_mem_take hr), hpar.1, ?_, rfl, HB.out.2.2.2.2.1⟩
    · rw [hl1]
      exact H5.out.2.2.2.2.mod H6.out.2.2 (fun e => by have e : b = w.heap.size := e; omega)
    · rw [hl1]
      have hcut := HB.out.2.1.cut hMn ⟨ga, rfl⟩
      rw [bv_take, rows_take (fun r hr => (HB.out.2.2.1 r hr).1)] at hcut
      exact hcut.mod H6.out.1 (fun g hg e => by obtain ⟨a, ha, hx⟩ := hg; injection ha with ha; subst ha; have e : g = b := e; have hx : ga = g := hx; omega)
    · rw [hl1]; exact HB.out.2.2.2.2.2.2.2.2
  · refine ⟨rfl, ?_, ?_, fun r hr => HB.out.2.2.1 r (List.mem_of_mem_drop hr), hpar.2.1, ?_, rfl, ?_⟩
    · rw [hd2]
      exact H5.out.2.2.2.1.mod H6.out.2.2 (fun e => by have e : w3.heap.size = w.heap.size := e; omega)
    · rw [hd2]
      exact H5.out.2.2.1.mod H6.out.2.2 (fun g hg e => by obtain ⟨a, ha, hx⟩ := hg; injection ha with ha; subst ha; have e : g = w.heap.size := e; have hx : g3 = g := hx; omega)
    · rw [hd2, HB.out.2.2.2.2.2.2.2.2]
    · simp only [List.nodup_cons, List.mem_singleton, List.not_mem_nil, not_false_iff, List.nodup_nil, and_true]; omega
  · simp only [blks, List.cons_append, List.nil_append, List.nodup_cons, List.mem_cons, List.not_mem_nil, or_false, not_or, not_false_iff, List.nodup_nil, and_true]
    omega
  · intro g hg
    simp only [blks, List.cons_append, List.nil_append, List.mem_cons, List.not_mem_nil, or_false] at hg ⊢
    omega
  · exact H6.out.1.mono (fun g _ e => by have e : g = b := e; rw [e]; exact List.mem_cons_self)
  · exact fun z hz => (HB.out.2.2.1 r0 HB.out.2.2.2.2.2.2.2.1).2 z (List.mem_of_mem_take hz)
  · exact fun r hr => hpar.2.2 r hr r0 (by rw [HB.out.2.2.2.2.2.2.1]; exact List.mem_cons_self)
  · intro r hr
    rw [HB.out.2.2.2.2.2.2.1] at hr
    rcases List.mem_cons.1 hr with rfl | hr
    · exact klt_irr _
    · have h2 := hpar.2.1
      rw [HB.out.2.2.2.2.2.2.1] at h2
      exact klt_asym (h2.tail.1 r hr)
end
end Go.Proofs.Ytkcpmkeckcnobaa

/- tree.cut of an inner part. -/
namespace Go.Proofs.Ytkcpmkeckcnobaa
open Go.RowKit

theorem size_slK : (Try.prog.info? 75).map (·.size) = some 1 := by kernel_rfl
theorem size_slP : (Try.prog.info? 104).map (·.size) = some 1 := by kernel_rfl
theorem entsOf_append (a b : List Kid) : entsOf (a ++ b) = entsOf a ++ entsOf b := List.flatMap_append ..
theorem foot_append (a b : List Kid) : foot (a ++ b) = foot a ++ foot b := List.flatMap_append ..
theorem entsOf_sub {a b : List Kid} (h : ∀ t ∈ a, t ∈ b) : ∀ r ∈ entsOf a, r ∈ entsOf b := fun r hr => by
  obtain ⟨t, ht, hr⟩ := List.mem_flatMap.1 hr
  exact List.mem_flatMap.2 ⟨t, h t ht, hr⟩
theorem sep_take {ks : List (List Nat)} {ts : List Kid} (h : Sep ks ts) {M : Nat} (hM : 0 < M) : Sep (ks.take (M - 1)) (ts.take M) := fun i κ hi => by
  have hlt : i < M - 1 := by
    refine Classical.byContradiction fun hc => ?_
    rw [List.getElem?_eq_none (by rw [List.length_take]; omega)] at hi; cases hi
  rw [List.getElem?_take_of_lt hlt] at hi
  obtain ⟨h1, h2⟩ := h i κ hi
  refine ⟨by rw [List.take_take, Nat.min_eq_left (by omega)]; exact h1, fun r hr => h2 r (entsOf_sub (fun t ht => ?_) r hr)⟩
  rw [List.drop_take] at ht
  exact List.mem_of_mem_take ht
theorem sep_drop {ks : List (List Nat)} {ts : List Kid} (h : Sep ks ts) (M : Nat) : Sep (ks.drop M) (ts.drop M) := fun i κ hi => by
  rw [List.getElem?_drop] at hi
  obtain ⟨h1, h2⟩ := h (M + i) κ hi
  refine ⟨fun r hr => h1 r (entsOf_sub (fun t ht => ?_) r hr), fun r hr => h2 r ?_⟩
  · rw [List.take_drop] at ht
    rw [show M + i + 1 = M + (i + 1) from by omega]
    exact List.mem_of_mem_drop ht
  · rwa [List.drop_drop, show M + (i + 1) = M + i + 1 from by omega] at hr
theorem blks_nodup (A : Option Addr) : (blks A).Nodup := by cases A <;> simp [blks]
theorem nodup_apart {a b : List Nat} (ha : a.Nodup) (hb : b.Nodup) (h : ∀ x ∈ a, ∀ y ∈ b, x ≠ y) : (a ++ b).Nodup := List.nodup_append.2 ⟨ha, hb, h⟩
section
variable {w : World} {v : Value} {ks : List (List Nat)} {ts : List Kid} {d b kc cc : Nat} {F : List Nat} {K C : Option Addr}
set_option maxRecDepth 100000 in
set_option maxHeartbeats 6400000 in
theorem cut_inner (h : InnerAt (TreeAt w d) w b ks ts F K kc C cc) (hbd : ∀ t ∈ ts, loB d ≤ t.k ∧ t.k ≤ hiB d) (hn : ts.length ≤ 1099511627776) : Calls Try.prog 45 #[innerV b] w (CutP w (d + 1) (innerV b) (entsOf ts) ts.length F) := by
  by_cases hk : ts.length ≤ 20
  case pos =>
    have hk' : (ts.length : Int) ≤ 20 := by omega
    have HB := Lib.hid h.blk
    clear h
    generalize hXX : innerV b = XX
    have HX := Lib.hid hXX
    unfold innerV at hXX
    subst hXX
    go_enter Try.func45, Try.ntmps45
    go_wp2_with (first
      | (with_reducible change wpList _ _ _ (⟨some 3, Op.alloc _, _, _, _, _⟩ :: _) _ _
         go_must (refine wpList_alloc_var 23 rfl rfl info_keyz ?_)
         intro w2 b2 m2 z2
         clear z2
         have hc1 : w2.cell? ⟨b, 1, none⟩ = some (.slice C ts.length cc) := (HB.out.mod m2 (fun f => f)).cell 1
         have H2 := Lib.hid (And.intro m2 b2)
         clear m2 b2)
      | (with_reducible change wpList _ _ _ (⟨some 12, _, _, _, _, _⟩ :: _) _ _
         go_must (refine wpList_val rfl (exec_assert_no (P := Try.prog) _ _ _ rfl rfl (by decide) Try.underlying109 info_pleaf) ?_))
      | (with_reducible change wpList _ _ _ (⟨some 56, _, _, _, _, _⟩ :: _) _ _
         go_must (refine wpList_val rfl (exec_assert_yes (P := Try.prog) _ _ _ _ rfl rfl Try.underlying103) ?_)
         rw [if_pos rfl])
      | (with_reducible change wpList _ _ _ (⟨some 65, _, _, _, _, _⟩ :: _) _ _
         go_must (refine wpList_val rfl (exec_zero_bytes (P := Try.prog) 23 5 40 rfl Try.underlying23 size_u8t zero_keyz) ?_))
      | (with_reducible change wpList _ _ _ (⟨none, Op.store _ (Operand.tmp 3) _, _, _, _, _⟩ :: _) _ _
         go_must (refine wpList_store_var 23 _ _ rfl rfl w.heap.size (bv zk).toArray _ _ rfl rfl H2.out.2 (size_keyk zk_len) rfl (bv_all _) ?_)
         intro w3 b3 m3 z3
         clear z3
         have H3 := Lib.hid (And.intro (H2.out.1.new_ m3 (Nat.le_refl _)) b3)
         clear m3 b3))
    refine bodyPost_ret (results_tmp_cell_row (P := Try.prog) (g := w.heap.size) rfl _ rfl H3.out.2 Try.underlying23 rfl (size_keyk zk_len)) rfl ?_
    exact .inl ⟨hk, rfl, H3.out.1⟩
  obtain ⟨M, hM⟩ : ∃ M, ts.length / 2 = M := ⟨_, rfl⟩
  have hMI : (ts.length : Int) / 2 = M := by omega
  have hMn : M + 2 ≤ ts.length := by omega
  have hM0 : 2 ≤ M := by omega
  have hk' : ¬ (ts.length : Int) ≤ 20 := by omega
  have hkl := h.len
  have hkle := h.krow.le
  have hcle := h.crow.le
  obtain ⟨gK, rfl⟩ := h.krow.of_ (by omega)
  obtain ⟨gC, rfl⟩ := h.crow.of_ (by omega)
  obtain ⟨κ, hκ⟩ : ∃ κ, ks[M - 1]? = some κ := ⟨_, List.getElem?_eq_getElem (by omega)⟩
  have hκ40 := h.krows κ (List.mem_of_getElem? hκ)
  have hrdK : RdC w (subA (some ⟨gK, 0, none⟩) kc M 40) (ks.length - M) 40 (bv (ks.drop M).flatten) := by
    have := h.krow.rd.tail (c := kc) (by omega) (k := M) (by omega) hkle.1
    rwa [bv_drop, rows_drop (fun r hr => (h.krows r hr).1)] at this
  have hrdC : RdC w (subA (some ⟨gC, 0, none⟩) cc M 1) (ts.length - M) 1 ((ts.drop M).map (·.v)) := by
    have := h.crow.rd.tail (c := cc) (by omega) (k := M) (by omega) hcle.1
    rwa [Nat.mul_one, ← List.map_drop] at this
  have hcell : ∀ w', Mod Nn w w' → ∀ j v, (bv κ)[j]? = some v → w'.cell? ⟨gK, (M - 1) * 40 + j, none⟩ = some v := fun w' hm j v hv => by
    obtain ⟨g, off, e, hc⟩ := row_cells ((h.krow.nn hm).rd) h.krows hκ rfl (by omega)
    injection e with e; injection e with e1 e2 _; subst e1; subst e2
    rw [← Nat.zero_add ((M - 1) * 40)]
    exact hc j v hv
  have hone : ∀ u ∈ (ts.drop M).map (·.v), u.oneCell' = true := fun u hu => by
    obtain ⟨t, ht, rfl⟩ := List.mem_map.1 hu
    exact tree_one (h.kids t (List.mem_of_mem_drop ht))
  have HB := Lib.hid (And.intro h (And.intro hbd (And.intro hrdK (And.intro hrdC (And.intro hcell (And.intro hκ40 (And.intro hone (And.intro hκ hM))))))))
  clear h hbd hrdK hrdC hcell hκ40 hone hκ hM
  generalize hXX : innerV b = XX
  have HX := Lib.hid hXX
  unfold innerV at hXX
  subst hXX
  go_enter Try.func45, Try.ntmps45
  go_wp2_with (first
    | (with_reducible change wpList _ _ _ (⟨some 3, Op.alloc _, _, _, _, _⟩ :: _) _ _
       go_must (refine wpList_alloc_var 23 rfl rfl info_keyz ?_)
       intro w2 b2 m2 z2
       clear z2
       have hc1 : w2.cell? ⟨b, 1, none⟩ = some (.slice (some ⟨gC, 0, none⟩) ts.length cc) := (HB.out.1.blk.mod m2 (fun f => f)).cell 1
       have H2 := Lib.hid (And.intro m2 b2)
       clear m2 b2)
    | (with_reducible change wpList _ _ _ (⟨some 12, _, _, _, _, _⟩ :: _) _ _
       go_must (refine wpList_val rfl (exec_assert_no (P := Try.prog) _ _ _ rfl rfl (by decide) Try.underlying109 info_pleaf) ?_))
    | (with_reducible change wpList _ _ _ (⟨some 56, _, _, _, _, _⟩ :: _) _ _
       go_must (refine wpList_val rfl (exec_assert_yes (P := Try.prog) _ _ _ _ rfl rfl Try.underlying103) ?_)
       rw [if_pos rfl]))
  clear hc1
  have hww : w.heap.size < w2.heap.size := H2.out.2.lt
  -- zzR15
  refine wp_region_planC (fun w' => Mod Nn w2 w') [(0, true), (1, true), (2, true), (3, true), (4, true), (5, true), (7, true), (8, true), (9, true), (10, true), (11, true), (12, true), (6, false), (13, false), (14, true), (15, false), (16, true)] (by kernel_rfl) (by kernel_rfl) (Mod.refl Nn w2).drew ?_
  iterate 3 (refine pc_pure rfl rfl (fun K hK => ?_); go_simp; refine hK _ ?_; clear hK K)
  refine pc_take (.slice (some ⟨gK, 0, none⟩) ks.length kc) rfl rfl (fun w' hS => exec_load1 (P := Try.prog) 75 (.tmp 74) rfl rfl ((HB.out.1.blk.mod (H2.out.1.nn_ hS) (fun f => f)).cell 0) Try.underlying75 rfl) (fun K hK => ?_); go_simp; refine hK _ ?_; clear hK K
  iterate 1 (refine pc_pure rfl rfl (fun K hK => ?_); go_simp; refine hK _ ?_; clear hK K)
  refine pc_take (.slice (subA (some ⟨gK, 0, none⟩) kc M 40) (ks.length - M) (kc - M)) rfl rfl (fun w' hS => exec_sub_l (P := Try.prog) 75 (.tmp 75) (.tmp 76) rfl 23 40 uuK sizeK (l := M) rfl rfl (by omega)) (fun K hK => ?_); go_simp; refine hK _ ?_; clear hK K
  iterate 3 (refine pc_pure rfl rfl (fun K hK => ?_); go_simp; refine hK _ ?_; clear hK K)
  refine pc_take (.slice (some ⟨gC, 0, none⟩) ts.length cc) rfl rfl (fun w' hS => exec_load1 (P := Try.prog) 104 (.tmp 81) rfl rfl ((HB.out.1.blk.mod (H2.out.1.nn_ hS) (fun f => f)).cell 1) Try.underlying104 rfl) (fun K hK => ?_); go_simp; refine hK _ ?_; clear hK K
  iterate 1 (refine pc_pure rfl rfl (fun K hK => ?_); go_simp; refine hK _ ?_; clear hK K)
  refine pc_take (.slice (subA (some ⟨gC, 0, none⟩) cc M 1) (ts.length - M) (cc - M)) rfl rfl (fun w' hS => exec_sub_l (P := Try.prog) 104 (.tmp 82) (.tmp 83) rfl 37 1 uuP sizeP (l := M) rfl rfl (by omega)) (fun K hK => ?_); go_simp; refine hK _ ?_; clear hK K
  refine pc_call rfl rfl (fun K hK => ?_); go_simp; refine ⟨_, _, ⟨rfl, rfl⟩, hK _ _ _ ?_⟩; clear hK K
  refine (scloneK_any (HB.out.2.2.1.md (by omega) H2.out.1.drew (fun _ _ f => f)) (bv_one _) (by omega)).mono ?_
  rintro r w3 ⟨K3, k3, rfl, hk3, m3, hK3⟩
  have m3' := m3.of_drew
  have hw23 : w2.heap.size ≤ w3.heap.size := m3'.size
  have hK3' : ∀ g, Of K3 g → w2.heap.size ≤ g := hK3
  have H3 := Lib.hid (And.intro (H2.out.1.nn_ m3') (And.intro (H2.out.2.mod m3' (fun f => f)) (And.intro hk3 (And.intro hK3' m3'))))
  clear m3 m3' hk3 hK3 hK3'
  refine ⟨_, rfl, H3.out.2.2.2.2, ?_⟩
  refine pc_call rfl rfl (fun K hK => ?_); go_simp; refine ⟨_, _, ⟨rfl, rfl⟩, hK _ _ _ ?_⟩; clear hK K
  refine (scloneP_gen rfl (HB.out.2.2.2.1.md (by omega) H3.out.1 (fun _ _ f => f)) HB.out.2.2.2.2.2.2.1 (by omega)).mono ?_
  rintro r w4 ⟨C4, c4, rfl, hc4, m4, hC4⟩
  have hw34 : w3.heap.size ≤ w4.heap.size := m4.size
  have H4 := Lib.hid (And.intro (H3.out.1.nn_ m4) (And.intro (H3.out.2.1.mod m4 (fun f => f)) (And.intro (H3.out.2.2.1.nn m4) (And.intro hc4 (And.intro hC4 (H3.out.2.2.2.2.nn_ m4))))))
  clear m4 hc4 hC4
  refine ⟨_, rfl, H4.out.2.2.2.2.2, ?_⟩
  iterate 1 (refine pc_pure rfl rfl (fun K hK => ?_); go_simp; refine hK _ ?_; clear hK K)
  refine pc_box 106 (.tmp 86) rfl rfl rfl #[.slice K3 (ks.length - M) k3, .slice C4 (ts.length - M) c4] rfl (fun w5 b5 m5 => ⟨H4.out.2.2.2.2.2.nn_ m5, ?_⟩)
  refine (fun K hK => ?_); go_simp; refine hK _ ?_; clear hK K
  iterate 1 (refine pc_pure rfl rfl (fun K hK => ?_); go_simp; refine hK _ ?_; clear hK K)
  refine pc_nil ?_
  have H5 := Lib.hid (And.intro (H4.out.1.nn_ m5) (And.intro (H4.out.2.1.mod m5 (fun f => f)) (And.intro (H4.out.2.2.1.nn m5) (And.intro (H4.out.2.2.2.1.nn m5) b5))))
  have hw45 : w4.heap.size < w5.heap.size := b5.lt
  clear b5 m5
  have hc0 : w5.cell? ⟨b, 0, none⟩ = some (.slice (some ⟨gK, 0, none⟩) ks.length kc) := (HB.out.1.blk.mod H5.out.1 (fun f => f)).cell 0
  -- zzR16
  go_wp2_with (first
    | (with_reducible change wpList _ _ _ (⟨some 94, _, _, _, _, _⟩ :: _) _ _
       go_must (refine wpList_val rfl (exec_elem (P := Try.prog) (g := gK) (off := 0) (q := M - 1) 75 (.tmp 91) (.tmp 93) rfl 23 40 uuK sizeK rfl (show Value.int .i64 ((M : Int) - 1) = .int .i64 ((M - 1 : Nat) : Int) from congrArg (Value.int .i64) (by omega)) (by omega)) ?_)
       rw [Nat.zero_add])
    | (with_reducible change wpList _ _ _ (⟨some 95, _, _, _, _, _⟩ :: _) _ _
       go_must (refine wpList_val rfl (exec_load_cells (P := Try.prog) (b := gK) (off := (M - 1) * 40) (cs := bv κ) 23 _ rfl rfl (HB.out.2.2.2.2.1 w5 H5.out.1) Try.underlying23 rfl (by rw [bv_len, HB.out.2.2.2.2.2.1.1]; exact size_keyT)) ?_))
    | (with_reducible change wpList _ _ _ (⟨some 10, Op.alloc _, _, _, _, _⟩ :: _) _ _
       go_must (refine wpList_alloc_var 23 rfl rfl info_keyz ?_)
       intro w6 b6 m6 z6
       clear z6
       have H6 := Lib.hid (And.intro (H5.out.1.nn_ m6) (And.intro (H5.out.2.1.mod m6 (fun f => f)) (And.intro (H5.out.2.2.1.nn m6) (And.intro (H5.out.2.2.2.1.nn m6) (And.intro (H5.out.2.2.2.2.mod m6 (fun f => f)) b6)))))
       clear b6 m6)
    | (with_reducible change wpList _ _ _ (⟨none, Op.store _ (Operand.tmp 10) _, _, _, _, _⟩ :: _) _ _
       go_must (refine wpList_store_var 23 _ _ rfl rfl w5.heap.size (bv κ).toArray _ _ rfl rfl H6.out.2.2.2.2.2 (size_keyk HB.out.2.2.2.2.2.1.1) (by rw [bv_size, HB.out.2.2.2.2.2.1.1]; rfl) (bv_all _) ?_)
       intro w7 b7 m7 z7
       clear z7
       have H7 := Lib.hid (And.intro (H6.out.1.new_ m7 (by omega)) (And.intro (H6.out.2.1.mod m7 (fun e => by have e : w.heap.size = w5.heap.size := e; omega)) (And.intro (H6.out.2.2.1.mod m7 (fun g hg e => by have e : g = w5.heap.size := e; have := H5.out.2.2.1.lt hg; omega)) (And.intro (H6.out.2.2.2.1.mod m7 (fun g hg e => by have e : g = w5.heap.size := e; have := H5.out.2.2.2.1.lt hg; omega)) (And.intro (H6.out.2.2.2.2.1.mod m7 (fun e => by have e : w4.heap.size = w5.heap.size := e; omega)) b7)))))
       clear b7 m7))
  clear hc0
  have hbw : b < w.heap.size := HB.out.1.blk.lt
  have hM1 : IntKind.i64.wrap ((M : Int) - 1) = ((M - 1 : Nat) : Int) := by rw [IntKind.wrap_i64]; omega
  have hb7 : Blk w7 b 106 #[.slice (some ⟨gK, 0, none⟩) ks.length kc, .slice (some ⟨gC, 0, none⟩) ts.length cc] := HB.out.1.blk.mod H7.out.1 (fun f => f)
  have HB7 := Lib.hid hb7
  clear hb7
  -- zzR17
  refine wp_region_planT (fun w' => Blk w' b 106 #[.slice (some ⟨gK, 0, none⟩) ks.length kc, .slice (some ⟨gC, 0, none⟩) ts.length cc]) 20 [(0, 0), (1, 0), (2, 0), (3, 0), (4, 0), (5, 1), (6, 0), (7, 0), (8, 0), (9, 0), (10, 0), (11, 0), (12, 0), (13, 0), (14, 1), (15, 0), (16, 0), (17, 0), (18, 0), (19, 0), (20, 2), (21, 0), (22, 0), (23, 2)] (by kernel_rfl) (by kernel_rfl) HB7.out.drew ?_
  iterate 5 (refine pt_pure rfl rfl (fun K hK => ?_); go_simp; refine hK _ ?_; clear hK K)
  refine pt_take (.slice (some ⟨gK, 0, none⟩) ks.length kc) rfl rfl (fun w' hS => exec_load1 (P := Try.prog) 75 (.tmp 100) rfl rfl (hS.cell 0) Try.underlying75 rfl) (fun K hK => ?_); go_simp; refine hK _ ?_; clear hK K
  iterate 4 (refine pt_pure rfl rfl (fun K hK => ?_); go_simp; refine hK _ ?_; clear hK K)
  try rw [hM1]
  refine pt_is (.slice (some ⟨gK, 0, none⟩) (M - 1) (M - 1)) rfl rfl (fun w' => exec_sub_hm (P := Try.prog) (k := M - 1) 40 75 (.tmp 101) (.tmp 103) (.tmp 105) rfl uuK sizeK rfl rfl rfl (by omega)) (fun K hK => ?_); go_simp; refine hK _ ?_; clear hK K
  iterate 3 (refine pt_pure rfl rfl (fun K hK => ?_); go_simp; refine hK _ ?_; clear hK K)
  refine pt_take (.slice (some ⟨gC, 0, none⟩) ts.length cc) rfl rfl (fun w' hS => exec_load1 (P := Try.prog) 104 (.tmp 109) rfl rfl (hS.cell 1) Try.underlying104 rfl) (fun K hK => ?_); go_simp; refine hK _ ?_; clear hK K
  iterate 2 (refine pt_pure rfl rfl (fun K hK => ?_); go_simp; refine hK _ ?_; clear hK K)
  refine pt_is (.slice (some ⟨gC, 0, none⟩) M M) rfl rfl (fun w' => exec_sub_hm (P := Try.prog) (k := M) 1 104 (.tmp 110) (.tmp 111) (.tmp 112) rfl uuP sizeP rfl rfl rfl (by omega)) (fun K hK => ?_); go_simp; refine hK _ ?_; clear hK K
  iterate 2 (refine pt_pure rfl rfl (fun K hK => ?_); go_simp; refine hK _ ?_; clear hK K)
  refine pt_unit rfl rfl (exec_store1 (P := Try.prog) (ad := ⟨b, 0, none⟩) (v := .slice (some ⟨gK, 0, none⟩) (M - 1) (M - 1)) (u := .slice (some ⟨gK, 0, none⟩) ks.length kc) 75 (.tmp 115) (.tmp 106) rfl rfl rfl (HB7.out.drew.cell 0) (HB7.out.drew.frozen 0) rfl rfl rfl size_slK) (fun h => by simp at h) (fun K hK => ?_); go_simp; refine hK _ ?_; clear hK K
  iterate 2 (refine pt_pure rfl rfl (fun K hK => ?_); go_simp; refine hK _ ?_; clear hK K)
  have b8 := HB7.out.drew.set_ 0 (.slice (some ⟨gK, 0, none⟩) (M - 1) (M - 1))
  have m8 : Mod (At b) w7 (w7.drew.setCell ⟨b, 0, none⟩ (.slice (some ⟨gK, 0, none⟩) (M - 1) (M - 1))) := (Mod.refl (At b) w7).drew.setCell (p := ⟨b, 0, none⟩) (.inr (rfl : b = b)) _
  have H8 := Lib.hid (And.intro b8 m8)
  clear b8 m8
  generalize w7.drew.setCell ⟨b, 0, none⟩ (.slice (some ⟨gK, 0, none⟩) (M - 1) (M - 1)) = w8 at *
  refine pt_unit rfl rfl (exec_store1 (P := Try.prog) (ad := ⟨b, 1, none⟩) (v := .slice (some ⟨gC, 0, none⟩) M M) (u := .slice (some ⟨gC, 0, none⟩) ts.length cc) 104 (.tmp 117) (.tmp 113) rfl rfl rfl (H8.out.1.cell 1) (H8.out.1.frozen 1) rfl rfl rfl size_slP) (fun h => by simp at h) (fun K hK => ?_); go_simp; refine hK _ ?_; clear hK K
  refine pt_nil ?_
  have b9 := H8.out.1.set_ 1 (.slice (some ⟨gC, 0, none⟩) M M)
  have m9 := H8.out.2.trans (Mod.cellAt w8 b 1 (.slice (some ⟨gC, 0, none⟩) M M))
  generalize w8.setCell ⟨b, 1, none⟩ (.slice (some ⟨gC, 0, none⟩) M M) = w9 at *
  have hbne : b ≠ w5.heap.size ∧ b ≠ w4.heap.size ∧ b ≠ w.heap.size := by have := H5.out.1.size; omega
  have H9 := Lib.hid (And.intro ((H7.out.1.nn : Mod (At b) w w7).trans m9) (And.intro (H7.out.2.1.mod m9 (fun e => hbne.2.2 (Eq.symm e))) (And.intro (H7.out.2.2.1.mod m9 (fun g hg e => by have e : g = b := e; have := H3.out.2.2.2.1 g hg; omega)) (And.intro (H7.out.2.2.2.1.mod m9 (fun g hg e => by have e : g = b := e; have := H4.out.2.2.2.2.1 g hg; have := H3.out.1.size; omega)) (And.intro (H7.out.2.2.2.2.1.mod m9 (fun e => hbne.2.1 (Eq.symm e))) (And.intro (H7.out.2.2.2.2.2.mod m9 (fun e => hbne.1 (Eq.symm e))) (show Blk w9 b 106 #[.slice (some ⟨gK, 0, none⟩) (M - 1) (M - 1), .slice (some ⟨gC, 0, none⟩) M M] from b9)))))))
  clear b9 m9
  -- zzR18
  go_wp2_with fail
  refine wp_region_planC (fun w' => Mod (At w.heap.size) w9 w') [(0, true), (1, true), (2, true), (3, true), (4, false)] (by kernel_rfl) (by kernel_rfl) (Mod.refl _ w9).drew ?_
  iterate 2 (refine pc_pure rfl rfl (fun K hK => ?_); go_simp; refine hK _ ?_; clear hK K)
  refine pc_take (.agg (bv κ).toArray) rfl rfl (fun w' hS => exec_load_row (P := Try.prog) (g := w5.heap.size) (cs := (bv κ).toArray) 23 (.tmp 10) rfl rfl (H9.out.2.2.2.2.2.1.mod hS (fun e => by have e : w5.heap.size = w.heap.size := e; have := H2.out.2.lt; have := H3.out.1.size; omega)) Try.underlying23 rfl (size_keyk HB.out.2.2.2.2.2.1.1)) (fun K hK => ?_); go_simp; refine hK _ ?_; clear hK K
  iterate 1 (refine pc_pure rfl rfl (fun K hK => ?_); go_simp; refine hK _ ?_; clear hK K)
  refine pc_unit rfl rfl (exec_store_row (P := Try.prog) (g := w.heap.size) (cells := (bv κ).toArray) 23 (.tmp 3) (.tmp 120) rfl rfl rfl H9.out.2.1.drew (size_keyk HB.out.2.2.2.2.2.1.1) (by rw [bv_size, HB.out.2.2.2.2.2.1.1]; rfl) (bv_all _)) ((Mod.refl (At w.heap.size) w9).drew.setRow (p := w.heap.size) (.inr (rfl : w.heap.size = w.heap.size)) _) (fun K hK => ?_); go_simp; refine hK _ ?_; clear hK K
  refine pc_nil ?_
  have m10 : Mod (At w.heap.size) w9 (w9.drew.setRow w.heap.size (bv κ).toArray) := (Mod.refl (At w.heap.size) w9).drew.setRow (p := w.heap.size) (.inr (rfl : w.heap.size = w.heap.size)) _
  have b10 := H9.out.2.1.drew.setRow_ (bv κ).toArray
  have H10 := Lib.hid (And.intro (H9.out.1.new_ m10 (Nat.le_refl _)) (And.intro b10 m10))
  clear m10 b10
  generalize w9.drew.setRow w.heap.size (bv κ).toArray = w10 at *
  go_wp2
  refine bodyPost_ret (results_tmp_cell_row (P := Try.prog) (g := w.heap.size) rfl _ rfl H10.out.2.1 Try.underlying23 rfl (size_keyk HB.out.2.2.2.2.2.1.1)) rfl ?_
  have hI := HB.out.1
  have hnd := hI.nd
  have hfe := hI.fe
  simp only [blks, List.cons_append, List.nil_append] at hfe
  have hts : ts = ts.take M ++ ts.drop M := (List.take_append_drop M ts).symm
  have hft : foot ts = foot (ts.take M) ++ foot (ts.drop M) := by rw [← foot_append, List.take_append_drop]
  have hen : entsOf ts = entsOf (ts.take M) ++ entsOf (ts.drop M) := by rw [← entsOf_append, List.take_append_drop]
  rw [hfe, hft] at hnd
  have hlt : ∀ g ∈ F, g < w.heap.size := fun g hg => by
    rcases hI.mem.1 hg with rfl | hg | hg | ⟨t, ht, hg⟩
    · exact hI.blk.lt
    · exact hI.krow.lt hg
    · exact hI.crow.lt hg
    · exact (hI.kids t ht).lt g hg
  rw [hfe, hft] at hlt
  obtain ⟨nb, nd1⟩ := List.nodup_cons.1 hnd
  obtain ⟨nK, nd2⟩ := List.nodup_cons.1 nd1
  obtain ⟨nC, nd3⟩ := List.nodup_cons.1 nd2
  obtain ⟨nf1, nf2, nf3⟩ := List.nodup_append.1 nd3
  simp only [List.mem_cons, not_or] at nb nK
  have hl1 : (ks.take (M - 1)).length = M - 1 := by rw [List.length_take]; omega
  have hl2 : (ts.take M).length = M := by rw [List.length_take]; omega
  have hl3 : (ks.drop M).length = ks.length - M := List.length_drop ..
  have hl4 : (ts.drop M).length = ts.length - M := List.length_drop ..
  have hpar := (hen ▸ hI.srt : Srt (entsOf (ts.take M) ++ entsOf (ts.drop M))).parts
  have hK3n : ∀ g, Of K3 g → w2.heap.size ≤ g ∧ g < w3.heap.size := fun g hg => ⟨H3.out.2.2.2.1 g hg, H3.out.2.2.1.lt hg⟩
  have hC4n : ∀ g, Of C4 g → w3.heap.size ≤ g ∧ g < w4.heap.size := fun g hg => ⟨H4.out.2.2.2.2.1 g hg, H4.out.2.2.2.1.lt hg⟩
  have hsepκ := hI.sep (M - 1) κ HB.out.2.2.2.2.2.2.2.1
  rw [show M - 1 + 1 = M from by omega] at hsepκ
  have hfootlt : ∀ g ∈ foot (ts.drop M), g < w.heap.size := fun g hg => hlt g (List.mem_cons_of_mem _ (List.mem_cons_of_mem _ (List.mem_cons_of_mem _ (List.mem_append_right _ hg))))
  have hkidb : ∀ t ∈ ts, ∀ g ∈ t.F, g ≠ b := fun t ht g hg e => by
    have : g ∈ foot ts := List.mem_flatMap.2 ⟨t, ht, hg⟩
    rw [hft] at this
    rw [e] at this
    exact nb.2.2 this
  have hkid : ∀ t ∈ ts, TreeAt w10 d t.v t.L t.k t.F := fun t ht => (hI.kids t ht).mod H10.out.1 (fun g hg e => hkidb t ht g hg e)
  refine .inr ⟨by show 20 < ts.length; omega, innerV w4.heap.size, κ, entsOf (ts.take M), entsOf (ts.drop M), b :: gK :: gC :: foot (ts.take M), w4.heap.size :: (blks K3 ++ (blks C4 ++ foot (ts.drop M))), rfl, hen, ⟨b, ks.take (M - 1), ts.take M, some ⟨gK, 0, none⟩, M - 1, some ⟨gC, 0, none⟩, M, ?_, rfl, rfl, ?_, fun t ht => HB.out.2.1 t (List.mem_of_mem_take ht)⟩, ⟨w4.heap.size, ks.drop M, ts.drop M, K3, k3, C4, c4, ?_, rfl, rfl, ?_, fun t ht => HB.out.2.1 t (List.mem_of_mem_drop ht)⟩, ?_, ?_, ?_, HB.out.2.2.2.2.2.1.1, HB.out.2.2.2.2.2.1.2, hsepκ.1, hsepκ.2⟩
  · refine ⟨?_, ?_, fun r hr => hI.krows r (List.mem_of_mem_take hr), hI.ksrt.sublist (List.take_sublist _ _), ?_, by rw [hl1, hl2]; omega, fun t ht => hkid t (List.mem_of_mem_take ht), hpar.1, sep_take hI.sep (by omega), rfl, ?_⟩
    · rw [hl1, hl2]
      exact H9.out.2.2.2.2.2.2.mod H10.out.2.2 hbne.2.2
    · rw [hl1]
      have hcut := hI.krow.cut (k := M - 1) (by omega) ⟨gK, rfl⟩
      rw [bv_take, rows_take (fun r hr => (hI.krows r hr).1)] at hcut
      exact hcut.mod H10.out.1 (fun g hg e => by obtain ⟨a, ha, hx⟩ := hg; injection ha with ha; subst ha; have e : g = b := e; have hx : gK = g := hx; exact nb.1 (by omega))
    · rw [hl2]
      have hcut := hI.crow.cut (k := M) (by omega) ⟨gC, rfl⟩
      rw [Nat.mul_one, ← List.map_take] at hcut
      exact hcut.mod H10.out.1 (fun g hg e => by obtain ⟨a, ha, hx⟩ := hg; injection ha with ha; subst ha; have e : g = b := e; have hx : gC = g := hx; exact nb.2.1 (by omega))
    · refine List.nodup_cons.2 ⟨?_, List.nodup_cons.2 ⟨?_, List.nodup_cons.2 ⟨fun e => nC (List.mem_append_left _ e), nf1⟩⟩⟩
      · simp only [List.mem_cons, not_or]
        exact ⟨nb.1, nb.2.1, fun e => nb.2.2 (List.mem_append_left _ e)⟩
      · simp only [List.mem_cons, not_or]
        exact ⟨nK.1, fun e => nK.2 (List.mem_append_left _ e)⟩
  · rw [hl2, HB.out.2.2.2.2.2.2.2.2]
  · refine ⟨?_, ?_, fun r hr => hI.krows r (List.mem_of_mem_drop hr), hI.ksrt.sublist (List.drop_sublist _ _), ?_, by rw [hl3, hl4]; omega, fun t ht => hkid t (List.mem_of_mem_drop ht), hpar.2.1, sep_drop hI.sep M, rfl, ?_⟩
    · rw [hl3, hl4]
      exact H9.out.2.2.2.2.1.mod H10.out.2.2 (fun e => by have e : w4.heap.size = w.heap.size := e; omega)
    · rw [hl3]
      exact H9.out.2.2.1.mod H10.out.2.2 (fun g hg e => by have e : g = w.heap.size := e; have := (hK3n g hg).1; omega)
    · rw [hl4]
      exact H9.out.2.2.2.1.mod H10.out.2.2 (fun g hg e => by have e : g = w.heap.size := e; have := (hC4n g hg).1; omega)
    · refine List.nodup_cons.2 ⟨?_, nodup_apart ?_ (nodup_apart ?_ nf2 ?_) ?_⟩
      · simp only [List.mem_append, mem_blks, not_or]
        exact ⟨fun e => by have := (hK3n _ e).2; omega, fun e => by have := (hC4n _ e).2; omega, fun e => by have := hfootlt _ e; omega⟩
      · exact blks_nodup _
      · exact blks_nodup _
      · intro x hx y hy e
        have := (hC4n x (mem_blks.1 hx)).1
        have := hfootlt y hy
        omega
      · intro x hx y hy e
        have h1 := hK3n x (mem_blks.1 hx)
        rcases List.mem_append.1 hy with hy | hy
        · have := (hC4n y (mem_blks.1 hy)).1; omega
        · have := hfootlt y hy; omega
  · rw [hl4, HB.out.2.2.2.2.2.2.2.2]
  · refine nodup_apart ?_ ?_ ?_
    · refine List.nodup_cons.2 ⟨?_, List.nodup_cons.2 ⟨?_, List.nodup_cons.2 ⟨fun e => nC (List.mem_append_left _ e), nf1⟩⟩⟩
      · simp only [List.mem_cons, not_or]
        exact ⟨nb.1, nb.2.1, fun e => nb.2.2 (List.mem_append_left _ e)⟩
      · simp only [List.mem_cons, not_or]
        exact ⟨nK.1, fun e => nK.2 (List.mem_append_left _ e)⟩
    · refine List.nodup_cons.2 ⟨?_, nodup_apart (blks_nodup _) (nodup_apart (blks_nodup _) nf2 ?_) ?_⟩
      · simp only [List.mem_append, mem_blks, not_or]
        exact ⟨fun e => by have := (hK3n _ e).2; omega, fun e => by have := (hC4n _ e).2; omega, fun e => by have := hfootlt _ e; omega⟩
      · intro x hx y hy e
        have := (hC4n x (mem_blks.1 hx)).1
        have := hfootlt y hy
        omega
      · intro x hx y hy e
        have h1 := hK3n x (mem_blks.1 hx)
        rcases List.mem_append.1 hy with hy | hy
        · have := (hC4n y (mem_blks.1 hy)).1; omega
        · have := hfootlt y hy; omega
    · intro x hx y hy e
      have hxl : x < w.heap.size := hlt x (by
        simp only [List.mem_cons, List.mem_append] at hx ⊢
        exact hx.elim .inl (fun h => h.elim (fun h => .inr (.inl h)) (fun h => h.elim (fun h => .inr (.inr (.inl h))) (fun h => .inr (.inr (.inr (.inl h)))))))
      rcases List.mem_cons.1 hy with hy | hy
      · omega
      · rcases List.mem_append.1 hy with hy | hy
        · have := (hK3n y (mem_blks.1 hy)).1; omega
        · rcases List.mem_append.1 hy with hy | hy
          · have := (hC4n y (mem_blks.1 hy)).1; omega
          · subst e
            simp only [List.mem_cons] at hx
            rcases hx with h | h | h | h
            · rw [h] at hy; exact nb.2.2 (List.mem_append_right _ hy)
            · rw [h] at hy; exact nK.2 (List.mem_append_right _ hy)
            · rw [h] at hy; exact nC (List.mem_append_right _ hy)
            · exact nf3 x h x hy rfl
  · intro g hg
    rw [hfe, hft]
    rcases List.mem_append.1 hg with hg | hg
    · refine .inl ?_
      simp only [List.mem_cons, List.mem_append] at hg ⊢
      exact hg.elim .inl (fun h => h.elim (fun h => .inr (.inl h)) (fun h => h.elim (fun h => .inr (.inr (.inl h))) (fun h => .inr (.inr (.inr (.inl h))))))
    · rcases List.mem_cons.1 hg with hg | hg
      · exact .inr (by omega)
      · rcases List.mem_append.1 hg with hg | hg
        · exact .inr (by have := (hK3n g (mem_blks.1 hg)).1; omega)
        · rcases List.mem_append.1 hg with hg | hg
          · exact .inr (by have := (hC4n g (mem_blks.1 hg)).1; omega)
          · exact .inl (List.mem_cons_of_mem _ (List.mem_cons_of_mem _ (List.mem_cons_of_mem _ (List.mem_append_right _ hg))))
  · exact H10.out.1.mono (fun g _ e => by have e : g = b := e; rw [e, hfe]; exact List.mem_cons_self)
end
end Go.Proofs.Ytkcpmkeckcnobaa

/- tree.cut, whichever part; the method cut of an inner part. -/
namespace Go.Proofs.Ytkcpmkeckcnobaa
open Go.RowKit

theorem cut_any {w : World} {d : Nat} {v : Value} {L : List (List Nat)} {k : Nat} {F : List Nat} (h : TreeAt w d v L k F) (hn : k ≤ 1099511627776) : Calls Try.prog 45 #[v] w (CutP w d v L k F) := by
  cases d with
  | zero =>
    obtain ⟨b, A, c, h⟩ := h
    exact cut_leaf h (by rw [← h.ke]; exact hn)
  | succ d =>
    obtain ⟨b, ks, ts, K, kc, C, cc, h, rfl, rfl, rfl, hb⟩ := h
    exact cut_inner h hb hn
/-! ## a kid parted in two, in plain words -/
theorem entsOf_cons (t : Kid) (ts : List Kid) : entsOf (t :: ts) = t.L ++ entsOf ts := List.flatMap_cons ..
theorem foot_cons (t : Kid) (ts : List Kid) : foot (t :: ts) = t.F ++ foot ts := List.flatMap_cons ..
theorem mem_ents {ts : List Kid} {r : List Nat} : r ∈ entsOf ts ↔ ∃ t ∈ ts, r ∈ t.L := List.mem_flatMap
section
variable {ks : List (List Nat)} {X Y : List Kid} {t t1 t2 : Kid} {κ : List Nat}
theorem part_ents (hL : t.L = t1.L ++ t2.L) : entsOf (X ++ t1 :: t2 :: Y) = entsOf (X ++ t :: Y) := by
  rw [entsOf_append, entsOf_append, entsOf_cons, entsOf_cons, entsOf_cons, hL, List.append_assoc]
/-- keys ahead of a kid's and behind -/
theorem sep_ahead (hs : Sep ks (X ++ t :: Y)) {j : Nat} {y : List Nat} (hj : ks[j]? = some y) (h : X.length ≤ j) : Ahead t.L y := fun r hr => by
  refine (hs j y hj).1 r (mem_ents.2 ⟨t, ?_, hr⟩)
  rw [List.take_append]
  refine List.mem_append_right _ ?_
  obtain ⟨m, hm⟩ : ∃ m, j + 1 - X.length = m + 1 := ⟨j - X.length, by omega⟩
  rw [hm]; exact List.mem_cons_self
theorem sep_behind (hs : Sep ks (X ++ t :: Y)) {j : Nat} {y : List Nat} (hj : ks[j]? = some y) (h : j < X.length) : ∀ r ∈ t.L, ¬ klt (keyOf r) y := fun r hr => by
  refine (hs j y hj).2 r (mem_ents.2 ⟨t, ?_, hr⟩)
  rw [List.drop_append]
  refine List.mem_append_right _ ?_
  rw [show j + 1 - X.length = 0 from by omega]; exact List.mem_cons_self
theorem part_keys (hs : Sep ks (X ++ t :: Y)) (hk : ks.Pairwise klt) (hlen : ks.length + 1 = (X ++ t :: Y).length) (hL : t.L = t1.L ++ t2.L) (h1 : t1.L ≠ []) (h2 : t2.L ≠ []) (ha : Ahead t1.L κ) (hb : ∀ r ∈ t2.L, ¬ klt (keyOf r) κ) :
    (ks.take X.length ++ κ :: ks.drop X.length).Pairwise klt := by
  obtain ⟨r1, hr1⟩ := List.exists_mem_of_ne_nil _ h1
  obtain ⟨r2, hr2⟩ := List.exists_mem_of_ne_nil _ h2
  have hlo : ∀ x ∈ ks.take X.length, klt x κ := fun x hx => by
    obtain ⟨j, hj, rfl⟩ := List.getElem_of_mem hx
    rw [List.length_take] at hj
    have hjj : ks[j]? = some ks[j] := List.getElem?_eq_getElem (by omega)
    rw [List.getElem_take]
    have := sep_behind hs hjj (by omega) r1 (by rw [hL]; exact List.mem_append_left _ hr1)
    exact klt_of_le this (ha r1 hr1)
  have hhi : ∀ y ∈ ks.drop X.length, klt κ y := fun y hy => by
    obtain ⟨j, hj, rfl⟩ := List.getElem_of_mem hy
    rw [List.length_drop] at hj
    have hjj : ks[X.length + j]? = some ks[X.length + j] := List.getElem?_eq_getElem (by omega)
    rw [List.getElem_drop]
    have := sep_ahead hs hjj (by omega) r2 (by rw [hL]; exact List.mem_append_right _ hr2)
    exact klt_of_le (hb r2 hr2) this
  have hpar := List.pairwise_append.1 ((List.take_append_drop X.length ks).symm ▸ hk : (ks.take X.length ++ ks.drop X.length).Pairwise klt)
  refine List.pairwise_append.2 ⟨hpar.1, List.pairwise_cons.2 ⟨hhi, hpar.2.1⟩, fun x hx y hy => ?_⟩
  rcases List.mem_cons.1 hy with rfl | hy
  · exact hlo x hx
  · exact hpar.2.2 x hx y hy
theorem part_sep (hs : Sep ks (X ++ t :: Y)) (hsrt : Srt (entsOf (X ++ t :: Y))) (hlen : ks.length + 1 = (X ++ t :: Y).length) (hL : t.L = t1.L ++ t2.L) (h1 : t1.L ≠ []) (h2 : t2.L ≠ []) (ha : Ahead t1.L κ) (hb : ∀ r ∈ t2.L, ¬ klt (keyOf r) κ) :
    Sep (ks.take X.length ++ κ :: ks.drop X.length) (X ++ t1 :: t2 :: Y) := by
  intro j y hj
  have hxl : X.length ≤ ks.length := by simp only [List.length_append, List.length_cons] at hlen; omega
  have htl : (ks.take X.length).length = X.length := by rw [List.length_take]; omega
  rcases Nat.lt_trichotomy j X.length with hjx | hjx | hjx
  · -- ahead of the kid
    rw [List.getElem?_append_left (by omega), List.getElem?_take_of_lt hjx] at hj
    obtain ⟨s1, s2⟩ := hs j y hj
    rw [List.take_append_of_le_length (by omega)] at s1 ⊢
    refine ⟨s1, fun r hr => s2 r ?_⟩
    rw [List.drop_append_of_le_length (by omega)] at hr ⊢
    rw [← part_ents hL]; exact hr
  · subst hjx
    rw [List.getElem?_append_right (by omega), htl, Nat.sub_self] at hj
    injection hj with hj; subst hj
    have e : entsOf (X ++ t :: Y) = entsOf X ++ (t1.L ++ (t2.L ++ entsOf Y)) := by rw [entsOf_append, entsOf_cons, hL, List.append_assoc]
    rw [e] at hsrt
    have p1 := hsrt.parts
    have p2 := p1.2.1.parts
    have p3 := p2.2.1.parts
    obtain ⟨r1, hr1⟩ := List.exists_mem_of_ne_nil _ h1
    obtain ⟨r2, hr2⟩ := List.exists_mem_of_ne_nil _ h2
    constructor
    · rw [List.take_append, List.take_of_length_le (by omega), show X.length + 1 - X.length = 1 from by omega, List.take_succ_cons, List.take_zero, entsOf_append, entsOf_cons]
      intro r hr
      rcases List.mem_append.1 hr with hr | hr
      · exact klt_trans (p1.2.2 r hr r1 (List.mem_append_left _ hr1)) (ha r1 hr1)
      · rcases List.mem_append.1 hr with hr | hr
        · exact ha r hr
        · cases hr
    · rw [List.drop_append, List.drop_of_length_le (by omega), show X.length + 1 - X.length = 1 from by omega, List.drop_succ_cons, List.drop_zero, List.nil_append, entsOf_cons]
      intro r hr
      rcases List.mem_append.1 hr with hr | hr
      · exact hb r hr
      · exact fun e => hb r2 hr2 (klt_trans (p3.2.2 r2 hr2 r hr) e)
  · obtain ⟨m, rfl⟩ : ∃ m, j = X.length + 1 + m := ⟨j - X.length - 1, by omega⟩
    rw [List.getElem?_append_right (by omega), htl, show X.length + 1 + m - X.length = m + 1 from by omega, List.getElem?_cons_succ, List.getElem?_drop] at hj
    obtain ⟨s1, s2⟩ := hs (X.length + m) y hj
    rw [List.take_append, List.take_of_length_le (by omega), show X.length + m + 1 - X.length = m + 1 from by omega, List.take_succ_cons] at s1
    rw [List.drop_append, List.drop_of_length_le (by omega), show X.length + m + 1 - X.length = m + 1 from by omega, List.drop_succ_cons, List.nil_append] at s2
    rw [List.take_append, List.take_of_length_le (by omega), List.drop_append, List.drop_of_length_le (by omega), show X.length + 1 + m + 1 - X.length = m + 2 from by omega, List.take_succ_cons, List.take_succ_cons, List.drop_succ_cons, List.drop_succ_cons, List.nil_append]
    refine ⟨fun r hr => s1 r ?_, s2⟩
    rw [part_ents hL] at hr
    exact hr
end
end Go.Proofs.Ytkcpmkeckcnobaa

/- (*inner).cut. -/
namespace Go.Proofs.Ytkcpmkeckcnobaa
open Go.RowKit

theorem tree_iface {w : World} {d : Nat} {v : Value} {L : List (List Nat)} {k : Nat} {F : List Nat} (h : TreeAt w d v L k F) : ∃ T g, v = .iface T (.pointer (some ⟨g, 0, none⟩)) := by
  obtain ⟨b, rfl⟩ := h.form
  cases d
  · exact ⟨_, b, rfl⟩
  · exact ⟨_, b, rfl⟩
/-! ## blocks apart -/
theorem inner_nd {b : Nat} {K C : Option Addr} {ts : List Kid} (hb : ∀ g, Of K g ∨ Of C g ∨ g ∈ foot ts → g ≠ b) (hKC : ∀ g, Of K g → ¬ Of C g) (hKf : ∀ g, Of K g → g ∉ foot ts) (hCf : ∀ g, Of C g → g ∉ foot ts) (hf : (foot ts).Nodup) : (b :: (blks K ++ (blks C ++ foot ts))).Nodup := by
  refine List.nodup_cons.2 ⟨fun e => ?_, nodup_apart (blks_nodup _) (nodup_apart (blks_nodup _) hf ?_) ?_⟩
  · simp only [List.mem_append, mem_blks] at e
    exact hb b e rfl
  · intro x hx y hy e
    subst e
    exact hCf x (mem_blks.1 hx) hy
  · intro x hx y hy e
    subst e
    rcases List.mem_append.1 hy with hy | hy
    · exact hKC x (mem_blks.1 hx) (mem_blks.1 hy)
    · exact hKf x (mem_blks.1 hx) hy
structure Ap (b : Nat) (K C : Option Addr) (ts : List Kid) : Prop where
  hb : ∀ g, Of K g ∨ Of C g ∨ g ∈ foot ts → g ≠ b
  KC : ∀ g, Of K g → ¬ Of C g
  Kf : ∀ g, Of K g → g ∉ foot ts
  Cf : ∀ g, Of C g → g ∉ foot ts
  f : (foot ts).Nodup
theorem InnerAt.ap {Q : Value → List (List Nat) → Nat → List Nat → Prop} {w : World} {b : Nat} {ks : List (List Nat)} {ts : List Kid} {F : List Nat} {K : Option Addr} {kc : Nat} {C : Option Addr} {cc : Nat} (h : InnerAt Q w b ks ts F K kc C cc) : Ap b K C ts := by
  have hn := h.nd
  rw [h.fe] at hn
  obtain ⟨n1, n2⟩ := List.nodup_cons.1 hn
  obtain ⟨n3, n4, n5⟩ := List.nodup_append.1 n2
  obtain ⟨n6, n7, n8⟩ := List.nodup_append.1 n4
  refine ⟨fun g hg e => n1 ?_, fun g h1 h2 => ?_, fun g h1 h2 => ?_, fun g h1 h2 => ?_, n7⟩
  · subst e
    simp only [List.mem_append, mem_blks]; exact hg
  · exact n5 g (mem_blks.2 h1) g (List.mem_append_left _ (mem_blks.2 h2)) rfl
  · exact n5 g (mem_blks.2 h1) g (List.mem_append_right _ h2) rfl
  · exact n8 g (mem_blks.2 h1) g h2 rfl
theorem mem_foot {ts : List Kid} {g : Nat} : g ∈ foot ts ↔ ∃ t ∈ ts, g ∈ t.F := List.mem_flatMap
/-- one kid's blocks given up for others, that are new or were its own -/
theorem foot_swap {X Y Z : List Kid} {t : Kid} {n : Nat} (h : (foot (X ++ t :: Y)).Nodup) (hlt : ∀ g ∈ foot (X ++ t :: Y), g < n) (hz : (foot Z).Nodup) (hs : ∀ g ∈ foot Z, g ∈ t.F ∨ n ≤ g) : (foot (X ++ (Z ++ Y))).Nodup := by
  rw [foot_append, foot_cons] at h hlt
  rw [foot_append, foot_append]
  obtain ⟨a1, a2, a3⟩ := List.nodup_append.1 h
  obtain ⟨b1, b2, b3⟩ := List.nodup_append.1 a2
  refine nodup_apart a1 (nodup_apart hz b2 ?_) ?_
  · intro x hx y hy e
    subst e
    rcases hs x hx with h1 | h1
    · exact b3 x h1 x hy rfl
    · have := hlt x (List.mem_append_right _ (List.mem_append_right _ hy)); omega
  · intro x hx y hy e
    subst e
    rcases List.mem_append.1 hy with hy | hy
    · rcases hs x hy with h1 | h1
      · exact a3 x hx x (List.mem_append_left _ h1) rfl
      · have := hlt x (List.mem_append_left _ hx); omega
    · exact a3 x hx x (List.mem_append_right _ hy) rfl
theorem kid_apart {X Y : List Kid} {t : Kid} (h : (foot (X ++ t :: Y)).Nodup) : ∀ u ∈ X ++ Y, ∀ g ∈ u.F, g ∉ t.F := by
  rw [foot_append, foot_cons] at h
  obtain ⟨a1, a2, a3⟩ := List.nodup_append.1 h
  obtain ⟨b1, b2, b3⟩ := List.nodup_append.1 a2
  intro u hu g hg hgt
  rcases List.mem_append.1 hu with hu | hu
  · exact a3 g (mem_foot.2 ⟨u, hu, hg⟩) g (List.mem_append_left _ hgt) rfl
  · exact b3 g hgt g (mem_foot.2 ⟨u, hu, hg⟩) rfl
theorem info_partz : (Try.prog.info? 37).map (fun i => (i.zero, i.size)) = some (some .nilIface, 1) := by kernel_rfl
theorem info_key40 : (Try.prog.info? 23).map (fun i => (i.zero, i.size)) = some (some (.agg (bv zk).toArray), 40) := info_keyz
section
variable {w : World} {ks : List (List Nat)} {X Y : List Kid} {t : Kid} {d b kc cc : Nat} {F : List Nat} {K C : Option Addr}
set_option maxRecDepth 100000 in
set_option maxHeartbeats 6400000 in
theorem icut_any (h : InnerAt (TreeAt w d) w b ks (X ++ t :: Y) F K kc C cc) (hbd : ∀ u ∈ X ++ Y, loB d ≤ u.k ∧ u.k ≤ hiB d) (hlo : loB d ≤ t.k) (hhi : t.k ≤ 2 * hiB d) (hn : (X ++ t :: Y).length ≤ 549755813888) :
    Calls Try.prog 65 #[.pointer (some ⟨b, 0, none⟩), .int .i64 X.length] w fun r w' => r = .returned (.tuple #[]) ∧ ∃ ks' ts' F' K' kc' C' cc', InnerAt (TreeAt w' d) w' b ks' ts' F' K' kc' C' cc' ∧ entsOf ts' = entsOf (X ++ t :: Y) ∧ (∀ u ∈ ts', loB d ≤ u.k ∧ u.k ≤ hiB d) ∧
      (X ++ t :: Y).length ≤ ts'.length ∧ ts'.length ≤ (X ++ t :: Y).length + 1 ∧ (∀ g ∈ F', g ∈ F ∨ w.heap.size ≤ g) ∧ Mod (· ∈ F) w w' := by
  have hkl := h.len
  have hcle := h.crow.le
  have hkle := h.krow.le
  obtain ⟨gC, rfl⟩ := h.crow.of_ (by omega)
  have htt := h.kids t (by simp)
  have hk40 : t.k ≤ 1099511627776 := by cases d <;> simp [hiB] at hhi <;> omega
  obtain ⟨T, gt, hvt⟩ := tree_iface htt
  have hct : ∀ w', Mod Nn w w' → w'.cell? ⟨gC, X.length, none⟩ = some t.v := fun w' hm => by
    obtain ⟨g, off, e, hc⟩ := (h.crow.nn hm).rd.2 (by omega)
    injection e with e; injection e with e1 e2 _; subst e1; subst e2
    have := hc X.length t.v (by simp)
    rwa [Nat.zero_add] at this
  obtain ⟨N, hN⟩ : ∃ N, (X ++ t :: Y).length = N := ⟨_, rfl⟩
  obtain ⟨p, hp⟩ : ∃ p, X.length = p := ⟨_, rfl⟩
  have hpN : p < N := by rw [← hN, ← hp]; simp
  have hXN : p + Y.length + 1 = N := by rw [← hN, ← hp]; simp; omega
  rw [hN] at hn hkl hcle ⊢
  rw [hp] at hct ⊢
  have hb := h.blk
  rw [hN] at hb
  have HB := Lib.hid (And.intro h (And.intro hbd (And.intro hlo (And.intro hhi (And.intro htt (And.intro hN (And.intro hp (And.intro hct (And.intro hb (And.intro hvt hk40))))))))))
  clear h hbd hlo hhi htt hN hp hct hvt hk40
  have hc1 : w.cell? ⟨b, 1, none⟩ = some (.slice (some ⟨gC, 0, none⟩) N cc) := hb.cell 1
  clear hb
  go_enter Try.func65, Try.ntmps65
  go_wp2_with (first
    | (with_reducible change wpList _ _ _ (⟨some 12, _, _, _, _, _⟩ :: _) _ _
       go_must (refine wpList_val rfl (exec_elem (P := Try.prog) (g := gC) (off := 0) (q := p) 104 (.tmp 10) (.tmp 11) rfl 37 1 uuP sizeP rfl rfl hpN) ?_)
       rw [Nat.zero_add, Nat.mul_one])
    | (with_reducible change wpList _ _ _ (⟨some 13, _, _, _, _, _⟩ :: _) _ _
       go_must (refine wpList_val rfl (exec_load1 (P := Try.prog) (ad := ⟨gC, p, none⟩) 37 (.tmp 12) rfl rfl (HB.out.2.2.2.2.2.2.2.1 w (Mod.refl Nn w)) Try.underlying37 rfl) ?_)))
  refine (cut_any HB.out.2.2.2.2.1 HB.out.2.2.2.2.2.2.2.2.2.2).mono ?_
  rintro r w1 (⟨hle, rfl, m1⟩ | ⟨hgt, u, κ, L1, L2, F1, F2, rfl, hL, t1, t2, hnd, hsub, m1, hκ1, hκ2, hκ3, hκ4⟩)
  · have H1 := Lib.hid m1
    clear m1 hc1
    go_wp2_with (first
      | (with_reducible change wpList _ _ _ (⟨some 5, Op.alloc _, _, _, _, _⟩ :: _) _ _
         go_must (refine wpList_alloc_var 23 rfl rfl info_keyz ?_)
         intro w2 b2 m2 z2
         clear z2
         have H2 := Lib.hid (And.intro (H1.out.nn_ m2) (And.intro b2 H1.out.size))
         clear b2 m2)
      | (with_reducible change wpList _ _ _ (⟨none, Op.store _ (Operand.tmp 5) _, _, _, _, _⟩ :: _) _ _
         go_must (refine wpList_store_var 23 _ _ rfl rfl w1.heap.size (bv zk).toArray _ _ rfl rfl H2.out.2.1 (size_keyk zk_len) rfl (bv_all _) ?_)
         intro w3 b3 m3 z3
         clear z3 b3
         have H3 := Lib.hid (H2.out.1.new_ m3 H2.out.2.2)
         clear m3))
    go_end0
    refine ⟨rfl, ks, X ++ t :: Y, F, K, kc, some ⟨gC, 0, none⟩, cc, HB.out.1.mod H3.out (fun _ _ f => f) (fun u hu hq => hq.nn H3.out), rfl, fun u hu => ?_, by rw [HB.out.2.2.2.2.2.1]; exact Nat.le_refl _, by rw [HB.out.2.2.2.2.2.1]; omega, fun g hg => .inl hg, H3.out.nn⟩
    rcases List.mem_append.1 hu with hu | hu
    · exact HB.out.2.1 u (List.mem_append_left _ hu)
    · rcases List.mem_cons.1 hu with rfl | hu
      · exact ⟨HB.out.2.2.1, hle⟩
      · exact HB.out.2.1 u (List.mem_append_right _ hu)
  have hI := HB.out.1
  have ap := hI.ap
  have htF : ∀ g ∈ t.F, g ∈ foot (X ++ t :: Y) := fun g hg => mem_foot.2 ⟨t, by simp, hg⟩
  have hflt : ∀ g ∈ foot (X ++ t :: Y), g < w.heap.size := fun g hg => by
    obtain ⟨u', hu', hg'⟩ := mem_foot.1 hg
    exact (hI.kids u' hu').lt g hg'
  have hbt : b ∉ t.F := fun e => ap.hb b (.inr (.inr (htF b e))) rfl
  have hKt : ∀ g, Of K g → g ∉ t.F := fun g hg e => ap.Kf g hg (htF g e)
  have hCt : ∀ g, Of (some ⟨gC, 0, none⟩) g → g ∉ t.F := fun g hg e => ap.Cf g hg (htF g e)
  have hKlt : ∀ g, Of K g → g < w.heap.size := fun g hg => hI.krow.lt hg
  have hClt : ∀ g, Of (some ⟨gC, 0, none⟩) g → g < w.heap.size := fun g hg => hI.crow.lt hg
  have hbw : b < w.heap.size := hI.blk.lt
  have hw1 : w.heap.size ≤ w1.heap.size := m1.size
  obtain ⟨T2, gu, hu⟩ := tree_iface t2
  have hB1 : Blk w1 b 106 #[.slice K ks.length kc, .slice (some ⟨gC, 0, none⟩) N cc] := HB.out.2.2.2.2.2.2.2.2.1.mod m1 hbt
  have hK1 := hI.krow.mod m1 hKt
  have hC1 := hI.crow.mod m1 hCt
  rw [HB.out.2.2.2.2.2.1] at hC1
  have hXY1 : ∀ u' ∈ X ++ Y, TreeAt w1 d u'.v u'.L u'.k u'.F := fun u' hu' => (hI.kids u' (by
    rcases List.mem_append.1 hu' with e | e
    · exact List.mem_append_left _ e
    · exact List.mem_append_right _ (List.mem_cons_of_mem _ e))).mod m1 (fun g hg => kid_apart ap.f u' hu' g hg)
  have H1 := Lib.hid (And.intro m1 (And.intro hB1 (And.intro hK1 (And.intro hC1 (And.intro hXY1 (And.intro t1 (And.intro t2 (And.intro hnd (And.intro hsub (And.intro hL (And.intro hκ1 (And.intro hκ2 (And.intro hκ3 (And.intro hκ4 (And.intro ap (And.intro hflt hgt))))))))))))))))
  have HKL := Lib.hid (And.intro hKlt (And.intro hClt (And.intro hbt (And.intro hKt hCt))))
  clear m1 hB1 hK1 hC1 hXY1 t1 t2 hnd hsub hL hκ2 hκ3 hκ4 ap hflt hKlt hClt hbt hKt hCt htF hI hc1 hgt
  subst hu
  -- zzS1
  go_wp2_with (first
    | (with_reducible change wpList _ _ _ (⟨some 5, Op.alloc _, _, _, _, _⟩ :: _) _ _
       go_must (refine wpList_alloc_var 23 rfl rfl info_keyz ?_)
       intro w2 b2 m2 z2
       clear z2
       have H2 := Lib.hid (And.intro m2 b2)
       clear b2 m2)
    | (with_reducible change wpList _ _ _ (⟨none, Op.store _ (Operand.tmp 5) _, _, _, _, _⟩ :: _) _ _
       go_must (refine wpList_store_var 23 _ _ rfl rfl w1.heap.size (bv κ).toArray _ _ rfl rfl H2.out.2 (size_keyk hκ1) (by rw [bv_size, hκ1]; rfl) (bv_all _) ?_)
       intro w3 b3 m3 z3
       clear z3
       have H3 := Lib.hid (And.intro (H2.out.1.new_ m3 (Nat.le_refl _)) b3)
       clear m3 b3))
  have hw13 : w1.heap.size < w3.heap.size := H3.out.2.lt
  have hbq : b ≠ w1.heap.size := by omega
  have hpk : p ≤ ks.length := by omega
  -- at w3
  have hB3 := H1.out.2.1.mod H3.out.1 (fun f => f)
  have hK3 := H1.out.2.2.1.nn H3.out.1
  have HC3 := Lib.hid (And.intro hB3 (And.intro hK3 (H1.out.2.2.2.1.nn H3.out.1)))
  clear hB3 hK3
  refine wp_region_planT (fun w' => Blk w' b 106 #[.slice K ks.length kc, .slice (some ⟨gC, 0, none⟩) N cc] ∧ Blk w' w1.heap.size 23 (bv κ).toArray) 11 [(0, 0), (1, 0), (2, 0), (3, 0), (4, 1), (5, 0), (6, 1), (7, 2), (8, 2), (9, 0), (10, 0), (11, 2)] (by kernel_rfl) (by kernel_rfl) ⟨HC3.out.1.drew, H3.out.2.drew⟩ ?_
  iterate 4 (refine pt_pure rfl rfl (fun K hK => ?_); go_simp; refine hK _ ?_; clear hK K)
  refine pt_take (.slice K ks.length kc) rfl rfl (fun w' hS => exec_load1 (P := Try.prog) 75 (.tmp 22) rfl rfl (hS.1.cell 0) Try.underlying75 rfl) (fun K hK => ?_); go_simp; refine hK _ ?_; clear hK K
  iterate 1 (refine pt_pure rfl rfl (fun K hK => ?_); go_simp; refine hK _ ?_; clear hK K)
  refine pt_take (.agg (bv κ).toArray) rfl rfl (fun w' hS => exec_load_row (P := Try.prog) (g := w1.heap.size) (cs := (bv κ).toArray) 23 (.tmp 5) rfl rfl hS.2 Try.underlying23 rfl (size_keyk hκ1)) (fun K hK => ?_); go_simp; refine hK _ ?_; clear hK K
  refine pt_mk1 (ys := bv κ) (v := .agg (bv κ).toArray) 75 23 (.tmp 25) rfl rfl rfl uuK info_key40 (by omega) (by omega) rfl rfl (by rw [bv_len, hκ1]) (fun w4 b4 m4 => ⟨fun _ => ⟨HC3.out.1.mod (Mod.of_drew m4) (fun f => f), H3.out.2.mod (Mod.of_drew m4) (fun f => f)⟩, ?_⟩)
  refine (fun K hK => ?_); go_simp; refine hK _ ?_; clear hK K
  have m4' := m4.of_drew
  have hs4 : w3.heap.size < w4.heap.size := b4.lt
  have H4 := Lib.hid (And.intro m4' b4)
  clear m4 m4' b4
  refine pt_call rfl rfl (fun K hK => ?_); go_simp; refine ⟨_, _, ⟨rfl, rfl⟩, hK _ _ _ ?_⟩; clear hK K
  refine (sinsK_any (HC3.out.2.1.nn H4.out.1) hpk H4.out.2 (by rw [bv_len, hκ1]) (bv_one _) (bv_one _) (fun g hg e => by have e : g = w3.heap.size := e; have := HKL.out.1 g hg; omega) (by omega)).mono ?_
  rintro r w5 ⟨K5, k5, rfl, h5, m5, hK5⟩
  rw [hkl] at h5
  have hs5 : w4.heap.size ≤ w5.heap.size := m5.size
  have hbK : ¬ Of K b := fun e => H1.out.2.2.2.2.2.2.2.2.2.2.2.2.2.2.1.hb b (.inl e) rfl
  have hqK : ¬ Of K w1.heap.size := fun e => by have := HKL.out.1 _ e; omega
  have hB5 := (HC3.out.1.mod H4.out.1 (fun f => f)).mod m5 hbK
  have H5 := Lib.hid (And.intro m5 (And.intro h5 (And.intro hK5 hB5)))
  refine ⟨_, rfl, fun _ => ⟨hB5, (H3.out.2.mod H4.out.1 (fun f => f)).mod m5 hqK⟩, ?_⟩
  clear m5 h5 hK5 hB5
  iterate 2 (refine pt_pure rfl rfl (fun K hK => ?_); go_simp; refine hK _ ?_; clear hK K)
  refine pt_unit rfl rfl (exec_store1 (P := Try.prog) (ad := ⟨b, 0, none⟩) (v := .slice K5 N k5) (u := .slice K ks.length kc) 75 (.tmp 29) (.tmp 27) rfl rfl rfl (H5.out.2.2.2.cell 0) (H5.out.2.2.2.frozen 0) rfl rfl rfl size_slK) (fun h => by simp at h) (fun K hK => ?_); go_simp; refine hK _ ?_; clear hK K
  refine pt_nil ?_
  have b6 : Blk (w5.setCell ⟨b, 0, none⟩ (.slice K5 N k5)) b 106 #[.slice K5 N k5, .slice (some ⟨gC, 0, none⟩) N cc] := H5.out.2.2.2.set_ 0 _
  have m6 : Mod (At b) w5 (w5.setCell ⟨b, 0, none⟩ (.slice K5 N k5)) := Mod.cellAt _ _ _ _
  generalize w5.setCell ⟨b, 0, none⟩ (.slice K5 N k5) = w6 at *
  have hs6 : w5.heap.size ≤ w6.heap.size := m6.size
  have hbC : ¬ Of (some ⟨gC, 0, none⟩) b := fun e => H1.out.2.2.2.2.2.2.2.2.2.2.2.2.2.2.1.hb b (.inr (.inl e)) rfl
  have hKC : ∀ g, Of (some ⟨gC, 0, none⟩) g → ¬ Of K g := fun g h1 h2 => H1.out.2.2.2.2.2.2.2.2.2.2.2.2.2.2.1.KC g h2 h1
  have hbK5 : ¬ Of K5 b := fun e => by
    rcases H5.out.2.2.1 b e with e | e
    · exact hbK e
    · omega
  have hK6 := H5.out.2.1.mod m6 (fun g hg e => by have e : g = b := e; rw [e] at hg; exact hbK5 hg)
  have hC6 := ((HC3.out.2.2.nn H4.out.1).mod H5.out.1 hKC).mod m6 (fun g hg e => by have e : g = b := e; rw [e] at hg; exact hbC hg)
  have hK5lt : ∀ g, Of K5 g → g < w5.heap.size := fun g hg => H5.out.2.1.lt hg
  have HKL2 := Lib.hid hbC
  have H6 := Lib.hid (And.intro b6 (And.intro m6 (And.intro hK6 (And.intro hC6 hK5lt))))
  have hc1 : w6.cell? ⟨b, 1, none⟩ = some (.slice (some ⟨gC, 0, none⟩) N cc) := b6.cell 1
  clear b6 m6 hK6 hC6 hK5lt
  -- zzS3
  go_wp2_with (first
    | (with_reducible change wpList _ _ _ (⟨some 38, Op.buildSlice _ _ _, _, _, _, _⟩ :: _) _ _
       go_must (refine wpList_mk1 (ys := [.iface T2 (.pointer (some ⟨gu, 0, none⟩))]) 104 37 (.tmp 37) rfl rfl uuP info_partz (by omega) (by omega) rfl rfl rfl ?_)
       intro w7 b7 m7
       have hs7 : w6.heap.size < w7.heap.size := b7.lt
       have H7 := Lib.hid (And.intro m7 b7)
       clear m7 b7))
  refine (sinsP_gen (i := p + 1) rfl (H6.out.2.2.2.1.nn H7.out.1) (by omega) H7.out.2 rfl (fun v hv => by simp at hv; subst hv; rfl) (fun v hv => by
    obtain ⟨t', ht', rfl⟩ := List.mem_map.1 hv
    exact tree_one (HB.out.1.kids t' ht')) (fun g hg e => by have e : g = w6.heap.size := e; have := HKL.out.2.1 g hg; omega) (by omega)).mono ?_
  rintro r w8 ⟨C8, c8, rfl, h8, m8, hC8⟩
  have hs8 : w7.heap.size ≤ w8.heap.size := m8.size
  have hB8 := (H6.out.1.mod H7.out.1 (fun f => f)).mod m8 HKL2.out
  have hc1 : w8.cell? ⟨b, 1, none⟩ = some (.slice (some ⟨gC, 0, none⟩) N cc) := hB8.cell 1
  have H8 := Lib.hid (And.intro m8 (And.intro h8 (And.intro hC8 hB8)))
  clear m8 h8 hC8 hB8
  -- zzS4
  go_wp2_with (first
    | (with_reducible change wpList _ _ _ (⟨none, Op.store _ (Operand.tmp 41) _, _, _, _, _⟩ :: _) _ _
       go_must (refine wpList_unit rfl (exec_store1 (P := Try.prog) (ad := ⟨b, 1, none⟩) (v := .slice C8 (N + 1) c8) (u := .slice (some ⟨gC, 0, none⟩) N cc) 104 _ _ rfl rfl rfl hc1 (H8.out.2.2.2.frozen 1) rfl rfl rfl size_slP) ?_)))
  have b9 : Blk (w8.setCell ⟨b, 1, none⟩ (.slice C8 (N + 1) c8)) b 106 #[.slice K5 N k5, .slice C8 (N + 1) c8] := H8.out.2.2.2.set_ 1 _
  have m9 : Mod (At b) w8 (w8.setCell ⟨b, 1, none⟩ (.slice C8 (N + 1) c8)) := Mod.cellAt _ _ _ _
  generalize w8.setCell ⟨b, 1, none⟩ (.slice C8 (N + 1) c8) = w9 at *
  have H9 := Lib.hid (And.intro b9 m9)
  clear b9 m9 hc1
  -- zzS5
  go_end0
  have hI := HB.out.1
  have hXl : X.length = p := HB.out.2.2.2.2.2.2.1
  have hNl : (X ++ t :: Y).length = N := HB.out.2.2.2.2.2.1
  have hgt := H1.out.2.2.2.2.2.2.2.2.2.2.2.2.2.2.2.2
  have hhi := HB.out.2.2.2.1
  have hL := H1.out.2.2.2.2.2.2.2.2.2.1
  have ap := H1.out.2.2.2.2.2.2.2.2.2.2.2.2.2.2.1
  have hflt := H1.out.2.2.2.2.2.2.2.2.2.2.2.2.2.2.2.1
  have t1 := H1.out.2.2.2.2.2.1
  have t2 := H1.out.2.2.2.2.2.2.1
  have hsub := H1.out.2.2.2.2.2.2.2.2.1
  have hha := H1.out.2.2.2.2.2.2.2.2.2.2.2.2.1
  have hhb := H1.out.2.2.2.2.2.2.2.2.2.2.2.2.2.1
  have hkz := H1.out.2.2.2.2.2.2.2.2.2.2.2.1
  have hbig : 2 * loB d ≤ hiB d ∧ 12 ≤ hiB d := by cases d <;> simp [loB, hiB]
  have hl1 : L1 ≠ [] := t1.ne (by omega)
  have hl2 : L2 ≠ [] := t2.ne (by omega)
  obtain ⟨t1k, ht1k⟩ : ∃ q : Kid, q = ⟨t.v, L1, t.k / 2, F1⟩ := ⟨_, rfl⟩
  obtain ⟨t2k, ht2k⟩ : ∃ q : Kid, q = ⟨.iface T2 (.pointer (some ⟨gu, 0, none⟩)), L2, t.k - t.k / 2, F2⟩ := ⟨_, rfl⟩
  have hL' : t.L = t1k.L ++ t2k.L := by rw [ht1k, ht2k]; exact hL
  have hl1' : t1k.L ≠ [] := by rw [ht1k]; exact hl1
  have hl2' : t2k.L ≠ [] := by rw [ht2k]; exact hl2
  have hha' : Ahead t1k.L κ := by rw [ht1k]; exact hha
  have hhb' : ∀ r ∈ t2k.L, ¬ klt (keyOf r) κ := by rw [ht2k]; exact hhb
  have hF1lt : ∀ g ∈ F1 ++ F2, g < w1.heap.size := fun g hg => (List.mem_append.1 hg).elim (fun h => t1.lt g h) (fun h => t2.lt g h)
  have m19 : Mod (fun g => g = b ∨ Of K g ∨ Of (some ⟨gC, 0, none⟩) g) w1 w9 := (H3.out.1.mono (fun _ _ f => f.elim)).trans ((H4.out.1.mono (fun _ _ f => f.elim)).trans ((H5.out.1.mono (fun g _ e => .inr (.inl e))).trans ((H6.out.2.1.mono (fun g _ e => .inl e)).trans ((H7.out.1.mono (fun _ _ f => f.elim)).trans ((H8.out.1.mono (fun g _ e => .inr (.inr e))).trans (H9.out.2.mono (fun g _ e => .inl e)))))))
  have hfar : ∀ g, (g ∈ foot (X ++ t :: Y) ∨ w.heap.size ≤ g) → ¬ (g = b ∨ Of K g ∨ Of (some ⟨gC, 0, none⟩) g) := fun g hg e => by
    rcases hg with hg | hg
    · rcases e with e | e | e
      · exact ap.hb g (.inr (.inr hg)) e
      · exact ap.Kf g e hg
      · exact ap.Cf g e hg
    · rcases e with e | e | e
      · omega
      · have := HKL.out.1 g e; omega
      · have := HKL.out.2.1 g e; omega
  have hfoot : ∀ g ∈ foot (X ++ ([t1k, t2k] ++ Y)), g ∈ foot (X ++ t :: Y) ∨ (w.heap.size ≤ g ∧ g < w1.heap.size) := fun g hg => by
    rw [foot_append, foot_append, foot_cons, foot_cons] at hg
    rw [foot_append, foot_cons]
    rcases List.mem_append.1 hg with hg | hg
    · exact .inl (List.mem_append_left _ hg)
    · rcases List.mem_append.1 hg with hg | hg
      · have hg' : g ∈ F1 ++ F2 := by
          rw [ht1k, ht2k] at hg
          simpa [foot] using hg
        rcases hsub g hg' with h | h
        · exact .inl (List.mem_append_right _ (List.mem_append_left _ h))
        · exact .inr ⟨h, hF1lt g hg'⟩
      · exact .inl (List.mem_append_right _ (List.mem_append_right _ hg))
  have hfnd : (foot (X ++ ([t1k, t2k] ++ Y))).Nodup := by
    refine foot_swap ap.f hflt ?_ ?_
    · rw [ht1k, ht2k]; simpa [foot] using H1.out.2.2.2.2.2.2.2.1
    · intro g hg
      rw [ht1k, ht2k] at hg
      exact hsub g (by simpa [foot] using hg)
  have hK5c : ∀ g, Of K5 g → (Of K g ∨ w4.heap.size ≤ g) ∧ g < w5.heap.size := fun g hg => ⟨H5.out.2.2.1 g hg, H6.out.2.2.2.2 g hg⟩
  have hC8c : ∀ g, Of C8 g → Of (some ⟨gC, 0, none⟩) g ∨ w7.heap.size ≤ g := fun g hg => H8.out.2.2.1 g hg
  refine ⟨rfl, ks.take p ++ κ :: ks.drop p, X ++ ([t1k, t2k] ++ Y), b :: (blks K5 ++ (blks C8 ++ foot (X ++ ([t1k, t2k] ++ Y)))), ⟨K5, k5, C8, c8, ⟨?_, ?_, ?_, ?_, ?_, ?_, ?_, ?_, ?_, rfl, ?_⟩⟩, ?_, ?_, ?_, ?_, ?_, ?_⟩
  · have e1 : (ks.take p ++ κ :: ks.drop p).length = N := by simp; omega
    have e2 : (X ++ ([t1k, t2k] ++ Y)).length = N + 1 := by simp at hNl ⊢; omega
    rw [e1, e2]; exact H9.out.1
  · have e1 : (ks.take p ++ κ :: ks.drop p).length = N := by simp; omega
    have e3 : (bv ks.flatten).take (p * 40) ++ bv κ ++ (bv ks.flatten).drop (p * 40) = bv (ks.take p ++ κ :: ks.drop p).flatten := by
      rw [bv_take, rows_take (fun r hr => (hI.krows r hr).1), bv_drop, rows_drop (fun r hr => (hI.krows r hr).1), ← bv_append, ← bv_append, List.flatten_append, List.flatten_cons, List.append_assoc]
    rw [e1, ← e3]
    refine ((H6.out.2.2.1.nn H7.out.1).mod H8.out.1 (fun g hg e => ?_)).mod H9.out.2 (fun g hg e => ?_)
    · rcases (hK5c g hg).1 with h | h
      · exact ap.KC g h e
      · have := HKL.out.2.1 g e; omega
    · have e : g = b := e
      rcases (hK5c g hg).1 with h | h
      · exact ap.hb g (.inl h) e
      · omega
  · intro r hr
    rcases List.mem_append.1 hr with hr | hr
    · exact hI.krows r (List.mem_of_mem_take hr)
    · rcases List.mem_cons.1 hr with rfl | hr
      · exact ⟨hκ1, hkz⟩
      · exact hI.krows r (List.mem_of_mem_drop hr)
  · have := part_keys (κ := κ) hI.sep hI.ksrt hI.len hL' hl1' hl2' hha' hhb'
    rwa [hXl] at this
  · have e2 : (X ++ ([t1k, t2k] ++ Y)).length = N + 1 := by simp at hNl ⊢; omega
    have e3 : ((X ++ t :: Y).map (·.v)).take ((p + 1) * 1) ++ [.iface T2 (.pointer (some ⟨gu, 0, none⟩))] ++ ((X ++ t :: Y).map (·.v)).drop ((p + 1) * 1) = (X ++ ([t1k, t2k] ++ Y)).map (·.v) := by
      rw [Nat.mul_one, ← List.map_take, ← List.map_drop, List.take_append, List.drop_append, List.take_of_length_le (by omega), List.drop_of_length_le (by omega), hXl, show p + 1 - p = 1 from by omega, ht1k, ht2k]
      simp
    rw [e2, ← e3]
    refine H8.out.2.1.mod H9.out.2 (fun g hg e => ?_)
    have e : g = b := e
    rcases hC8c g hg with h | h
    · exact ap.hb g (.inr (.inl h)) e
    · omega
  · simp at hNl ⊢; omega
  · intro u hu
    have key : ∀ q : Kid, TreeAt w1 d q.v q.L q.k q.F → (∀ g ∈ q.F, g ∈ foot (X ++ t :: Y) ∨ w.heap.size ≤ g) → TreeAt w9 d q.v q.L q.k q.F := fun q hq hs => hq.mod m19 (fun g hg => hfar g (hs g hg))
    have hold : u ∈ X ++ Y → TreeAt w9 d u.v u.L u.k u.F := fun h => key u (H1.out.2.2.2.2.1 u h) (fun g hg => .inl (mem_foot.2 ⟨u, by
      rcases List.mem_append.1 h with h | h
      · exact List.mem_append_left _ h
      · exact List.mem_append_right _ (List.mem_cons_of_mem _ h), hg⟩))
    have hnew : ∀ q : Kid, (∀ g ∈ q.F, g ∈ F1 ++ F2) → ∀ g ∈ q.F, g ∈ foot (X ++ t :: Y) ∨ w.heap.size ≤ g := fun q hq g hg => by
      rcases hsub g (hq g hg) with h | h
      · exact .inl (mem_foot.2 ⟨t, by simp, h⟩)
      · exact .inr h
    rcases List.mem_append.1 hu with hu | hu
    · exact hold (List.mem_append_left _ hu)
    · rcases List.mem_append.1 hu with hu | hu
      · rcases List.mem_cons.1 hu with rfl | hu
        · exact key _ (by rw [ht1k]; exact t1) (hnew _ (fun g hg => by rw [ht1k] at hg; exact List.mem_append_left _ hg))
        · rcases List.mem_cons.1 hu with rfl | hu
          · exact key _ (by rw [ht2k]; exact t2) (hnew _ (fun g hg => by rw [ht2k] at hg; exact List.mem_append_right _ hg))
          · cases hu
      · exact hold (List.mem_append_right _ hu)
  · have := part_ents (X := X) (Y := Y) hL'
    exact (show entsOf (X ++ ([t1k, t2k] ++ Y)) = entsOf (X ++ t :: Y) from this) ▸ hI.srt
  · have := part_sep (κ := κ) hI.sep hI.srt hI.len hL' hl1' hl2' hha' hhb'
    rwa [hXl] at this
  · refine inner_nd (fun g hg e => ?_) (fun g h1 h2 => ?_) (fun g h1 h2 => ?_) (fun g h1 h2 => ?_) hfnd
    · rcases hg with h | h | h
      · rcases (hK5c g h).1 with h | h
        · exact ap.hb g (.inl h) e
        · omega
      · rcases hC8c g h with h | h
        · exact ap.hb g (.inr (.inl h)) e
        · omega
      · rcases hfoot g h with h | h
        · exact ap.hb g (.inr (.inr h)) e
        · omega
    · rcases (hK5c g h1).1 with h | h
      · rcases hC8c g h2 with h' | h'
        · exact ap.KC g h h'
        · have := HKL.out.1 g h; omega
      · rcases hC8c g h2 with h' | h'
        · have := HKL.out.2.1 g h'; omega
        · have := (hK5c g h1).2; omega
    · rcases (hK5c g h1).1 with h | h
      · rcases hfoot g h2 with h' | h'
        · exact ap.Kf g h h'
        · have := HKL.out.1 g h; omega
      · rcases hfoot g h2 with h' | h'
        · have := hflt g h'; omega
        · omega
    · rcases hC8c g h1 with h | h
      · rcases hfoot g h2 with h' | h'
        · exact ap.Cf g h h'
        · have := HKL.out.2.1 g h; omega
      · rcases hfoot g h2 with h' | h'
        · have := hflt g h'; omega
        · omega
  · exact part_ents (X := X) (Y := Y) hL'
  · intro u hu
    rcases List.mem_append.1 hu with hu | hu
    · exact HB.out.2.1 u (List.mem_append_left _ hu)
    · rcases List.mem_append.1 hu with hu | hu
      · rcases List.mem_cons.1 hu with rfl | hu
        · rw [ht1k]; show loB d ≤ t.k / 2 ∧ t.k / 2 ≤ hiB d; omega
        · rcases List.mem_cons.1 hu with rfl | hu
          · rw [ht2k]; show loB d ≤ t.k - t.k / 2 ∧ t.k - t.k / 2 ≤ hiB d; omega
          · cases hu
      · exact HB.out.2.1 u (List.mem_append_right _ hu)
  · simp at hNl ⊢; omega
  · simp at hNl ⊢; omega
  · intro g hg
    have hmF : ∀ g, g = b ∨ Of K g ∨ Of (some ⟨gC, 0, none⟩) g ∨ g ∈ foot (X ++ t :: Y) → g ∈ F := fun g hg => hI.mem.2 (hg.elim .inl (fun e => .inr (e.elim .inl (fun e => .inr (e.elim .inl (fun e => .inr (mem_foot.1 e)))))))
    rcases List.mem_cons.1 hg with rfl | hg
    · exact .inl (hmF _ (.inl rfl))
    · rcases List.mem_append.1 hg with hg | hg
      · rcases (hK5c g (mem_blks.1 hg)).1 with h | h
        · exact .inl (hmF g (.inr (.inl h)))
        · exact .inr (by omega)
      · rcases List.mem_append.1 hg with hg | hg
        · rcases hC8c g (mem_blks.1 hg) with h | h
          · exact .inl (hmF g (.inr (.inr (.inl h))))
          · exact .inr (by omega)
        · rcases hfoot g hg with h | h
          · exact .inl (hmF g (.inr (.inr (.inr h))))
          · exact .inr h.1
  · have hmF : ∀ g, g = b ∨ Of K g ∨ Of (some ⟨gC, 0, none⟩) g ∨ g ∈ foot (X ++ t :: Y) → g ∈ F := fun g hg => hI.mem.2 (hg.elim .inl (fun e => .inr (e.elim .inl (fun e => .inr (e.elim .inl (fun e => .inr (mem_foot.1 e)))))))
    refine (H1.out.1.mono (fun g _ hg => hmF g (.inr (.inr (.inr (mem_foot.2 ⟨t, by simp, hg⟩)))))).trans (m19.mono (fun g _ hg => hmF g ?_))
    exact hg.elim .inl (fun e => e.elim (fun e => .inr (.inl e)) (fun e => .inr (.inr (.inl e))))
end
end Go.Proofs.Ytkcpmkeckcnobaa
