/- peatbanklaw17.WalkParts. -/
import Derived.Test.YtkcpmkeckcnobaaWk9
import Derived.Test.YtkcpmkeckcnobaaWk7
namespace Go.Proofs.Ytkcpmkeckcnobaa
open Go.RowKit

theorem wp_val {P : Program} {o : Oper} {a : Act} {w w' : World} {next : Act → World → Prop} {Q : Exit → Act → World → Prop} {v : Value} (hrun : (execOp a.eval o).run P w = .ok (.value v) w') (h : next (a.put o.dst v) w') : o.wp P a w next Q := by
  unfold Oper.wp
  rw [hrun]
  exact h
/-- how many of the first i -/
def cntR (R : List (List Nat)) (κ μ : List Nat) (i : Nat) : Nat := (seg (R.take i) κ μ).length
theorem cnt_step {R : List (List Nat)} {κ μ : List Nat} {i : Nat} {r : List Nat} (h : R[i]? = some r) : cntR R κ μ (i + 1) = cntR R κ μ i + (if (!decide (klt (keyOf r) κ)) && decide (klt (keyOf r) μ) then 1 else 0) := by
  unfold cntR seg
  rw [List.take_add_one, h, List.filter_append, List.length_append]
  congr 1
  show (List.filter _ [r]).length = _
  rw [List.filter_cons]
  split <;> rfl
theorem cnt_le (R : List (List Nat)) (κ μ : List Nat) (i : Nat) : cntR R κ μ i ≤ i := by
  unfold cntR
  have := seg_len (L := R.take i) κ μ
  rw [List.length_take] at this
  omega
section
variable {w : World} {A : Option Addr} {n c0 : Nat} {E : List (List Nat)} {κ μ ν : List Nat}
set_option maxRecDepth 100000 in
set_option maxHeartbeats 12800000 in
theorem walkparts_any (hE : RowsAt w A n E) (h1 : κ.length = 40 ∧ ∀ z ∈ κ, z < 256) (h2 : μ.length = 40 ∧ ∀ z ∈ μ, z < 256) (h3 : ν.length = 40 ∧ ∀ z ∈ ν, z < 256) : Calls Try.prog 4 #[.slice A n c0, .agg (bv κ).toArray, .agg (bv μ).toArray, .agg (bv ν).toArray] w fun r w' => r = .returned (.bool true) ∧ Mod Nn w w' := by
  have l1 := h1.1
  have l2 := h2.1
  have l3 := h3.1
  have H0 := Lib.hid (And.intro h1 (And.intro h2 (And.intro h3 hE)))
  clear h1 h2 h3 hE
  go_enter Try.func4, Try.ntmps4
  go_wp2_with (first
    | (with_reducible change wpList _ _ _ (⟨some 5, Op.box _ _, _, _, _, _⟩ :: _) _ _
       go_must (refine wpList_box_var 23 _ rfl rfl (bv κ).toArray rfl ?_)
       intro w1 b1 m1 z1
       clear z1
       have H1 := Lib.hid (And.intro m1 b1)
       clear m1 b1)
    | (with_reducible change wpList _ _ _ (⟨some 6, Op.box _ _, _, _, _, _⟩ :: _) _ _
       go_must (refine wpList_box_var 23 _ rfl rfl (bv μ).toArray rfl ?_)
       intro w2 b2 m2 z2
       clear z2
       have H2 := Lib.hid (And.intro (H1.out.1.nn_ m2) (And.intro (H1.out.2.mod m2 (fun f => f)) b2))
       clear m2 b2)
    | (with_reducible change wpList _ _ _ (⟨some 7, Op.box _ _, _, _, _, _⟩ :: _) _ _
       go_must (refine wpList_box_var 23 _ rfl rfl (bv ν).toArray rfl ?_)
       intro w3 b3 m3 z3
       clear z3
       have H3 := Lib.hid (And.intro (H2.out.1.nn_ m3) (And.intro (H2.out.2.1.mod m3 (fun f => f)) (And.intro (H2.out.2.2.mod m3 (fun f => f)) b3)))
       clear m3 b3))
  refine (walk_awake w3).mono ?_
  rintro r w4 ⟨rfl, m4⟩
  have H4 := Lib.hid (H3.out.1.nn_ m4)
  have HM4 := Lib.hid m4
  clear m4
  go_wp2_with fail
  refine (planted_any (c := c0) (H0.out.2.2.2.nn H4.out)).mono ?_
  rintro r w5 ⟨b, G, v5, rfl, ht5, ho5, hG5, m5⟩
  have hm35 : Mod Nn w3 w5 := HM4.out.nn_ m5
  obtain ⟨A5, c5, rfl, hcc5, -, hr5, hof5⟩ := ho5.slice
  have hlike := pl_like (E.take 200)
  have hRl : (plR (E.take 200)).length ≤ 200 := by have := plR_len (E.take 200); rw [List.length_take] at this; omega
  have hrows : Rows 80 (plR (E.take 200)) := plR_rows (fun r hr => H0.out.2.2.2.2.1 r (List.mem_of_mem_take hr))
  obtain ⟨R, hR⟩ : ∃ R, plR (E.take 200) = R := ⟨_, rfl⟩
  obtain ⟨L, hL⟩ : ∃ L, ordR (E.take 200) = L := ⟨_, rfl⟩
  rw [hR] at hr5 hlike hRl hrows hcc5 ⊢
  rw [hL] at ht5 hlike
  obtain ⟨nr, hnr⟩ : ∃ nr, R.length = nr := ⟨_, rfl⟩
  rw [hnr] at hr5 hRl hcc5 ⊢
  have hLl : L.length = nr := by rw [← hlike.len, hnr]
  have H5 := Lib.hid (And.intro (H4.out.nn_ m5) (And.intro (H3.out.2.1.mod hm35 (fun f => f)) (And.intro (H3.out.2.2.1.mod hm35 (fun f => f)) (And.intro (H3.out.2.2.2.mod hm35 (fun f => f)) (And.intro ht5 (And.intro (show RowsAt w5 A5 nr R from ⟨hr5, hrows, hnr⟩) (And.intro hlike (And.intro (fun x hx => (hG5 x hx).1) (And.intro hLl hnr)))))))))
  have hs4 : w.heap.size ≤ w4.heap.size := H4.out.size
  clear ht5 ho5 hG5 m5 hm35 hr5 hof5 hlike hrows hR hL hLl hnr hcc5
  obtain ⟨X, hX⟩ : ∃ X, lexc κ μ = X := ⟨_, rfl⟩
  obtain ⟨Y, hY⟩ : ∃ Y, lexc μ ν = Y := ⟨_, rfl⟩
  have HX := Lib.hid (And.intro hX hY)
  clear hX hY
  go_wp2_with (first
    | (with_reducible change wpList _ _ _ (⟨some 23, _, _, _, _, _⟩ :: _) _ _
       go_must (refine wpList_val rfl (exec_load_row (P := Try.prog) (g := w.heap.size) (cs := (bv κ).toArray) 23 _ rfl rfl H5.out.2.1 Try.underlying23 rfl (size_keyk l1)) ?_))
    | (with_reducible change wpList _ _ _ (⟨some 24, _, _, _, _, _⟩ :: _) _ _
       go_must (refine wpList_val rfl (exec_load_row (P := Try.prog) (g := w1.heap.size) (cs := (bv μ).toArray) 23 _ rfl rfl H5.out.2.2.1 Try.underlying23 rfl (size_keyk l2)) ?_)))
  refine (rcmp_any w5 l1 l2 H0.out.1.2 H0.out.2.1.2).mono ?_
  rintro r w6 ⟨rfl, m6⟩
  rw [HX.out.1]
  have H6 := Lib.hid (And.intro m6 (And.intro (H5.out.2.2.1.mod m6 (fun f => f)) (H5.out.2.2.2.1.mod m6 (fun f => f))))
  clear m6
  by_cases hX0 : 0 < X
  · have hX1 : ¬ X ≤ 0 := by omega
    go_wp2
    go_ret
    exact ⟨rfl, H5.out.1.nn_ H6.out.1⟩
  have hX1 : X ≤ 0 := by omega
  -- zzA
  (try dsimp only); (try go_simp); repeat' (first | ((fail_if_success (with_reducible change Oper.wp _ ⟨some 28, _, _, _, _, _⟩ _ _ _ _)); first | go_values | go_skip | go_guarded | go_step | go_upon | go_back))
  refine wp_val (exec_load_row (P := Try.prog) (g := w1.heap.size) (cs := (bv μ).toArray) 23 _ rfl rfl H6.out.2.1 Try.underlying23 rfl (size_keyk l2)) ?_
  (try dsimp only); (try go_simp); repeat' (first | ((fail_if_success (with_reducible change Oper.wp _ ⟨some 29, _, _, _, _, _⟩ _ _ _ _)); first | go_values | go_skip | go_guarded | go_step | go_upon | go_back))
  refine wp_val (exec_load_row (P := Try.prog) (g := w2.heap.size) (cs := (bv ν).toArray) 23 _ rfl rfl H6.out.2.2 Try.underlying23 rfl (size_keyk l3)) ?_
  go_wp2_with fail
  refine (rcmp_any w6 l2 l3 H0.out.2.1.2 H0.out.2.2.1.2).mono ?_
  rintro r w7 ⟨rfl, m7⟩
  rw [HX.out.2]
  have hm57 : Mod Nn w5 w7 := H6.out.1.nn_ m7
  have H7 := Lib.hid (And.intro (H5.out.1.nn_ hm57) (And.intro (H5.out.2.1.mod hm57 (fun f => f)) (And.intro (H5.out.2.2.1.mod hm57 (fun f => f)) (And.intro (H5.out.2.2.2.1.mod hm57 (fun f => f)) (And.intro (H5.out.2.2.2.2.1.nn hm57) (H5.out.2.2.2.2.2.1.nn hm57))))))
  clear m7 hm57
  by_cases hY0 : 0 < Y
  · have hY1 : ¬ Y ≤ 0 := by omega
    go_wp2
    go_ret
    exact ⟨rfl, H7.out.1⟩
  have hY1 : Y ≤ 0 := by omega
  have hab : ¬ klt μ κ := by unfold klt; have := lexc_neg μ κ; rw [HX.out.1] at this; omega
  have hbc : ¬ klt ν μ := by unfold klt; have := lexc_neg ν μ; rw [HX.out.2] at this; omega
  have HAB := Lib.hid (seg_two H7.out.2.2.2.2.1.srt hab hbc)
  clear hab hbc
  obtain ⟨T1, hT1⟩ : ∃ T, seg L κ μ = T := ⟨_, rfl⟩
  obtain ⟨T2, hT2⟩ : ∃ T, seg L μ ν = T := ⟨_, rfl⟩
  obtain ⟨T3, hT3⟩ : ∃ T, seg L κ ν = T := ⟨_, rfl⟩
  have hL200 : L.length ≤ 200 := by rw [H5.out.2.2.2.2.2.2.2.2.1]; exact hRl
  have ht1 : T1.length ≤ 200 := by rw [← hT1]; have := seg_len (L := L) κ μ; omega
  have ht2 : T2.length ≤ 200 := by rw [← hT2]; have := seg_len (L := L) μ ν; omega
  have ht3 : T3.length ≤ 200 := by rw [← hT3]; have := seg_len (L := L) κ ν; omega
  have HT := Lib.hid (And.intro hT1 (And.intro hT2 hT3))
  clear hT1 hT2 hT3
  have hs5 : w.heap.size ≤ w7.heap.size := H7.out.1.size
  go_wp2_with fail
  -- zzR
  refine wp_region_planT (fun w' => Mod Nn w7 w') 10 [(0, 0), (1, 1), (2, 1), (5, 0), (6, 1), (7, 1), (3, 2), (4, 2), (8, 2), (9, 2), (10, 2), (11, 0)] (by kernel_rfl) (by kernel_rfl) (Mod.refl Nn w7).drew ?_
  iterate 1 (refine pt_pure rfl rfl (fun K hK => ?_); go_simp; refine hK _ ?_; clear hK K)
  refine pt_take (.agg (bv κ).toArray) rfl rfl (fun w' hS => exec_load_row (P := Try.prog) (g := w.heap.size) (cs := (bv κ).toArray) 23 (.tmp 5) rfl rfl (H7.out.2.1.mod hS (fun f => f)) Try.underlying23 rfl (size_keyk l1)) (fun K hK => ?_); go_simp; refine hK _ ?_; clear hK K
  refine pt_take (.agg (bv μ).toArray) rfl rfl (fun w' hS => exec_load_row (P := Try.prog) (g := w1.heap.size) (cs := (bv μ).toArray) 23 (.tmp 6) rfl rfl (H7.out.2.2.1.mod hS (fun f => f)) Try.underlying23 rfl (size_keyk l2)) (fun K hK => ?_); go_simp; refine hK _ ?_; clear hK K
  iterate 1 (refine pt_pure rfl rfl (fun K hK => ?_); go_simp; refine hK _ ?_; clear hK K)
  refine pt_take (.agg (bv μ).toArray) rfl rfl (fun w' hS => exec_load_row (P := Try.prog) (g := w1.heap.size) (cs := (bv μ).toArray) 23 (.tmp 6) rfl rfl (H7.out.2.2.1.mod hS (fun f => f)) Try.underlying23 rfl (size_keyk l2)) (fun K hK => ?_); go_simp; refine hK _ ?_; clear hK K
  refine pt_take (.agg (bv ν).toArray) rfl rfl (fun w' hS => exec_load_row (P := Try.prog) (g := w2.heap.size) (cs := (bv ν).toArray) 23 (.tmp 7) rfl rfl (H7.out.2.2.2.1.mod hS (fun f => f)) Try.underlying23 rfl (size_keyk l3)) (fun K hK => ?_); go_simp; refine hK _ ?_; clear hK K
  refine pt_call rfl rfl (fun K hK => ?_); go_simp; refine ⟨_, _, ⟨rfl, rfl⟩, hK _ _ _ ?_⟩; clear hK K
  refine (wnew_any (κ := κ) (μ := μ) H0.out.1 H0.out.2.1).mono ?_
  rintro r w8 ⟨c1, rfl, hc8, hcs8, m8⟩
  have hdr : w7.drew.heap.size = w7.heap.size := rfl
  refine ⟨_, rfl, fun _ => m8.of_drew, ?_⟩
  have H8 := Lib.hid (And.intro m8.of_drew (And.intro hc8 (And.intro (H7.out.2.2.2.2.1.nn m8.of_drew) (fun x hx => by have := H7.out.2.2.2.2.1.lt x hx; omega : ∀ x ∈ G, x ≠ c1))))
  have hc1w : w7.heap.size ≤ c1 := by omega
  clear hc8 hcs8 m8
  refine pt_call rfl rfl (fun K hK => ?_); go_simp; refine ⟨_, _, ⟨rfl, rfl⟩, hK _ _ _ ?_⟩; clear hK K
  refine (told_any H8.out.2.1 H8.out.2.2.1 H8.out.2.2.2 hL200).mono ?_
  rintro r w9 ⟨v9, rfl, ho9, m9⟩
  rw [HT.out.1] at ho9
  have hm9 : Mod Nn w7 w9 := H8.out.1.new_ m9 hc1w
  refine ⟨_, rfl, fun _ => hm9, ?_⟩
  have hs8 : w7.heap.size ≤ w8.heap.size := H8.out.1.size
  have hs9 : w8.heap.size ≤ w9.heap.size := m9.size
  have H9 := Lib.hid (And.intro hm9 (And.intro (H8.out.2.2.1.mod m9 (fun x hx e => H8.out.2.2.2 x hx e)) ho9))
  clear hm9 m9 ho9
  refine pt_call rfl rfl (fun K hK => ?_); go_simp; refine ⟨_, _, ⟨rfl, rfl⟩, hK _ _ _ ?_⟩; clear hK K
  refine (wnew_any (w := w9) (κ := μ) (μ := ν) H0.out.2.1 H0.out.2.2.1).mono ?_
  rintro r w10 ⟨c2, rfl, hc10, hcs10, m10⟩
  refine ⟨_, rfl, fun _ => H9.out.1.nn_ m10, ?_⟩
  have H10 := Lib.hid (And.intro (H9.out.1.nn_ m10) (And.intro hc10 (And.intro (H9.out.2.1.nn m10) (And.intro (fun x hx => by have := H9.out.2.1.lt x hx; omega : ∀ x ∈ G, x ≠ c2) (H9.out.2.2.nn m10)))))
  have hs10 : w9.heap.size ≤ w10.heap.size := m10.size
  clear hc10 m10
  refine pt_call rfl rfl (fun K hK => ?_); go_simp; refine ⟨_, _, ⟨rfl, rfl⟩, hK _ _ _ ?_⟩; clear hK K
  refine (told_any H10.out.2.1 H10.out.2.2.1 H10.out.2.2.2.1 hL200).mono ?_
  rintro r w11 ⟨v11, rfl, ho11, m11⟩
  rw [HT.out.2.1] at ho11
  have hs11 : w10.heap.size ≤ w11.heap.size := m11.size
  have hm11 : Mod Nn w7 w11 := H10.out.1.new_ m11 (by omega)
  refine ⟨_, rfl, fun _ => hm11, ?_⟩
  obtain ⟨A11, c11, rfl, hcc11, -, hr11, hof11⟩ := ho11.slice
  have hown9 : OwnE w11 w8.heap.size v9 T1 := H10.out.2.2.2.2.mod m11 (fun x hx e => by have := H9.out.2.2.blk hx; have e : x = c2 := e; omega)
  have H11 := Lib.hid (And.intro hm11 (And.intro (H10.out.2.2.1.mod m11 (fun x hx e => H10.out.2.2.2.1 x hx e)) (And.intro hown9 hr11)))
  clear hm11 m11 ho11 hown9 hr11 hof11 hcc11
  refine pt_append 40 (.tmp 37) (.tmp 42) rfl rfl rfl w8.heap.size 28 zE 80 80 Try.underlying40 infoE zsE (by omega) v9 T1.length (bv T1.flatten) rfl H11.out.2.2.1 A11 T2.length c11 (bv T2.flatten) rfl H11.out.2.2.2 (bv_one _) (by omega) (by omega) (by omega) (fun v12 w12 own12 gr12 ob12 => ⟨fun h => by simp at h, ?_⟩)
  refine (fun K hK => ?_); go_simp; refine hK _ ?_; clear hK K
  have m12 : Mod (fun x => v9.ownBlock = some x) w11 w12 := (Mod.refl _ _).grown gr12 (fun x h => .inr h)
  have hl12 : T1.length + T2.length = T3.length := by have := HAB.out; rw [HT.out.1, HT.out.2.1, HT.out.2.2] at this; rw [← this, List.length_append]
  have hf12 : bv T1.flatten ++ bv T2.flatten = bv T3.flatten := by have := HAB.out; rw [HT.out.1, HT.out.2.1, HT.out.2.2] at this; rw [← this, List.flatten_append, bv_append]
  rw [hl12, hf12] at own12
  have hm12 : Mod Nn w7 w12 := H11.out.1.then_ m12 (fun x hx h => by have := H11.out.2.2.1.blk h; omega)
  have H12 := Lib.hid (And.intro hm12 (And.intro (H11.out.2.1.mod m12 (fun x hx h => by have h1 := H11.out.2.2.1.blk h; have h2 := H7.out.2.2.2.2.1.lt x hx; omega)) (show OwnE w12 w8.heap.size v12 T3 from own12)))
  have hs12 : w11.heap.size ≤ w12.heap.size := m12.size
  clear own12 gr12 ob12 m12 hm12 hl12 hf12
  iterate 1 (refine pt_pure rfl rfl (fun K hK => ?_); go_simp; refine hK _ ?_; clear hK K)
  refine pt_nil ?_
  -- zzS
  go_wp2_with (first
    | (with_reducible change wpList _ _ _ (⟨some 46, _, _, _, _, _⟩ :: _) _ _
       go_must (refine wpList_val rfl (exec_load_row (P := Try.prog) (g := w.heap.size) (cs := (bv κ).toArray) 23 _ rfl rfl (H7.out.2.1.mod H12.out.1 (fun f => f)) Try.underlying23 rfl (size_keyk l1)) ?_))
    | (with_reducible change wpList _ _ _ (⟨some 47, _, _, _, _, _⟩ :: _) _ _
       go_must (refine wpList_val rfl (exec_load_row (P := Try.prog) (g := w2.heap.size) (cs := (bv ν).toArray) 23 _ rfl rfl (H7.out.2.2.2.1.mod H12.out.1 (fun f => f)) Try.underlying23 rfl (size_keyk l3)) ?_)))
  refine (wnew_any (w := w12) (κ := κ) (μ := ν) H0.out.1 H0.out.2.2.1).mono ?_
  rintro r w13 ⟨c3, rfl, hc13, hcs13, m13⟩
  have H13 := Lib.hid (And.intro (H12.out.1.nn_ m13) (And.intro hc13 (And.intro (H12.out.2.1.nn m13) (And.intro (fun x hx => by have := H12.out.2.1.lt x hx; omega : ∀ x ∈ G, x ≠ c3) (H12.out.2.2.nn m13)))))
  have hs13 : w12.heap.size ≤ w13.heap.size := m13.size
  clear hc13 m13
  go_wp2_with fail
  refine (told_any H13.out.2.1 H13.out.2.2.1 H13.out.2.2.2.1 hL200).mono ?_
  rintro r w14 ⟨v14, rfl, ho14, m14⟩
  rw [HT.out.2.2] at ho14
  have hs14 : w13.heap.size ≤ w14.heap.size := m14.size
  obtain ⟨A14, c14, rfl, -, -, hr14, -⟩ := ho14.slice
  have hown12 : OwnE w14 w8.heap.size v12 T3 := H13.out.2.2.2.2.mod m14 (fun x hx e => by have := H12.out.2.2.blk hx; have e : x = c3 := e; omega)
  obtain ⟨A12, c12, rfl, -, -, hr12, -⟩ := hown12.slice
  have hrow3 : Rows 80 T3 := fun x hx => by rw [← HT.out.2.2] at hx; exact H13.out.2.2.1.rows x (mem_seg.1 hx).1
  have H14 := Lib.hid (And.intro (H13.out.1.new_ m14 (by omega)) (And.intro (H13.out.2.2.1.mod m14 (fun x hx e => H13.out.2.2.2.1 x hx e)) (And.intro hr12 (And.intro hr14 hrow3))))
  clear ho14 m14 hr14 hown12 hr12 hrow3
  go_wp2_with fail
  refine (sameE_yes H14.out.2.2.1 H14.out.2.2.2.1 H14.out.2.2.2.2 rfl (by omega)).mono ?_
  rintro r w15 ⟨rfl, m15⟩
  have H15 := Lib.hid (And.intro (H14.out.1.nn_ m15) (H14.out.2.1.nn m15))
  clear m15
  go_wp2_with fail
  refine (wall_any (p := .pointer (some ⟨b, 0, none⟩)) H15.out.2.srt H15.out.2.rows (by omega) (fun wz κ wi hz h1 h2 => tafter_any (H15.out.2.nn hz) h1 h2)).mono ?_
  rintro r w16 ⟨v16, rfl, ho16, m16⟩
  obtain ⟨A16, c16, rfl, -, -, hr16, -⟩ := ho16.slice
  rw [H5.out.2.2.2.2.2.2.2.2.1] at hr16 ⊢
  have hm16 : Mod Nn w7 w16 := H15.out.1.nn_ m16
  have H16 := Lib.hid (And.intro hm16 (And.intro (H15.out.2.nn m16) (And.intro (show RowsAt w16 A16 nr L from ⟨hr16, H15.out.2.rows, H5.out.2.2.2.2.2.2.2.2.1⟩) (And.intro (H7.out.2.2.2.2.2.nn hm16) (And.intro (H7.out.2.1.mod hm16 (fun f => f)) (H7.out.2.2.2.1.mod hm16 (fun f => f)))))))
  clear ho16 m16 hr16 hm16
  go_wp2_with fail
  -- zzT
  go_loopw [13] (fun i wr => ∃ j : Nat, (j ≤ nr ∨ j = 0) ∧ i = .int .i64 j ∧ Hid (Mod Nn w16 wr)) (fun i _ => nr - (intOf i).toNat)
  case atStart => exact ⟨0, .inr rfl, rfl, Lib.hid (Mod.refl _ _)⟩
  case round =>
    obtain ⟨j, hj, rfl, HR⟩ := hrel
    obtain ⟨wo, rfl⟩ : ∃ wo : World, wo = wr := ⟨_, rfl⟩
    have hw1 : IntKind.i64.wrap ((j : Int) + 1) = (j : Int) + 1 := by rw [IntKind.wrap_i64]; omega
    by_cases hjn : j + 1 < nr
    · have hjn' : (j : Int) + 1 < nr := by omega
      have hLn := H5.out.2.2.2.2.2.2.2.2.1
      obtain ⟨x, hx⟩ : ∃ x, L[j]? = some x := ⟨_, List.getElem?_eq_getElem (by omega)⟩
      obtain ⟨y, hy⟩ : ∃ y, L[j + 1]? = some y := ⟨_, List.getElem?_eq_getElem (by omega)⟩
      clear hLn
      have hlt := srt_get H16.out.2.1.srt hx hy (by omega)
      have hx80 := H16.out.2.2.1.2.1 x (List.mem_of_getElem? hx)
      have hy80 := H16.out.2.2.1.2.1 y (List.mem_of_getElem? hy)
      obtain ⟨g, off, rfl, hcx⟩ := (H16.out.2.2.1.nn HR.out).1.row H16.out.2.2.1.2.1 hx (by omega)
      have hcell : ∀ w', Mod Nn wo w' → (∀ q v, (bv (keyOf x))[q]? = some v → w'.cell? ⟨g, off + j * 80 + q, none⟩ = some v) ∧ (∀ q v, (bv (keyOf y))[q]? = some v → w'.cell? ⟨g, off + (j + 1) * 80 + q, none⟩ = some v) := fun w' hm => by
        refine ⟨fun q v hq => ?_, fun q v hq => ?_⟩
        · obtain ⟨g', off', e, hc⟩ := (H16.out.2.2.1.nn (HR.out.nn_ hm)).1.row H16.out.2.2.1.2.1 hx (by omega)
          injection e with e; injection e with e1 e2 _; subst e1; subst e2
          exact hc q v (key_pre hq)
        · obtain ⟨g', off', e, hc⟩ := (H16.out.2.2.1.nn (HR.out.nn_ hm)).1.row H16.out.2.2.1.2.1 hy (by omega)
          injection e with e; injection e with e1 e2 _; subst e1; subst e2
          exact hc q v (key_pre hq)
      have kx := keyOf_len hx80.1
      have ky := keyOf_len hy80.1
      obtain ⟨Z, hZ⟩ : ∃ Z, lexc (keyOf x) (keyOf y) = Z := ⟨_, rfl⟩
      have hZ0 : Z < 0 := by unfold klt at hlt; omega
      have hZ1 : ¬ 0 ≤ Z := by omega
      have HC := Lib.hid (And.intro hcell (And.intro (keyOf_lt hx80.2) (And.intro (keyOf_lt hy80.2) hZ)))
      have hjn0 : j < nr := by omega
      clear hcell hx80 hy80 hlt hcx hx hy hZ
      go_wp2_with fail
      refine wp_region_planC (fun w' => Mod Nn wo w') [(0, true), (1, true), (2, true), (3, true), (4, true), (5, true), (6, true), (7, true), (8, true), (9, true), (10, true), (11, false), (12, true)] (by kernel_rfl) (by kernel_rfl) (Mod.refl Nn wo).drew ?_
      iterate 2 (refine pc_pure rfl rfl (fun K hK => ?_); go_simp; refine hK _ ?_; clear hK K)
      refine pc_take (.pointer (some ⟨g, off + j * 80, none⟩)) rfl rfl (fun w' _ => exec_elem (P := Try.prog) (g := g) (off := off) (q := j) 40 (.tmp 61) (.tmp 62) rfl 28 80 uuE sizeE rfl rfl hjn0) (fun K hK => ?_); go_simp; refine hK _ ?_; clear hK K
      iterate 1 (refine pc_pure rfl rfl (fun K hK => ?_); go_simp; refine hK _ ?_; clear hK K)
      refine pc_take (.agg (bv (keyOf x)).toArray) rfl rfl (fun w' hS => exec_load_cells (P := Try.prog) (b := g) (off := off + j * 80) (cs := bv (keyOf x)) 23 (.tmp 64) rfl rfl (HC.out.1 w' hS).1 Try.underlying23 rfl (by rw [bv_len, kx]; exact size_keyT)) (fun K hK => ?_); go_simp; refine hK _ ?_; clear hK K
      iterate 3 (refine pc_pure rfl rfl (fun K hK => ?_); go_simp; refine hK _ ?_; clear hK K)
      refine pc_take (.pointer (some ⟨g, off + (j + 1) * 80, none⟩)) rfl rfl (fun w' _ => exec_elem (P := Try.prog) (g := g) (off := off) (q := j + 1) 40 (.tmp 66) (.tmp 68) rfl 28 80 uuE sizeE rfl rfl hjn) (fun K hK => ?_); go_simp; refine hK _ ?_; clear hK K
      iterate 1 (refine pc_pure rfl rfl (fun K hK => ?_); go_simp; refine hK _ ?_; clear hK K)
      refine pc_take (.agg (bv (keyOf y)).toArray) rfl rfl (fun w' hS => exec_load_cells (P := Try.prog) (b := g) (off := off + (j + 1) * 80) (cs := bv (keyOf y)) 23 (.tmp 70) rfl rfl (HC.out.1 w' hS).2 Try.underlying23 rfl (by rw [bv_len, ky]; exact size_keyT)) (fun K hK => ?_); go_simp; refine hK _ ?_; clear hK K
      refine pc_call rfl rfl (fun K hK => ?_); go_simp; refine ⟨_, _, ⟨rfl, rfl⟩, hK _ _ _ ?_⟩; clear hK K
      refine (rcmp_any _ kx ky HC.out.2.1 HC.out.2.2.1).mono ?_
      rintro e w17 ⟨rfl, m17⟩
      rw [HC.out.2.2.2]
      refine ⟨_, rfl, m17.of_drew, ?_⟩
      have H17 := Lib.hid m17.of_drew
      clear m17
      iterate 1 (refine pc_pure rfl rfl (fun K hK => ?_); go_simp; refine hK _ ?_; clear hK K)
      refine pc_nil ?_
      go_wp2
      exact ⟨⟨j + 1, .inl (by omega), by go_num, Lib.hid (HR.out.nn_ H17.out)⟩, by simp [intOf]; omega⟩
    · have hjn' : ¬ (j : Int) + 1 < nr := by omega
      go_wp2_with fail
      -- zzU
      go_loopw [14, 15] (fun q i wr => ∃ j : Nat, j ≤ nr ∧ i = .int .i64 j ∧ q = .int .i64 (cntR R κ ν j) ∧ Hid (Mod Nn w16 wr)) (fun _ i _ => nr - (intOf i).toNat)
      case atStart => exact ⟨0, Nat.zero_le _, rfl, rfl, HR⟩
      case round =>
        obtain ⟨i, hi, rfl, rfl, HQ⟩ := hrel
        obtain ⟨wp_, rfl⟩ : ∃ wp_ : World, wp_ = wr := ⟨_, rfl⟩
        have hcl := cnt_le R κ ν i
        by_cases hin : i < nr
        · have hin' : (i : Int) < nr := by omega
          have hRn := H5.out.2.2.2.2.2.2.2.2.2
          obtain ⟨r, hr⟩ : ∃ r, R[i]? = some r := ⟨_, List.getElem?_eq_getElem (by omega)⟩
          clear hRn
          have hr80 := H16.out.2.2.2.1.2.1 r (List.mem_of_getElem? hr)
          have kr := keyOf_len hr80.1
          obtain ⟨g, off, rfl, hcr⟩ := (H16.out.2.2.2.1.nn HQ.out).1.row H16.out.2.2.2.1.2.1 hr (by omega)
          have hcell : ∀ w', Mod Nn wp_ w' → ∀ q v, (bv (keyOf r))[q]? = some v → w'.cell? ⟨g, off + i * 80 + q, none⟩ = some v := fun w' hm q v hq => by
            obtain ⟨g', off', e, hc⟩ := (H16.out.2.2.2.1.nn (HQ.out.nn_ hm)).1.row H16.out.2.2.2.1.2.1 hr (by omega)
            injection e with e; injection e with e1 e2 _; subst e1; subst e2
            exact hc q v (key_pre hq)
          obtain ⟨X2, hX2⟩ : ∃ X2, lexc (keyOf r) κ = X2 := ⟨_, rfl⟩
          obtain ⟨Y2, hY2⟩ : ∃ Y2, lexc (keyOf r) ν = Y2 := ⟨_, rfl⟩
          have hcs := cnt_step (κ := κ) (μ := ν) hr
          rw [dec_klt, dec_klt, hX2, hY2] at hcs
          have HC := Lib.hid (And.intro hcell (And.intro (keyOf_lt hr80.2) (And.intro hX2 (And.intro hY2 hcs))))
          clear hcell hr80 hcr hr hX2 hY2 hcs
          have hwc : IntKind.i64.wrap ((cntR R κ ν i : Int) + 1) = (cntR R κ ν i : Int) + 1 := by rw [IntKind.wrap_i64]; omega
          obtain ⟨k, hk⟩ : ∃ k, cntR R κ ν i = k := ⟨_, rfl⟩
          have HK := Lib.hid hk
          rw [hk] at hwc hcl ⊢
          clear hk
          go_wp2_with fail
          by_cases hx0 : X2 < 0
          · have hx1 : ¬ 0 ≤ X2 := by omega
            have HD := Lib.hid (decide_eq_true hx0)
            refine wp_region_planC (fun w' => Mod Nn wp_ w') [(0, true), (1, true), (2, true), (3, true), (4, true), (5, true), (6, false), (7, true), (8, true), (9, true), (10, true), (11, true), (12, true), (13, true), (14, true), (15, true), (16, true), (17, true)] (by kernel_rfl) (by kernel_rfl) (Mod.refl Nn wp_).drew ?_
            iterate 2 (refine pc_pure rfl rfl (fun K hK => ?_); go_simp; refine hK _ ?_; clear hK K)
            refine pc_take (.pointer (some ⟨g, off + i * 80, none⟩)) rfl rfl (fun w' _ => exec_elem (P := Try.prog) (g := g) (off := off) (q := i) 40 (.tmp 80) (.tmp 81) rfl 28 80 uuE sizeE rfl rfl hin) (fun K hK => ?_); go_simp; refine hK _ ?_; clear hK K
            iterate 1 (refine pc_pure rfl rfl (fun K hK => ?_); go_simp; refine hK _ ?_; clear hK K)
            refine pc_take (.agg (bv (keyOf r)).toArray) rfl rfl (fun w' hS => exec_load_cells (P := Try.prog) (b := g) (off := off + i * 80) (cs := bv (keyOf r)) 23 (.tmp 83) rfl rfl (HC.out.1 w' hS) Try.underlying23 rfl (by rw [bv_len, kr]; exact size_keyT)) (fun K hK => ?_); go_simp; refine hK _ ?_; clear hK K
            refine pc_take (.agg (bv κ).toArray) rfl rfl (fun w' hS => exec_load_row (P := Try.prog) (g := w.heap.size) (cs := (bv κ).toArray) 23 (.tmp 5) rfl rfl (H16.out.2.2.2.2.1.mod (HQ.out.nn_ hS) (fun f => f)) Try.underlying23 rfl (size_keyk l1)) (fun K hK => ?_); go_simp; refine hK _ ?_; clear hK K
            refine pc_call rfl rfl (fun K hK => ?_); go_simp; refine ⟨_, _, ⟨rfl, rfl⟩, hK _ _ _ ?_⟩; clear hK K
            refine (rcmp_any _ kr l1 HC.out.2.1 H0.out.1.2).mono ?_
            rintro e w18 ⟨rfl, m18⟩
            rw [HC.out.2.2.1]
            refine ⟨_, rfl, m18.of_drew, ?_⟩
            have H18 := Lib.hid m18.of_drew
            clear m18
            iterate 2 (refine pc_pure rfl rfl (fun K hK => ?_); go_simp; refine hK _ ?_; clear hK K)
            iterate 8 (refine pc_skip rfl rfl (fun K hK => ?_); go_simp; refine hK _ ?_; clear hK K)
            iterate 1 (refine pc_pure rfl rfl (fun K hK => ?_); go_simp; refine hK _ ?_; clear hK K)
            refine pc_nil ?_
            go_wp2
            exact ⟨⟨i + 1, by omega, by go_num, by rw [HC.out.2.2.2.2, HD.out, HK.out]; rfl, Lib.hid (HQ.out.nn_ H18.out)⟩, by simp [intOf]; omega⟩
          · have hx1 : 0 ≤ X2 := by omega
            by_cases hy0 : Y2 < 0
            · have HD := Lib.hid (And.intro (decide_eq_false hx0) (decide_eq_true hy0))
              refine wp_region_planC (fun w' => Mod Nn wp_ w') [(0, true), (1, true), (2, true), (3, true), (4, true), (5, true), (6, false), (7, true), (8, true), (9, true), (10, true), (11, true), (12, true), (13, true), (14, true), (15, false), (16, true), (17, true)] (by kernel_rfl) (by kernel_rfl) (Mod.refl Nn wp_).drew ?_
              iterate 2 (refine pc_pure rfl rfl (fun K hK => ?_); go_simp; refine hK _ ?_; clear hK K)
              refine pc_take (.pointer (some ⟨g, off + i * 80, none⟩)) rfl rfl (fun w' _ => exec_elem (P := Try.prog) (g := g) (off := off) (q := i) 40 (.tmp 80) (.tmp 81) rfl 28 80 uuE sizeE rfl rfl hin) (fun K hK => ?_); go_simp; refine hK _ ?_; clear hK K
              iterate 1 (refine pc_pure rfl rfl (fun K hK => ?_); go_simp; refine hK _ ?_; clear hK K)
              refine pc_take (.agg (bv (keyOf r)).toArray) rfl rfl (fun w' hS => exec_load_cells (P := Try.prog) (b := g) (off := off + i * 80) (cs := bv (keyOf r)) 23 (.tmp 83) rfl rfl (HC.out.1 w' hS) Try.underlying23 rfl (by rw [bv_len, kr]; exact size_keyT)) (fun K hK => ?_); go_simp; refine hK _ ?_; clear hK K
              refine pc_take (.agg (bv κ).toArray) rfl rfl (fun w' hS => exec_load_row (P := Try.prog) (g := w.heap.size) (cs := (bv κ).toArray) 23 (.tmp 5) rfl rfl (H16.out.2.2.2.2.1.mod (HQ.out.nn_ hS) (fun f => f)) Try.underlying23 rfl (size_keyk l1)) (fun K hK => ?_); go_simp; refine hK _ ?_; clear hK K
              refine pc_call rfl rfl (fun K hK => ?_); go_simp; refine ⟨_, _, ⟨rfl, rfl⟩, hK _ _ _ ?_⟩; clear hK K
              refine (rcmp_any _ kr l1 HC.out.2.1 H0.out.1.2).mono ?_
              rintro e w18 ⟨rfl, m18⟩
              rw [HC.out.2.2.1]
              refine ⟨_, rfl, m18.of_drew, ?_⟩
              have H18 := Lib.hid m18.of_drew
              clear m18
              iterate 2 (refine pc_pure rfl rfl (fun K hK => ?_); go_simp; refine hK _ ?_; clear hK K)
              iterate 2 (refine pc_pure rfl rfl (fun K hK => ?_); go_simp; refine hK _ ?_; clear hK K)
              refine pc_take (.pointer (some ⟨g, off + i * 80, none⟩)) rfl rfl (fun w' _ => exec_elem (P := Try.prog) (g := g) (off := off) (q := i) 40 (.tmp 89) (.tmp 90) rfl 28 80 uuE sizeE rfl rfl hin) (fun K hK => ?_); go_simp; refine hK _ ?_; clear hK K
              iterate 1 (refine pc_pure rfl rfl (fun K hK => ?_); go_simp; refine hK _ ?_; clear hK K)
              refine pc_take (.agg (bv (keyOf r)).toArray) rfl rfl (fun w' hS => exec_load_cells (P := Try.prog) (b := g) (off := off + i * 80) (cs := bv (keyOf r)) 23 (.tmp 92) rfl rfl (HC.out.1 w' hS) Try.underlying23 rfl (by rw [bv_len, kr]; exact size_keyT)) (fun K hK => ?_); go_simp; refine hK _ ?_; clear hK K
              refine pc_take (.agg (bv ν).toArray) rfl rfl (fun w' hS => exec_load_row (P := Try.prog) (g := w2.heap.size) (cs := (bv ν).toArray) 23 (.tmp 7) rfl rfl (H16.out.2.2.2.2.2.mod (HQ.out.nn_ hS) (fun f => f)) Try.underlying23 rfl (size_keyk l3)) (fun K hK => ?_); go_simp; refine hK _ ?_; clear hK K
              refine pc_call rfl rfl (fun K hK => ?_); go_simp; refine ⟨_, _, ⟨rfl, rfl⟩, hK _ _ _ ?_⟩; clear hK K
              refine (rcmp_any _ kr l3 HC.out.2.1 H0.out.2.2.1.2).mono ?_
              rintro e w19 ⟨rfl, m19⟩
              rw [HC.out.2.2.2.1]
              refine ⟨_, rfl, H18.out.nn_ m19, ?_⟩
              have H19 := Lib.hid (H18.out.nn_ m19)
              clear m19
              iterate 2 (refine pc_pure rfl rfl (fun K hK => ?_); go_simp; refine hK _ ?_; clear hK K)
              refine pc_nil ?_
              go_wp2
              exact ⟨⟨i + 1, by omega, by go_num, by rw [HC.out.2.2.2.2, HD.out.1, HD.out.2, HK.out]; rfl, Lib.hid (HQ.out.nn_ H19.out)⟩, by simp [intOf]; omega⟩
            · have HD := Lib.hid (And.intro (decide_eq_false hx0) (decide_eq_false hy0))
              refine wp_region_planC (fun w' => Mod Nn wp_ w') [(0, true), (1, true), (2, true), (3, true), (4, true), (5, true), (6, false), (7, true), (8, true), (9, true), (10, true), (11, true), (12, true), (13, true), (14, true), (15, false), (16, true), (17, true)] (by kernel_rfl) (by kernel_rfl) (Mod.refl Nn wp_).drew ?_
              iterate 2 (refine pc_pure rfl rfl (fun K hK => ?_); go_simp; refine hK _ ?_; clear hK K)
              refine pc_take (.pointer (some ⟨g, off + i * 80, none⟩)) rfl rfl (fun w' _ => exec_elem (P := Try.prog) (g := g) (off := off) (q := i) 40 (.tmp 80) (.tmp 81) rfl 28 80 uuE sizeE rfl rfl hin) (fun K hK => ?_); go_simp; refine hK _ ?_; clear hK K
              iterate 1 (refine pc_pure rfl rfl (fun K hK => ?_); go_simp; refine hK _ ?_; clear hK K)
              refine pc_take (.agg (bv (keyOf r)).toArray) rfl rfl (fun w' hS => exec_load_cells (P := Try.prog) (b := g) (off := off + i * 80) (cs := bv (keyOf r)) 23 (.tmp 83) rfl rfl (HC.out.1 w' hS) Try.underlying23 rfl (by rw [bv_len, kr]; exact size_keyT)) (fun K hK => ?_); go_simp; refine hK _ ?_; clear hK K
              refine pc_take (.agg (bv κ).toArray) rfl rfl (fun w' hS => exec_load_row (P := Try.prog) (g := w.heap.size) (cs := (bv κ).toArray) 23 (.tmp 5) rfl rfl (H16.out.2.2.2.2.1.mod (HQ.out.nn_ hS) (fun f => f)) Try.underlying23 rfl (size_keyk l1)) (fun K hK => ?_); go_simp; refine hK _ ?_; clear hK K
              refine pc_call rfl rfl (fun K hK => ?_); go_simp; refine ⟨_, _, ⟨rfl, rfl⟩, hK _ _ _ ?_⟩; clear hK K
              refine (rcmp_any _ kr l1 HC.out.2.1 H0.out.1.2).mono ?_
              rintro e w18 ⟨rfl, m18⟩
              rw [HC.out.2.2.1]
              refine ⟨_, rfl, m18.of_drew, ?_⟩
              have H18 := Lib.hid m18.of_drew
              clear m18
              iterate 2 (refine pc_pure rfl rfl (fun K hK => ?_); go_simp; refine hK _ ?_; clear hK K)
              iterate 2 (refine pc_pure rfl rfl (fun K hK => ?_); go_simp; refine hK _ ?_; clear hK K)
              refine pc_take (.pointer (some ⟨g, off + i * 80, none⟩)) rfl rfl (fun w' _ => exec_elem (P := Try.prog) (g := g) (off := off) (q := i) 40 (.tmp 89) (.tmp 90) rfl 28 80 uuE sizeE rfl rfl hin) (fun K hK => ?_); go_simp; refine hK _ ?_; clear hK K
              iterate 1 (refine pc_pure rfl rfl (fun K hK => ?_); go_simp; refine hK _ ?_; clear hK K)
              refine pc_take (.agg (bv (keyOf r)).toArray) rfl rfl (fun w' hS => exec_load_cells (P := Try.prog) (b := g) (off := off + i * 80) (cs := bv (keyOf r)) 23 (.tmp 92) rfl rfl (HC.out.1 w' hS) Try.underlying23 rfl (by rw [bv_len, kr]; exact size_keyT)) (fun K hK => ?_); go_simp; refine hK _ ?_; clear hK K
              refine pc_take (.agg (bv ν).toArray) rfl rfl (fun w' hS => exec_load_row (P := Try.prog) (g := w2.heap.size) (cs := (bv ν).toArray) 23 (.tmp 7) rfl rfl (H16.out.2.2.2.2.2.mod (HQ.out.nn_ hS) (fun f => f)) Try.underlying23 rfl (size_keyk l3)) (fun K hK => ?_); go_simp; refine hK _ ?_; clear hK K
              refine pc_call rfl rfl (fun K hK => ?_); go_simp; refine ⟨_, _, ⟨rfl, rfl⟩, hK _ _ _ ?_⟩; clear hK K
              refine (rcmp_any _ kr l3 HC.out.2.1 H0.out.2.2.1.2).mono ?_
              rintro e w19 ⟨rfl, m19⟩
              rw [HC.out.2.2.2.1]
              refine ⟨_, rfl, H18.out.nn_ m19, ?_⟩
              have H19 := Lib.hid (H18.out.nn_ m19)
              clear m19
              iterate 2 (refine pc_pure rfl rfl (fun K hK => ?_); go_simp; refine hK _ ?_; clear hK K)
              refine pc_nil ?_
              go_wp2
              exact ⟨⟨i + 1, by omega, by go_num, by rw [HC.out.2.2.2.2, HD.out.1, HD.out.2, HK.out]; rfl, Lib.hid (HQ.out.nn_ H19.out)⟩, by simp [intOf]; omega⟩
        · have hin' : ¬ (i : Int) < nr := by omega
          have hcnt : cntR R κ ν i = T3.length := by
            unfold cntR
            rw [List.take_of_length_le (by have := H5.out.2.2.2.2.2.2.2.2.2; omega), ← HT.out.2.2]
            exact (H5.out.2.2.2.2.2.2.1.filter _).len
          rw [hcnt]
          clear hcnt hcl
          go_wp2_with fail
          refine (tlen_any (H16.out.2.1.nn HQ.out)).mono ?_
          rintro r w20 ⟨rfl, m20⟩
          rw [H5.out.2.2.2.2.2.2.2.2.1]
          have H20 := Lib.hid (H7.out.1.nn_ (H16.out.1.nn_ (HQ.out.nn_ m20)))
          clear m20
          go_wp2
          go_ret
          exact ⟨rfl, H20.out⟩
end
end Go.Proofs.Ytkcpmkeckcnobaa
