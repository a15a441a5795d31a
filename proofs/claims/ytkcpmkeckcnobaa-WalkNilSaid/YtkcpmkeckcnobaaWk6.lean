/- peatbanklaw17.WalkNil. -/
import Derived.Test.YtkcpmkeckcnobaaWk5
namespace Go.Proofs.Ytkcpmkeckcnobaa
open Go.RowKit

theorem wp_val {P : Program} {o : Oper} {a : Act} {w w' : World} {next : Act → World → Prop} {Q : Exit → Act → World → Prop} {v : Value} (hrun : (execOp a.eval o).run P w = .ok (.value v) w') (h : next (a.put o.dst v) w') : o.wp P a w next Q := by
  unfold Oper.wp
  rw [hrun]
  exact h
def curZ : List Value := Value.nilFunc :: bv (List.replicate 80 0) ++ [Value.bool false]
set_option maxRecDepth 100000 in
theorem exec_zero_cur {o : Oper} {a : Act} {w : World} (ho : o.op = .build 33 #[]) : (execOp a.eval o).run Try.prog w = .ok (.value (.agg curZ.toArray)) w := by
  have hr : (Instr.build 33 #[]).run Try.prog w = .ok (.agg curZ.toArray) w := run_build w 33 #[] curZ.toArray (by kernel_rfl)
  simp [execOp, ho, hr, Result.andThen]
theorem ze_lt : ∀ z ∈ ze, z < 256 := fun z hz => by have := List.eq_of_mem_replicate hz; omega
theorem eqZ {w : World} : (Op.equalIn 10000 28 (.agg (bv ze).toArray) (.agg (bv ze).toArray)).run Try.prog w = .ok true w := eqE ze_len ze_lt
theorem after_nil {w : World} : ∀ wz κ wi, Mod Nn w wz → κ.length = 40 → (∀ z ∈ κ, z < 256) → Calls Try.prog 36 #[.pointer none, .agg (bv κ).toArray, .bool wi] wz (AftT wz (aft [] κ wi)) := fun wz κ wi _ h _ =>
  tafter_no ⟨κ, h, rfl⟩ (fun w' _ => there_nil w')
theorem after_none {w : World} {b : Nat} {n : Value} (hb : Blk w b 39 #[.nilIface, n]) : ∀ wz κ wi, Mod Nn w wz → κ.length = 40 → (∀ z ∈ κ, z < 256) → Calls Try.prog 36 #[.pointer (some ⟨b, 0, none⟩), .agg (bv κ).toArray, .bool wi] wz (AftT wz (aft [] κ wi)) := fun wz κ wi hz h _ =>
  tafter_no ⟨κ, h, rfl⟩ (fun w' hw => there_none ((hb.mod hz (fun f => f)).mod hw (fun f => f)))
theorem no_rows : Rows 80 [] := fun r hr => by cases hr
section
variable {w : World} {κ μ : List Nat}
set_option maxRecDepth 100000 in
set_option maxHeartbeats 6400000 in
theorem walknil_any (h1 : κ.length = 40 ∧ ∀ z ∈ κ, z < 256) (h2 : μ.length = 40 ∧ ∀ z ∈ μ, z < 256) : Calls Try.prog 3 #[.agg (bv κ).toArray, .agg (bv μ).toArray] w fun r w' => r = .returned (.bool true) ∧ Mod Nn w w' := by
  have l1 := h1.1
  have l2 := h2.1
  have H0 := Lib.hid (And.intro h1 h2)
  clear h1 h2
  go_enter Try.func3, Try.ntmps3
  go_wp2_with (first
    | (with_reducible change wpList _ _ _ (⟨some 2, Op.box _ _, _, _, _, _⟩ :: _) _ _
       go_must (refine wpList_box_var 23 _ rfl rfl (bv κ).toArray rfl ?_)
       intro w1 b1 m1 z1
       clear z1
       have H1 := Lib.hid (And.intro m1 b1)
       clear m1 b1)
    | (with_reducible change wpList _ _ _ (⟨some 3, Op.box _ _, _, _, _, _⟩ :: _) _ _
       go_must (refine wpList_box_var 23 _ rfl rfl (bv μ).toArray rfl ?_)
       intro w2 b2 m2 z2
       clear z2
       have H2 := Lib.hid (And.intro (H1.out.1.nn_ m2) (And.intro (H1.out.2.mod m2 (fun f => f)) b2))
       clear m2 b2))
  refine (walk_awake w2).mono ?_
  rintro r w3 ⟨rfl, m3⟩
  have H3 := Lib.hid (And.intro (H2.out.1.nn_ m3) (And.intro (H2.out.2.1.mod m3 (fun f => f)) (H2.out.2.2.mod m3 (fun f => f))))
  clear m3
  go_wp2_with fail
  refine (next_nil (w := w3)).mono ?_
  rintro r w4 ⟨rfl, m4⟩
  have H4 := Lib.hid (And.intro (H3.out.1.nn_ m4) (And.intro (H3.out.2.1.mod m4 (fun f => f)) (H3.out.2.2.mod m4 (fun f => f))))
  clear m4
  have hs4 : w.heap.size ≤ w4.heap.size := H4.out.1.size
  unfold optV
  go_wp2_with (first
    | (with_reducible change wpList _ _ _ (⟨some 6, Op.alloc _, _, _, _, _⟩ :: _) _ _
       go_must (refine wpList_alloc_var 28 rfl rfl info_entz ?_)
       intro w5 b5 m5 z5
       clear z5
       have H5 := Lib.hid (And.intro m5 b5)
       clear m5 b5)
    | (with_reducible change wpList _ _ _ (⟨none, Op.store _ (Operand.tmp 6) _, _, _, _, _⟩ :: _) _ _
       go_must (refine wpList_store_var 28 _ _ rfl rfl w4.heap.size (bv ze).toArray _ _ rfl rfl H5.out.2 (size_ente ze_len) rfl (bv_all _) ?_)
       intro w6 b6 m6 z6
       clear z6
       have H6 := Lib.hid (And.intro (H5.out.1.new_ m6 (Nat.le_refl _)) b6)
       clear m6 b6)
    | (with_reducible change wpList _ _ _ (⟨some 21, _, _, _, _, _⟩ :: _) _ _
       go_must (refine wpList_val rfl (exec_zero_cur rfl) ?_))
    | (with_reducible change wpList _ _ _ (⟨some 22, Op.box _ _, _, _, _, _⟩ :: _) _ _
       go_must (refine wpList_box_var 33 _ rfl rfl curZ.toArray rfl ?_)
       intro w7 b7 m7 z7
       clear z7
       have H7 := Lib.hid (And.intro (H6.out.1.nn_ m7) (And.intro b7 (H6.out.2.mod m7 (fun f => f))))
       clear m7 b7))
  refine (next_none (w := w7) H7.out.2.1 rfl).mono ?_
  rintro r w8 ⟨rfl, m8⟩
  have H8 := Lib.hid (And.intro (H4.out.1.nn_ (H7.out.1.nn_ m8)) (And.intro (H4.out.2.1.mod (H7.out.1.nn_ m8) (fun f => f)) (And.intro (H4.out.2.2.mod (H7.out.1.nn_ m8) (fun f => f)) (H7.out.2.2.mod m8 (fun f => f)))))
  clear m8
  have hs8 : w.heap.size ≤ w8.heap.size := H8.out.1.size
  unfold optV
  go_wp2_with (first
    | (with_reducible change wpList _ _ _ (⟨some 8, Op.alloc _, _, _, _, _⟩ :: _) _ _
       go_must (refine wpList_alloc_var 28 rfl rfl info_entz ?_)
       intro w9 b9 m9 z9
       clear z9
       have H9 := Lib.hid (And.intro m9 b9)
       clear m9 b9)
    | (with_reducible change wpList _ _ _ (⟨none, Op.store _ (Operand.tmp 8) _, _, _, _, _⟩ :: _) _ _
       go_must (refine wpList_store_var 28 _ _ rfl rfl w8.heap.size (bv ze).toArray _ _ rfl rfl H9.out.2 (size_ente ze_len) rfl (bv_all _) ?_)
       intro w10 b10 m10 z10
       clear z10
       have H10 := Lib.hid (And.intro (H9.out.1.new_ m10 (Nat.le_refl _)) b10)
       clear m10 b10)
    | (with_reducible change wpList _ _ _ (⟨some 28, Op.box _ _, _, _, _, _⟩ :: _) _ _
       go_must (refine wpList_box_var 39 _ rfl rfl #[.nilIface, .int .i64 0] rfl ?_)
       intro w11 b11 m11 z11
       clear z11
       have H11 := Lib.hid (And.intro (H10.out.1.nn_ m11) (And.intro b11 (And.intro (H10.out.2.mod m11 (fun f => f)) (H8.out.2.2.2.mod (H10.out.1.nn_ m11) (fun f => f)))))
       have HK11 := Lib.hid (And.intro (H8.out.2.1.mod (H10.out.1.nn_ m11) (fun f => f)) (H8.out.2.2.1.mod (H10.out.1.nn_ m11) (fun f => f)))
       clear m11 b11)
    | (with_reducible change wpList _ _ _ (⟨some 29, _, _, _, _, _⟩ :: _) _ _
       go_must (refine wpList_val rfl (exec_load_row (P := Try.prog) (g := w.heap.size) (cs := (bv κ).toArray) 23 _ rfl rfl HK11.out.1 Try.underlying23 rfl (size_keyk l1)) ?_))
    | (with_reducible change wpList _ _ _ (⟨some 30, _, _, _, _, _⟩ :: _) _ _
       go_must (refine wpList_val rfl (exec_load_row (P := Try.prog) (g := w1.heap.size) (cs := (bv μ).toArray) 23 _ rfl rfl HK11.out.2 Try.underlying23 rfl (size_keyk l2)) ?_)))
  refine (wnew_any (w := w11) H0.out.1 H0.out.2).mono ?_
  rintro r w12 ⟨c, rfl, hc12, hcs, m12⟩
  have H12 := Lib.hid (And.intro hc12 (And.intro (H11.out.2.1.mod m12 (fun f => f)) m12))
  clear hc12 m12
  go_wp2_with fail
  refine (next_gen H12.out.1 no_rows (after_none H12.out.2.1)).mono ?_
  rintro r w13 ⟨rfl, m13, -, -⟩
  have hnx : nxt [] κ true μ = none := rfl
  rw [hnx]
  clear hnx
  have hk11 := HK11.out.1.lt
  have hm11 := HK11.out.2.lt
  have h811 := H11.out.2.2.1.lt
  have h611 := H11.out.2.2.2.lt
  have hmv : ∀ {g : Nat} {T : TypeId} {cs : Array Value}, Blk w11 g T cs → g < w11.heap.size → Blk w13 g T cs := fun hb hg => (hb.mod H12.out.2.2 (fun f => f)).mod m13 (fun e => by have e : _ = c := e; omega)
  have H13 := Lib.hid (And.intro (((H8.out.1.nn_ H11.out.1).nn_ H12.out.2.2).new_ m13 (by omega)) (And.intro (hmv HK11.out.1 hk11) (And.intro (hmv HK11.out.2 hm11) (And.intro (hmv H11.out.2.2.2 h611) (hmv H11.out.2.2.1 h811)))))
  clear hmv m13
  have hs13 : w.heap.size ≤ w13.heap.size := H13.out.1.size
  unfold optV
  go_wp2_with (first
    | (with_reducible change wpList _ _ _ (⟨some 10, Op.alloc _, _, _, _, _⟩ :: _) _ _
       go_must (refine wpList_alloc_var 28 rfl rfl info_entz ?_)
       intro w14 b14 m14 z14
       clear z14
       have H14 := Lib.hid (And.intro m14 b14)
       clear m14 b14)
    | (with_reducible change wpList _ _ _ (⟨none, Op.store _ (Operand.tmp 10) _, _, _, _, _⟩ :: _) _ _
       go_must (refine wpList_store_var 28 _ _ rfl rfl w13.heap.size (bv ze).toArray _ _ rfl rfl H14.out.2 (size_ente ze_len) rfl (bv_all _) ?_)
       intro w15 b15 m15 z15
       clear z15
       have hs15 : w13.heap.size < w15.heap.size := b15.lt
       have H15 := Lib.hid (And.intro (H14.out.1.new_ m15 (Nat.le_refl _)) b15)
       clear m15 b15)
    | (with_reducible change wpList _ _ _ (⟨some 35, _, _, _, _, _⟩ :: _) _ _
       go_must (refine wpList_val rfl (exec_zero_ent rfl) ?_))
    | (with_reducible change wpList _ _ _ (⟨some 12, Op.alloc _, _, _, _, _⟩ :: _) _ _
       go_must (refine wpList_alloc_var 28 rfl rfl info_entz ?_)
       intro w16 b16 m16 z16
       clear z16
       have H16 := Lib.hid (And.intro m16 b16)
       clear m16 b16)
    | (with_reducible change wpList _ _ _ (⟨none, Op.store _ (Operand.tmp 12) _, _, _, _, _⟩ :: _) _ _
       go_must (refine wpList_store_var 28 _ _ rfl rfl w15.heap.size (bv ze).toArray _ _ rfl rfl H16.out.2 (size_ente ze_len) rfl (bv_all _) ?_)
       intro w17 b17 m17 z17
       clear z17
       have hm17 : Mod Nn w13 w17 := H15.out.1.nn_ (H16.out.1.new_ m17 (Nat.le_refl _))
       have H17 := Lib.hid (And.intro (H13.out.1.nn_ hm17) (And.intro (H13.out.2.1.mod hm17 (fun f => f)) (And.intro (H13.out.2.2.1.mod hm17 (fun f => f)) (And.intro (H13.out.2.2.2.1.mod hm17 (fun f => f)) (And.intro (H13.out.2.2.2.2.mod hm17 (fun f => f)) (And.intro (H15.out.2.mod (H16.out.1.new_ m17 (Nat.le_refl _)) (fun f => f)) b17))))))
       clear m17 b17 hm17)
    | (with_reducible change wpList _ _ _ (⟨some 36, _, _, _, _, _⟩ :: _) _ _
       go_must (refine wpList_val rfl (exec_load_row (P := Try.prog) (g := w.heap.size) (cs := (bv κ).toArray) 23 _ rfl rfl H17.out.2.1 Try.underlying23 rfl (size_keyk l1)) ?_))
    | (with_reducible change wpList _ _ _ (⟨some 37, _, _, _, _, _⟩ :: _) _ _
       go_must (refine wpList_val rfl (exec_load_row (P := Try.prog) (g := w1.heap.size) (cs := (bv μ).toArray) 23 _ rfl rfl H17.out.2.2.1 Try.underlying23 rfl (size_keyk l2)) ?_)))
  refine (wnew_nil (w := w17) l1 l2).mono ?_
  rintro r w18 ⟨rfl, m18⟩
  have H18 := Lib.hid (And.intro (H17.out.1.nn_ m18) (And.intro (H17.out.2.2.2.1.mod m18 (fun f => f)) (And.intro (H17.out.2.2.2.2.1.mod m18 (fun f => f)) (And.intro (H17.out.2.2.2.2.2.1.mod m18 (fun f => f)) (H17.out.2.2.2.2.2.2.mod m18 (fun f => f))))))
  clear m18
  -- zzS
  (try dsimp only); (try go_simp); repeat' (first | ((fail_if_success (with_reducible change Oper.wp _ ⟨some 53, _, _, _, _, _⟩ _ _ _ _)); first | go_values | go_skip | go_guarded | go_step | go_upon | go_back))
  refine wp_val (exec_load_row (P := Try.prog) (g := w4.heap.size) (cs := (bv ze).toArray) 28 _ rfl rfl H18.out.2.1 Try.underlying28 rfl (size_ente ze_len)) ?_
  (try dsimp only); (try go_simp); repeat' (first | ((fail_if_success (with_reducible change Oper.wp _ ⟨some 54, _, _, _, _, _⟩ _ _ _ _)); first | go_values | go_skip | go_guarded | go_step | go_upon | go_back))
  refine wp_val (exec_load_row (P := Try.prog) (g := w15.heap.size) (cs := (bv ze).toArray) 28 _ rfl rfl H18.out.2.2.2.2 Try.underlying28 rfl (size_ente ze_len)) ?_
  (try dsimp only); (try go_simp); repeat' (first | ((fail_if_success (with_reducible change Oper.wp _ ⟨some 55, _, _, _, _, _⟩ _ _ _ _)); first | go_values | go_skip | go_guarded | go_step | go_upon | go_back))
  refine wp_val (exec_eql_agg (P := Try.prog) (b := true) 28 28 _ _ rfl rfl rfl Try.eqGuardType28 eqZ) ?_
  (try dsimp only); (try go_simp); repeat' (first | ((fail_if_success (with_reducible change Oper.wp _ ⟨some 58, _, _, _, _, _⟩ _ _ _ _)); first | go_values | go_skip | go_guarded | go_step | go_upon | go_back))
  refine wp_val (exec_load_row (P := Try.prog) (g := w8.heap.size) (cs := (bv ze).toArray) 28 _ rfl rfl H18.out.2.2.1 Try.underlying28 rfl (size_ente ze_len)) ?_
  (try dsimp only); (try go_simp); repeat' (first | ((fail_if_success (with_reducible change Oper.wp _ ⟨some 59, _, _, _, _, _⟩ _ _ _ _)); first | go_values | go_skip | go_guarded | go_step | go_upon | go_back))
  refine wp_val (exec_load_row (P := Try.prog) (g := w15.heap.size) (cs := (bv ze).toArray) 28 _ rfl rfl H18.out.2.2.2.2 Try.underlying28 rfl (size_ente ze_len)) ?_
  (try dsimp only); (try go_simp); repeat' (first | ((fail_if_success (with_reducible change Oper.wp _ ⟨some 60, _, _, _, _, _⟩ _ _ _ _)); first | go_values | go_skip | go_guarded | go_step | go_upon | go_back))
  refine wp_val (exec_eql_agg (P := Try.prog) (b := true) 28 28 _ _ rfl rfl rfl Try.eqGuardType28 eqZ) ?_
  (try dsimp only); (try go_simp); repeat' (first | ((fail_if_success (with_reducible change Oper.wp _ ⟨some 63, _, _, _, _, _⟩ _ _ _ _)); first | go_values | go_skip | go_guarded | go_step | go_upon | go_back))
  refine wp_val (exec_load_row (P := Try.prog) (g := w13.heap.size) (cs := (bv ze).toArray) 28 _ rfl rfl H18.out.2.2.2.1 Try.underlying28 rfl (size_ente ze_len)) ?_
  (try dsimp only); (try go_simp); repeat' (first | ((fail_if_success (with_reducible change Oper.wp _ ⟨some 64, _, _, _, _, _⟩ _ _ _ _)); first | go_values | go_skip | go_guarded | go_step | go_upon | go_back))
  refine wp_val (exec_load_row (P := Try.prog) (g := w15.heap.size) (cs := (bv ze).toArray) 28 _ rfl rfl H18.out.2.2.2.2 Try.underlying28 rfl (size_ente ze_len)) ?_
  (try dsimp only); (try go_simp); repeat' (first | ((fail_if_success (with_reducible change Oper.wp _ ⟨some 65, _, _, _, _, _⟩ _ _ _ _)); first | go_values | go_skip | go_guarded | go_step | go_upon | go_back))
  refine wp_val (exec_eql_agg (P := Try.prog) (b := true) 28 28 _ _ rfl rfl rfl Try.eqGuardType28 eqZ) ?_
  go_wp2_with fail
  refine (wall_any (w := w18) (p := .pointer none) (L := []) List.Pairwise.nil no_rows (by simp) after_nil).mono ?_
  rintro r w19 ⟨v19, rfl, ho19, m19⟩
  obtain ⟨A19, c19, rfl, -⟩ := ho19.slice
  have H19 := Lib.hid (H18.out.1.nn_ m19)
  clear ho19 m19
  have b20 : Blk (w19.alloc (.cells #[.nilIface, .int .i64 0] 39)) w19.heap.size 39 #[.nilIface, .int .i64 0] := Blk.new _ _ _
  have m20 : Mod Nn w (w19.alloc (.cells #[.nilIface, .int .i64 0] 39)) := H19.out.alloc _
  have H20 := Lib.hid (And.intro m20 b20)
  clear b20 m20
  go_wp2_with fail
  -- zzT
  refine (wall_any (L := []) List.Pairwise.nil no_rows (by simp) (after_none H20.out.2)).mono ?_
  rintro r w21 ⟨v21, rfl, ho21, m21⟩
  obtain ⟨A21, c21, rfl, -⟩ := ho21.slice
  have H21 := Lib.hid (H20.out.1.nn_ m21)
  clear ho21 m21
  go_wp2
  go_ret
  exact ⟨rfl, H21.out⟩
end
end Go.Proofs.Ytkcpmkeckcnobaa
