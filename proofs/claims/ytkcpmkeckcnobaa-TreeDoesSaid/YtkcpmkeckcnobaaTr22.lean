/- (*tree.Tree).Get. -/
import Derived.Test.YtkcpmkeckcnobaaWk5
namespace Go.Proofs.Ytkcpmkeckcnobaa
open Go.RowKit

theorem wp_valT {P : Program} {o : Oper} {a : Act} {w w' : World} {next : Act → World → Prop} {Q : Exit → Act → World → Prop} {v : Value} (hrun : (execOp a.eval o).run P w = .ok (.value v) w') (h : next (a.put o.dst v) w') : o.wp P a w next Q := by
  unfold Oper.wp
  rw [hrun]
  exact h
/-- the entry of a key -/
def getL (L : List (List Nat)) (κ : List Nat) : Option (List Nat) := (aft L κ true).filter (fun r => decide (keyOf r = κ))
section
variable {w : World} {p : Value} {L : List (List Nat)} {κ : List Nat}
set_option maxRecDepth 100000 in
set_option maxHeartbeats 3200000 in
theorem tget_gen (hrows : Rows 80 L) (he : κ.length = 40) (hez : ∀ z ∈ κ, z < 256) (hA : ∀ wz, Mod Nn w wz → Calls Try.prog 36 #[p, .agg (bv κ).toArray, .bool true] wz (AftT wz (aft L κ true))) : Calls Try.prog 35 #[p, .agg (bv κ).toArray] w (AftT w (getL L κ)) := by
  obtain ⟨o, ho⟩ : ∃ o, aft L κ true = o := ⟨_, rfl⟩
  obtain ⟨g0, hg0⟩ : ∃ g0, getL L κ = g0 := ⟨_, rfl⟩
  have hgo : g0 = o.filter (fun r => decide (keyOf r = κ)) := by rw [← hg0, ← ho]; rfl
  have hor : ∀ x, o = some x → x.length = 80 ∧ ∀ z ∈ x, z < 256 := fun x hx => hrows x (aft_mem (ho.trans hx))
  rw [ho] at hA
  have HA := Lib.hid (And.intro hA (And.intro hez (And.intro hgo hor)))
  rw [hg0]
  clear hA hez hgo hrows ho hg0 hor
  go_enter Try.func35, Try.ntmps35
  go_wp2_with (first
    | (with_reducible change wpList _ _ _ (⟨some 3, Op.box _ _, _, _, _, _⟩ :: _) _ _
       go_must (refine wpList_box_var 23 _ rfl rfl (bv κ).toArray rfl ?_)
       intro w1 b1 m1 z1
       clear z1
       have hs1 : w.heap.size < w1.heap.size := b1.lt
       have H1 := Lib.hid (And.intro m1 b1)
       clear m1 b1)
    | (with_reducible change wpList _ _ _ (⟨some 4, Op.alloc _, _, _, _, _⟩ :: _) _ _
       go_must (refine wpList_alloc_var 28 rfl rfl info_entz ?_)
       intro w2 b2 m2 z2
       clear z2
       have hs2 : w1.heap.size < w2.heap.size := b2.lt
       have H2 := Lib.hid (And.intro (H1.out.1.nn_ m2) (And.intro (H1.out.2.mod m2 (fun f => f)) b2))
       clear m2 b2)
    | (with_reducible change wpList _ _ _ (⟨some 10, _, _, _, _, _⟩ :: _) _ _
       go_must (refine wpList_val rfl (exec_load_row (P := Try.prog) (g := w.heap.size) (cs := (bv κ).toArray) 23 _ rfl rfl H2.out.2.1 Try.underlying23 rfl (size_keyk he)) ?_)))
  refine (HA.out.1 w2 H2.out.1).mono ?_
  rintro r w3 ⟨rfl, m3⟩
  have H3 := Lib.hid (And.intro (H2.out.1.nn_ m3) (And.intro (H2.out.2.1.mod m3 (fun f => f)) (H2.out.2.2.mod m3 (fun f => f))))
  have hs3 : w.heap.size ≤ w3.heap.size := H3.out.1.size
  have hs23 : w2.heap.size ≤ w3.heap.size := m3.size
  clear m3
  unfold optV
  obtain ⟨eo, heo⟩ : ∃ eo, o.getD ze = eo := ⟨_, rfl⟩
  have hel : eo.length = 80 := by
    rw [← heo]
    cases h : o with
    | none => exact ze_len
    | some x => exact (HA.out.2.2.2 x h).1
  rw [heo]
  have HO := Lib.hid heo
  clear heo
  obtain ⟨bo, hbo⟩ : ∃ bo, o.isSome = bo := ⟨_, rfl⟩
  rw [hbo]
  have HBO := Lib.hid hbo
  clear hbo
  go_upto_region 2 with (first
    | (with_reducible change wpList _ _ _ (⟨some 6, Op.alloc _, _, _, _, _⟩ :: _) _ _
       go_must (refine wpList_alloc_var 28 rfl rfl info_entz ?_)
       intro w4 b4 m4 z4
       clear z4
       have H4 := Lib.hid (And.intro m4 b4)
       clear m4 b4)
    | (with_reducible change wpList _ _ _ (⟨none, Op.store _ (Operand.tmp 6) _, _, _, _, _⟩ :: _) _ _
       go_must (refine wpList_store_var 28 _ _ rfl rfl w3.heap.size (bv eo).toArray _ _ rfl rfl H4.out.2 (size_ente hel) (by rw [bv_size, hel]; rfl) (bv_all _) ?_)
       intro w5 b5 m5 z5
       clear z5
       have hm5 : Mod Nn w3 w5 := H4.out.1.new_ m5 (Nat.le_refl _)
       have H5 := Lib.hid (And.intro (H3.out.1.nn_ hm5) (And.intro (H3.out.2.1.mod hm5 (fun f => f)) (And.intro (H3.out.2.2.mod hm5 (fun f => f)) b5)))
       clear m5 b5 hm5))
  cases o with
  | none =>
    have hb0 : bo = false := HBO.out.symm
    subst hb0
    have HG := Lib.hid (show g0 = none from HA.out.2.2.1)
    go_wp2_with (first
      | (with_reducible change wpList _ _ _ (⟨some 22, _, _, _, _, _⟩ :: _) _ _
         go_must (refine wpList_val rfl (exec_zero_ent rfl) ?_))
      | (with_reducible change wpList _ _ _ (⟨none, Op.store _ (Operand.tmp 4) _, _, _, _, _⟩ :: _) _ _
         go_must (refine wpList_store_var 28 _ _ rfl rfl w1.heap.size (bv ze).toArray _ _ rfl rfl H5.out.2.2.1 (size_ente ze_len) rfl (bv_all _) ?_)
         intro w6 b6 m6 z6
         clear z6
         have H6 := Lib.hid (And.intro (H5.out.1.new_ m6 (by omega)) b6)
         clear m6 b6))
    refine bodyPost_ret (results_cell_tmp_row (P := Try.prog) (g := w1.heap.size) rfl _ rfl H6.out.2 Try.underlying28 rfl (size_ente ze_len)) rfl ?_
    exact ⟨by rw [HG.out]; rfl, H6.out.1⟩
  | some x =>
    have hb0 : bo = true := HBO.out.symm
    have hx0 : x = eo := HO.out
    subst hb0 hx0
    have hke := keyOf_len hel
    have HX := Lib.hid (And.intro (HA.out.2.2.2 x rfl).2 (keyOf_lt (HA.out.2.2.2 x rfl).2))
    (try dsimp only); (try go_simp); repeat' (first | ((fail_if_success (with_reducible change Oper.wp _ ⟨some 18, _, _, _, _, _⟩ _ _ _ _)); first | go_values | go_skip | go_guarded | go_step | go_upon | go_back))
    refine wp_valT (exec_load_cells (P := Try.prog) (b := w3.heap.size) (off := 0) (cs := bv (keyOf x)) 23 _ rfl rfl (key_cells H5.out.2.2.2) Try.underlying23 rfl (by rw [bv_len, hke]; exact size_keyT)) ?_
    (try dsimp only); (try go_simp); repeat' (first | ((fail_if_success (with_reducible change Oper.wp _ ⟨some 19, _, _, _, _, _⟩ _ _ _ _)); first | go_values | go_skip | go_guarded | go_step | go_upon | go_back))
    refine wp_valT (exec_load_row (P := Try.prog) (g := w.heap.size) (cs := (bv κ).toArray) 23 _ rfl rfl H5.out.2.1 Try.underlying23 rfl (size_keyk he)) ?_
    (try dsimp only); (try go_simp); repeat' (first | ((fail_if_success (with_reducible change Oper.wp _ ⟨some 20, _, _, _, _, _⟩ _ _ _ _)); first | go_values | go_skip | go_guarded | go_step | go_upon | go_back))
    refine wp_valT (exec_neq_agg (P := Try.prog) (b := decide (keyOf x = κ)) 23 23 _ _ rfl rfl rfl Try.eqGuardType23 (eqK2 hke he HX.out.2 HA.out.2.1)) ?_
    by_cases hk : keyOf x = κ
    · rw [decide_eq_true hk]
      have HG := Lib.hid (show g0 = some x by rw [HA.out.2.2.1]; simp [Option.filter, hk])
      clear hk
      try go_simp
      go_wp2_with (first
        | (with_reducible change wpList _ _ _ (⟨some 23, _, _, _, _, _⟩ :: _) _ _
           go_must (refine wpList_val rfl (exec_load_row (P := Try.prog) (g := w3.heap.size) (cs := (bv x).toArray) 28 _ rfl rfl H5.out.2.2.2 Try.underlying28 rfl (size_ente hel)) ?_))
        | (with_reducible change wpList _ _ _ (⟨none, Op.store _ (Operand.tmp 4) _, _, _, _, _⟩ :: _) _ _
           go_must (refine wpList_store_var 28 _ _ rfl rfl w1.heap.size (bv x).toArray _ _ rfl rfl H5.out.2.2.1 (size_ente hel) (by rw [bv_size, hel]; rfl) (bv_all _) ?_)
           intro w6 b6 m6 z6
           clear z6
           have H6 := Lib.hid (And.intro (H5.out.1.new_ m6 (by omega)) b6)
           clear m6 b6))
      refine bodyPost_ret (results_cell_tmp_row (P := Try.prog) (g := w1.heap.size) rfl _ rfl H6.out.2 Try.underlying28 rfl (size_ente hel)) rfl ?_
      exact ⟨by rw [HG.out]; rfl, H6.out.1⟩
    · rw [decide_eq_false hk]
      have HG := Lib.hid (show g0 = none by rw [HA.out.2.2.1]; simp [Option.filter, hk])
      clear hk
      try go_simp
      go_wp2_with (first
        | (with_reducible change wpList _ _ _ (⟨some 22, _, _, _, _, _⟩ :: _) _ _
           go_must (refine wpList_val rfl (exec_zero_ent rfl) ?_))
        | (with_reducible change wpList _ _ _ (⟨none, Op.store _ (Operand.tmp 4) _, _, _, _, _⟩ :: _) _ _
           go_must (refine wpList_store_var 28 _ _ rfl rfl w1.heap.size (bv ze).toArray _ _ rfl rfl H5.out.2.2.1 (size_ente ze_len) rfl (bv_all _) ?_)
           intro w6 b6 m6 z6
           clear z6
           have H6 := Lib.hid (And.intro (H5.out.1.new_ m6 (by omega)) b6)
           clear m6 b6))
      refine bodyPost_ret (results_cell_tmp_row (P := Try.prog) (g := w1.heap.size) rfl _ rfl H6.out.2 Try.underlying28 rfl (size_ente ze_len)) rfl ?_
      exact ⟨by rw [HG.out]; rfl, H6.out.1⟩
end
end Go.Proofs.Ytkcpmkeckcnobaa
