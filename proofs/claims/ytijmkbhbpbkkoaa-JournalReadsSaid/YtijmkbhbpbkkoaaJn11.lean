/- peatbanklaw21.JournalNone. -/
import Derived.Test.YtijmkbhbpbkkoaaJnD
import Derived.Test.YtijmkbhbpbkkoaaKitF
import Derived.Test.YtijmkbhbpbkkoaaKitE
namespace Go.Proofs.Ytijmkbhbpbkkoaa
open Go.RowKit

theorem uuJp : Try.prog.underlying 44 = some (.slice 33) := Try.underlying44
theorem size_pj : (Try.prog.info? 33).map (·.size) = some 1 := by kernel_rfl
theorem info_pj2 : (Try.prog.info? 33).map (fun i => (i.zero, i.size)) = some (some (.pointer none), 1) := by kernel_rfl
theorem built_j0 : Try.prog.built 43 [] = some #[.pointer none, .int .i64 0, .int .i64 0, .int .i64 0, .int .i64 0, .int .i64 0] := by kernel_rfl
theorem exec_j0 {w : World} {o : Oper} {a : Act} (ho : o.op = .build 43 #[]) : (execOp a.eval o).run Try.prog w = .ok (.value (.agg #[.pointer none, .int .i64 0, .int .i64 0, .int .i64 0, .int .i64 0, .int .i64 0])) w := by
  have hr := run_build (P := Try.prog) w 43 _ _ built_j0
  simp only [execOp, ho]
  simp [hr, Result.andThen]
theorem exec_pj2 {w : World} {o : Oper} {a : Act} {x : Operand} {p q : Option Addr} (ho : o.op = .buildSlice 44 2 #[(0, .const (.pointer p)), (1, x)]) (hx : a.eval x = .pointer q) :
    (execOp a.eval o).run Try.prog w = .ok (.value (.slice (some ⟨w.heap.size, 0, none⟩) 2 2)) (w.alloc (.cells #[.pointer p, .pointer q] 33)) := by
  have e : a.eval (.const (.pointer p)) = .pointer p := rfl
  exact exec_bsliceN (P := Try.prog) (w := w) (a := a) 44 33 2 _ [.pointer p, .pointer q] ho uuJp info_pj2 (by omega) (by omega) (by simp [hx, e, List.zipIdx]) rfl (by
    intro v hv
    simp only [List.mem_cons, List.not_mem_nil, or_false] at hv
    rcases hv with rfl | rfl <;> rfl)
theorem rd_zeros {w : World} {g k : Nat} {t : TypeId} (h : Blk w g t (Array.replicate k (.int .u8 0))) : Rd w (some ⟨g, 0, none⟩) k (bv (List.replicate k 0)) := by
  have e : Array.replicate k (Value.int .u8 0) = (bv (List.replicate k 0)).toArray := by unfold bv; rw [List.map_replicate]; simp
  rw [e] at h
  exact Rd.of_blk0 h (by rw [bv_len, List.length_replicate])
theorem rep_lt (k : Nat) : ∀ z ∈ List.replicate k 0, z < 256 := fun z hz => by rw [(List.mem_replicate.1 hz).2]; omega
theorem half_bd (g : Geo) (ep : Int) (hj : 8 ≤ g.j) : 2 ≤ g.half ep ∧ g.half ep ≤ 2 + g.j := by
  have h : ep % 2 = 0 ∨ ep % 2 = 1 := by omega
  unfold Geo.half
  rcases h with h | h <;> rw [h] <;> omega
theorem all_none {ep : Int} (h0 : 0 ≤ ep) (h1 : ep ≤ 1099511627776) (m : Nat) : AllRecs (List.replicate m 0) ep 0 [] := by
  have := jrow_all ep.toNat (by omega) [] (by simp) (fun r hr => by cases hr) m
  rwa [show ((ep.toNat : Nat) : Int) = ep from by omega] at this
theorem nsec_pos (g : Geo) : 0 ≤ g.nsec := by
  unfold Geo.nsec
  split
  · next h => have := Geo.sec_bound h; omega
  · exact Int.le_refl _
section
variable {w : World}
set_option maxRecDepth 100000 in
set_option maxHeartbeats 6400000 in
theorem journalnone_any (g : Geo) (ep less : Int) (A : Option Addr) (n cc : Nat) (w : World) : Calls Try.prog 4 #[gV g, .int .i64 ep, .int .i64 less, .slice A n cc] w fun e w' => e = .returned (.bool true) ∧ Mod Nn w w' := by
  unfold gV
  go_enter Try.func4, Try.ntmps4
  go_wp2_with (first
    | (with_reducible change wpList _ _ _ (⟨some 4, Op.box _ _, _, _, _, _⟩ :: _) _ _
       go_must (refine wpList_box_var 23 _ rfl rfl (gC g) rfl ?_)
       intro w1 b1 m1 z1
       clear z1
       have hs1 : w.heap.size < w1.heap.size := b1.lt
       have H1 := Lib.hid (And.intro m1 b1)
       clear m1 b1))
  refine (jawake_any w1).mono ?_
  rintro r w2 ⟨rfl, m2⟩
  have hs2 : w1.heap.size ≤ w2.heap.size := m2.size
  have H2 := Lib.hid (And.intro (H1.out.1.nn_ m2) (H1.out.2.mod m2 (fun f => f)))
  clear m2
  by_cases hn : (3000 : Int) < n
  · have d1 : decide ((3000 : Int) < n) = true := decide_eq_true hn
    go_wp2
    go_ret
    exact ⟨rfl, H2.out.1⟩
  have d1 : decide ((3000 : Int) < n) = false := decide_eq_false hn
  (try dsimp only); (try go_simp); repeat' (first | ((fail_if_success (with_reducible change Oper.wp _ ⟨some 26, _, _, _, _, _⟩ _ _ _ _)); first | go_values | go_skip | go_guarded | go_step | go_upon | go_back))
  refine wp_valJ (exec_load_row (P := Try.prog) 23 _ rfl rfl H2.out.2 Try.underlying23 rfl size_geo) ?_
  go_wp2_with fail
  refine (r11sectors_any g _).mono ?_
  rintro r w3 ⟨rfl, m3⟩
  have hs3 : w2.heap.size ≤ w3.heap.size := m3.size
  have H3 := Lib.hid (And.intro (H2.out.1.nn_ m3) (H2.out.2.mod m3 (fun f => f)))
  clear m3
  by_cases hsec : 3000 < g.nsec
  · have d2 : decide (3000 < g.nsec) = true := decide_eq_true hsec
    go_wp2
    go_ret
    exact ⟨rfl, H3.out.1⟩
  have d2 : decide (3000 < g.nsec) = false := decide_eq_false hsec
  go_wp2_with (first
    | (with_reducible change wpList _ _ _ (⟨some 30, _, _, _, _, _⟩ :: _) _ _
       go_must (refine wpList_val rfl (exec_j0 rfl) ?_))
    | (with_reducible change wpList _ _ _ (⟨some 31, Op.box _ _, _, _, _, _⟩ :: _) _ _
       go_must (refine wpList_box_var 43 _ rfl rfl #[.pointer none, .int .i64 0, .int .i64 0, .int .i64 0, .int .i64 0, .int .i64 0] rfl ?_)
       intro w4 b4 m4 z4
       clear z4
       have hs4 : w3.heap.size < w4.heap.size := b4.lt
       have H4 := Lib.hid (And.intro (H3.out.1.nn_ m4) (And.intro (H3.out.2.mod m4 (fun f => f)) b4))
       clear m4 b4)
    | (with_reducible change wpList _ _ _ (⟨some 32, _, _, _, _, _⟩ :: _) _ _
       go_must (refine wpList_val rfl (exec_pj2 rfl rfl) ?_)
       have b5 : Blk (w4.alloc (.cells #[.pointer none, .pointer (some ⟨w3.heap.size, 0, none⟩)] 33)) w4.heap.size 33 #[.pointer none, .pointer (some ⟨w3.heap.size, 0, none⟩)] := Blk.new _ _ _
       have m5 : Mod Nn w4 (w4.alloc (.cells #[.pointer none, .pointer (some ⟨w3.heap.size, 0, none⟩)] 33)) := (Mod.refl _ _).alloc _
       generalize w4.alloc (.cells #[.pointer none, .pointer (some ⟨w3.heap.size, 0, none⟩)] 33) = w5 at *
       have H5 := Lib.hid (And.intro (H4.out.1.nn_ m5) (And.intro (H4.out.2.1.mod m5 (fun f => f)) (And.intro (H4.out.2.2.mod m5 (fun f => f)) b5)))
       clear b5 m5))
  obtain ⟨gr, hgr⟩ : ∃ gr, w4.heap.size = gr := ⟨_, rfl⟩
  rw [hgr] at H5 ⊢
  go_loopw [10] (fun i wr => ∃ j : Nat, j ≤ 2 ∧ i = .int .i64 j ∧ Hid (Mod Nn w5 wr)) (fun i _ => 2 - (intOf i).toNat)
  case atStart => exact ⟨0, by omega, rfl, Lib.hid (Mod.refl _ _)⟩
  case round =>
    obtain ⟨j, hj2, rfl, HM⟩ := hrel
    by_cases hj : j < 2
    · have hj' : (j : Int) < 2 := by omega
      have dj : decide ((j : Int) < 2) = true := decide_eq_true hj'
      obtain ⟨p, hp⟩ : ∃ p : Value, (∀ w', Mod Nn wr w' → w'.cell? ⟨gr, j, none⟩ = some p) ∧ (∀ w', Mod Nn wr w' → Calls Try.prog 12 #[p, .slice A n cc] w' fun e w'' => e = .returned (.int .i64 1) ∧ Mod Nn w' w'') ∧ (∀ w', Mod Nn wr w' → Calls Try.prog 14 #[p] w' fun e w'' => e = .returned (.int .i64 0) ∧ Mod Nn w' w'') := by
        have hb := H5.out.2.2.2.mod HM.out (fun f => f)
        have ht := H5.out.2.2.1.mod HM.out (fun f => f)
        match j, hj with
        | 0, _ => exact ⟨.pointer none, fun w' hm => (hb.mod hm (fun f => f)).cell 0, fun w' _ => append_nil A n cc w', fun w' _ => room_nil w'⟩
        | 1, _ => exact ⟨_, fun w' hm => (hb.mod hm (fun f => f)).cell 1, fun w' hm => append_zero A n cc ((ht.mod hm (fun f => f)).cell 0), fun w' hm => room_zero ((ht.mod hm (fun f => f)).cell 0)⟩
      have HP := Lib.hid hp
      clear hp
      have hp0 : wr.cell? ⟨gr, j, none⟩ = some p := HP.out.1 wr (Mod.refl _ _)
      go_wp2_with (first
        | (with_reducible change wpList _ _ _ (⟨some 39, _, _, _, _, _⟩ :: _) _ _
           go_must (refine wpList_val rfl (exec_elem (P := Try.prog) (g := gr) (off := 0) (q := j) 44 (.tmp 37) (.tmp 38) rfl 33 1 uuJp size_pj rfl rfl hj) ?_)))
      refine (HP.out.2.1 wr (Mod.refl _ _)).mono ?_
      rintro r wa ⟨rfl, ma⟩
      have hp1 : wa.cell? ⟨gr, j, none⟩ = some p := HP.out.1 wa ma
      (try dsimp only); (try go_simp); repeat' (first | ((fail_if_success (with_reducible change Oper.wp _ ⟨some 47, _, _, _, _, _⟩ _ _ _ _)); first | go_values | go_skip | go_guarded | go_step | go_upon | go_back))
      refine wp_valJ (exec_elem (P := Try.prog) (g := gr) (off := 0) (q := j) 44 (.tmp 45) (.tmp 46) rfl 33 1 uuJp size_pj rfl rfl hj) ?_
      (try dsimp only); (try go_simp); repeat' (first | ((fail_if_success (with_reducible change Oper.wp _ ⟨some 48, _, _, _, _, _⟩ _ _ _ _)); first | go_values | go_skip | go_guarded | go_step | go_upon | go_back))
      refine wp_valJ (exec_load1 (P := Try.prog) (ad := ⟨gr, j, none⟩) 33 (.tmp 47) rfl rfl hp1 Try.underlying33 rfl) ?_
      go_wp2_with fail
      refine (HP.out.2.2 wa ma).mono ?_
      rintro r wb ⟨rfl, mb⟩
      have HE := Lib.hid ((HM.out.nn_ ma).nn_ mb)
      go_wp2
      exact ⟨⟨j + 1, by omega, by go_num, HE⟩, by simp [intOf]; omega⟩
    · have hje : j = 2 := by omega
      subst hje
      have H6 := Lib.hid (And.intro (H5.out.1.nn_ HM.out) (H5.out.2.1.mod HM.out (fun f => f)))
      clear HM H5
      go_wp2_with (first
        | (with_reducible change wpList _ _ _ (⟨some 53, Op.load _ _, _, _, _, _⟩ :: _) _ _
           go_must (refine wpList_load_var 23 _ rfl rfl w.heap.size (gC g) _ _ rfl H6.out.2 Try.underlying23 rfl size_geo ?_)))
      refine (open_nil g ep wr).mono ?_
      rintro r w7 ⟨rfl, m7⟩
      have H7 := Lib.hid (And.intro (H6.out.1.nn_ m7) (H6.out.2.mod m7 (fun f => f)))
      clear m7
      (try dsimp only); (try go_simp); repeat' (first | ((fail_if_success (with_reducible change Oper.wp _ ⟨some 71, _, _, _, _, _⟩ _ _ _ _)); first | go_values | go_skip | go_guarded | go_step | go_upon | go_back))
      refine wp_valJ (exec_load_row (P := Try.prog) 23 _ rfl rfl H7.out.2 Try.underlying23 rfl size_geo) ?_
      go_wp2_with fail
      refine (clear_nil g ep _).mono ?_
      rintro r w8 ⟨rfl, m8⟩
      have H8 := Lib.hid (And.intro (H7.out.1.nn_ m8) (H7.out.2.mod m8 (fun f => f)))
      clear m8
      go_wp2_with (first
        | (with_reducible change wpList _ _ _ (⟨some 76, Op.load _ _, _, _, _, _⟩ :: _) _ _
           go_must (refine wpList_load_var 23 _ rfl rfl w.heap.size (gC g) _ _ rfl H8.out.2 Try.underlying23 rfl size_geo ?_)))
      refine (lsectors_any g _).mono ?_
      rintro r w9 ⟨rfl, m9⟩
      have H9 := Lib.hid (And.intro (H8.out.1.nn_ m9) (H8.out.2.mod m9 (fun f => f)))
      clear m9
      go_wp2_with fail
      refine (pick_any less 2 _ (by omega)).mono ?_
      rintro r w10 ⟨rfl, rfl⟩
      have hpk := pick_range less 2 (by omega)
      have e1 : IntKind.i64.wrap (g.nsec - pick less 2) = g.nsec - pick less 2 := by rw [IntKind.wrap_i64]; have := nsec_pos g; omega
      have e2 : wrap64 (g.nsec - pick less 2) = g.nsec - pick less 2 := wrap64_id (by have := nsec_pos g; omega) (by omega)
      go_wp2_with fail
      have hN : 1 ≤ max 1 (g.nsec - pick less 2) ∧ max 1 (g.nsec - pick less 2) ≤ 3000 := by omega
      generalize max 1 (g.nsec - pick less 2) = N at *
      have HN := Lib.hid hN
      clear e1 e2 hpk hsec hN
      refine (new_any N _ HN.out.1 (by have := HN.out.2; omega)).mono ?_
      rintro r w10 ⟨b, ms, mo, rfl, hd10, m10, hfr10⟩
      go_wp2_with fail
      refine (cnew_any hd10 8 (by omega)).mono ?_
      rintro r w11 ⟨c, mk, rfl, hC11, m11, hc11, hmk11⟩
      have hO : OwnC w9 w11 c b ms mo mk (Dk.new N) 8 0 0 0 [] [] := ⟨hC11, m10.nn_ m11, fun k hk => by
        have hz := m10.size
        rcases hk with (rfl | rfl | ⟨e, he, -⟩) | hk
        · omega
        · omega
        · cases he
        · exact hfr10 k hk⟩
      have hB11 : Blk w11 w.heap.size 23 (gC g) := H9.out.2.mod (m10.nn_ m11) (fun f => f)
      have HO := Lib.hid (And.intro hO hB11)
      clear hd10 m10 hfr10 hC11 m11 hc11 hmk11 hO hB11
      by_cases hm : jmay g ep N
      · have hdm : decide (jmay g ep N) = true := decide_eq_true hm
        have hb := Geo.sec_bound hm.1
        have hsN := hm.2.2.2
        have hhf := half_bd g ep hb.2.1
        have HM := Lib.hid hm
        clear hm
        go_wp2_with (first
          | (with_reducible change wpList _ _ _ (⟨some 87, Op.load _ _, _, _, _, _⟩ :: _) _ _
             go_must (refine wpList_load_var 23 _ rfl rfl w.heap.size (gC g) _ _ rfl HO.out.2 Try.underlying23 rfl size_geo ?_)))
        refine (oj_open HO.out.1 g ep HM.out rfl (by omega) (lb := List.replicate (512 * g.j.toNat) 0) (rowsL_zero 0 N _ _) (fun z hz => by rw [(List.mem_replicate.1 hz).2]; omega) (all_none HM.out.2.1 HM.out.2.2.1 _)).mono ?_
        rintro r w12 ⟨jb, v12, now12, hits12, misses12, l12, T12, rfl, h12, hT12, hn12, j12, hr12⟩
        obtain ⟨vs12, ow12, -⟩ := hr12
        obtain ⟨A12, c12, rfl, -, -⟩ := own_form ow12
        have hB12 : Blk w12 w.heap.size 23 (gC g) := HO.out.2.mod hT12.md (fun hin => by have h1 := HO.out.1.fr _ (inA_of hin); have h2 := H9.out.2.lt; omega)
        obtain ⟨D2, hw2, -⟩ := bwrite_up (D := Dk.new N) (a := g.half ep) (bs := List.replicate (512 * g.j.toNat) 0) (k := g.j.toNat) ⟨rfl, rfl⟩ (by omega) (by show g.half ep + _ ≤ N; omega) (by rw [List.length_replicate])
        have H12 := Lib.hid (And.intro h12 (And.intro j12 (And.intro hB12 (And.intro hw2 hn12))))
        clear h12 hT12 j12 hB12 hw2 hn12 ow12 HO
        go_wp2_with (first
          | (with_reducible change wpList _ _ _ (⟨some 94, Op.load _ _, _, _, _, _⟩ :: _) _ _
             go_must (refine wpList_load_var 23 _ rfl rfl w.heap.size (gC g) _ _ rfl H12.out.2.2.1 Try.underlying23 rfl size_geo ?_)))
        refine (clear_ok H12.out.1.at_ g ep HM.out (by have := H12.out.2.2.2.2; omega) H12.out.2.2.2.1).mono ?_
        rintro r w13 ⟨now13, l13, T13, rfl, h13, hT13, hn13⟩
        have hB13 : Blk w13 w.heap.size 23 (gC g) := H12.out.2.2.1.mod hT13.md (fun hin => by have h1 := H12.out.1.fr _ (inA_of hin); have h2 := H9.out.2.lt; omega)
        have j13 := H12.out.2.1.cto hT13
        have M13 := (H12.out.1.step h13 hT13).md
        have H13 := Lib.hid (And.intro j13 (And.intro hB13 M13))
        clear h13 hT13 hn13 hB13 j13 M13 H12
        go_wp2_with (first
          | (with_reducible change wpList _ _ _ (⟨some 97, Op.load _ _, _, _, _, _⟩ :: _) _ _
             go_must (refine wpList_load_var 23 _ rfl rfl w.heap.size (gC g) _ _ rfl H13.out.2.1 Try.underlying23 rfl size_geo ?_)))
        refine (rmay_any g ep N _).mono ?_
        rintro r w14 ⟨rfl, m14⟩
        have H14 := Lib.hid (And.intro (H13.out.1.nn m14) (H13.out.2.2.nn_ m14))
        clear m14 H13
        (try dsimp only); (try go_simp); repeat' (first | ((fail_if_success (with_reducible change Oper.wp _ ⟨some 124, _, _, _, _, _⟩ _ _ _ _)); first | go_values | go_skip | go_guarded | go_step | go_upon | go_back))
        refine wp_valJ (exec_make1 (P := Try.prog) 38 _ _ rfl 5 (.int .u8 0) 1 Try.underlying38 info_byte rfl 32769 32769 rfl rfl (Nat.le_refl _) (by omega) (by omega)) ?_
        have bM := Blk.new w14 5 (Array.replicate 32769 (.int .u8 0))
        have mM : Mod Nn w14 (w14.alloc (.cells (Array.replicate 32769 (.int .u8 0)) 5)) := (Mod.refl Nn w14).alloc _
        have HMM := Lib.hid (And.intro bM mM)
        clear bM mM
        go_wp2_with fail
        refine (append_long (Dt := List.replicate 32769 0) (H14.out.1.s.mod HMM.out.2 (fun f => f)) (rd_zeros HMM.out.1) (rep_lt _) HM.out.2.1 HM.out.2.2.1 (seq := 0) (by omega) (by omega)).mono ?_
        rintro r w15 ⟨rfl, m15⟩
        go_wp2
        go_ret
        exact ⟨rfl, H9.out.1.nn_ ((H14.out.2.nn_ HMM.out.2).nn_ m15)⟩
      · have hdm : decide (jmay g ep N) = false := decide_eq_false hm
        have HM := Lib.hid hm
        clear hm
        go_wp2_with (first
          | (with_reducible change wpList _ _ _ (⟨some 87, Op.load _ _, _, _, _, _⟩ :: _) _ _
             go_must (refine wpList_load_var 23 _ rfl rfl w.heap.size (gC g) _ _ rfl HO.out.2 Try.underlying23 rfl size_geo ?_)))
        refine (open_no HO.out.1.at_ g ep HM.out).mono ?_
        rintro r w12 ⟨rfl, m12⟩
        have H12 := Lib.hid (And.intro (HO.out.1.quiet m12) (HO.out.2.mod m12 (fun f => f)))
        clear m12 HO
        go_wp2_with (first
          | (with_reducible change wpList _ _ _ (⟨some 94, Op.load _ _, _, _, _, _⟩ :: _) _ _
             go_must (refine wpList_load_var 23 _ rfl rfl w.heap.size (gC g) _ _ rfl H12.out.2 Try.underlying23 rfl size_geo ?_)))
        refine (clear_no H12.out.1.at_ g ep HM.out).mono ?_
        rintro r w13 ⟨rfl, m13⟩
        have H13 := Lib.hid (And.intro (H12.out.1.quiet m13).md (H12.out.2.mod m13 (fun f => f)))
        clear m13 H12
        go_wp2_with (first
          | (with_reducible change wpList _ _ _ (⟨some 97, Op.load _ _, _, _, _, _⟩ :: _) _ _
             go_must (refine wpList_load_var 23 _ rfl rfl w.heap.size (gC g) _ _ rfl H13.out.2 Try.underlying23 rfl size_geo ?_)))
        refine (rmay_any g ep N _).mono ?_
        rintro r w14 ⟨rfl, m14⟩
        have M14 := H13.out.1.nn_ m14
        clear m14
        go_wp2
        go_ret
        exact ⟨rfl, H9.out.1.nn_ M14⟩
end
end Go.Proofs.Ytijmkbhbpbkkoaa
