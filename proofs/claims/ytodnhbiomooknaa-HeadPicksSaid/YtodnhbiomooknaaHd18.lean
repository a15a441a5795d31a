/- peatbanklaw12.HeadPicks (printed by wip/gen/hdpicks.py). -/
import Derived.Test.YtodnhbiomooknaaHd17
namespace Go.Proofs.Ytodnhbiomooknaa
open Go.RowKit

section
variable {w : World}
set_option maxRecDepth 100000 in
set_option maxHeartbeats 12800000 in
theorem hpicks_any (a b : Hd) (w : World) : Calls Try.prog 5 #[hdV a, hdV b] w fun r w' => r = .returned (.bool true) ∧ Mod Nn w w' := by
  unfold hdV
  have m0 : Mod Nn w ((w.alloc (.cells (hC a) 28)).alloc (.cells (hC b) 28)) := ((Mod.refl Nn w).alloc _).alloc _
  have b0 : Blk ((w.alloc (.cells (hC a) 28)).alloc (.cells (hC b) 28)) w.heap.size 28 (hC a) := (Blk.new w _ _).alloc _
  have b1 : Blk ((w.alloc (.cells (hC a) 28)).alloc (.cells (hC b) 28)) (w.heap.size + 1) 28 (hC b) := by
    have := Blk.new (w.alloc (.cells (hC a) 28)) 28 (hC b)
    have e : (w.alloc (.cells (hC a) 28)).heap.size = w.heap.size + 1 := by simp
    rwa [e] at this
  have H0 := Lib.hid (And.intro m0 (And.intro b0 b1))
  clear m0 b0 b1
  by_cases ra : a.right
  case neg =>
    go_enter Try.func5, Try.ntmps5
    go_wp2_with fail
    refine (hd_awake _).mono ?_
    rintro r w1 ⟨rfl, m1⟩
    have H1 := Lib.hid (And.intro (H0.out.1.nn_ m1) (And.intro (H0.out.2.1.mod m1 (fun f => f)) (H0.out.2.2.mod m1 (fun f => f))))
    clear m1 H0
    go_wp2_with (first
      | (with_reducible change wpList _ _ _ (⟨some 22, Op.load _ _, _, _, _, _⟩ :: _) _ _
         go_must (refine wpList_load_var 28 _ rfl rfl w.heap.size (hC a) _ _ rfl H1.out.2.1 Try.underlying28 rfl size_head ?_))
    )
    refine (hput_wrong ra _).mono ?_
    rintro r w2 ⟨v2, rfl, m2⟩
    have H2 := Lib.hid (And.intro (H1.out.1.nn_ m2) (And.intro (H1.out.2.1.mod m2 (fun f => f)) (H1.out.2.2.mod m2 (fun f => f))))
    clear m2 H1
    go_wp2_with (first
      | (with_reducible change wpList _ _ _ (⟨some 27, Op.load _ _, _, _, _, _⟩ :: _) _ _
         go_must (refine wpList_load_var 28 _ rfl rfl (w.heap.size + 1) (hC b) _ _ rfl H2.out.2.2 Try.underlying28 rfl size_head ?_))
    )
    refine (hput_any b _).mono ?_
    rintro r w3 ⟨A3, c3, rfl, -, m3⟩
    have H3 := Lib.hid (H2.out.1.nn_ m3)
    clear m3
    go_wp2
    go_ret
    exact ⟨rfl, H3.out⟩
  have HRA := Lib.hid ra
  clear ra
  by_cases rb : b.right
  case neg =>
    go_enter Try.func5, Try.ntmps5
    go_wp2_with fail
    refine (hd_awake _).mono ?_
    rintro r w1 ⟨rfl, m1⟩
    have H1 := Lib.hid (And.intro (H0.out.1.nn_ m1) (And.intro (H0.out.2.1.mod m1 (fun f => f)) (H0.out.2.2.mod m1 (fun f => f))))
    clear m1 H0
    go_wp2_with (first
      | (with_reducible change wpList _ _ _ (⟨some 22, Op.load _ _, _, _, _, _⟩ :: _) _ _
         go_must (refine wpList_load_var 28 _ rfl rfl w.heap.size (hC a) _ _ rfl H1.out.2.1 Try.underlying28 rfl size_head ?_))
    )
    refine (hput_right HRA.out _).mono ?_
    rintro r w2 ⟨g2, c2, rfl, r2, hc2, hm2, m2⟩
    have HC2 := Lib.hid (And.intro hc2 hm2)
    have H2 := Lib.hid (And.intro (H1.out.1.nn_ m2) (And.intro (H1.out.2.1.mod m2 (fun f => f)) (And.intro (H1.out.2.2.mod m2 (fun f => f)) (r2))))
    clear m2 r2 H1
    clear hm2
    go_wp2_with (first
      | (with_reducible change wpList _ _ _ (⟨some 27, Op.load _ _, _, _, _, _⟩ :: _) _ _
         go_must (refine wpList_load_var 28 _ rfl rfl (w.heap.size + 1) (hC b) _ _ rfl H2.out.2.2.1 Try.underlying28 rfl size_head ?_))
    )
    refine (hput_wrong rb _).mono ?_
    rintro r w3 ⟨v3, rfl, m3⟩
    have H3 := Lib.hid (H2.out.1.nn_ m3)
    clear m3
    go_wp2
    go_ret
    exact ⟨rfl, H3.out⟩
  have HRB := Lib.hid rb
  clear rb
  have HG := Lib.hid (And.intro (hget_bytes HRA.out) (hget_bytes HRB.out))
  have hva := right_v HRA.out
  have hvb := right_v HRB.out
  by_cases hn : a.n = b.n
  case pos =>
    have HPK := Lib.hid (And.intro (show hpick a 0 b 0 = (a, 0) from by unfold hpick; rw [if_neg (fun e => e.2.elim (fun x => x rfl) (fun x => by omega)), if_pos rfl]) (show hpick b 0 a 0 = (b, 0) from by unfold hpick; rw [if_neg (fun e => e.2.elim (fun x => x rfl) (fun x => by omega)), if_pos rfl]))
    go_enter Try.func5, Try.ntmps5
    go_wp2_with fail
    refine (hd_awake _).mono ?_
    rintro r w1 ⟨rfl, m1⟩
    have H1 := Lib.hid (And.intro (H0.out.1.nn_ m1) (And.intro (H0.out.2.1.mod m1 (fun f => f)) (H0.out.2.2.mod m1 (fun f => f))))
    clear m1 H0
    go_wp2_with (first
      | (with_reducible change wpList _ _ _ (⟨some 22, Op.load _ _, _, _, _, _⟩ :: _) _ _
         go_must (refine wpList_load_var 28 _ rfl rfl w.heap.size (hC a) _ _ rfl H1.out.2.1 Try.underlying28 rfl size_head ?_))
    )
    refine (hput_right HRA.out _).mono ?_
    rintro r w2 ⟨g2, c2, rfl, r2, hc2, hm2, m2⟩
    have HC2 := Lib.hid (And.intro hc2 hm2)
    have H2 := Lib.hid (And.intro (H1.out.1.nn_ m2) (And.intro (H1.out.2.1.mod m2 (fun f => f)) (And.intro (H1.out.2.2.mod m2 (fun f => f)) (r2))))
    clear m2 r2 H1
    clear hm2
    go_wp2_with (first
      | (with_reducible change wpList _ _ _ (⟨some 27, Op.load _ _, _, _, _, _⟩ :: _) _ _
         go_must (refine wpList_load_var 28 _ rfl rfl (w.heap.size + 1) (hC b) _ _ rfl H2.out.2.2.1 Try.underlying28 rfl size_head ?_))
    )
    refine (hput_right HRB.out _).mono ?_
    rintro r w3 ⟨g3, c3, rfl, r3, hc3, hm3, m3⟩
    have HC3 := Lib.hid (And.intro hc3 hm3)
    have H3 := Lib.hid (And.intro (H2.out.1.nn_ m3) (And.intro (H2.out.2.1.mod m3 (fun f => f)) (And.intro (H2.out.2.2.1.mod m3 (fun f => f)) (And.intro (H2.out.2.2.2.mod m3 (fun _ _ f => f)) (r3)))))
    clear m3 r3 H2
    clear hm3
    go_wp2_with fail
    refine (hpick_any HG.out.1 HG.out.2 H3.out.2.2.2.1 (a.fr.bytes_lt a.data_lt) (by omega) HC2.out.1 HC2.out.2 H3.out.2.2.2.2 (b.fr.bytes_lt b.data_lt) (by omega) HC3.out.1 HC3.out.2).mono ?_
    rintro r w4 ⟨rfl, m4⟩
    rw [HPK.out.1]
    dsimp only
    have H4 := Lib.hid (And.intro (H3.out.1.nn_ m4) (And.intro (H3.out.2.1.mod m4 (fun f => f)) (And.intro (H3.out.2.2.1.mod m4 (fun f => f)) (And.intro (H3.out.2.2.2.1.mod m4 (fun _ _ f => f)) (H3.out.2.2.2.2.mod m4 (fun _ _ f => f))))))
    clear m4 H3
    go_wp2_with (first
      | (with_reducible change wpList _ _ _ (⟨some 9, Op.alloc _, _, _, _, _⟩ :: _) _ _
         go_must (refine wpList_alloc_var 28 rfl rfl zero_head ?_)
         intro wa ba ma za
         clear za
         have HA := Lib.hid (And.intro ba ma)
         clear ba ma)
      | (with_reducible change wpList _ _ _ (⟨none, Op.store _ (Operand.tmp 9) _, _, _, _, _⟩ :: _) _ _
         go_must (refine wpList_store_var 28 _ _ rfl rfl w4.heap.size (hC a) _ _ rfl rfl HA.out.1 size_head rfl (hC_one _) ?_)
         intro w5 bb mb zb
         clear zb
         have mm := HA.out.2.new_ mb (Nat.le_refl _)
         have hszw5 : w4.heap.size < w5.heap.size := bb.lt
         have H5 := Lib.hid (And.intro (H4.out.1.nn_ mm) (And.intro (H4.out.2.1.mod mm (fun f => f)) (And.intro (H4.out.2.2.1.mod mm (fun f => f)) (And.intro (H4.out.2.2.2.1.mod mm (fun _ _ f => f)) (And.intro (H4.out.2.2.2.2.mod mm (fun _ _ f => f)) (bb))))))
         clear bb mb mm HA H4)
    )
    refine (hpick_any HG.out.2 HG.out.1 H5.out.2.2.2.2.1 (b.fr.bytes_lt b.data_lt) (by omega) HC3.out.1 HC3.out.2 H5.out.2.2.2.1 (a.fr.bytes_lt a.data_lt) (by omega) HC2.out.1 HC2.out.2).mono ?_
    rintro r w6 ⟨rfl, m6⟩
    rw [HPK.out.2]
    dsimp only
    have hw6 := m6.size
    have H6 := Lib.hid (And.intro (H5.out.1.nn_ m6) (And.intro (H5.out.2.1.mod m6 (fun f => f)) (And.intro (H5.out.2.2.1.mod m6 (fun f => f)) (And.intro (H5.out.2.2.2.1.mod m6 (fun _ _ f => f)) (And.intro (H5.out.2.2.2.2.1.mod m6 (fun _ _ f => f)) (H5.out.2.2.2.2.2.mod m6 (fun f => f)))))))
    clear m6 H5
    generalize w4.heap.size = b9 at *
    go_wp2_with (first
      | (with_reducible change wpList _ _ _ (⟨some 11, Op.alloc _, _, _, _, _⟩ :: _) _ _
         go_must (refine wpList_alloc_var 28 rfl rfl zero_head ?_)
         intro wa ba ma za
         clear za
         have HA := Lib.hid (And.intro ba ma)
         clear ba ma)
      | (with_reducible change wpList _ _ _ (⟨none, Op.store _ (Operand.tmp 11) _, _, _, _, _⟩ :: _) _ _
         go_must (refine wpList_store_var 28 _ _ rfl rfl w6.heap.size (hC b) _ _ rfl rfl HA.out.1 size_head rfl (hC_one _) ?_)
         intro w7 bb mb zb
         clear zb
         have mm := HA.out.2.new_ mb (Nat.le_refl _)
         have hszw7 : w6.heap.size < w7.heap.size := bb.lt
         have H7 := Lib.hid (And.intro (H6.out.1.nn_ mm) (And.intro (H6.out.2.1.mod mm (fun f => f)) (And.intro (H6.out.2.2.1.mod mm (fun f => f)) (And.intro (H6.out.2.2.2.1.mod mm (fun _ _ f => f)) (And.intro (H6.out.2.2.2.2.1.mod mm (fun _ _ f => f)) (And.intro (H6.out.2.2.2.2.2.mod mm (fun f => f)) (bb)))))))
         clear bb mb mm HA H6)
      | (with_reducible change wpList _ _ _ (⟨some 60, Op.slice _ _ _ _ _, _, _, _, _⟩ :: _) _ _
         go_must (refine wpList_sub_h 22 _ _ rfl rfl 5 1 Try.underlying22 size_u8' (h := 511) rfl rfl (by omega) ?_)
         rw [subA_zero]))
    have hr5 := (H7.out.2.2.2.2.1).pre (c := c3) 511 (by omega) (by omega)
    have e5 : (bv b.fr.bytes).take 511 = bv (b.fr.bytes.take 511) := by unfold bv; rw [← List.map_take]
    rw [e5, subA_zero] at hr5
    refine (hpick_any HG.out.1 not_cut H7.out.2.2.2.1 (a.fr.bytes_lt a.data_lt) (by omega) HC2.out.1 HC2.out.2 hr5 (fun z hz => b.fr.bytes_lt b.data_lt z (List.mem_of_mem_take hz)) (by omega) (by omega) HC3.out.2).mono ?_
    rintro r w8 ⟨rfl, m8⟩
    rw [show hpick a 0 hd0 4 = (a, 0) from by unfold hpick; rw [if_neg (by rintro ⟨e, _⟩; exact absurd e (by decide)), if_pos rfl]]
    dsimp only
    have hw8 := m8.size
    clear hr5 e5
    have H8 := Lib.hid (And.intro (H7.out.1.nn_ m8) (And.intro (H7.out.2.1.mod m8 (fun f => f)) (And.intro (H7.out.2.2.1.mod m8 (fun f => f)) (And.intro (H7.out.2.2.2.1.mod m8 (fun _ _ f => f)) (And.intro (H7.out.2.2.2.2.1.mod m8 (fun _ _ f => f)) (And.intro (H7.out.2.2.2.2.2.1.mod m8 (fun f => f)) (H7.out.2.2.2.2.2.2.mod m8 (fun f => f))))))))
    clear m8 H7
    generalize w6.heap.size = b11 at *
    go_wp2_with (first
      | (with_reducible change wpList _ _ _ (⟨some 13, Op.alloc _, _, _, _, _⟩ :: _) _ _
         go_must (refine wpList_alloc_var 28 rfl rfl zero_head ?_)
         intro wa ba ma za
         clear za
         have HA := Lib.hid (And.intro ba ma)
         clear ba ma)
      | (with_reducible change wpList _ _ _ (⟨none, Op.store _ (Operand.tmp 13) _, _, _, _, _⟩ :: _) _ _
         go_must (refine wpList_store_var 28 _ _ rfl rfl w8.heap.size (hC a) _ _ rfl rfl HA.out.1 size_head rfl (hC_one _) ?_)
         intro w9 bb mb zb
         clear zb
         have mm := HA.out.2.new_ mb (Nat.le_refl _)
         have hszw9 : w8.heap.size < w9.heap.size := bb.lt
         have H9 := Lib.hid (And.intro (H8.out.1.nn_ mm) (And.intro (H8.out.2.1.mod mm (fun f => f)) (And.intro (H8.out.2.2.1.mod mm (fun f => f)) (And.intro (H8.out.2.2.2.1.mod mm (fun _ _ f => f)) (And.intro (H8.out.2.2.2.2.1.mod mm (fun _ _ f => f)) (And.intro (H8.out.2.2.2.2.2.1.mod mm (fun f => f)) (And.intro (H8.out.2.2.2.2.2.2.mod mm (fun f => f)) (bb))))))))
         clear bb mb mm HA H8)
    )
    refine (hpick_any hget_nil HG.out.2 (Rd.nil _ _) (fun z hz => by cases hz) (by omega) (Nat.le_refl _) (by unfold maxLen; omega) H9.out.2.2.2.2.1 (b.fr.bytes_lt b.data_lt) (by omega) HC3.out.1 HC3.out.2).mono ?_
    rintro r w10 ⟨rfl, m10⟩
    rw [show hpick hd0 4 b 0 = (b, 1) from if_pos ⟨rfl, .inl (by decide)⟩]
    dsimp only
    have hw10 := m10.size
    have H10 := Lib.hid (And.intro (H9.out.1.nn_ m10) (And.intro (H9.out.2.1.mod m10 (fun f => f)) (And.intro (H9.out.2.2.1.mod m10 (fun f => f)) (And.intro (H9.out.2.2.2.1.mod m10 (fun _ _ f => f)) (And.intro (H9.out.2.2.2.2.1.mod m10 (fun _ _ f => f)) (And.intro (H9.out.2.2.2.2.2.1.mod m10 (fun f => f)) (And.intro (H9.out.2.2.2.2.2.2.1.mod m10 (fun f => f)) (H9.out.2.2.2.2.2.2.2.mod m10 (fun f => f)))))))))
    clear m10 H9
    generalize w8.heap.size = b13 at *
    go_wp2_with (first
      | (with_reducible change wpList _ _ _ (⟨some 15, Op.alloc _, _, _, _, _⟩ :: _) _ _
         go_must (refine wpList_alloc_var 28 rfl rfl zero_head ?_)
         intro wa ba ma za
         clear za
         have HA := Lib.hid (And.intro ba ma)
         clear ba ma)
      | (with_reducible change wpList _ _ _ (⟨none, Op.store _ (Operand.tmp 15) _, _, _, _, _⟩ :: _) _ _
         go_must (refine wpList_store_var 28 _ _ rfl rfl w10.heap.size (hC b) _ _ rfl rfl HA.out.1 size_head rfl (hC_one _) ?_)
         intro w11 bb mb zb
         clear zb
         have mm := HA.out.2.new_ mb (Nat.le_refl _)
         have hszw11 : w10.heap.size < w11.heap.size := bb.lt
         have H11 := Lib.hid (And.intro (H10.out.1.nn_ mm) (And.intro (H10.out.2.1.mod mm (fun f => f)) (And.intro (H10.out.2.2.1.mod mm (fun f => f)) (And.intro (H10.out.2.2.2.1.mod mm (fun _ _ f => f)) (And.intro (H10.out.2.2.2.2.1.mod mm (fun _ _ f => f)) (And.intro (H10.out.2.2.2.2.2.1.mod mm (fun f => f)) (And.intro (H10.out.2.2.2.2.2.2.1.mod mm (fun f => f)) (And.intro (H10.out.2.2.2.2.2.2.2.mod mm (fun f => f)) (bb)))))))))
         have P0 : w11.cell? ⟨w10.heap.size, 0, none⟩ = some (.int .i64 b.g.v) := H11.out.2.2.2.2.2.2.2.2.cell 0
         have P1 : w11.cell? ⟨w10.heap.size, 1, none⟩ = some (.int .i64 b.g.S) := H11.out.2.2.2.2.2.2.2.2.cell 1
         have P2 : w11.cell? ⟨w10.heap.size, 2, none⟩ = some (.int .i64 b.g.s) := H11.out.2.2.2.2.2.2.2.2.cell 2
         have P3 : w11.cell? ⟨w10.heap.size, 3, none⟩ = some (.int .i64 b.g.u) := H11.out.2.2.2.2.2.2.2.2.cell 3
         have P4 : w11.cell? ⟨w10.heap.size, 4, none⟩ = some (.int .i64 b.g.j) := H11.out.2.2.2.2.2.2.2.2.cell 4
         have P5 : w11.cell? ⟨w10.heap.size, 5, none⟩ = some (.int .i64 b.n) := H11.out.2.2.2.2.2.2.2.2.cell 5
         have P6 : w11.cell? ⟨w10.heap.size, 6, none⟩ = some (.int .i64 b.p) := H11.out.2.2.2.2.2.2.2.2.cell 6
         have P7 : w11.cell? ⟨w10.heap.size, 7, none⟩ = some (.int .i64 b.r) := H11.out.2.2.2.2.2.2.2.2.cell 7
         have P8 : w11.cell? ⟨w10.heap.size, 8, none⟩ = some (.int .i64 b.k) := H11.out.2.2.2.2.2.2.2.2.cell 8
         have B0 : w11.cell? ⟨(w.heap.size + 1), 0, none⟩ = some (.int .i64 b.g.v) := H11.out.2.2.1.cell 0
         have B1 : w11.cell? ⟨(w.heap.size + 1), 1, none⟩ = some (.int .i64 b.g.S) := H11.out.2.2.1.cell 1
         have B2 : w11.cell? ⟨(w.heap.size + 1), 2, none⟩ = some (.int .i64 b.g.s) := H11.out.2.2.1.cell 2
         have B3 : w11.cell? ⟨(w.heap.size + 1), 3, none⟩ = some (.int .i64 b.g.u) := H11.out.2.2.1.cell 3
         have B4 : w11.cell? ⟨(w.heap.size + 1), 4, none⟩ = some (.int .i64 b.g.j) := H11.out.2.2.1.cell 4
         have B5 : w11.cell? ⟨(w.heap.size + 1), 5, none⟩ = some (.int .i64 b.n) := H11.out.2.2.1.cell 5
         have B6 : w11.cell? ⟨(w.heap.size + 1), 6, none⟩ = some (.int .i64 b.p) := H11.out.2.2.1.cell 6
         have B7 : w11.cell? ⟨(w.heap.size + 1), 7, none⟩ = some (.int .i64 b.r) := H11.out.2.2.1.cell 7
         have B8 : w11.cell? ⟨(w.heap.size + 1), 8, none⟩ = some (.int .i64 b.k) := H11.out.2.2.1.cell 8
         have Q0 : w11.cell? ⟨w.heap.size, 0, none⟩ = some (.int .i64 a.g.v) := H11.out.2.1.cell 0
         have Q1 : w11.cell? ⟨w.heap.size, 1, none⟩ = some (.int .i64 a.g.S) := H11.out.2.1.cell 1
         have Q2 : w11.cell? ⟨w.heap.size, 2, none⟩ = some (.int .i64 a.g.s) := H11.out.2.1.cell 2
         have Q3 : w11.cell? ⟨w.heap.size, 3, none⟩ = some (.int .i64 a.g.u) := H11.out.2.1.cell 3
         have Q4 : w11.cell? ⟨w.heap.size, 4, none⟩ = some (.int .i64 a.g.j) := H11.out.2.1.cell 4
         have Q5 : w11.cell? ⟨w.heap.size, 5, none⟩ = some (.int .i64 a.n) := H11.out.2.1.cell 5
         have Q6 : w11.cell? ⟨w.heap.size, 6, none⟩ = some (.int .i64 a.p) := H11.out.2.1.cell 6
         have Q7 : w11.cell? ⟨w.heap.size, 7, none⟩ = some (.int .i64 a.r) := H11.out.2.1.cell 7
         have Q8 : w11.cell? ⟨w.heap.size, 8, none⟩ = some (.int .i64 a.k) := H11.out.2.1.cell 8
         have I0 : w11.cell? ⟨b11, 0, none⟩ = some (.int .i64 b.g.v) := H11.out.2.2.2.2.2.2.1.cell 0
         have I1 : w11.cell? ⟨b11, 1, none⟩ = some (.int .i64 b.g.S) := H11.out.2.2.2.2.2.2.1.cell 1
         have I2 : w11.cell? ⟨b11, 2, none⟩ = some (.int .i64 b.g.s) := H11.out.2.2.2.2.2.2.1.cell 2
         have I3 : w11.cell? ⟨b11, 3, none⟩ = some (.int .i64 b.g.u) := H11.out.2.2.2.2.2.2.1.cell 3
         have I4 : w11.cell? ⟨b11, 4, none⟩ = some (.int .i64 b.g.j) := H11.out.2.2.2.2.2.2.1.cell 4
         have I5 : w11.cell? ⟨b11, 5, none⟩ = some (.int .i64 b.n) := H11.out.2.2.2.2.2.2.1.cell 5
         have I6 : w11.cell? ⟨b11, 6, none⟩ = some (.int .i64 b.p) := H11.out.2.2.2.2.2.2.1.cell 6
         have I7 : w11.cell? ⟨b11, 7, none⟩ = some (.int .i64 b.r) := H11.out.2.2.2.2.2.2.1.cell 7
         have I8 : w11.cell? ⟨b11, 8, none⟩ = some (.int .i64 b.k) := H11.out.2.2.2.2.2.2.1.cell 8
         clear bb mb mm HA H10)
      | (with_reducible change wpList _ _ _ (⟨some 69, Op.load _ _, _, _, _, _⟩ :: _) _ _
         go_must (refine wpList_load_var 28 _ rfl rfl b13 #[.int .i64 a.g.v, .int .i64 a.g.S, .int .i64 a.g.s, .int .i64 a.g.u, .int .i64 a.g.j, .int .i64 a.n, .int .i64 a.p, .int .i64 a.r, .int .i64 a.k] _ _ rfl H11.out.2.2.2.2.2.2.2.1 Try.underlying28 rfl size_head ?_))
      | (with_reducible change wpList _ _ _ (⟨some 70, Op.load _ _, _, _, _, _⟩ :: _) _ _
         go_must (refine wpList_load_var 28 _ rfl rfl w.heap.size #[.int .i64 a.g.v, .int .i64 a.g.S, .int .i64 a.g.s, .int .i64 a.g.u, .int .i64 a.g.j, .int .i64 a.n, .int .i64 a.p, .int .i64 a.r, .int .i64 a.k] _ _ rfl H11.out.2.1 Try.underlying28 rfl size_head ?_))
      | (with_reducible change wpList _ _ _ (⟨some 90, Op.load _ _, _, _, _, _⟩ :: _) _ _
         go_must (refine wpList_load_var 28 _ rfl rfl b9 #[.int .i64 a.g.v, .int .i64 a.g.S, .int .i64 a.g.s, .int .i64 a.g.u, .int .i64 a.g.j, .int .i64 a.n, .int .i64 a.p, .int .i64 a.r, .int .i64 a.k] _ _ rfl H11.out.2.2.2.2.2.1 Try.underlying28 rfl size_head ?_))
      | (with_reducible change wpList _ _ _ (⟨some 91, Op.load _ _, _, _, _, _⟩ :: _) _ _
         go_must (refine wpList_load_var 28 _ rfl rfl w.heap.size #[.int .i64 a.g.v, .int .i64 a.g.S, .int .i64 a.g.s, .int .i64 a.g.u, .int .i64 a.g.j, .int .i64 a.n, .int .i64 a.p, .int .i64 a.r, .int .i64 a.k] _ _ rfl H11.out.2.1 Try.underlying28 rfl size_head ?_)))
    go_ret
    exact ⟨rfl, H11.out.1⟩
  by_cases hlt : a.n < b.n
  case pos =>
    have hgt : b.n > a.n := hlt
    have HPK := Lib.hid (And.intro (show hpick a 0 b 0 = (b, 1) from if_pos ⟨rfl, .inr hlt⟩) (show hpick b 0 a 0 = (b, 0) from by unfold hpick; rw [if_neg (fun e => e.2.elim (fun x => x rfl) (fun x => by omega)), if_pos rfl]))
    go_enter Try.func5, Try.ntmps5
    go_wp2_with fail
    refine (hd_awake _).mono ?_
    rintro r w1 ⟨rfl, m1⟩
    have H1 := Lib.hid (And.intro (H0.out.1.nn_ m1) (And.intro (H0.out.2.1.mod m1 (fun f => f)) (H0.out.2.2.mod m1 (fun f => f))))
    clear m1 H0
    go_wp2_with (first
      | (with_reducible change wpList _ _ _ (⟨some 22, Op.load _ _, _, _, _, _⟩ :: _) _ _
         go_must (refine wpList_load_var 28 _ rfl rfl w.heap.size (hC a) _ _ rfl H1.out.2.1 Try.underlying28 rfl size_head ?_))
    )
    refine (hput_right HRA.out _).mono ?_
    rintro r w2 ⟨g2, c2, rfl, r2, hc2, hm2, m2⟩
    have HC2 := Lib.hid (And.intro hc2 hm2)
    have H2 := Lib.hid (And.intro (H1.out.1.nn_ m2) (And.intro (H1.out.2.1.mod m2 (fun f => f)) (And.intro (H1.out.2.2.mod m2 (fun f => f)) (r2))))
    clear m2 r2 H1
    clear hm2
    go_wp2_with (first
      | (with_reducible change wpList _ _ _ (⟨some 27, Op.load _ _, _, _, _, _⟩ :: _) _ _
         go_must (refine wpList_load_var 28 _ rfl rfl (w.heap.size + 1) (hC b) _ _ rfl H2.out.2.2.1 Try.underlying28 rfl size_head ?_))
    )
    refine (hput_right HRB.out _).mono ?_
    rintro r w3 ⟨g3, c3, rfl, r3, hc3, hm3, m3⟩
    have HC3 := Lib.hid (And.intro hc3 hm3)
    have H3 := Lib.hid (And.intro (H2.out.1.nn_ m3) (And.intro (H2.out.2.1.mod m3 (fun f => f)) (And.intro (H2.out.2.2.1.mod m3 (fun f => f)) (And.intro (H2.out.2.2.2.mod m3 (fun _ _ f => f)) (r3)))))
    clear m3 r3 H2
    clear hm3
    go_wp2_with fail
    refine (hpick_any HG.out.1 HG.out.2 H3.out.2.2.2.1 (a.fr.bytes_lt a.data_lt) (by omega) HC2.out.1 HC2.out.2 H3.out.2.2.2.2 (b.fr.bytes_lt b.data_lt) (by omega) HC3.out.1 HC3.out.2).mono ?_
    rintro r w4 ⟨rfl, m4⟩
    rw [HPK.out.1]
    dsimp only
    have H4 := Lib.hid (And.intro (H3.out.1.nn_ m4) (And.intro (H3.out.2.1.mod m4 (fun f => f)) (And.intro (H3.out.2.2.1.mod m4 (fun f => f)) (And.intro (H3.out.2.2.2.1.mod m4 (fun _ _ f => f)) (H3.out.2.2.2.2.mod m4 (fun _ _ f => f))))))
    clear m4 H3
    go_wp2_with (first
      | (with_reducible change wpList _ _ _ (⟨some 9, Op.alloc _, _, _, _, _⟩ :: _) _ _
         go_must (refine wpList_alloc_var 28 rfl rfl zero_head ?_)
         intro wa ba ma za
         clear za
         have HA := Lib.hid (And.intro ba ma)
         clear ba ma)
      | (with_reducible change wpList _ _ _ (⟨none, Op.store _ (Operand.tmp 9) _, _, _, _, _⟩ :: _) _ _
         go_must (refine wpList_store_var 28 _ _ rfl rfl w4.heap.size (hC b) _ _ rfl rfl HA.out.1 size_head rfl (hC_one _) ?_)
         intro w5 bb mb zb
         clear zb
         have mm := HA.out.2.new_ mb (Nat.le_refl _)
         have hszw5 : w4.heap.size < w5.heap.size := bb.lt
         have H5 := Lib.hid (And.intro (H4.out.1.nn_ mm) (And.intro (H4.out.2.1.mod mm (fun f => f)) (And.intro (H4.out.2.2.1.mod mm (fun f => f)) (And.intro (H4.out.2.2.2.1.mod mm (fun _ _ f => f)) (And.intro (H4.out.2.2.2.2.mod mm (fun _ _ f => f)) (bb))))))
         clear bb mb mm HA H4)
    )
    refine (hpick_any HG.out.2 HG.out.1 H5.out.2.2.2.2.1 (b.fr.bytes_lt b.data_lt) (by omega) HC3.out.1 HC3.out.2 H5.out.2.2.2.1 (a.fr.bytes_lt a.data_lt) (by omega) HC2.out.1 HC2.out.2).mono ?_
    rintro r w6 ⟨rfl, m6⟩
    rw [HPK.out.2]
    dsimp only
    have hw6 := m6.size
    have H6 := Lib.hid (And.intro (H5.out.1.nn_ m6) (And.intro (H5.out.2.1.mod m6 (fun f => f)) (And.intro (H5.out.2.2.1.mod m6 (fun f => f)) (And.intro (H5.out.2.2.2.1.mod m6 (fun _ _ f => f)) (And.intro (H5.out.2.2.2.2.1.mod m6 (fun _ _ f => f)) (H5.out.2.2.2.2.2.mod m6 (fun f => f)))))))
    clear m6 H5
    generalize w4.heap.size = b9 at *
    go_wp2_with (first
      | (with_reducible change wpList _ _ _ (⟨some 11, Op.alloc _, _, _, _, _⟩ :: _) _ _
         go_must (refine wpList_alloc_var 28 rfl rfl zero_head ?_)
         intro wa ba ma za
         clear za
         have HA := Lib.hid (And.intro ba ma)
         clear ba ma)
      | (with_reducible change wpList _ _ _ (⟨none, Op.store _ (Operand.tmp 11) _, _, _, _, _⟩ :: _) _ _
         go_must (refine wpList_store_var 28 _ _ rfl rfl w6.heap.size (hC b) _ _ rfl rfl HA.out.1 size_head rfl (hC_one _) ?_)
         intro w7 bb mb zb
         clear zb
         have mm := HA.out.2.new_ mb (Nat.le_refl _)
         have hszw7 : w6.heap.size < w7.heap.size := bb.lt
         have H7 := Lib.hid (And.intro (H6.out.1.nn_ mm) (And.intro (H6.out.2.1.mod mm (fun f => f)) (And.intro (H6.out.2.2.1.mod mm (fun f => f)) (And.intro (H6.out.2.2.2.1.mod mm (fun _ _ f => f)) (And.intro (H6.out.2.2.2.2.1.mod mm (fun _ _ f => f)) (And.intro (H6.out.2.2.2.2.2.mod mm (fun f => f)) (bb)))))))
         clear bb mb mm HA H6)
      | (with_reducible change wpList _ _ _ (⟨some 60, Op.slice _ _ _ _ _, _, _, _, _⟩ :: _) _ _
         go_must (refine wpList_sub_h 22 _ _ rfl rfl 5 1 Try.underlying22 size_u8' (h := 511) rfl rfl (by omega) ?_)
         rw [subA_zero]))
    have hr5 := (H7.out.2.2.2.2.1).pre (c := c3) 511 (by omega) (by omega)
    have e5 : (bv b.fr.bytes).take 511 = bv (b.fr.bytes.take 511) := by unfold bv; rw [← List.map_take]
    rw [e5, subA_zero] at hr5
    refine (hpick_any HG.out.1 not_cut H7.out.2.2.2.1 (a.fr.bytes_lt a.data_lt) (by omega) HC2.out.1 HC2.out.2 hr5 (fun z hz => b.fr.bytes_lt b.data_lt z (List.mem_of_mem_take hz)) (by omega) (by omega) HC3.out.2).mono ?_
    rintro r w8 ⟨rfl, m8⟩
    rw [show hpick a 0 hd0 4 = (a, 0) from by unfold hpick; rw [if_neg (by rintro ⟨e, _⟩; exact absurd e (by decide)), if_pos rfl]]
    dsimp only
    have hw8 := m8.size
    clear hr5 e5
    have H8 := Lib.hid (And.intro (H7.out.1.nn_ m8) (And.intro (H7.out.2.1.mod m8 (fun f => f)) (And.intro (H7.out.2.2.1.mod m8 (fun f => f)) (And.intro (H7.out.2.2.2.1.mod m8 (fun _ _ f => f)) (And.intro (H7.out.2.2.2.2.1.mod m8 (fun _ _ f => f)) (And.intro (H7.out.2.2.2.2.2.1.mod m8 (fun f => f)) (H7.out.2.2.2.2.2.2.mod m8 (fun f => f))))))))
    clear m8 H7
    generalize w6.heap.size = b11 at *
    go_wp2_with (first
      | (with_reducible change wpList _ _ _ (⟨some 13, Op.alloc _, _, _, _, _⟩ :: _) _ _
         go_must (refine wpList_alloc_var 28 rfl rfl zero_head ?_)
         intro wa ba ma za
         clear za
         have HA := Lib.hid (And.intro ba ma)
         clear ba ma)
      | (with_reducible change wpList _ _ _ (⟨none, Op.store _ (Operand.tmp 13) _, _, _, _, _⟩ :: _) _ _
         go_must (refine wpList_store_var 28 _ _ rfl rfl w8.heap.size (hC a) _ _ rfl rfl HA.out.1 size_head rfl (hC_one _) ?_)
         intro w9 bb mb zb
         clear zb
         have mm := HA.out.2.new_ mb (Nat.le_refl _)
         have hszw9 : w8.heap.size < w9.heap.size := bb.lt
         have H9 := Lib.hid (And.intro (H8.out.1.nn_ mm) (And.intro (H8.out.2.1.mod mm (fun f => f)) (And.intro (H8.out.2.2.1.mod mm (fun f => f)) (And.intro (H8.out.2.2.2.1.mod mm (fun _ _ f => f)) (And.intro (H8.out.2.2.2.2.1.mod mm (fun _ _ f => f)) (And.intro (H8.out.2.2.2.2.2.1.mod mm (fun f => f)) (And.intro (H8.out.2.2.2.2.2.2.mod mm (fun f => f)) (bb))))))))
         clear bb mb mm HA H8)
    )
    refine (hpick_any hget_nil HG.out.2 (Rd.nil _ _) (fun z hz => by cases hz) (by omega) (Nat.le_refl _) (by unfold maxLen; omega) H9.out.2.2.2.2.1 (b.fr.bytes_lt b.data_lt) (by omega) HC3.out.1 HC3.out.2).mono ?_
    rintro r w10 ⟨rfl, m10⟩
    rw [show hpick hd0 4 b 0 = (b, 1) from if_pos ⟨rfl, .inl (by decide)⟩]
    dsimp only
    have hw10 := m10.size
    have H10 := Lib.hid (And.intro (H9.out.1.nn_ m10) (And.intro (H9.out.2.1.mod m10 (fun f => f)) (And.intro (H9.out.2.2.1.mod m10 (fun f => f)) (And.intro (H9.out.2.2.2.1.mod m10 (fun _ _ f => f)) (And.intro (H9.out.2.2.2.2.1.mod m10 (fun _ _ f => f)) (And.intro (H9.out.2.2.2.2.2.1.mod m10 (fun f => f)) (And.intro (H9.out.2.2.2.2.2.2.1.mod m10 (fun f => f)) (H9.out.2.2.2.2.2.2.2.mod m10 (fun f => f)))))))))
    clear m10 H9
    generalize w8.heap.size = b13 at *
    go_wp2_with (first
      | (with_reducible change wpList _ _ _ (⟨some 15, Op.alloc _, _, _, _, _⟩ :: _) _ _
         go_must (refine wpList_alloc_var 28 rfl rfl zero_head ?_)
         intro wa ba ma za
         clear za
         have HA := Lib.hid (And.intro ba ma)
         clear ba ma)
      | (with_reducible change wpList _ _ _ (⟨none, Op.store _ (Operand.tmp 15) _, _, _, _, _⟩ :: _) _ _
         go_must (refine wpList_store_var 28 _ _ rfl rfl w10.heap.size (hC b) _ _ rfl rfl HA.out.1 size_head rfl (hC_one _) ?_)
         intro w11 bb mb zb
         clear zb
         have mm := HA.out.2.new_ mb (Nat.le_refl _)
         have hszw11 : w10.heap.size < w11.heap.size := bb.lt
         have H11 := Lib.hid (And.intro (H10.out.1.nn_ mm) (And.intro (H10.out.2.1.mod mm (fun f => f)) (And.intro (H10.out.2.2.1.mod mm (fun f => f)) (And.intro (H10.out.2.2.2.1.mod mm (fun _ _ f => f)) (And.intro (H10.out.2.2.2.2.1.mod mm (fun _ _ f => f)) (And.intro (H10.out.2.2.2.2.2.1.mod mm (fun f => f)) (And.intro (H10.out.2.2.2.2.2.2.1.mod mm (fun f => f)) (And.intro (H10.out.2.2.2.2.2.2.2.mod mm (fun f => f)) (bb)))))))))
         have P0 : w11.cell? ⟨w10.heap.size, 0, none⟩ = some (.int .i64 b.g.v) := H11.out.2.2.2.2.2.2.2.2.cell 0
         have P1 : w11.cell? ⟨w10.heap.size, 1, none⟩ = some (.int .i64 b.g.S) := H11.out.2.2.2.2.2.2.2.2.cell 1
         have P2 : w11.cell? ⟨w10.heap.size, 2, none⟩ = some (.int .i64 b.g.s) := H11.out.2.2.2.2.2.2.2.2.cell 2
         have P3 : w11.cell? ⟨w10.heap.size, 3, none⟩ = some (.int .i64 b.g.u) := H11.out.2.2.2.2.2.2.2.2.cell 3
         have P4 : w11.cell? ⟨w10.heap.size, 4, none⟩ = some (.int .i64 b.g.j) := H11.out.2.2.2.2.2.2.2.2.cell 4
         have P5 : w11.cell? ⟨w10.heap.size, 5, none⟩ = some (.int .i64 b.n) := H11.out.2.2.2.2.2.2.2.2.cell 5
         have P6 : w11.cell? ⟨w10.heap.size, 6, none⟩ = some (.int .i64 b.p) := H11.out.2.2.2.2.2.2.2.2.cell 6
         have P7 : w11.cell? ⟨w10.heap.size, 7, none⟩ = some (.int .i64 b.r) := H11.out.2.2.2.2.2.2.2.2.cell 7
         have P8 : w11.cell? ⟨w10.heap.size, 8, none⟩ = some (.int .i64 b.k) := H11.out.2.2.2.2.2.2.2.2.cell 8
         have B0 : w11.cell? ⟨(w.heap.size + 1), 0, none⟩ = some (.int .i64 b.g.v) := H11.out.2.2.1.cell 0
         have B1 : w11.cell? ⟨(w.heap.size + 1), 1, none⟩ = some (.int .i64 b.g.S) := H11.out.2.2.1.cell 1
         have B2 : w11.cell? ⟨(w.heap.size + 1), 2, none⟩ = some (.int .i64 b.g.s) := H11.out.2.2.1.cell 2
         have B3 : w11.cell? ⟨(w.heap.size + 1), 3, none⟩ = some (.int .i64 b.g.u) := H11.out.2.2.1.cell 3
         have B4 : w11.cell? ⟨(w.heap.size + 1), 4, none⟩ = some (.int .i64 b.g.j) := H11.out.2.2.1.cell 4
         have B5 : w11.cell? ⟨(w.heap.size + 1), 5, none⟩ = some (.int .i64 b.n) := H11.out.2.2.1.cell 5
         have B6 : w11.cell? ⟨(w.heap.size + 1), 6, none⟩ = some (.int .i64 b.p) := H11.out.2.2.1.cell 6
         have B7 : w11.cell? ⟨(w.heap.size + 1), 7, none⟩ = some (.int .i64 b.r) := H11.out.2.2.1.cell 7
         have B8 : w11.cell? ⟨(w.heap.size + 1), 8, none⟩ = some (.int .i64 b.k) := H11.out.2.2.1.cell 8
         have Q0 : w11.cell? ⟨w.heap.size, 0, none⟩ = some (.int .i64 a.g.v) := H11.out.2.1.cell 0
         have Q1 : w11.cell? ⟨w.heap.size, 1, none⟩ = some (.int .i64 a.g.S) := H11.out.2.1.cell 1
         have Q2 : w11.cell? ⟨w.heap.size, 2, none⟩ = some (.int .i64 a.g.s) := H11.out.2.1.cell 2
         have Q3 : w11.cell? ⟨w.heap.size, 3, none⟩ = some (.int .i64 a.g.u) := H11.out.2.1.cell 3
         have Q4 : w11.cell? ⟨w.heap.size, 4, none⟩ = some (.int .i64 a.g.j) := H11.out.2.1.cell 4
         have Q5 : w11.cell? ⟨w.heap.size, 5, none⟩ = some (.int .i64 a.n) := H11.out.2.1.cell 5
         have Q6 : w11.cell? ⟨w.heap.size, 6, none⟩ = some (.int .i64 a.p) := H11.out.2.1.cell 6
         have Q7 : w11.cell? ⟨w.heap.size, 7, none⟩ = some (.int .i64 a.r) := H11.out.2.1.cell 7
         have Q8 : w11.cell? ⟨w.heap.size, 8, none⟩ = some (.int .i64 a.k) := H11.out.2.1.cell 8
         have I0 : w11.cell? ⟨b11, 0, none⟩ = some (.int .i64 b.g.v) := H11.out.2.2.2.2.2.2.1.cell 0
         have I1 : w11.cell? ⟨b11, 1, none⟩ = some (.int .i64 b.g.S) := H11.out.2.2.2.2.2.2.1.cell 1
         have I2 : w11.cell? ⟨b11, 2, none⟩ = some (.int .i64 b.g.s) := H11.out.2.2.2.2.2.2.1.cell 2
         have I3 : w11.cell? ⟨b11, 3, none⟩ = some (.int .i64 b.g.u) := H11.out.2.2.2.2.2.2.1.cell 3
         have I4 : w11.cell? ⟨b11, 4, none⟩ = some (.int .i64 b.g.j) := H11.out.2.2.2.2.2.2.1.cell 4
         have I5 : w11.cell? ⟨b11, 5, none⟩ = some (.int .i64 b.n) := H11.out.2.2.2.2.2.2.1.cell 5
         have I6 : w11.cell? ⟨b11, 6, none⟩ = some (.int .i64 b.p) := H11.out.2.2.2.2.2.2.1.cell 6
         have I7 : w11.cell? ⟨b11, 7, none⟩ = some (.int .i64 b.r) := H11.out.2.2.2.2.2.2.1.cell 7
         have I8 : w11.cell? ⟨b11, 8, none⟩ = some (.int .i64 b.k) := H11.out.2.2.2.2.2.2.1.cell 8
         clear bb mb mm HA H10)
      | (with_reducible change wpList _ _ _ (⟨some 69, Op.load _ _, _, _, _, _⟩ :: _) _ _
         go_must (refine wpList_load_var 28 _ rfl rfl b13 #[.int .i64 a.g.v, .int .i64 a.g.S, .int .i64 a.g.s, .int .i64 a.g.u, .int .i64 a.g.j, .int .i64 a.n, .int .i64 a.p, .int .i64 a.r, .int .i64 a.k] _ _ rfl H11.out.2.2.2.2.2.2.2.1 Try.underlying28 rfl size_head ?_))
      | (with_reducible change wpList _ _ _ (⟨some 70, Op.load _ _, _, _, _, _⟩ :: _) _ _
         go_must (refine wpList_load_var 28 _ rfl rfl w.heap.size #[.int .i64 a.g.v, .int .i64 a.g.S, .int .i64 a.g.s, .int .i64 a.g.u, .int .i64 a.g.j, .int .i64 a.n, .int .i64 a.p, .int .i64 a.r, .int .i64 a.k] _ _ rfl H11.out.2.1 Try.underlying28 rfl size_head ?_))
      | (with_reducible change wpList _ _ _ (⟨some 106, Op.load _ _, _, _, _, _⟩ :: _) _ _
         go_must (refine wpList_load_var 28 _ rfl rfl w.heap.size (hC a) _ _ rfl H11.out.2.1 Try.underlying28 rfl size_head ?_))
      | (with_reducible change wpList _ _ _ (⟨some 17, Op.alloc _, _, _, _, _⟩ :: _) _ _
         go_must (refine wpList_alloc_var 28 rfl rfl zero_head ?_)
         intro wa ba ma za
         clear za
         have HA := Lib.hid (And.intro ba ma)
         clear ba ma)
      | (with_reducible change wpList _ _ _ (⟨none, Op.store _ (Operand.tmp 17) (Operand.tmp 106), _, _, _, _⟩ :: _) _ _
         go_must (refine wpList_store_var 28 _ _ rfl rfl w11.heap.size (hC a) _ _ rfl rfl HA.out.1 size_head rfl (hC_one _) ?_)
         intro w12 bb mb zb
         clear zb
         have mm := HA.out.2.new_ mb (Nat.le_refl _)
         have H12 := Lib.hid (And.intro (H11.out.1.nn_ mm) (And.intro (H11.out.2.1.mod mm (fun f => f)) (And.intro (H11.out.2.2.1.mod mm (fun f => f)) (And.intro (H11.out.2.2.2.1.mod mm (fun _ _ f => f)) (And.intro (H11.out.2.2.2.2.1.mod mm (fun _ _ f => f)) (And.intro (H11.out.2.2.2.2.2.1.mod mm (fun f => f)) (And.intro (H11.out.2.2.2.2.2.2.1.mod mm (fun f => f)) (And.intro (H11.out.2.2.2.2.2.2.2.1.mod mm (fun f => f)) (And.intro (H11.out.2.2.2.2.2.2.2.2.mod mm (fun f => f)) (bb))))))))))
         have A12 : w12.cell? ⟨w.heap.size, 5, none⟩ = some (.int .i64 a.n) := H12.out.2.1.cell 5
         have B12 : w12.cell? ⟨w.heap.size + 1, 5, none⟩ = some (.int .i64 b.n) := H12.out.2.2.1.cell 5
         clear bb mb mm HA)
      | (with_reducible change wpList _ _ _ (⟨some 112, Op.load _ _, _, _, _, _⟩ :: _) _ _
         go_must (refine wpList_load_var 28 _ rfl rfl (w.heap.size + 1) (hC b) _ _ rfl H12.out.2.2.1 Try.underlying28 rfl size_head ?_))
      | (with_reducible change wpList _ _ _ (⟨none, Op.store _ (Operand.tmp 17) (Operand.tmp 112), _, _, _, _⟩ :: _) _ _
         go_must (refine wpList_store_var 28 _ _ rfl rfl w11.heap.size (hC b) _ _ rfl rfl H12.out.2.2.2.2.2.2.2.2.2 size_head rfl (hC_one _) ?_)
         intro w13 bc mc zc
         clear zc
         have H13 := Lib.hid (And.intro (H12.out.1.new_ mc H11.out.1.size) (And.intro (H12.out.2.2.2.2.2.1.mod mc (fun e => by have e : b9 = w11.heap.size := e; omega)) (And.intro (H12.out.2.2.2.2.2.2.1.mod mc (fun e => by have e : b11 = w11.heap.size := e; omega)) bc)))
         have J0 : w13.cell? ⟨b11, 0, none⟩ = some (.int .i64 b.g.v) := H13.out.2.2.1.cell 0
         have J1 : w13.cell? ⟨b11, 1, none⟩ = some (.int .i64 b.g.S) := H13.out.2.2.1.cell 1
         have J2 : w13.cell? ⟨b11, 2, none⟩ = some (.int .i64 b.g.s) := H13.out.2.2.1.cell 2
         have J3 : w13.cell? ⟨b11, 3, none⟩ = some (.int .i64 b.g.u) := H13.out.2.2.1.cell 3
         have J4 : w13.cell? ⟨b11, 4, none⟩ = some (.int .i64 b.g.j) := H13.out.2.2.1.cell 4
         have J5 : w13.cell? ⟨b11, 5, none⟩ = some (.int .i64 b.n) := H13.out.2.2.1.cell 5
         have J6 : w13.cell? ⟨b11, 6, none⟩ = some (.int .i64 b.p) := H13.out.2.2.1.cell 6
         have J7 : w13.cell? ⟨b11, 7, none⟩ = some (.int .i64 b.r) := H13.out.2.2.1.cell 7
         have J8 : w13.cell? ⟨b11, 8, none⟩ = some (.int .i64 b.k) := H13.out.2.2.1.cell 8
         have W0 : w13.cell? ⟨w11.heap.size, 0, none⟩ = some (.int .i64 b.g.v) := H13.out.2.2.2.cell 0
         have W1 : w13.cell? ⟨w11.heap.size, 1, none⟩ = some (.int .i64 b.g.S) := H13.out.2.2.2.cell 1
         have W2 : w13.cell? ⟨w11.heap.size, 2, none⟩ = some (.int .i64 b.g.s) := H13.out.2.2.2.cell 2
         have W3 : w13.cell? ⟨w11.heap.size, 3, none⟩ = some (.int .i64 b.g.u) := H13.out.2.2.2.cell 3
         have W4 : w13.cell? ⟨w11.heap.size, 4, none⟩ = some (.int .i64 b.g.j) := H13.out.2.2.2.cell 4
         have W5 : w13.cell? ⟨w11.heap.size, 5, none⟩ = some (.int .i64 b.n) := H13.out.2.2.2.cell 5
         have W6 : w13.cell? ⟨w11.heap.size, 6, none⟩ = some (.int .i64 b.p) := H13.out.2.2.2.cell 6
         have W7 : w13.cell? ⟨w11.heap.size, 7, none⟩ = some (.int .i64 b.r) := H13.out.2.2.2.cell 7
         have W8 : w13.cell? ⟨w11.heap.size, 8, none⟩ = some (.int .i64 b.k) := H13.out.2.2.2.cell 8
         clear bc mc)
      | (with_reducible change wpList _ _ _ (⟨some 113, Op.load _ _, _, _, _, _⟩ :: _) _ _
         go_must (refine wpList_load_var 28 _ rfl rfl b9 #[.int .i64 b.g.v, .int .i64 b.g.S, .int .i64 b.g.s, .int .i64 b.g.u, .int .i64 b.g.j, .int .i64 b.n, .int .i64 b.p, .int .i64 b.r, .int .i64 b.k] _ _ rfl H13.out.2.1 Try.underlying28 rfl size_head ?_))
      | (with_reducible change wpList _ _ _ (⟨some 114, Op.load _ _, _, _, _, _⟩ :: _) _ _
         go_must (refine wpList_load_var 28 _ rfl rfl w11.heap.size #[.int .i64 b.g.v, .int .i64 b.g.S, .int .i64 b.g.s, .int .i64 b.g.u, .int .i64 b.g.j, .int .i64 b.n, .int .i64 b.p, .int .i64 b.r, .int .i64 b.k] _ _ rfl H13.out.2.2.2 Try.underlying28 rfl size_head ?_)))
    go_ret
    exact ⟨rfl, H13.out.1⟩
  have hgt : ¬ b.n > a.n := by omega
  have HPK := Lib.hid (And.intro (show hpick a 0 b 0 = (a, 0) from by unfold hpick; rw [if_neg (fun e => e.2.elim (fun x => x rfl) (fun x => by omega)), if_pos rfl]) (show hpick b 0 a 0 = (a, 1) from if_pos ⟨rfl, .inr (by omega)⟩))
  go_enter Try.func5, Try.ntmps5
  go_wp2_with fail
  refine (hd_awake _).mono ?_
  rintro r w1 ⟨rfl, m1⟩
  have H1 := Lib.hid (And.intro (H0.out.1.nn_ m1) (And.intro (H0.out.2.1.mod m1 (fun f => f)) (H0.out.2.2.mod m1 (fun f => f))))
  clear m1 H0
  go_wp2_with (first
    | (with_reducible change wpList _ _ _ (⟨some 22, Op.load _ _, _, _, _, _⟩ :: _) _ _
       go_must (refine wpList_load_var 28 _ rfl rfl w.heap.size (hC a) _ _ rfl H1.out.2.1 Try.underlying28 rfl size_head ?_))
  )
  refine (hput_right HRA.out _).mono ?_
  rintro r w2 ⟨g2, c2, rfl, r2, hc2, hm2, m2⟩
  have HC2 := Lib.hid (And.intro hc2 hm2)
  have H2 := Lib.hid (And.intro (H1.out.1.nn_ m2) (And.intro (H1.out.2.1.mod m2 (fun f => f)) (And.intro (H1.out.2.2.mod m2 (fun f => f)) (r2))))
  clear m2 r2 H1
  clear hm2
  go_wp2_with (first
    | (with_reducible change wpList _ _ _ (⟨some 27, Op.load _ _, _, _, _, _⟩ :: _) _ _
       go_must (refine wpList_load_var 28 _ rfl rfl (w.heap.size + 1) (hC b) _ _ rfl H2.out.2.2.1 Try.underlying28 rfl size_head ?_))
  )
  refine (hput_right HRB.out _).mono ?_
  rintro r w3 ⟨g3, c3, rfl, r3, hc3, hm3, m3⟩
  have HC3 := Lib.hid (And.intro hc3 hm3)
  have H3 := Lib.hid (And.intro (H2.out.1.nn_ m3) (And.intro (H2.out.2.1.mod m3 (fun f => f)) (And.intro (H2.out.2.2.1.mod m3 (fun f => f)) (And.intro (H2.out.2.2.2.mod m3 (fun _ _ f => f)) (r3)))))
  clear m3 r3 H2
  clear hm3
  go_wp2_with fail
  refine (hpick_any HG.out.1 HG.out.2 H3.out.2.2.2.1 (a.fr.bytes_lt a.data_lt) (by omega) HC2.out.1 HC2.out.2 H3.out.2.2.2.2 (b.fr.bytes_lt b.data_lt) (by omega) HC3.out.1 HC3.out.2).mono ?_
  rintro r w4 ⟨rfl, m4⟩
  rw [HPK.out.1]
  dsimp only
  have H4 := Lib.hid (And.intro (H3.out.1.nn_ m4) (And.intro (H3.out.2.1.mod m4 (fun f => f)) (And.intro (H3.out.2.2.1.mod m4 (fun f => f)) (And.intro (H3.out.2.2.2.1.mod m4 (fun _ _ f => f)) (H3.out.2.2.2.2.mod m4 (fun _ _ f => f))))))
  clear m4 H3
  go_wp2_with (first
    | (with_reducible change wpList _ _ _ (⟨some 9, Op.alloc _, _, _, _, _⟩ :: _) _ _
       go_must (refine wpList_alloc_var 28 rfl rfl zero_head ?_)
       intro wa ba ma za
       clear za
       have HA := Lib.hid (And.intro ba ma)
       clear ba ma)
    | (with_reducible change wpList _ _ _ (⟨none, Op.store _ (Operand.tmp 9) _, _, _, _, _⟩ :: _) _ _
       go_must (refine wpList_store_var 28 _ _ rfl rfl w4.heap.size (hC a) _ _ rfl rfl HA.out.1 size_head rfl (hC_one _) ?_)
       intro w5 bb mb zb
       clear zb
       have mm := HA.out.2.new_ mb (Nat.le_refl _)
       have hszw5 : w4.heap.size < w5.heap.size := bb.lt
       have H5 := Lib.hid (And.intro (H4.out.1.nn_ mm) (And.intro (H4.out.2.1.mod mm (fun f => f)) (And.intro (H4.out.2.2.1.mod mm (fun f => f)) (And.intro (H4.out.2.2.2.1.mod mm (fun _ _ f => f)) (And.intro (H4.out.2.2.2.2.mod mm (fun _ _ f => f)) (bb))))))
       clear bb mb mm HA H4)
  )
  refine (hpick_any HG.out.2 HG.out.1 H5.out.2.2.2.2.1 (b.fr.bytes_lt b.data_lt) (by omega) HC3.out.1 HC3.out.2 H5.out.2.2.2.1 (a.fr.bytes_lt a.data_lt) (by omega) HC2.out.1 HC2.out.2).mono ?_
  rintro r w6 ⟨rfl, m6⟩
  rw [HPK.out.2]
  dsimp only
  have hw6 := m6.size
  have H6 := Lib.hid (And.intro (H5.out.1.nn_ m6) (And.intro (H5.out.2.1.mod m6 (fun f => f)) (And.intro (H5.out.2.2.1.mod m6 (fun f => f)) (And.intro (H5.out.2.2.2.1.mod m6 (fun _ _ f => f)) (And.intro (H5.out.2.2.2.2.1.mod m6 (fun _ _ f => f)) (H5.out.2.2.2.2.2.mod m6 (fun f => f)))))))
  clear m6 H5
  generalize w4.heap.size = b9 at *
  go_wp2_with (first
    | (with_reducible change wpList _ _ _ (⟨some 11, Op.alloc _, _, _, _, _⟩ :: _) _ _
       go_must (refine wpList_alloc_var 28 rfl rfl zero_head ?_)
       intro wa ba ma za
       clear za
       have HA := Lib.hid (And.intro ba ma)
       clear ba ma)
    | (with_reducible change wpList _ _ _ (⟨none, Op.store _ (Operand.tmp 11) _, _, _, _, _⟩ :: _) _ _
       go_must (refine wpList_store_var 28 _ _ rfl rfl w6.heap.size (hC a) _ _ rfl rfl HA.out.1 size_head rfl (hC_one _) ?_)
       intro w7 bb mb zb
       clear zb
       have mm := HA.out.2.new_ mb (Nat.le_refl _)
       have hszw7 : w6.heap.size < w7.heap.size := bb.lt
       have H7 := Lib.hid (And.intro (H6.out.1.nn_ mm) (And.intro (H6.out.2.1.mod mm (fun f => f)) (And.intro (H6.out.2.2.1.mod mm (fun f => f)) (And.intro (H6.out.2.2.2.1.mod mm (fun _ _ f => f)) (And.intro (H6.out.2.2.2.2.1.mod mm (fun _ _ f => f)) (And.intro (H6.out.2.2.2.2.2.mod mm (fun f => f)) (bb)))))))
       clear bb mb mm HA H6)
    | (with_reducible change wpList _ _ _ (⟨some 60, Op.slice _ _ _ _ _, _, _, _, _⟩ :: _) _ _
       go_must (refine wpList_sub_h 22 _ _ rfl rfl 5 1 Try.underlying22 size_u8' (h := 511) rfl rfl (by omega) ?_)
       rw [subA_zero]))
  have hr5 := (H7.out.2.2.2.2.1).pre (c := c3) 511 (by omega) (by omega)
  have e5 : (bv b.fr.bytes).take 511 = bv (b.fr.bytes.take 511) := by unfold bv; rw [← List.map_take]
  rw [e5, subA_zero] at hr5
  refine (hpick_any HG.out.1 not_cut H7.out.2.2.2.1 (a.fr.bytes_lt a.data_lt) (by omega) HC2.out.1 HC2.out.2 hr5 (fun z hz => b.fr.bytes_lt b.data_lt z (List.mem_of_mem_take hz)) (by omega) (by omega) HC3.out.2).mono ?_
  rintro r w8 ⟨rfl, m8⟩
  rw [show hpick a 0 hd0 4 = (a, 0) from by unfold hpick; rw [if_neg (by rintro ⟨e, _⟩; exact absurd e (by decide)), if_pos rfl]]
  dsimp only
  have hw8 := m8.size
  clear hr5 e5
  have H8 := Lib.hid (And.intro (H7.out.1.nn_ m8) (And.intro (H7.out.2.1.mod m8 (fun f => f)) (And.intro (H7.out.2.2.1.mod m8 (fun f => f)) (And.intro (H7.out.2.2.2.1.mod m8 (fun _ _ f => f)) (And.intro (H7.out.2.2.2.2.1.mod m8 (fun _ _ f => f)) (And.intro (H7.out.2.2.2.2.2.1.mod m8 (fun f => f)) (H7.out.2.2.2.2.2.2.mod m8 (fun f => f))))))))
  clear m8 H7
  generalize w6.heap.size = b11 at *
  go_wp2_with (first
    | (with_reducible change wpList _ _ _ (⟨some 13, Op.alloc _, _, _, _, _⟩ :: _) _ _
       go_must (refine wpList_alloc_var 28 rfl rfl zero_head ?_)
       intro wa ba ma za
       clear za
       have HA := Lib.hid (And.intro ba ma)
       clear ba ma)
    | (with_reducible change wpList _ _ _ (⟨none, Op.store _ (Operand.tmp 13) _, _, _, _, _⟩ :: _) _ _
       go_must (refine wpList_store_var 28 _ _ rfl rfl w8.heap.size (hC a) _ _ rfl rfl HA.out.1 size_head rfl (hC_one _) ?_)
       intro w9 bb mb zb
       clear zb
       have mm := HA.out.2.new_ mb (Nat.le_refl _)
       have hszw9 : w8.heap.size < w9.heap.size := bb.lt
       have H9 := Lib.hid (And.intro (H8.out.1.nn_ mm) (And.intro (H8.out.2.1.mod mm (fun f => f)) (And.intro (H8.out.2.2.1.mod mm (fun f => f)) (And.intro (H8.out.2.2.2.1.mod mm (fun _ _ f => f)) (And.intro (H8.out.2.2.2.2.1.mod mm (fun _ _ f => f)) (And.intro (H8.out.2.2.2.2.2.1.mod mm (fun f => f)) (And.intro (H8.out.2.2.2.2.2.2.mod mm (fun f => f)) (bb))))))))
       clear bb mb mm HA H8)
  )
  refine (hpick_any hget_nil HG.out.2 (Rd.nil _ _) (fun z hz => by cases hz) (by omega) (Nat.le_refl _) (by unfold maxLen; omega) H9.out.2.2.2.2.1 (b.fr.bytes_lt b.data_lt) (by omega) HC3.out.1 HC3.out.2).mono ?_
  rintro r w10 ⟨rfl, m10⟩
  rw [show hpick hd0 4 b 0 = (b, 1) from if_pos ⟨rfl, .inl (by decide)⟩]
  dsimp only
  have hw10 := m10.size
  have H10 := Lib.hid (And.intro (H9.out.1.nn_ m10) (And.intro (H9.out.2.1.mod m10 (fun f => f)) (And.intro (H9.out.2.2.1.mod m10 (fun f => f)) (And.intro (H9.out.2.2.2.1.mod m10 (fun _ _ f => f)) (And.intro (H9.out.2.2.2.2.1.mod m10 (fun _ _ f => f)) (And.intro (H9.out.2.2.2.2.2.1.mod m10 (fun f => f)) (And.intro (H9.out.2.2.2.2.2.2.1.mod m10 (fun f => f)) (H9.out.2.2.2.2.2.2.2.mod m10 (fun f => f)))))))))
  clear m10 H9
  generalize w8.heap.size = b13 at *
  go_wp2_with (first
    | (with_reducible change wpList _ _ _ (⟨some 15, Op.alloc _, _, _, _, _⟩ :: _) _ _
       go_must (refine wpList_alloc_var 28 rfl rfl zero_head ?_)
       intro wa ba ma za
       clear za
       have HA := Lib.hid (And.intro ba ma)
       clear ba ma)
    | (with_reducible change wpList _ _ _ (⟨none, Op.store _ (Operand.tmp 15) _, _, _, _, _⟩ :: _) _ _
       go_must (refine wpList_store_var 28 _ _ rfl rfl w10.heap.size (hC b) _ _ rfl rfl HA.out.1 size_head rfl (hC_one _) ?_)
       intro w11 bb mb zb
       clear zb
       have mm := HA.out.2.new_ mb (Nat.le_refl _)
       have hszw11 : w10.heap.size < w11.heap.size := bb.lt
       have H11 := Lib.hid (And.intro (H10.out.1.nn_ mm) (And.intro (H10.out.2.1.mod mm (fun f => f)) (And.intro (H10.out.2.2.1.mod mm (fun f => f)) (And.intro (H10.out.2.2.2.1.mod mm (fun _ _ f => f)) (And.intro (H10.out.2.2.2.2.1.mod mm (fun _ _ f => f)) (And.intro (H10.out.2.2.2.2.2.1.mod mm (fun f => f)) (And.intro (H10.out.2.2.2.2.2.2.1.mod mm (fun f => f)) (And.intro (H10.out.2.2.2.2.2.2.2.mod mm (fun f => f)) (bb)))))))))
       have P0 : w11.cell? ⟨w10.heap.size, 0, none⟩ = some (.int .i64 b.g.v) := H11.out.2.2.2.2.2.2.2.2.cell 0
       have P1 : w11.cell? ⟨w10.heap.size, 1, none⟩ = some (.int .i64 b.g.S) := H11.out.2.2.2.2.2.2.2.2.cell 1
       have P2 : w11.cell? ⟨w10.heap.size, 2, none⟩ = some (.int .i64 b.g.s) := H11.out.2.2.2.2.2.2.2.2.cell 2
       have P3 : w11.cell? ⟨w10.heap.size, 3, none⟩ = some (.int .i64 b.g.u) := H11.out.2.2.2.2.2.2.2.2.cell 3
       have P4 : w11.cell? ⟨w10.heap.size, 4, none⟩ = some (.int .i64 b.g.j) := H11.out.2.2.2.2.2.2.2.2.cell 4
       have P5 : w11.cell? ⟨w10.heap.size, 5, none⟩ = some (.int .i64 b.n) := H11.out.2.2.2.2.2.2.2.2.cell 5
       have P6 : w11.cell? ⟨w10.heap.size, 6, none⟩ = some (.int .i64 b.p) := H11.out.2.2.2.2.2.2.2.2.cell 6
       have P7 : w11.cell? ⟨w10.heap.size, 7, none⟩ = some (.int .i64 b.r) := H11.out.2.2.2.2.2.2.2.2.cell 7
       have P8 : w11.cell? ⟨w10.heap.size, 8, none⟩ = some (.int .i64 b.k) := H11.out.2.2.2.2.2.2.2.2.cell 8
       have B0 : w11.cell? ⟨(w.heap.size + 1), 0, none⟩ = some (.int .i64 b.g.v) := H11.out.2.2.1.cell 0
       have B1 : w11.cell? ⟨(w.heap.size + 1), 1, none⟩ = some (.int .i64 b.g.S) := H11.out.2.2.1.cell 1
       have B2 : w11.cell? ⟨(w.heap.size + 1), 2, none⟩ = some (.int .i64 b.g.s) := H11.out.2.2.1.cell 2
       have B3 : w11.cell? ⟨(w.heap.size + 1), 3, none⟩ = some (.int .i64 b.g.u) := H11.out.2.2.1.cell 3
       have B4 : w11.cell? ⟨(w.heap.size + 1), 4, none⟩ = some (.int .i64 b.g.j) := H11.out.2.2.1.cell 4
       have B5 : w11.cell? ⟨(w.heap.size + 1), 5, none⟩ = some (.int .i64 b.n) := H11.out.2.2.1.cell 5
       have B6 : w11.cell? ⟨(w.heap.size + 1), 6, none⟩ = some (.int .i64 b.p) := H11.out.2.2.1.cell 6
       have B7 : w11.cell? ⟨(w.heap.size + 1), 7, none⟩ = some (.int .i64 b.r) := H11.out.2.2.1.cell 7
       have B8 : w11.cell? ⟨(w.heap.size + 1), 8, none⟩ = some (.int .i64 b.k) := H11.out.2.2.1.cell 8
       have Q0 : w11.cell? ⟨w.heap.size, 0, none⟩ = some (.int .i64 a.g.v) := H11.out.2.1.cell 0
       have Q1 : w11.cell? ⟨w.heap.size, 1, none⟩ = some (.int .i64 a.g.S) := H11.out.2.1.cell 1
       have Q2 : w11.cell? ⟨w.heap.size, 2, none⟩ = some (.int .i64 a.g.s) := H11.out.2.1.cell 2
       have Q3 : w11.cell? ⟨w.heap.size, 3, none⟩ = some (.int .i64 a.g.u) := H11.out.2.1.cell 3
       have Q4 : w11.cell? ⟨w.heap.size, 4, none⟩ = some (.int .i64 a.g.j) := H11.out.2.1.cell 4
       have Q5 : w11.cell? ⟨w.heap.size, 5, none⟩ = some (.int .i64 a.n) := H11.out.2.1.cell 5
       have Q6 : w11.cell? ⟨w.heap.size, 6, none⟩ = some (.int .i64 a.p) := H11.out.2.1.cell 6
       have Q7 : w11.cell? ⟨w.heap.size, 7, none⟩ = some (.int .i64 a.r) := H11.out.2.1.cell 7
       have Q8 : w11.cell? ⟨w.heap.size, 8, none⟩ = some (.int .i64 a.k) := H11.out.2.1.cell 8
       have I0 : w11.cell? ⟨b11, 0, none⟩ = some (.int .i64 a.g.v) := H11.out.2.2.2.2.2.2.1.cell 0
       have I1 : w11.cell? ⟨b11, 1, none⟩ = some (.int .i64 a.g.S) := H11.out.2.2.2.2.2.2.1.cell 1
       have I2 : w11.cell? ⟨b11, 2, none⟩ = some (.int .i64 a.g.s) := H11.out.2.2.2.2.2.2.1.cell 2
       have I3 : w11.cell? ⟨b11, 3, none⟩ = some (.int .i64 a.g.u) := H11.out.2.2.2.2.2.2.1.cell 3
       have I4 : w11.cell? ⟨b11, 4, none⟩ = some (.int .i64 a.g.j) := H11.out.2.2.2.2.2.2.1.cell 4
       have I5 : w11.cell? ⟨b11, 5, none⟩ = some (.int .i64 a.n) := H11.out.2.2.2.2.2.2.1.cell 5
       have I6 : w11.cell? ⟨b11, 6, none⟩ = some (.int .i64 a.p) := H11.out.2.2.2.2.2.2.1.cell 6
       have I7 : w11.cell? ⟨b11, 7, none⟩ = some (.int .i64 a.r) := H11.out.2.2.2.2.2.2.1.cell 7
       have I8 : w11.cell? ⟨b11, 8, none⟩ = some (.int .i64 a.k) := H11.out.2.2.2.2.2.2.1.cell 8
       clear bb mb mm HA H10)
    | (with_reducible change wpList _ _ _ (⟨some 69, Op.load _ _, _, _, _, _⟩ :: _) _ _
       go_must (refine wpList_load_var 28 _ rfl rfl b13 #[.int .i64 a.g.v, .int .i64 a.g.S, .int .i64 a.g.s, .int .i64 a.g.u, .int .i64 a.g.j, .int .i64 a.n, .int .i64 a.p, .int .i64 a.r, .int .i64 a.k] _ _ rfl H11.out.2.2.2.2.2.2.2.1 Try.underlying28 rfl size_head ?_))
    | (with_reducible change wpList _ _ _ (⟨some 70, Op.load _ _, _, _, _, _⟩ :: _) _ _
       go_must (refine wpList_load_var 28 _ rfl rfl w.heap.size #[.int .i64 a.g.v, .int .i64 a.g.S, .int .i64 a.g.s, .int .i64 a.g.u, .int .i64 a.g.j, .int .i64 a.n, .int .i64 a.p, .int .i64 a.r, .int .i64 a.k] _ _ rfl H11.out.2.1 Try.underlying28 rfl size_head ?_))
    | (with_reducible change wpList _ _ _ (⟨some 106, Op.load _ _, _, _, _, _⟩ :: _) _ _
       go_must (refine wpList_load_var 28 _ rfl rfl w.heap.size (hC a) _ _ rfl H11.out.2.1 Try.underlying28 rfl size_head ?_))
    | (with_reducible change wpList _ _ _ (⟨some 17, Op.alloc _, _, _, _, _⟩ :: _) _ _
       go_must (refine wpList_alloc_var 28 rfl rfl zero_head ?_)
       intro wa ba ma za
       clear za
       have HA := Lib.hid (And.intro ba ma)
       clear ba ma)
    | (with_reducible change wpList _ _ _ (⟨none, Op.store _ (Operand.tmp 17) (Operand.tmp 106), _, _, _, _⟩ :: _) _ _
       go_must (refine wpList_store_var 28 _ _ rfl rfl w11.heap.size (hC a) _ _ rfl rfl HA.out.1 size_head rfl (hC_one _) ?_)
       intro w12 bb mb zb
       clear zb
       have mm := HA.out.2.new_ mb (Nat.le_refl _)
       have H12 := Lib.hid (And.intro (H11.out.1.nn_ mm) (And.intro (H11.out.2.1.mod mm (fun f => f)) (And.intro (H11.out.2.2.1.mod mm (fun f => f)) (And.intro (H11.out.2.2.2.1.mod mm (fun _ _ f => f)) (And.intro (H11.out.2.2.2.2.1.mod mm (fun _ _ f => f)) (And.intro (H11.out.2.2.2.2.2.1.mod mm (fun f => f)) (And.intro (H11.out.2.2.2.2.2.2.1.mod mm (fun f => f)) (And.intro (H11.out.2.2.2.2.2.2.2.1.mod mm (fun f => f)) (And.intro (H11.out.2.2.2.2.2.2.2.2.mod mm (fun f => f)) (bb))))))))))
       have A12 : w12.cell? ⟨w.heap.size, 5, none⟩ = some (.int .i64 a.n) := H12.out.2.1.cell 5
       have B12 : w12.cell? ⟨w.heap.size + 1, 5, none⟩ = some (.int .i64 b.n) := H12.out.2.2.1.cell 5
       have J0 : w12.cell? ⟨b11, 0, none⟩ = some (.int .i64 a.g.v) := H12.out.2.2.2.2.2.2.1.cell 0
       have J1 : w12.cell? ⟨b11, 1, none⟩ = some (.int .i64 a.g.S) := H12.out.2.2.2.2.2.2.1.cell 1
       have J2 : w12.cell? ⟨b11, 2, none⟩ = some (.int .i64 a.g.s) := H12.out.2.2.2.2.2.2.1.cell 2
       have J3 : w12.cell? ⟨b11, 3, none⟩ = some (.int .i64 a.g.u) := H12.out.2.2.2.2.2.2.1.cell 3
       have J4 : w12.cell? ⟨b11, 4, none⟩ = some (.int .i64 a.g.j) := H12.out.2.2.2.2.2.2.1.cell 4
       have J5 : w12.cell? ⟨b11, 5, none⟩ = some (.int .i64 a.n) := H12.out.2.2.2.2.2.2.1.cell 5
       have J6 : w12.cell? ⟨b11, 6, none⟩ = some (.int .i64 a.p) := H12.out.2.2.2.2.2.2.1.cell 6
       have J7 : w12.cell? ⟨b11, 7, none⟩ = some (.int .i64 a.r) := H12.out.2.2.2.2.2.2.1.cell 7
       have J8 : w12.cell? ⟨b11, 8, none⟩ = some (.int .i64 a.k) := H12.out.2.2.2.2.2.2.1.cell 8
       have W0 : w12.cell? ⟨w11.heap.size, 0, none⟩ = some (.int .i64 a.g.v) := H12.out.2.2.2.2.2.2.2.2.2.cell 0
       have W1 : w12.cell? ⟨w11.heap.size, 1, none⟩ = some (.int .i64 a.g.S) := H12.out.2.2.2.2.2.2.2.2.2.cell 1
       have W2 : w12.cell? ⟨w11.heap.size, 2, none⟩ = some (.int .i64 a.g.s) := H12.out.2.2.2.2.2.2.2.2.2.cell 2
       have W3 : w12.cell? ⟨w11.heap.size, 3, none⟩ = some (.int .i64 a.g.u) := H12.out.2.2.2.2.2.2.2.2.2.cell 3
       have W4 : w12.cell? ⟨w11.heap.size, 4, none⟩ = some (.int .i64 a.g.j) := H12.out.2.2.2.2.2.2.2.2.2.cell 4
       have W5 : w12.cell? ⟨w11.heap.size, 5, none⟩ = some (.int .i64 a.n) := H12.out.2.2.2.2.2.2.2.2.2.cell 5
       have W6 : w12.cell? ⟨w11.heap.size, 6, none⟩ = some (.int .i64 a.p) := H12.out.2.2.2.2.2.2.2.2.2.cell 6
       have W7 : w12.cell? ⟨w11.heap.size, 7, none⟩ = some (.int .i64 a.r) := H12.out.2.2.2.2.2.2.2.2.2.cell 7
       have W8 : w12.cell? ⟨w11.heap.size, 8, none⟩ = some (.int .i64 a.k) := H12.out.2.2.2.2.2.2.2.2.2.cell 8
       clear bb mb mm HA)
    | (with_reducible change wpList _ _ _ (⟨some 113, Op.load _ _, _, _, _, _⟩ :: _) _ _
       go_must (refine wpList_load_var 28 _ rfl rfl b9 #[.int .i64 a.g.v, .int .i64 a.g.S, .int .i64 a.g.s, .int .i64 a.g.u, .int .i64 a.g.j, .int .i64 a.n, .int .i64 a.p, .int .i64 a.r, .int .i64 a.k] _ _ rfl H12.out.2.2.2.2.2.1 Try.underlying28 rfl size_head ?_))
    | (with_reducible change wpList _ _ _ (⟨some 114, Op.load _ _, _, _, _, _⟩ :: _) _ _
       go_must (refine wpList_load_var 28 _ rfl rfl w11.heap.size #[.int .i64 a.g.v, .int .i64 a.g.S, .int .i64 a.g.s, .int .i64 a.g.u, .int .i64 a.g.j, .int .i64 a.n, .int .i64 a.p, .int .i64 a.r, .int .i64 a.k] _ _ rfl H12.out.2.2.2.2.2.2.2.2.2 Try.underlying28 rfl size_head ?_)))
  go_ret
  exact ⟨rfl, H12.out.1⟩
end
end Go.Proofs.Ytodnhbiomooknaa
