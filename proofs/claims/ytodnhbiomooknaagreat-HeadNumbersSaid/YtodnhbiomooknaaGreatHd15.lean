/- peatbanklaw12.HeadGets (printed by wip/gen/hdgets.py). -/
import Derived.Test.YtodnhbiomooknaaGreatHd14
import Derived.Test.YtodnhbiomooknaaGreatFrK0
namespace Go.Proofs.YtodnhbiomooknaaGreat
open Go.RowKit

section
variable {w : World} {A B : Option Addr} {n c m d : Nat} {la lb : List Nat}
set_option maxRecDepth 100000 in
set_option maxHeartbeats 12800000 in
theorem hgets_any (ra : Rd w A n (bv la)) (hla : ∀ z ∈ la, z < 256) (hc : n ≤ c) (hcm : c ≤ maxLen) (rb : Rd w B m (bv lb)) (hlb : ∀ z ∈ lb, z < 256) (hd : m ≤ d) (hdm : d ≤ maxLen) :
    Calls Tryz.prog 12 #[.slice A n c, .slice B m d] w fun r w' => r = .returned (.bool true) ∧ Mod Nn w w' := by
  by_cases h1 : 40000 < n
  · have d1 : (40000 : Int) < n := by omega
    go_enter Tryz.func12, Tryz.ntmps12
    go_wp2_with fail
    refine (hd_awake _).mono ?_
    rintro r w1 ⟨rfl, m1⟩
    go_wp2
    go_ret
    exact ⟨rfl, m1⟩
  have d1 : decide ((40000 : Int) < n) = false := decide_eq_false (by omega)
  by_cases h2 : 40000 < m
  · have d2 : (40000 : Int) < m := by omega
    go_enter Tryz.func12, Tryz.ntmps12
    go_wp2_with fail
    refine (hd_awake _).mono ?_
    rintro r w1 ⟨rfl, m1⟩
    go_wp2
    go_ret
    exact ⟨rfl, m1⟩
  have d2 : decide ((40000 : Int) < m) = false := decide_eq_false (by omega)
  have hLa : la.length = n := by have := ra.1; rwa [bv_len] at this
  have hLb : lb.length = m := by have := rb.1; rwa [bv_len] at this
  have HL := Lib.hid (And.intro hLa hLb)
  obtain ⟨x1, e1, G1⟩ := hget_of la
  obtain ⟨x2, e2, G2⟩ := hget_of lb
  have HG := Lib.hid (And.intro G1 G2)
  have HR := Lib.hid (And.intro ra (And.intro hla (And.intro hc (And.intro hcm (And.intro rb (And.intro hlb (And.intro hd hdm)))))))
  clear ra hla hc hcm rb hlb hd hdm hLa hLb G1 G2
  go_enter Tryz.func12, Tryz.ntmps12
  go_wp2_with fail
  refine (lentb_any HR.out.1 (by omega)).mono ?_
  rintro r w1 ⟨g1, rfl, b1, m1, -⟩
  have H1 := Lib.hid (And.intro m1 b1)
  clear m1 b1
  go_wp2_with fail
  refine (lentb_any (HR.out.2.2.2.2.1.mod H1.out.1 (fun _ _ f => f)) (by omega)).mono ?_
  rintro r w2 ⟨g2, rfl, b2, m2, -⟩
  have H2 := Lib.hid (And.intro (H1.out.1.nn_ m2) (And.intro (H1.out.2.mod m2 (fun f => f)) (b2)))
  clear m2 b2 H1
  go_wp2_with fail
  refine (hget_any (w := w2) (l := la) HG.out.1 (lent_rd H2.out.2.1 HL.out.1) HR.out.2.1 (by omega) (by omega) (by unfold maxLen; omega)).mono ?_
  rintro r w3 ⟨rfl, m3⟩
  have H3 := Lib.hid (And.intro (H2.out.1.nn_ m3) (And.intro (H2.out.2.1.mod m3 (fun f => f)) (H2.out.2.2.mod m3 (fun f => f))))
  clear m3 H2
  go_wp2_with (first
  | (with_reducible change wpList _ _ _ (⟨some 7, Op.alloc _, _, _, _, _⟩ :: _) _ _
     go_must (refine wpList_alloc_var 25 rfl rfl zero_head ?_)
     intro wa ba ma za
     clear za
     have HA := Lib.hid (And.intro ba ma)
     clear ba ma)
  | (with_reducible change wpList _ _ _ (⟨none, Op.store _ (Operand.tmp 7) _, _, _, _, _⟩ :: _) _ _
     go_must (refine wpList_store_var 25 _ _ rfl rfl w3.heap.size (hC x1) _ _ rfl rfl HA.out.1 size_head rfl (hC_one _) ?_)
     intro wb bb mb zb
     clear zb
     have mm := HA.out.2.new_ mb (Nat.le_refl _)
     have hszwb : w3.heap.size < wb.heap.size := bb.lt
     have H4 := Lib.hid (And.intro (H3.out.1.nn_ mm) (And.intro (H3.out.2.1.mod mm (fun f => f)) (And.intro (H3.out.2.2.mod mm (fun f => f)) (bb))))
     clear bb mb mm HA H3))
  refine (rhget_any (w := wb) HG.out.1 (HR.out.1.mod H4.out.1 (fun _ _ f => f)) HR.out.2.1 (by omega) HR.out.2.2.1 HR.out.2.2.2.1).mono ?_
  rintro r w5 ⟨rfl, m5⟩
  have hw5 := m5.size
  have H5 := Lib.hid (And.intro (H4.out.1.nn_ m5) (And.intro (H4.out.2.1.mod m5 (fun f => f)) (And.intro (H4.out.2.2.1.mod m5 (fun f => f)) (H4.out.2.2.2.mod m5 (fun f => f)))))
  clear m5 H4
  go_wp2_with (first
  | (with_reducible change wpList _ _ _ (⟨some 9, Op.alloc _, _, _, _, _⟩ :: _) _ _
     go_must (refine wpList_alloc_var 25 rfl rfl zero_head ?_)
     intro wa ba ma za
     clear za
     have HA := Lib.hid (And.intro ba ma)
     clear ba ma)
  | (with_reducible change wpList _ _ _ (⟨none, Op.store _ (Operand.tmp 9) _, _, _, _, _⟩ :: _) _ _
     go_must (refine wpList_store_var 25 _ _ rfl rfl w5.heap.size (hC x1) _ _ rfl rfl HA.out.1 size_head rfl (hC_one _) ?_)
     intro wc bb mb zb
     clear zb
     have mm := HA.out.2.new_ mb (Nat.le_refl _)
     have hszwc : w5.heap.size < wc.heap.size := bb.lt
     have H6 := Lib.hid (And.intro (H5.out.1.nn_ mm) (And.intro (H5.out.2.1.mod mm (fun f => f)) (And.intro (H5.out.2.2.1.mod mm (fun f => f)) (And.intro (H5.out.2.2.2.mod mm (fun f => f)) (bb)))))
     clear bb mb mm HA H5))
  generalize hx3 : (hpick x1 e1 x2 e2).1 = x3
  generalize hk3 : (hpick x1 e1 x2 e2).2 = k3
  have HX := Lib.hid (And.intro hx3 hk3)
  clear hx3 hk3
  refine (hpick_any (w := wc) HG.out.1 HG.out.2 (lent_rd H6.out.2.1 HL.out.1) HR.out.2.1 (by omega) (by omega) (by unfold maxLen; omega) (lent_rd H6.out.2.2.1 HL.out.2) HR.out.2.2.2.2.2.1 (by omega) (by omega) (by unfold maxLen; omega)).mono ?_
  rintro r w7 ⟨rfl, m7⟩
  rw [HX.out.1, HX.out.2]
  have hw7 := m7.size
  have H7 := Lib.hid (And.intro (H6.out.1.nn_ m7) (And.intro (H6.out.2.1.mod m7 (fun f => f)) (And.intro (H6.out.2.2.1.mod m7 (fun f => f)) (And.intro (H6.out.2.2.2.1.mod m7 (fun f => f)) (H6.out.2.2.2.2.mod m7 (fun f => f))))))
  clear m7 H6
  go_wp2_with (first
  | (with_reducible change wpList _ _ _ (⟨some 11, Op.alloc _, _, _, _, _⟩ :: _) _ _
     go_must (refine wpList_alloc_var 25 rfl rfl zero_head ?_)
     intro wa ba ma za
     clear za
     have HA := Lib.hid (And.intro ba ma)
     clear ba ma)
  | (with_reducible change wpList _ _ _ (⟨none, Op.store _ (Operand.tmp 11) _, _, _, _, _⟩ :: _) _ _
     go_must (refine wpList_store_var 25 _ _ rfl rfl w7.heap.size (hC x3) _ _ rfl rfl HA.out.1 size_head rfl (hC_one _) ?_)
     intro wd bb mb zb
     clear zb
     have mm := HA.out.2.new_ mb (Nat.le_refl _)
     have hszwd : w7.heap.size < wd.heap.size := bb.lt
     have H8 := Lib.hid (And.intro (H7.out.1.nn_ mm) (And.intro (H7.out.2.1.mod mm (fun f => f)) (And.intro (H7.out.2.2.1.mod mm (fun f => f)) (And.intro (H7.out.2.2.2.1.mod mm (fun f => f)) (And.intro (H7.out.2.2.2.2.mod mm (fun f => f)) (bb))))))
     clear bb mb mm HA H7))
  refine (rhpick_any (w := wd) HG.out.1 HG.out.2 (HR.out.1.mod H8.out.1 (fun _ _ f => f)) HR.out.2.1 (by omega) HR.out.2.2.1 HR.out.2.2.2.1 (HR.out.2.2.2.2.1.mod H8.out.1 (fun _ _ f => f)) HR.out.2.2.2.2.2.1 (by omega) HR.out.2.2.2.2.2.2.1 HR.out.2.2.2.2.2.2.2).mono ?_
  rintro r w9 ⟨rfl, m9⟩
  rw [HX.out.1, HX.out.2]
  have hw9 := m9.size
  have H9 := Lib.hid (And.intro (H8.out.1.nn_ m9) (And.intro (H8.out.2.1.mod m9 (fun f => f)) (And.intro (H8.out.2.2.1.mod m9 (fun f => f)) (And.intro (H8.out.2.2.2.1.mod m9 (fun f => f)) (And.intro (H8.out.2.2.2.2.1.mod m9 (fun f => f)) (H8.out.2.2.2.2.2.mod m9 (fun f => f)))))))
  clear m9 H8
  generalize w3.heap.size = b7 at *
  generalize w5.heap.size = b9 at *
  generalize w7.heap.size = b11 at *
  go_wp2_with (first
  | (with_reducible change wpList _ _ _ (⟨some 13, Op.alloc _, _, _, _, _⟩ :: _) _ _
     go_must (refine wpList_alloc_var 25 rfl rfl zero_head ?_)
     intro wa ba ma za
     clear za
     have HA := Lib.hid (And.intro ba ma)
     clear ba ma)
  | (with_reducible change wpList _ _ _ (⟨none, Op.store _ (Operand.tmp 13) _, _, _, _, _⟩ :: _) _ _
     go_must (refine wpList_store_var 25 _ _ rfl rfl w9.heap.size (hC x3) _ _ rfl rfl HA.out.1 size_head rfl (hC_one _) ?_)
     intro we bb mb zb
     clear zb
     have mm := HA.out.2.new_ mb (Nat.le_refl _)
     have hszwe : w9.heap.size < we.heap.size := bb.lt
     have H10 := Lib.hid (And.intro (H9.out.1.nn_ mm) (And.intro (H9.out.2.1.mod mm (fun f => f)) (And.intro (H9.out.2.2.1.mod mm (fun f => f)) (And.intro (H9.out.2.2.2.1.mod mm (fun f => f)) (And.intro (H9.out.2.2.2.2.1.mod mm (fun f => f)) (And.intro (H9.out.2.2.2.2.2.mod mm (fun f => f)) (bb)))))))
     clear bb mb mm HA H9)
  | (with_reducible change wpList _ _ _ (⟨some 50, Op.load _ _, _, _, _, _⟩ :: _) _ _
     have X0 : we.cell? ⟨b11, 0, none⟩ = some (.int .i64 x3.g.v) := H10.out.2.2.2.2.2.1.cell 0
     have Y0 : we.cell? ⟨w9.heap.size, 0, none⟩ = some (.int .i64 x3.g.v) := H10.out.2.2.2.2.2.2.cell 0
     have X1 : we.cell? ⟨b11, 1, none⟩ = some (.int .i64 x3.g.S) := H10.out.2.2.2.2.2.1.cell 1
     have Y1 : we.cell? ⟨w9.heap.size, 1, none⟩ = some (.int .i64 x3.g.S) := H10.out.2.2.2.2.2.2.cell 1
     have X2 : we.cell? ⟨b11, 2, none⟩ = some (.int .i64 x3.g.s) := H10.out.2.2.2.2.2.1.cell 2
     have Y2 : we.cell? ⟨w9.heap.size, 2, none⟩ = some (.int .i64 x3.g.s) := H10.out.2.2.2.2.2.2.cell 2
     have X3 : we.cell? ⟨b11, 3, none⟩ = some (.int .i64 x3.g.u) := H10.out.2.2.2.2.2.1.cell 3
     have Y3 : we.cell? ⟨w9.heap.size, 3, none⟩ = some (.int .i64 x3.g.u) := H10.out.2.2.2.2.2.2.cell 3
     have X4 : we.cell? ⟨b11, 4, none⟩ = some (.int .i64 x3.g.j) := H10.out.2.2.2.2.2.1.cell 4
     have Y4 : we.cell? ⟨w9.heap.size, 4, none⟩ = some (.int .i64 x3.g.j) := H10.out.2.2.2.2.2.2.cell 4
     have X5 : we.cell? ⟨b11, 5, none⟩ = some (.int .i64 x3.n) := H10.out.2.2.2.2.2.1.cell 5
     have Y5 : we.cell? ⟨w9.heap.size, 5, none⟩ = some (.int .i64 x3.n) := H10.out.2.2.2.2.2.2.cell 5
     have X6 : we.cell? ⟨b11, 6, none⟩ = some (.int .i64 x3.p) := H10.out.2.2.2.2.2.1.cell 6
     have Y6 : we.cell? ⟨w9.heap.size, 6, none⟩ = some (.int .i64 x3.p) := H10.out.2.2.2.2.2.2.cell 6
     have X7 : we.cell? ⟨b11, 7, none⟩ = some (.int .i64 x3.r) := H10.out.2.2.2.2.2.1.cell 7
     have Y7 : we.cell? ⟨w9.heap.size, 7, none⟩ = some (.int .i64 x3.r) := H10.out.2.2.2.2.2.2.cell 7
     have X8 : we.cell? ⟨b11, 8, none⟩ = some (.int .i64 x3.k) := H10.out.2.2.2.2.2.1.cell 8
     have Y8 : we.cell? ⟨w9.heap.size, 8, none⟩ = some (.int .i64 x3.k) := H10.out.2.2.2.2.2.2.cell 8
     go_must (refine wpList_load_var 25 _ rfl rfl b7 #[.int .i64 x1.g.v, .int .i64 x1.g.S, .int .i64 x1.g.s, .int .i64 x1.g.u, .int .i64 x1.g.j, .int .i64 x1.n, .int .i64 x1.p, .int .i64 x1.r, .int .i64 x1.k] _ _ rfl H10.out.2.2.2.1 Tryz.underlying25 rfl size_head ?_))
  | (with_reducible change wpList _ _ _ (⟨some 51, Op.load _ _, _, _, _, _⟩ :: _) _ _
     go_must (refine wpList_load_var 25 _ rfl rfl b9 #[.int .i64 x1.g.v, .int .i64 x1.g.S, .int .i64 x1.g.s, .int .i64 x1.g.u, .int .i64 x1.g.j, .int .i64 x1.n, .int .i64 x1.p, .int .i64 x1.r, .int .i64 x1.k] _ _ rfl H10.out.2.2.2.2.1 Tryz.underlying25 rfl size_head ?_))
  | ((with_reducible refine (keptb_any (HR.out.1.mod H10.out.1 (fun _ _ f => f)) H10.out.2.1 (by omega)).mono ?_); rintro r w11 ⟨rfl, m11⟩
     have H11 := Lib.hid (And.intro (H10.out.1.nn_ m11) (H10.out.2.2.1.mod m11 (fun f => f)))
     clear m11)
  | ((with_reducible refine (keptb_any (HR.out.2.2.2.2.1.mod H11.out.1 (fun _ _ f => f)) H11.out.2 (by omega)).mono ?_); rintro r w12 ⟨rfl, m12⟩
     have H12 := Lib.hid (H11.out.1.nn_ m12)
     clear m12)
  | ((with_reducible refine (hd_awake _).mono ?_); rintro r w13 ⟨rfl, m13⟩
     have H13 := Lib.hid (H12.out.nn_ m13)
     clear m13))
  go_ret
  exact ⟨rfl, H13.out⟩
end
end Go.Proofs.YtodnhbiomooknaaGreat
