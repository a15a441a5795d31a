/- head.Pick, peatbankref12.Pick (printed by wip/gen/hdpick.py). -/
import Derived.Test.YtodnhbiomooknaaGreatHd10
import Derived.Test.YtodnhbiomooknaaGreatHd11
namespace Go.Proofs.YtodnhbiomooknaaGreat
open Go.RowKit

section
variable {w : World} {A B : Option Addr} {n c m d : Nat} {la lb : List Nat}
theorem right_v {h : Hd} (hr : h.right) : 8 ≤ h.g.v := hr.1.1.1.1
set_option maxRecDepth 100000 in
set_option maxHeartbeats 12800000 in
theorem hpick_any {h1 h2 : Hd} {e1 e2 : Int} (G1 : HGet la h1 e1) (G2 : HGet lb h2 e2) (ra : Rd w A n (bv la)) (hla : ∀ z ∈ la, z < 256) (hn : n ≤ 140737488355328) (hc : n ≤ c) (hcm : c ≤ maxLen)
    (rb : Rd w B m (bv lb)) (hlb : ∀ z ∈ lb, z < 256) (hm : m ≤ 140737488355328) (hd : m ≤ d) (hdm : d ≤ maxLen) :
    Calls Tryz.prog 23 #[.slice A n c, .slice B m d] w fun r w' => r = .returned (.tuple #[hdV (hpick h1 e1 h2 e2).1, .int .i64 (hpick h1 e1 h2 e2).2]) ∧ Mod Nn w w' := by
  have HR := Lib.hid (And.intro ra (And.intro hla (And.intro hc (And.intro hcm (And.intro rb (And.intro hlb (And.intro hd hdm)))))))
  have HG := Lib.hid (And.intro G1 G2)
  have i1 := G1.iff
  have i2 := G2.iff
  clear ra hla hc hcm rb hlb hd hdm
  rcases i1.2.1 with rfl | rfl
  · have r1 := right_v (i1.2.2.1 rfl)
    have v1 : ¬ h1.g.v = 0 := by omega
    rcases i2.2.1 with rfl | rfl
    · have r2 := right_v (i2.2.2.1 rfl)
      have v2 : ¬ h2.g.v = 0 := by omega
      by_cases hlt : h1.n < h2.n
      · have t1 : h2.n > h1.n := hlt
        have t2 : ¬ h1.n ≥ h2.n := by omega
        rw [show hpick h1 0 h2 0 = (h2, 1) from if_pos ⟨rfl, .inr hlt⟩]
        clear i1 i2
        go_enter Tryz.func23, Tryz.ntmps23
        go_wp2_with (first
          | (with_reducible change wpList _ _ _ (⟨some 4, Op.alloc _, _, _, _, _⟩ :: _) _ _
             go_must (refine wpList_alloc_var 25 rfl rfl zero_head ?_)
             intro w1 b1 m1 z1
             clear z1
             have hw1 : w.heap.size < w1.heap.size := b1.lt
             have H1 := Lib.hid (And.intro m1 b1)
             clear b1 m1))
        refine (hget_any (w := w1) HG.out.1 (HR.out.1.mod H1.out.1 (fun _ _ f => f)) HR.out.2.1 (by omega) HR.out.2.2.1 HR.out.2.2.2.1).mono ?_
        rintro r w2 ⟨rfl, m2⟩
        have hw2 := m2.size
        have H2 := Lib.hid (And.intro (H1.out.1.nn_ m2) (H1.out.2.mod m2 (fun f => f)))
        clear m2 H1
        go_wp2_with (first
          | (with_reducible change wpList _ _ _ (⟨some 6, Op.alloc _, _, _, _, _⟩ :: _) _ _
             go_must (refine wpList_alloc_var 25 rfl rfl zero_head ?_)
             intro wa ba ma za
             clear za
             have HA := Lib.hid (And.intro ba ma)
             clear ba ma)
          | (with_reducible change wpList _ _ _ (⟨none, Op.store _ (.tmp 6) _, _, _, _, _⟩ :: _) _ _
             go_must (refine wpList_store_var 25 _ _ rfl rfl w2.heap.size (hC h1) _ _ rfl rfl HA.out.1 size_head rfl (hC_one _) ?_)
             intro wb bb mb zb
             clear zb
             have mm := HA.out.2.new_ mb (Nat.le_refl _)
             have H3 := Lib.hid (And.intro (H2.out.1.nn_ mm) (And.intro (H2.out.2.mod mm (fun f => f)) bb))
             have hwb : w2.heap.size < wb.heap.size := bb.lt
             clear bb mb mm HA H2))
        refine (hget_any (w := wb) HG.out.2 (HR.out.2.2.2.2.1.mod H3.out.1 (fun _ _ f => f)) HR.out.2.2.2.2.2.1 (by omega) HR.out.2.2.2.2.2.2.1 HR.out.2.2.2.2.2.2.2).mono ?_
        rintro r w4 ⟨rfl, m4⟩
        have hw4 := m4.size
        have H4 := Lib.hid (And.intro (H3.out.1.nn_ m4) (And.intro (H3.out.2.1.mod m4 (fun f => f)) (H3.out.2.2.mod m4 (fun f => f))))
        clear m4 H3
        generalize w2.heap.size = bx at *
        have hwx : w.heap.size < bx := by omega
        go_wp2_with (first
          | (with_reducible change wpList _ _ _ (⟨some 8, Op.alloc _, _, _, _, _⟩ :: _) _ _
             go_must (refine wpList_alloc_var 25 rfl rfl zero_head ?_)
             intro wa ba ma za
             clear za
             have HA := Lib.hid (And.intro ba ma)
             clear ba ma)
          | (with_reducible change wpList _ _ _ (⟨none, Op.store _ (.tmp 8) _, _, _, _, _⟩ :: _) _ _
             go_must (refine wpList_store_var 25 _ _ rfl rfl w4.heap.size (hC h2) _ _ rfl rfl HA.out.1 size_head rfl (hC_one _) ?_)
             intro wc bc mc zc
             clear zc
             have mm := HA.out.2.new_ mc (Nat.le_refl _)
             have H5 := Lib.hid (And.intro (H4.out.1.nn_ mm) (And.intro (H4.out.2.1.mod mm (fun f => f)) (And.intro (H4.out.2.2.mod mm (fun f => f)) bc)))
             have hwc : w4.heap.size < wc.heap.size := bc.lt
             clear bc mc mm HA H4)
          | (with_reducible change wpList _ _ _ (⟨some 10, Op.alloc _, _, _, _, _⟩ :: _) _ _
             go_must (refine wpList_alloc_var 25 rfl rfl zero_head ?_)
             intro wa ba ma za
             clear za
             have HA := Lib.hid (And.intro ba ma)
             clear ba ma)
          | (with_reducible change wpList _ _ _ (⟨none, Op.store _ (.tmp 10) _, _, _, _, _⟩ :: _) _ _
             go_must (refine wpList_store_var 25 _ _ rfl rfl wc.heap.size #[.int .i64 0, .int .i64 0, .int .i64 0, .int .i64 0, .int .i64 0, .int .i64 0, .int .i64 0, .int .i64 0, .int .i64 0] _ _ rfl rfl HA.out.1 size_head rfl (by simp [Value.oneCell']) ?_)
             intro wd bd md zd
             clear zd
             have mm := HA.out.2.new_ md (Nat.le_refl _)
             have H6 := Lib.hid (And.intro (H5.out.1.nn_ mm) (And.intro (H5.out.2.1.mod mm (fun f => f)) (And.intro (H5.out.2.2.1.mod mm (fun f => f)) (And.intro (H5.out.2.2.2.mod mm (fun f => f)) bd))))
             have hwd : wc.heap.size < wd.heap.size := bd.lt
             have X0 : wd.cell? ⟨bx, 0, none⟩ = some (.int .i64 h1.g.v) := H6.out.2.2.1.cell 0
             have X1 : wd.cell? ⟨bx, 1, none⟩ = some (.int .i64 h1.g.S) := H6.out.2.2.1.cell 1
             have X2 : wd.cell? ⟨bx, 2, none⟩ = some (.int .i64 h1.g.s) := H6.out.2.2.1.cell 2
             have X3 : wd.cell? ⟨bx, 3, none⟩ = some (.int .i64 h1.g.u) := H6.out.2.2.1.cell 3
             have X4 : wd.cell? ⟨bx, 4, none⟩ = some (.int .i64 h1.g.j) := H6.out.2.2.1.cell 4
             have X5 : wd.cell? ⟨bx, 5, none⟩ = some (.int .i64 h1.n) := H6.out.2.2.1.cell 5
             have X6 : wd.cell? ⟨bx, 6, none⟩ = some (.int .i64 h1.p) := H6.out.2.2.1.cell 6
             have X7 : wd.cell? ⟨bx, 7, none⟩ = some (.int .i64 h1.r) := H6.out.2.2.1.cell 7
             have X8 : wd.cell? ⟨bx, 8, none⟩ = some (.int .i64 h1.k) := H6.out.2.2.1.cell 8
             have N0 : wd.cell? ⟨wc.heap.size, 0, none⟩ = some (.int .i64 0) := H6.out.2.2.2.2.cell 0
             have N1 : wd.cell? ⟨wc.heap.size, 1, none⟩ = some (.int .i64 0) := H6.out.2.2.2.2.cell 1
             have N2 : wd.cell? ⟨wc.heap.size, 2, none⟩ = some (.int .i64 0) := H6.out.2.2.2.2.cell 2
             have N3 : wd.cell? ⟨wc.heap.size, 3, none⟩ = some (.int .i64 0) := H6.out.2.2.2.2.cell 3
             have N4 : wd.cell? ⟨wc.heap.size, 4, none⟩ = some (.int .i64 0) := H6.out.2.2.2.2.cell 4
             have N5 : wd.cell? ⟨wc.heap.size, 5, none⟩ = some (.int .i64 0) := H6.out.2.2.2.2.cell 5
             have N6 : wd.cell? ⟨wc.heap.size, 6, none⟩ = some (.int .i64 0) := H6.out.2.2.2.2.cell 6
             have N7 : wd.cell? ⟨wc.heap.size, 7, none⟩ = some (.int .i64 0) := H6.out.2.2.2.2.cell 7
             have N8 : wd.cell? ⟨wc.heap.size, 8, none⟩ = some (.int .i64 0) := H6.out.2.2.2.2.cell 8
             have Y5 : wd.cell? ⟨w4.heap.size, 5, none⟩ = some (.int .i64 h2.n) := H6.out.2.2.2.1.cell 5
             clear bd md mm HA H5)
          | (with_reducible change wpList _ _ _ (⟨some 23, Op.load _ _, _, _, _, _⟩ :: _) _ _
             go_must (refine wpList_load_var 25 _ rfl rfl w4.heap.size #[.int .i64 h2.g.v, .int .i64 h2.g.S, .int .i64 h2.g.s, .int .i64 h2.g.u, .int .i64 h2.g.j, .int .i64 h2.n, .int .i64 h2.p, .int .i64 h2.r, .int .i64 h2.k] _ _ rfl H6.out.2.2.2.1 Tryz.underlying25 rfl size_head ?_))
          | (with_reducible change wpList _ _ _ (⟨some 24, Op.load _ _, _, _, _, _⟩ :: _) _ _
             go_must (refine wpList_load_var 25 _ rfl rfl wc.heap.size #[.int .i64 0, .int .i64 0, .int .i64 0, .int .i64 0, .int .i64 0, .int .i64 0, .int .i64 0, .int .i64 0, .int .i64 0] _ _ rfl H6.out.2.2.2.2 Tryz.underlying25 rfl size_head ?_))
          | (with_reducible change wpList _ _ _ (⟨some 42, Op.load _ _, _, _, _, _⟩ :: _) _ _
             go_must (refine wpList_load_var 25 _ rfl rfl w4.heap.size (hC h2) _ _ rfl H6.out.2.2.2.1 Tryz.underlying25 rfl size_head ?_))
          | (with_reducible change wpList _ _ _ (⟨some 46, Op.load _ _, _, _, _, _⟩ :: _) _ _
             go_must (refine wpList_load_var 25 _ rfl rfl bx (hC h1) _ _ rfl H6.out.2.2.1 Tryz.underlying25 rfl size_head ?_))
          | (with_reducible change wpList _ _ _ (⟨some 47, Op.load _ _, _, _, _, _⟩ :: _) _ _
             go_must (refine wpList_load_var 25 _ rfl rfl wc.heap.size (hC hd0) _ _ rfl H6.out.2.2.2.2 Tryz.underlying25 rfl size_head ?_))
          | (with_reducible change wpList _ _ _ (⟨none, Op.store _ (.tmp 4) _, _, _, _, _⟩ :: _) _ _
             go_must (refine wpList_store_var 25 _ _ rfl rfl w.heap.size (hC h2) _ _ rfl rfl H6.out.2.1 size_head rfl (hC_one _) ?_)
             intro w9 b9 m9 z9
             have M9 := H6.out.1.new_ m9 (Nat.le_refl _)
             have C0 : w9.cell? ⟨w.heap.size, 0, none⟩ = some (.int .i64 h2.g.v) := b9.cell 0
             have C1 : w9.cell? ⟨w.heap.size, 1, none⟩ = some (.int .i64 h2.g.S) := b9.cell 1
             have C2 : w9.cell? ⟨w.heap.size, 2, none⟩ = some (.int .i64 h2.g.s) := b9.cell 2
             have C3 : w9.cell? ⟨w.heap.size, 3, none⟩ = some (.int .i64 h2.g.u) := b9.cell 3
             have C4 : w9.cell? ⟨w.heap.size, 4, none⟩ = some (.int .i64 h2.g.j) := b9.cell 4
             have C5 : w9.cell? ⟨w.heap.size, 5, none⟩ = some (.int .i64 h2.n) := b9.cell 5
             have C6 : w9.cell? ⟨w.heap.size, 6, none⟩ = some (.int .i64 h2.p) := b9.cell 6
             have C7 : w9.cell? ⟨w.heap.size, 7, none⟩ = some (.int .i64 h2.r) := b9.cell 7
             have C8 : w9.cell? ⟨w.heap.size, 8, none⟩ = some (.int .i64 h2.k) := b9.cell 8
             clear m9 b9))
        exact bodyPost_ret (v := .tuple #[hdV h2, .int .i64 1]) (by simp [results, Tryz.results23, go_sem, hdV, hC, C0, C1, C2, C3, C4, C5, C6, C7, C8]) rfl ⟨rfl, M9⟩
      · have t1 : ¬ h2.n > h1.n := by omega
        have t2 : h1.n ≥ h2.n := by omega
        rw [show hpick h1 0 h2 0 = (h1, 0) from by unfold hpick; rw [if_neg (fun e => e.2.elim (fun x => x rfl) hlt), if_pos rfl]]
        clear i1 i2
        go_enter Tryz.func23, Tryz.ntmps23
        go_wp2_with (first
          | (with_reducible change wpList _ _ _ (⟨some 4, Op.alloc _, _, _, _, _⟩ :: _) _ _
             go_must (refine wpList_alloc_var 25 rfl rfl zero_head ?_)
             intro w1 b1 m1 z1
             clear z1
             have hw1 : w.heap.size < w1.heap.size := b1.lt
             have H1 := Lib.hid (And.intro m1 b1)
             clear b1 m1))
        refine (hget_any (w := w1) HG.out.1 (HR.out.1.mod H1.out.1 (fun _ _ f => f)) HR.out.2.1 (by omega) HR.out.2.2.1 HR.out.2.2.2.1).mono ?_
        rintro r w2 ⟨rfl, m2⟩
        have hw2 := m2.size
        have H2 := Lib.hid (And.intro (H1.out.1.nn_ m2) (H1.out.2.mod m2 (fun f => f)))
        clear m2 H1
        go_wp2_with (first
          | (with_reducible change wpList _ _ _ (⟨some 6, Op.alloc _, _, _, _, _⟩ :: _) _ _
             go_must (refine wpList_alloc_var 25 rfl rfl zero_head ?_)
             intro wa ba ma za
             clear za
             have HA := Lib.hid (And.intro ba ma)
             clear ba ma)
          | (with_reducible change wpList _ _ _ (⟨none, Op.store _ (.tmp 6) _, _, _, _, _⟩ :: _) _ _
             go_must (refine wpList_store_var 25 _ _ rfl rfl w2.heap.size (hC h1) _ _ rfl rfl HA.out.1 size_head rfl (hC_one _) ?_)
             intro wb bb mb zb
             clear zb
             have mm := HA.out.2.new_ mb (Nat.le_refl _)
             have H3 := Lib.hid (And.intro (H2.out.1.nn_ mm) (And.intro (H2.out.2.mod mm (fun f => f)) bb))
             have hwb : w2.heap.size < wb.heap.size := bb.lt
             clear bb mb mm HA H2))
        refine (hget_any (w := wb) HG.out.2 (HR.out.2.2.2.2.1.mod H3.out.1 (fun _ _ f => f)) HR.out.2.2.2.2.2.1 (by omega) HR.out.2.2.2.2.2.2.1 HR.out.2.2.2.2.2.2.2).mono ?_
        rintro r w4 ⟨rfl, m4⟩
        have hw4 := m4.size
        have H4 := Lib.hid (And.intro (H3.out.1.nn_ m4) (And.intro (H3.out.2.1.mod m4 (fun f => f)) (H3.out.2.2.mod m4 (fun f => f))))
        clear m4 H3
        generalize w2.heap.size = bx at *
        have hwx : w.heap.size < bx := by omega
        go_wp2_with (first
          | (with_reducible change wpList _ _ _ (⟨some 8, Op.alloc _, _, _, _, _⟩ :: _) _ _
             go_must (refine wpList_alloc_var 25 rfl rfl zero_head ?_)
             intro wa ba ma za
             clear za
             have HA := Lib.hid (And.intro ba ma)
             clear ba ma)
          | (with_reducible change wpList _ _ _ (⟨none, Op.store _ (.tmp 8) _, _, _, _, _⟩ :: _) _ _
             go_must (refine wpList_store_var 25 _ _ rfl rfl w4.heap.size (hC h2) _ _ rfl rfl HA.out.1 size_head rfl (hC_one _) ?_)
             intro wc bc mc zc
             clear zc
             have mm := HA.out.2.new_ mc (Nat.le_refl _)
             have H5 := Lib.hid (And.intro (H4.out.1.nn_ mm) (And.intro (H4.out.2.1.mod mm (fun f => f)) (And.intro (H4.out.2.2.mod mm (fun f => f)) bc)))
             have hwc : w4.heap.size < wc.heap.size := bc.lt
             clear bc mc mm HA H4)
          | (with_reducible change wpList _ _ _ (⟨some 10, Op.alloc _, _, _, _, _⟩ :: _) _ _
             go_must (refine wpList_alloc_var 25 rfl rfl zero_head ?_)
             intro wa ba ma za
             clear za
             have HA := Lib.hid (And.intro ba ma)
             clear ba ma)
          | (with_reducible change wpList _ _ _ (⟨none, Op.store _ (.tmp 10) _, _, _, _, _⟩ :: _) _ _
             go_must (refine wpList_store_var 25 _ _ rfl rfl wc.heap.size #[.int .i64 0, .int .i64 0, .int .i64 0, .int .i64 0, .int .i64 0, .int .i64 0, .int .i64 0, .int .i64 0, .int .i64 0] _ _ rfl rfl HA.out.1 size_head rfl (by simp [Value.oneCell']) ?_)
             intro wd bd md zd
             clear zd
             have mm := HA.out.2.new_ md (Nat.le_refl _)
             have H6 := Lib.hid (And.intro (H5.out.1.nn_ mm) (And.intro (H5.out.2.1.mod mm (fun f => f)) (And.intro (H5.out.2.2.1.mod mm (fun f => f)) (And.intro (H5.out.2.2.2.mod mm (fun f => f)) bd))))
             have hwd : wc.heap.size < wd.heap.size := bd.lt
             have X0 : wd.cell? ⟨bx, 0, none⟩ = some (.int .i64 h1.g.v) := H6.out.2.2.1.cell 0
             have X1 : wd.cell? ⟨bx, 1, none⟩ = some (.int .i64 h1.g.S) := H6.out.2.2.1.cell 1
             have X2 : wd.cell? ⟨bx, 2, none⟩ = some (.int .i64 h1.g.s) := H6.out.2.2.1.cell 2
             have X3 : wd.cell? ⟨bx, 3, none⟩ = some (.int .i64 h1.g.u) := H6.out.2.2.1.cell 3
             have X4 : wd.cell? ⟨bx, 4, none⟩ = some (.int .i64 h1.g.j) := H6.out.2.2.1.cell 4
             have X5 : wd.cell? ⟨bx, 5, none⟩ = some (.int .i64 h1.n) := H6.out.2.2.1.cell 5
             have X6 : wd.cell? ⟨bx, 6, none⟩ = some (.int .i64 h1.p) := H6.out.2.2.1.cell 6
             have X7 : wd.cell? ⟨bx, 7, none⟩ = some (.int .i64 h1.r) := H6.out.2.2.1.cell 7
             have X8 : wd.cell? ⟨bx, 8, none⟩ = some (.int .i64 h1.k) := H6.out.2.2.1.cell 8
             have N0 : wd.cell? ⟨wc.heap.size, 0, none⟩ = some (.int .i64 0) := H6.out.2.2.2.2.cell 0
             have N1 : wd.cell? ⟨wc.heap.size, 1, none⟩ = some (.int .i64 0) := H6.out.2.2.2.2.cell 1
             have N2 : wd.cell? ⟨wc.heap.size, 2, none⟩ = some (.int .i64 0) := H6.out.2.2.2.2.cell 2
             have N3 : wd.cell? ⟨wc.heap.size, 3, none⟩ = some (.int .i64 0) := H6.out.2.2.2.2.cell 3
             have N4 : wd.cell? ⟨wc.heap.size, 4, none⟩ = some (.int .i64 0) := H6.out.2.2.2.2.cell 4
             have N5 : wd.cell? ⟨wc.heap.size, 5, none⟩ = some (.int .i64 0) := H6.out.2.2.2.2.cell 5
             have N6 : wd.cell? ⟨wc.heap.size, 6, none⟩ = some (.int .i64 0) := H6.out.2.2.2.2.cell 6
             have N7 : wd.cell? ⟨wc.heap.size, 7, none⟩ = some (.int .i64 0) := H6.out.2.2.2.2.cell 7
             have N8 : wd.cell? ⟨wc.heap.size, 8, none⟩ = some (.int .i64 0) := H6.out.2.2.2.2.cell 8
             have Y5 : wd.cell? ⟨w4.heap.size, 5, none⟩ = some (.int .i64 h2.n) := H6.out.2.2.2.1.cell 5
             clear bd md mm HA H5)
          | (with_reducible change wpList _ _ _ (⟨some 23, Op.load _ _, _, _, _, _⟩ :: _) _ _
             go_must (refine wpList_load_var 25 _ rfl rfl w4.heap.size #[.int .i64 h2.g.v, .int .i64 h2.g.S, .int .i64 h2.g.s, .int .i64 h2.g.u, .int .i64 h2.g.j, .int .i64 h2.n, .int .i64 h2.p, .int .i64 h2.r, .int .i64 h2.k] _ _ rfl H6.out.2.2.2.1 Tryz.underlying25 rfl size_head ?_))
          | (with_reducible change wpList _ _ _ (⟨some 24, Op.load _ _, _, _, _, _⟩ :: _) _ _
             go_must (refine wpList_load_var 25 _ rfl rfl wc.heap.size #[.int .i64 0, .int .i64 0, .int .i64 0, .int .i64 0, .int .i64 0, .int .i64 0, .int .i64 0, .int .i64 0, .int .i64 0] _ _ rfl H6.out.2.2.2.2 Tryz.underlying25 rfl size_head ?_))
          | (with_reducible change wpList _ _ _ (⟨some 42, Op.load _ _, _, _, _, _⟩ :: _) _ _
             go_must (refine wpList_load_var 25 _ rfl rfl w4.heap.size (hC h2) _ _ rfl H6.out.2.2.2.1 Tryz.underlying25 rfl size_head ?_))
          | (with_reducible change wpList _ _ _ (⟨some 46, Op.load _ _, _, _, _, _⟩ :: _) _ _
             go_must (refine wpList_load_var 25 _ rfl rfl bx (hC h1) _ _ rfl H6.out.2.2.1 Tryz.underlying25 rfl size_head ?_))
          | (with_reducible change wpList _ _ _ (⟨some 47, Op.load _ _, _, _, _, _⟩ :: _) _ _
             go_must (refine wpList_load_var 25 _ rfl rfl wc.heap.size (hC hd0) _ _ rfl H6.out.2.2.2.2 Tryz.underlying25 rfl size_head ?_))
          | (with_reducible change wpList _ _ _ (⟨none, Op.store _ (.tmp 4) _, _, _, _, _⟩ :: _) _ _
             go_must (refine wpList_store_var 25 _ _ rfl rfl w.heap.size (hC h1) _ _ rfl rfl H6.out.2.1 size_head rfl (hC_one _) ?_)
             intro w9 b9 m9 z9
             have M9 := H6.out.1.new_ m9 (Nat.le_refl _)
             have C0 : w9.cell? ⟨w.heap.size, 0, none⟩ = some (.int .i64 h1.g.v) := b9.cell 0
             have C1 : w9.cell? ⟨w.heap.size, 1, none⟩ = some (.int .i64 h1.g.S) := b9.cell 1
             have C2 : w9.cell? ⟨w.heap.size, 2, none⟩ = some (.int .i64 h1.g.s) := b9.cell 2
             have C3 : w9.cell? ⟨w.heap.size, 3, none⟩ = some (.int .i64 h1.g.u) := b9.cell 3
             have C4 : w9.cell? ⟨w.heap.size, 4, none⟩ = some (.int .i64 h1.g.j) := b9.cell 4
             have C5 : w9.cell? ⟨w.heap.size, 5, none⟩ = some (.int .i64 h1.n) := b9.cell 5
             have C6 : w9.cell? ⟨w.heap.size, 6, none⟩ = some (.int .i64 h1.p) := b9.cell 6
             have C7 : w9.cell? ⟨w.heap.size, 7, none⟩ = some (.int .i64 h1.r) := b9.cell 7
             have C8 : w9.cell? ⟨w.heap.size, 8, none⟩ = some (.int .i64 h1.k) := b9.cell 8
             clear m9 b9))
        exact bodyPost_ret (v := .tuple #[hdV h1, .int .i64 0]) (by simp [results, Tryz.results23, go_sem, hdV, hC, C0, C1, C2, C3, C4, C5, C6, C7, C8]) rfl ⟨rfl, M9⟩
    · obtain ⟨_, rfl, _⟩ : ¬ HoldsH lb ∧ h2 = hd0 ∧ (4 : Int) = 4 := by
        rcases G2 with ⟨_, _, e⟩ | e
        · exact absurd e (by decide)
        · exact e
      rw [show hpick h1 0 hd0 4 = (h1, 0) from by unfold hpick; rw [if_neg (by rintro ⟨e, _⟩; exact absurd e (by decide)), if_pos rfl]]
      clear i1 i2
      go_enter Tryz.func23, Tryz.ntmps23
      go_wp2_with (first
        | (with_reducible change wpList _ _ _ (⟨some 4, Op.alloc _, _, _, _, _⟩ :: _) _ _
           go_must (refine wpList_alloc_var 25 rfl rfl zero_head ?_)
           intro w1 b1 m1 z1
           clear z1
           have hw1 : w.heap.size < w1.heap.size := b1.lt
           have H1 := Lib.hid (And.intro m1 b1)
           clear b1 m1))
      refine (hget_any (w := w1) HG.out.1 (HR.out.1.mod H1.out.1 (fun _ _ f => f)) HR.out.2.1 (by omega) HR.out.2.2.1 HR.out.2.2.2.1).mono ?_
      rintro r w2 ⟨rfl, m2⟩
      have hw2 := m2.size
      have H2 := Lib.hid (And.intro (H1.out.1.nn_ m2) (H1.out.2.mod m2 (fun f => f)))
      clear m2 H1
      go_wp2_with (first
        | (with_reducible change wpList _ _ _ (⟨some 6, Op.alloc _, _, _, _, _⟩ :: _) _ _
           go_must (refine wpList_alloc_var 25 rfl rfl zero_head ?_)
           intro wa ba ma za
           clear za
           have HA := Lib.hid (And.intro ba ma)
           clear ba ma)
        | (with_reducible change wpList _ _ _ (⟨none, Op.store _ (.tmp 6) _, _, _, _, _⟩ :: _) _ _
           go_must (refine wpList_store_var 25 _ _ rfl rfl w2.heap.size (hC h1) _ _ rfl rfl HA.out.1 size_head rfl (hC_one _) ?_)
           intro wb bb mb zb
           clear zb
           have mm := HA.out.2.new_ mb (Nat.le_refl _)
           have H3 := Lib.hid (And.intro (H2.out.1.nn_ mm) (And.intro (H2.out.2.mod mm (fun f => f)) bb))
           have hwb : w2.heap.size < wb.heap.size := bb.lt
           clear bb mb mm HA H2))
      refine (hget_any (w := wb) HG.out.2 (HR.out.2.2.2.2.1.mod H3.out.1 (fun _ _ f => f)) HR.out.2.2.2.2.2.1 (by omega) HR.out.2.2.2.2.2.2.1 HR.out.2.2.2.2.2.2.2).mono ?_
      rintro r w4 ⟨rfl, m4⟩
      have hw4 := m4.size
      have H4 := Lib.hid (And.intro (H3.out.1.nn_ m4) (And.intro (H3.out.2.1.mod m4 (fun f => f)) (H3.out.2.2.mod m4 (fun f => f))))
      clear m4 H3
      generalize w2.heap.size = bx at *
      have hwx : w.heap.size < bx := by omega
      go_wp2_with (first
        | (with_reducible change wpList _ _ _ (⟨some 8, Op.alloc _, _, _, _, _⟩ :: _) _ _
           go_must (refine wpList_alloc_var 25 rfl rfl zero_head ?_)
           intro wa ba ma za
           clear za
           have HA := Lib.hid (And.intro ba ma)
           clear ba ma)
        | (with_reducible change wpList _ _ _ (⟨none, Op.store _ (.tmp 8) _, _, _, _, _⟩ :: _) _ _
           go_must (refine wpList_store_var 25 _ _ rfl rfl w4.heap.size (hC hd0) _ _ rfl rfl HA.out.1 size_head rfl (hC_one _) ?_)
           intro wc bc mc zc
           clear zc
           have mm := HA.out.2.new_ mc (Nat.le_refl _)
           have H5 := Lib.hid (And.intro (H4.out.1.nn_ mm) (And.intro (H4.out.2.1.mod mm (fun f => f)) (And.intro (H4.out.2.2.mod mm (fun f => f)) bc)))
           have hwc : w4.heap.size < wc.heap.size := bc.lt
           clear bc mc mm HA H4)
        | (with_reducible change wpList _ _ _ (⟨some 10, Op.alloc _, _, _, _, _⟩ :: _) _ _
           go_must (refine wpList_alloc_var 25 rfl rfl zero_head ?_)
           intro wa ba ma za
           clear za
           have HA := Lib.hid (And.intro ba ma)
           clear ba ma)
        | (with_reducible change wpList _ _ _ (⟨none, Op.store _ (.tmp 10) _, _, _, _, _⟩ :: _) _ _
           go_must (refine wpList_store_var 25 _ _ rfl rfl wc.heap.size #[.int .i64 0, .int .i64 0, .int .i64 0, .int .i64 0, .int .i64 0, .int .i64 0, .int .i64 0, .int .i64 0, .int .i64 0] _ _ rfl rfl HA.out.1 size_head rfl (by simp [Value.oneCell']) ?_)
           intro wd bd md zd
           clear zd
           have mm := HA.out.2.new_ md (Nat.le_refl _)
           have H6 := Lib.hid (And.intro (H5.out.1.nn_ mm) (And.intro (H5.out.2.1.mod mm (fun f => f)) (And.intro (H5.out.2.2.1.mod mm (fun f => f)) (And.intro (H5.out.2.2.2.mod mm (fun f => f)) bd))))
           have hwd : wc.heap.size < wd.heap.size := bd.lt
           have X0 : wd.cell? ⟨bx, 0, none⟩ = some (.int .i64 h1.g.v) := H6.out.2.2.1.cell 0
           have X1 : wd.cell? ⟨bx, 1, none⟩ = some (.int .i64 h1.g.S) := H6.out.2.2.1.cell 1
           have X2 : wd.cell? ⟨bx, 2, none⟩ = some (.int .i64 h1.g.s) := H6.out.2.2.1.cell 2
           have X3 : wd.cell? ⟨bx, 3, none⟩ = some (.int .i64 h1.g.u) := H6.out.2.2.1.cell 3
           have X4 : wd.cell? ⟨bx, 4, none⟩ = some (.int .i64 h1.g.j) := H6.out.2.2.1.cell 4
           have X5 : wd.cell? ⟨bx, 5, none⟩ = some (.int .i64 h1.n) := H6.out.2.2.1.cell 5
           have X6 : wd.cell? ⟨bx, 6, none⟩ = some (.int .i64 h1.p) := H6.out.2.2.1.cell 6
           have X7 : wd.cell? ⟨bx, 7, none⟩ = some (.int .i64 h1.r) := H6.out.2.2.1.cell 7
           have X8 : wd.cell? ⟨bx, 8, none⟩ = some (.int .i64 h1.k) := H6.out.2.2.1.cell 8
           have N0 : wd.cell? ⟨wc.heap.size, 0, none⟩ = some (.int .i64 0) := H6.out.2.2.2.2.cell 0
           have N1 : wd.cell? ⟨wc.heap.size, 1, none⟩ = some (.int .i64 0) := H6.out.2.2.2.2.cell 1
           have N2 : wd.cell? ⟨wc.heap.size, 2, none⟩ = some (.int .i64 0) := H6.out.2.2.2.2.cell 2
           have N3 : wd.cell? ⟨wc.heap.size, 3, none⟩ = some (.int .i64 0) := H6.out.2.2.2.2.cell 3
           have N4 : wd.cell? ⟨wc.heap.size, 4, none⟩ = some (.int .i64 0) := H6.out.2.2.2.2.cell 4
           have N5 : wd.cell? ⟨wc.heap.size, 5, none⟩ = some (.int .i64 0) := H6.out.2.2.2.2.cell 5
           have N6 : wd.cell? ⟨wc.heap.size, 6, none⟩ = some (.int .i64 0) := H6.out.2.2.2.2.cell 6
           have N7 : wd.cell? ⟨wc.heap.size, 7, none⟩ = some (.int .i64 0) := H6.out.2.2.2.2.cell 7
           have N8 : wd.cell? ⟨wc.heap.size, 8, none⟩ = some (.int .i64 0) := H6.out.2.2.2.2.cell 8
           have Y5 : wd.cell? ⟨w4.heap.size, 5, none⟩ = some (.int .i64 0) := H6.out.2.2.2.1.cell 5
           clear bd md mm HA H5)
        | (with_reducible change wpList _ _ _ (⟨some 23, Op.load _ _, _, _, _, _⟩ :: _) _ _
           go_must (refine wpList_load_var 25 _ rfl rfl w4.heap.size #[.int .i64 0, .int .i64 0, .int .i64 0, .int .i64 0, .int .i64 0, .int .i64 0, .int .i64 0, .int .i64 0, .int .i64 0] _ _ rfl H6.out.2.2.2.1 Tryz.underlying25 rfl size_head ?_))
        | (with_reducible change wpList _ _ _ (⟨some 24, Op.load _ _, _, _, _, _⟩ :: _) _ _
           go_must (refine wpList_load_var 25 _ rfl rfl wc.heap.size #[.int .i64 0, .int .i64 0, .int .i64 0, .int .i64 0, .int .i64 0, .int .i64 0, .int .i64 0, .int .i64 0, .int .i64 0] _ _ rfl H6.out.2.2.2.2 Tryz.underlying25 rfl size_head ?_))
        | (with_reducible change wpList _ _ _ (⟨some 42, Op.load _ _, _, _, _, _⟩ :: _) _ _
           go_must (refine wpList_load_var 25 _ rfl rfl w4.heap.size (hC hd0) _ _ rfl H6.out.2.2.2.1 Tryz.underlying25 rfl size_head ?_))
        | (with_reducible change wpList _ _ _ (⟨some 46, Op.load _ _, _, _, _, _⟩ :: _) _ _
           go_must (refine wpList_load_var 25 _ rfl rfl bx (hC h1) _ _ rfl H6.out.2.2.1 Tryz.underlying25 rfl size_head ?_))
        | (with_reducible change wpList _ _ _ (⟨some 47, Op.load _ _, _, _, _, _⟩ :: _) _ _
           go_must (refine wpList_load_var 25 _ rfl rfl wc.heap.size (hC hd0) _ _ rfl H6.out.2.2.2.2 Tryz.underlying25 rfl size_head ?_))
        | (with_reducible change wpList _ _ _ (⟨none, Op.store _ (.tmp 4) _, _, _, _, _⟩ :: _) _ _
           go_must (refine wpList_store_var 25 _ _ rfl rfl w.heap.size (hC h1) _ _ rfl rfl H6.out.2.1 size_head rfl (hC_one _) ?_)
           intro w9 b9 m9 z9
           have M9 := H6.out.1.new_ m9 (Nat.le_refl _)
           have C0 : w9.cell? ⟨w.heap.size, 0, none⟩ = some (.int .i64 h1.g.v) := b9.cell 0
           have C1 : w9.cell? ⟨w.heap.size, 1, none⟩ = some (.int .i64 h1.g.S) := b9.cell 1
           have C2 : w9.cell? ⟨w.heap.size, 2, none⟩ = some (.int .i64 h1.g.s) := b9.cell 2
           have C3 : w9.cell? ⟨w.heap.size, 3, none⟩ = some (.int .i64 h1.g.u) := b9.cell 3
           have C4 : w9.cell? ⟨w.heap.size, 4, none⟩ = some (.int .i64 h1.g.j) := b9.cell 4
           have C5 : w9.cell? ⟨w.heap.size, 5, none⟩ = some (.int .i64 h1.n) := b9.cell 5
           have C6 : w9.cell? ⟨w.heap.size, 6, none⟩ = some (.int .i64 h1.p) := b9.cell 6
           have C7 : w9.cell? ⟨w.heap.size, 7, none⟩ = some (.int .i64 h1.r) := b9.cell 7
           have C8 : w9.cell? ⟨w.heap.size, 8, none⟩ = some (.int .i64 h1.k) := b9.cell 8
           clear m9 b9))
      exact bodyPost_ret (v := .tuple #[hdV h1, .int .i64 0]) (by simp [results, Tryz.results23, go_sem, hdV, hC, C0, C1, C2, C3, C4, C5, C6, C7, C8]) rfl ⟨rfl, M9⟩
  · obtain ⟨_, rfl, _⟩ : ¬ HoldsH la ∧ h1 = hd0 ∧ (4 : Int) = 4 := by
      rcases G1 with ⟨_, _, e⟩ | e
      · exact absurd e (by decide)
      · exact e
    rcases i2.2.1 with rfl | rfl
    · have r2 := right_v (i2.2.2.1 rfl)
      have v2 : ¬ h2.g.v = 0 := by omega
      rw [show hpick hd0 4 h2 0 = (h2, 1) from if_pos ⟨rfl, .inl (by decide)⟩]
      clear i1 i2
      go_enter Tryz.func23, Tryz.ntmps23
      go_wp2_with (first
        | (with_reducible change wpList _ _ _ (⟨some 4, Op.alloc _, _, _, _, _⟩ :: _) _ _
           go_must (refine wpList_alloc_var 25 rfl rfl zero_head ?_)
           intro w1 b1 m1 z1
           clear z1
           have hw1 : w.heap.size < w1.heap.size := b1.lt
           have H1 := Lib.hid (And.intro m1 b1)
           clear b1 m1))
      refine (hget_any (w := w1) HG.out.1 (HR.out.1.mod H1.out.1 (fun _ _ f => f)) HR.out.2.1 (by omega) HR.out.2.2.1 HR.out.2.2.2.1).mono ?_
      rintro r w2 ⟨rfl, m2⟩
      have hw2 := m2.size
      have H2 := Lib.hid (And.intro (H1.out.1.nn_ m2) (H1.out.2.mod m2 (fun f => f)))
      clear m2 H1
      go_wp2_with (first
        | (with_reducible change wpList _ _ _ (⟨some 6, Op.alloc _, _, _, _, _⟩ :: _) _ _
           go_must (refine wpList_alloc_var 25 rfl rfl zero_head ?_)
           intro wa ba ma za
           clear za
           have HA := Lib.hid (And.intro ba ma)
           clear ba ma)
        | (with_reducible change wpList _ _ _ (⟨none, Op.store _ (.tmp 6) _, _, _, _, _⟩ :: _) _ _
           go_must (refine wpList_store_var 25 _ _ rfl rfl w2.heap.size (hC hd0) _ _ rfl rfl HA.out.1 size_head rfl (hC_one _) ?_)
           intro wb bb mb zb
           clear zb
           have mm := HA.out.2.new_ mb (Nat.le_refl _)
           have H3 := Lib.hid (And.intro (H2.out.1.nn_ mm) (And.intro (H2.out.2.mod mm (fun f => f)) bb))
           have hwb : w2.heap.size < wb.heap.size := bb.lt
           clear bb mb mm HA H2))
      refine (hget_any (w := wb) HG.out.2 (HR.out.2.2.2.2.1.mod H3.out.1 (fun _ _ f => f)) HR.out.2.2.2.2.2.1 (by omega) HR.out.2.2.2.2.2.2.1 HR.out.2.2.2.2.2.2.2).mono ?_
      rintro r w4 ⟨rfl, m4⟩
      have hw4 := m4.size
      have H4 := Lib.hid (And.intro (H3.out.1.nn_ m4) (And.intro (H3.out.2.1.mod m4 (fun f => f)) (H3.out.2.2.mod m4 (fun f => f))))
      clear m4 H3
      generalize w2.heap.size = bx at *
      have hwx : w.heap.size < bx := by omega
      go_wp2_with (first
        | (with_reducible change wpList _ _ _ (⟨some 8, Op.alloc _, _, _, _, _⟩ :: _) _ _
           go_must (refine wpList_alloc_var 25 rfl rfl zero_head ?_)
           intro wa ba ma za
           clear za
           have HA := Lib.hid (And.intro ba ma)
           clear ba ma)
        | (with_reducible change wpList _ _ _ (⟨none, Op.store _ (.tmp 8) _, _, _, _, _⟩ :: _) _ _
           go_must (refine wpList_store_var 25 _ _ rfl rfl w4.heap.size (hC h2) _ _ rfl rfl HA.out.1 size_head rfl (hC_one _) ?_)
           intro wc bc mc zc
           clear zc
           have mm := HA.out.2.new_ mc (Nat.le_refl _)
           have H5 := Lib.hid (And.intro (H4.out.1.nn_ mm) (And.intro (H4.out.2.1.mod mm (fun f => f)) (And.intro (H4.out.2.2.mod mm (fun f => f)) bc)))
           have hwc : w4.heap.size < wc.heap.size := bc.lt
           clear bc mc mm HA H4)
        | (with_reducible change wpList _ _ _ (⟨some 10, Op.alloc _, _, _, _, _⟩ :: _) _ _
           go_must (refine wpList_alloc_var 25 rfl rfl zero_head ?_)
           intro wa ba ma za
           clear za
           have HA := Lib.hid (And.intro ba ma)
           clear ba ma)
        | (with_reducible change wpList _ _ _ (⟨none, Op.store _ (.tmp 10) _, _, _, _, _⟩ :: _) _ _
           go_must (refine wpList_store_var 25 _ _ rfl rfl wc.heap.size #[.int .i64 0, .int .i64 0, .int .i64 0, .int .i64 0, .int .i64 0, .int .i64 0, .int .i64 0, .int .i64 0, .int .i64 0] _ _ rfl rfl HA.out.1 size_head rfl (by simp [Value.oneCell']) ?_)
           intro wd bd md zd
           clear zd
           have mm := HA.out.2.new_ md (Nat.le_refl _)
           have H6 := Lib.hid (And.intro (H5.out.1.nn_ mm) (And.intro (H5.out.2.1.mod mm (fun f => f)) (And.intro (H5.out.2.2.1.mod mm (fun f => f)) (And.intro (H5.out.2.2.2.mod mm (fun f => f)) bd))))
           have hwd : wc.heap.size < wd.heap.size := bd.lt
           have X0 : wd.cell? ⟨bx, 0, none⟩ = some (.int .i64 0) := H6.out.2.2.1.cell 0
           have X1 : wd.cell? ⟨bx, 1, none⟩ = some (.int .i64 0) := H6.out.2.2.1.cell 1
           have X2 : wd.cell? ⟨bx, 2, none⟩ = some (.int .i64 0) := H6.out.2.2.1.cell 2
           have X3 : wd.cell? ⟨bx, 3, none⟩ = some (.int .i64 0) := H6.out.2.2.1.cell 3
           have X4 : wd.cell? ⟨bx, 4, none⟩ = some (.int .i64 0) := H6.out.2.2.1.cell 4
           have X5 : wd.cell? ⟨bx, 5, none⟩ = some (.int .i64 0) := H6.out.2.2.1.cell 5
           have X6 : wd.cell? ⟨bx, 6, none⟩ = some (.int .i64 0) := H6.out.2.2.1.cell 6
           have X7 : wd.cell? ⟨bx, 7, none⟩ = some (.int .i64 0) := H6.out.2.2.1.cell 7
           have X8 : wd.cell? ⟨bx, 8, none⟩ = some (.int .i64 0) := H6.out.2.2.1.cell 8
           have N0 : wd.cell? ⟨wc.heap.size, 0, none⟩ = some (.int .i64 0) := H6.out.2.2.2.2.cell 0
           have N1 : wd.cell? ⟨wc.heap.size, 1, none⟩ = some (.int .i64 0) := H6.out.2.2.2.2.cell 1
           have N2 : wd.cell? ⟨wc.heap.size, 2, none⟩ = some (.int .i64 0) := H6.out.2.2.2.2.cell 2
           have N3 : wd.cell? ⟨wc.heap.size, 3, none⟩ = some (.int .i64 0) := H6.out.2.2.2.2.cell 3
           have N4 : wd.cell? ⟨wc.heap.size, 4, none⟩ = some (.int .i64 0) := H6.out.2.2.2.2.cell 4
           have N5 : wd.cell? ⟨wc.heap.size, 5, none⟩ = some (.int .i64 0) := H6.out.2.2.2.2.cell 5
           have N6 : wd.cell? ⟨wc.heap.size, 6, none⟩ = some (.int .i64 0) := H6.out.2.2.2.2.cell 6
           have N7 : wd.cell? ⟨wc.heap.size, 7, none⟩ = some (.int .i64 0) := H6.out.2.2.2.2.cell 7
           have N8 : wd.cell? ⟨wc.heap.size, 8, none⟩ = some (.int .i64 0) := H6.out.2.2.2.2.cell 8
           have Y5 : wd.cell? ⟨w4.heap.size, 5, none⟩ = some (.int .i64 h2.n) := H6.out.2.2.2.1.cell 5
           clear bd md mm HA H5)
        | (with_reducible change wpList _ _ _ (⟨some 23, Op.load _ _, _, _, _, _⟩ :: _) _ _
           go_must (refine wpList_load_var 25 _ rfl rfl w4.heap.size #[.int .i64 h2.g.v, .int .i64 h2.g.S, .int .i64 h2.g.s, .int .i64 h2.g.u, .int .i64 h2.g.j, .int .i64 h2.n, .int .i64 h2.p, .int .i64 h2.r, .int .i64 h2.k] _ _ rfl H6.out.2.2.2.1 Tryz.underlying25 rfl size_head ?_))
        | (with_reducible change wpList _ _ _ (⟨some 24, Op.load _ _, _, _, _, _⟩ :: _) _ _
           go_must (refine wpList_load_var 25 _ rfl rfl wc.heap.size #[.int .i64 0, .int .i64 0, .int .i64 0, .int .i64 0, .int .i64 0, .int .i64 0, .int .i64 0, .int .i64 0, .int .i64 0] _ _ rfl H6.out.2.2.2.2 Tryz.underlying25 rfl size_head ?_))
        | (with_reducible change wpList _ _ _ (⟨some 42, Op.load _ _, _, _, _, _⟩ :: _) _ _
           go_must (refine wpList_load_var 25 _ rfl rfl w4.heap.size (hC h2) _ _ rfl H6.out.2.2.2.1 Tryz.underlying25 rfl size_head ?_))
        | (with_reducible change wpList _ _ _ (⟨some 46, Op.load _ _, _, _, _, _⟩ :: _) _ _
           go_must (refine wpList_load_var 25 _ rfl rfl bx (hC hd0) _ _ rfl H6.out.2.2.1 Tryz.underlying25 rfl size_head ?_))
        | (with_reducible change wpList _ _ _ (⟨some 47, Op.load _ _, _, _, _, _⟩ :: _) _ _
           go_must (refine wpList_load_var 25 _ rfl rfl wc.heap.size (hC hd0) _ _ rfl H6.out.2.2.2.2 Tryz.underlying25 rfl size_head ?_))
        | (with_reducible change wpList _ _ _ (⟨none, Op.store _ (.tmp 4) _, _, _, _, _⟩ :: _) _ _
           go_must (refine wpList_store_var 25 _ _ rfl rfl w.heap.size (hC h2) _ _ rfl rfl H6.out.2.1 size_head rfl (hC_one _) ?_)
           intro w9 b9 m9 z9
           have M9 := H6.out.1.new_ m9 (Nat.le_refl _)
           have C0 : w9.cell? ⟨w.heap.size, 0, none⟩ = some (.int .i64 h2.g.v) := b9.cell 0
           have C1 : w9.cell? ⟨w.heap.size, 1, none⟩ = some (.int .i64 h2.g.S) := b9.cell 1
           have C2 : w9.cell? ⟨w.heap.size, 2, none⟩ = some (.int .i64 h2.g.s) := b9.cell 2
           have C3 : w9.cell? ⟨w.heap.size, 3, none⟩ = some (.int .i64 h2.g.u) := b9.cell 3
           have C4 : w9.cell? ⟨w.heap.size, 4, none⟩ = some (.int .i64 h2.g.j) := b9.cell 4
           have C5 : w9.cell? ⟨w.heap.size, 5, none⟩ = some (.int .i64 h2.n) := b9.cell 5
           have C6 : w9.cell? ⟨w.heap.size, 6, none⟩ = some (.int .i64 h2.p) := b9.cell 6
           have C7 : w9.cell? ⟨w.heap.size, 7, none⟩ = some (.int .i64 h2.r) := b9.cell 7
           have C8 : w9.cell? ⟨w.heap.size, 8, none⟩ = some (.int .i64 h2.k) := b9.cell 8
           clear m9 b9))
      exact bodyPost_ret (v := .tuple #[hdV h2, .int .i64 1]) (by simp [results, Tryz.results23, go_sem, hdV, hC, C0, C1, C2, C3, C4, C5, C6, C7, C8]) rfl ⟨rfl, M9⟩
    · obtain ⟨_, rfl, _⟩ : ¬ HoldsH lb ∧ h2 = hd0 ∧ (4 : Int) = 4 := by
        rcases G2 with ⟨_, _, e⟩ | e
        · exact absurd e (by decide)
        · exact e
      rw [show hpick hd0 4 hd0 4 = (hd0, (-1)) from by unfold hpick; rw [if_neg (by rintro ⟨e, _⟩; exact absurd e (by decide)), if_neg (by decide)]]
      clear i1 i2
      go_enter Tryz.func23, Tryz.ntmps23
      go_wp2_with (first
        | (with_reducible change wpList _ _ _ (⟨some 4, Op.alloc _, _, _, _, _⟩ :: _) _ _
           go_must (refine wpList_alloc_var 25 rfl rfl zero_head ?_)
           intro w1 b1 m1 z1
           clear z1
           have hw1 : w.heap.size < w1.heap.size := b1.lt
           have H1 := Lib.hid (And.intro m1 b1)
           clear b1 m1))
      refine (hget_any (w := w1) HG.out.1 (HR.out.1.mod H1.out.1 (fun _ _ f => f)) HR.out.2.1 (by omega) HR.out.2.2.1 HR.out.2.2.2.1).mono ?_
      rintro r w2 ⟨rfl, m2⟩
      have hw2 := m2.size
      have H2 := Lib.hid (And.intro (H1.out.1.nn_ m2) (H1.out.2.mod m2 (fun f => f)))
      clear m2 H1
      go_wp2_with (first
        | (with_reducible change wpList _ _ _ (⟨some 6, Op.alloc _, _, _, _, _⟩ :: _) _ _
           go_must (refine wpList_alloc_var 25 rfl rfl zero_head ?_)
           intro wa ba ma za
           clear za
           have HA := Lib.hid (And.intro ba ma)
           clear ba ma)
        | (with_reducible change wpList _ _ _ (⟨none, Op.store _ (.tmp 6) _, _, _, _, _⟩ :: _) _ _
           go_must (refine wpList_store_var 25 _ _ rfl rfl w2.heap.size (hC hd0) _ _ rfl rfl HA.out.1 size_head rfl (hC_one _) ?_)
           intro wb bb mb zb
           clear zb
           have mm := HA.out.2.new_ mb (Nat.le_refl _)
           have H3 := Lib.hid (And.intro (H2.out.1.nn_ mm) (And.intro (H2.out.2.mod mm (fun f => f)) bb))
           have hwb : w2.heap.size < wb.heap.size := bb.lt
           clear bb mb mm HA H2))
      refine (hget_any (w := wb) HG.out.2 (HR.out.2.2.2.2.1.mod H3.out.1 (fun _ _ f => f)) HR.out.2.2.2.2.2.1 (by omega) HR.out.2.2.2.2.2.2.1 HR.out.2.2.2.2.2.2.2).mono ?_
      rintro r w4 ⟨rfl, m4⟩
      have hw4 := m4.size
      have H4 := Lib.hid (And.intro (H3.out.1.nn_ m4) (And.intro (H3.out.2.1.mod m4 (fun f => f)) (H3.out.2.2.mod m4 (fun f => f))))
      clear m4 H3
      generalize w2.heap.size = bx at *
      have hwx : w.heap.size < bx := by omega
      go_wp2_with (first
        | (with_reducible change wpList _ _ _ (⟨some 8, Op.alloc _, _, _, _, _⟩ :: _) _ _
           go_must (refine wpList_alloc_var 25 rfl rfl zero_head ?_)
           intro wa ba ma za
           clear za
           have HA := Lib.hid (And.intro ba ma)
           clear ba ma)
        | (with_reducible change wpList _ _ _ (⟨none, Op.store _ (.tmp 8) _, _, _, _, _⟩ :: _) _ _
           go_must (refine wpList_store_var 25 _ _ rfl rfl w4.heap.size (hC hd0) _ _ rfl rfl HA.out.1 size_head rfl (hC_one _) ?_)
           intro wc bc mc zc
           clear zc
           have mm := HA.out.2.new_ mc (Nat.le_refl _)
           have H5 := Lib.hid (And.intro (H4.out.1.nn_ mm) (And.intro (H4.out.2.1.mod mm (fun f => f)) (And.intro (H4.out.2.2.mod mm (fun f => f)) bc)))
           have hwc : w4.heap.size < wc.heap.size := bc.lt
           clear bc mc mm HA H4)
        | (with_reducible change wpList _ _ _ (⟨some 10, Op.alloc _, _, _, _, _⟩ :: _) _ _
           go_must (refine wpList_alloc_var 25 rfl rfl zero_head ?_)
           intro wa ba ma za
           clear za
           have HA := Lib.hid (And.intro ba ma)
           clear ba ma)
        | (with_reducible change wpList _ _ _ (⟨none, Op.store _ (.tmp 10) _, _, _, _, _⟩ :: _) _ _
           go_must (refine wpList_store_var 25 _ _ rfl rfl wc.heap.size #[.int .i64 0, .int .i64 0, .int .i64 0, .int .i64 0, .int .i64 0, .int .i64 0, .int .i64 0, .int .i64 0, .int .i64 0] _ _ rfl rfl HA.out.1 size_head rfl (by simp [Value.oneCell']) ?_)
           intro wd bd md zd
           clear zd
           have mm := HA.out.2.new_ md (Nat.le_refl _)
           have H6 := Lib.hid (And.intro (H5.out.1.nn_ mm) (And.intro (H5.out.2.1.mod mm (fun f => f)) (And.intro (H5.out.2.2.1.mod mm (fun f => f)) (And.intro (H5.out.2.2.2.mod mm (fun f => f)) bd))))
           have hwd : wc.heap.size < wd.heap.size := bd.lt
           have X0 : wd.cell? ⟨bx, 0, none⟩ = some (.int .i64 0) := H6.out.2.2.1.cell 0
           have X1 : wd.cell? ⟨bx, 1, none⟩ = some (.int .i64 0) := H6.out.2.2.1.cell 1
           have X2 : wd.cell? ⟨bx, 2, none⟩ = some (.int .i64 0) := H6.out.2.2.1.cell 2
           have X3 : wd.cell? ⟨bx, 3, none⟩ = some (.int .i64 0) := H6.out.2.2.1.cell 3
           have X4 : wd.cell? ⟨bx, 4, none⟩ = some (.int .i64 0) := H6.out.2.2.1.cell 4
           have X5 : wd.cell? ⟨bx, 5, none⟩ = some (.int .i64 0) := H6.out.2.2.1.cell 5
           have X6 : wd.cell? ⟨bx, 6, none⟩ = some (.int .i64 0) := H6.out.2.2.1.cell 6
           have X7 : wd.cell? ⟨bx, 7, none⟩ = some (.int .i64 0) := H6.out.2.2.1.cell 7
           have X8 : wd.cell? ⟨bx, 8, none⟩ = some (.int .i64 0) := H6.out.2.2.1.cell 8
           have N0 : wd.cell? ⟨wc.heap.size, 0, none⟩ = some (.int .i64 0) := H6.out.2.2.2.2.cell 0
           have N1 : wd.cell? ⟨wc.heap.size, 1, none⟩ = some (.int .i64 0) := H6.out.2.2.2.2.cell 1
           have N2 : wd.cell? ⟨wc.heap.size, 2, none⟩ = some (.int .i64 0) := H6.out.2.2.2.2.cell 2
           have N3 : wd.cell? ⟨wc.heap.size, 3, none⟩ = some (.int .i64 0) := H6.out.2.2.2.2.cell 3
           have N4 : wd.cell? ⟨wc.heap.size, 4, none⟩ = some (.int .i64 0) := H6.out.2.2.2.2.cell 4
           have N5 : wd.cell? ⟨wc.heap.size, 5, none⟩ = some (.int .i64 0) := H6.out.2.2.2.2.cell 5
           have N6 : wd.cell? ⟨wc.heap.size, 6, none⟩ = some (.int .i64 0) := H6.out.2.2.2.2.cell 6
           have N7 : wd.cell? ⟨wc.heap.size, 7, none⟩ = some (.int .i64 0) := H6.out.2.2.2.2.cell 7
           have N8 : wd.cell? ⟨wc.heap.size, 8, none⟩ = some (.int .i64 0) := H6.out.2.2.2.2.cell 8
           have Y5 : wd.cell? ⟨w4.heap.size, 5, none⟩ = some (.int .i64 0) := H6.out.2.2.2.1.cell 5
           clear bd md mm HA H5)
        | (with_reducible change wpList _ _ _ (⟨some 23, Op.load _ _, _, _, _, _⟩ :: _) _ _
           go_must (refine wpList_load_var 25 _ rfl rfl w4.heap.size #[.int .i64 0, .int .i64 0, .int .i64 0, .int .i64 0, .int .i64 0, .int .i64 0, .int .i64 0, .int .i64 0, .int .i64 0] _ _ rfl H6.out.2.2.2.1 Tryz.underlying25 rfl size_head ?_))
        | (with_reducible change wpList _ _ _ (⟨some 24, Op.load _ _, _, _, _, _⟩ :: _) _ _
           go_must (refine wpList_load_var 25 _ rfl rfl wc.heap.size #[.int .i64 0, .int .i64 0, .int .i64 0, .int .i64 0, .int .i64 0, .int .i64 0, .int .i64 0, .int .i64 0, .int .i64 0] _ _ rfl H6.out.2.2.2.2 Tryz.underlying25 rfl size_head ?_))
        | (with_reducible change wpList _ _ _ (⟨some 42, Op.load _ _, _, _, _, _⟩ :: _) _ _
           go_must (refine wpList_load_var 25 _ rfl rfl w4.heap.size (hC hd0) _ _ rfl H6.out.2.2.2.1 Tryz.underlying25 rfl size_head ?_))
        | (with_reducible change wpList _ _ _ (⟨some 46, Op.load _ _, _, _, _, _⟩ :: _) _ _
           go_must (refine wpList_load_var 25 _ rfl rfl bx (hC hd0) _ _ rfl H6.out.2.2.1 Tryz.underlying25 rfl size_head ?_))
        | (with_reducible change wpList _ _ _ (⟨some 47, Op.load _ _, _, _, _, _⟩ :: _) _ _
           go_must (refine wpList_load_var 25 _ rfl rfl wc.heap.size (hC hd0) _ _ rfl H6.out.2.2.2.2 Tryz.underlying25 rfl size_head ?_))
        | (with_reducible change wpList _ _ _ (⟨none, Op.store _ (.tmp 4) _, _, _, _, _⟩ :: _) _ _
           go_must (refine wpList_store_var 25 _ _ rfl rfl w.heap.size (hC hd0) _ _ rfl rfl H6.out.2.1 size_head rfl (hC_one _) ?_)
           intro w9 b9 m9 z9
           have M9 := H6.out.1.new_ m9 (Nat.le_refl _)
           have C0 : w9.cell? ⟨w.heap.size, 0, none⟩ = some (.int .i64 0) := b9.cell 0
           have C1 : w9.cell? ⟨w.heap.size, 1, none⟩ = some (.int .i64 0) := b9.cell 1
           have C2 : w9.cell? ⟨w.heap.size, 2, none⟩ = some (.int .i64 0) := b9.cell 2
           have C3 : w9.cell? ⟨w.heap.size, 3, none⟩ = some (.int .i64 0) := b9.cell 3
           have C4 : w9.cell? ⟨w.heap.size, 4, none⟩ = some (.int .i64 0) := b9.cell 4
           have C5 : w9.cell? ⟨w.heap.size, 5, none⟩ = some (.int .i64 0) := b9.cell 5
           have C6 : w9.cell? ⟨w.heap.size, 6, none⟩ = some (.int .i64 0) := b9.cell 6
           have C7 : w9.cell? ⟨w.heap.size, 7, none⟩ = some (.int .i64 0) := b9.cell 7
           have C8 : w9.cell? ⟨w.heap.size, 8, none⟩ = some (.int .i64 0) := b9.cell 8
           clear m9 b9))
      exact bodyPost_ret (v := .tuple #[hdV hd0, .int .i64 (-1)]) (by simp [results, Tryz.results23, go_sem, hdV, hC, hd0, C0, C1, C2, C3, C4, C5, C6, C7, C8]) rfl ⟨rfl, M9⟩
set_option maxRecDepth 100000 in
set_option maxHeartbeats 12800000 in
theorem rhpick_any {h1 h2 : Hd} {e1 e2 : Int} (G1 : HGet la h1 e1) (G2 : HGet lb h2 e2) (ra : Rd w A n (bv la)) (hla : ∀ z ∈ la, z < 256) (hn : n ≤ 140737488355328) (hc : n ≤ c) (hcm : c ≤ maxLen)
    (rb : Rd w B m (bv lb)) (hlb : ∀ z ∈ lb, z < 256) (hm : m ≤ 140737488355328) (hd : m ≤ d) (hdm : d ≤ maxLen) :
    Calls Tryz.prog 26 #[.slice A n c, .slice B m d] w fun r w' => r = .returned (.tuple #[hdV (hpick h1 e1 h2 e2).1, .int .i64 (hpick h1 e1 h2 e2).2]) ∧ Mod Nn w w' := by
  have HR := Lib.hid (And.intro ra (And.intro hla (And.intro hc (And.intro hcm (And.intro rb (And.intro hlb (And.intro hd hdm)))))))
  have HG := Lib.hid (And.intro G1 G2)
  have i1 := G1.iff
  have i2 := G2.iff
  clear ra hla hc hcm rb hlb hd hdm
  rcases i1.2.1 with rfl | rfl
  · have r1 := right_v (i1.2.2.1 rfl)
    have v1 : ¬ h1.g.v = 0 := by omega
    rcases i2.2.1 with rfl | rfl
    · have r2 := right_v (i2.2.2.1 rfl)
      have v2 : ¬ h2.g.v = 0 := by omega
      by_cases hlt : h1.n < h2.n
      · have t1 : h2.n > h1.n := hlt
        have t2 : ¬ h1.n ≥ h2.n := by omega
        rw [show hpick h1 0 h2 0 = (h2, 1) from if_pos ⟨rfl, .inr hlt⟩]
        clear i1 i2
        go_enter Tryz.func26, Tryz.ntmps26
        go_wp2_with (first
          | (with_reducible change wpList _ _ _ (⟨some 4, Op.alloc _, _, _, _, _⟩ :: _) _ _
             go_must (refine wpList_alloc_var 25 rfl rfl zero_head ?_)
             intro w1 b1 m1 z1
             clear z1
             have hw1 : w.heap.size < w1.heap.size := b1.lt
             have H1 := Lib.hid (And.intro m1 b1)
             clear b1 m1))
        refine (rhget_any (w := w1) HG.out.1 (HR.out.1.mod H1.out.1 (fun _ _ f => f)) HR.out.2.1 (by omega) HR.out.2.2.1 HR.out.2.2.2.1).mono ?_
        rintro r w2 ⟨rfl, m2⟩
        have hw2 := m2.size
        have H2 := Lib.hid (And.intro (H1.out.1.nn_ m2) (H1.out.2.mod m2 (fun f => f)))
        clear m2 H1
        go_wp2_with (first
          | (with_reducible change wpList _ _ _ (⟨some 6, Op.alloc _, _, _, _, _⟩ :: _) _ _
             go_must (refine wpList_alloc_var 25 rfl rfl zero_head ?_)
             intro wa ba ma za
             clear za
             have HA := Lib.hid (And.intro ba ma)
             clear ba ma)
          | (with_reducible change wpList _ _ _ (⟨none, Op.store _ (.tmp 6) _, _, _, _, _⟩ :: _) _ _
             go_must (refine wpList_store_var 25 _ _ rfl rfl w2.heap.size (hC h1) _ _ rfl rfl HA.out.1 size_head rfl (hC_one _) ?_)
             intro wb bb mb zb
             clear zb
             have mm := HA.out.2.new_ mb (Nat.le_refl _)
             have H3 := Lib.hid (And.intro (H2.out.1.nn_ mm) (And.intro (H2.out.2.mod mm (fun f => f)) bb))
             have hwb : w2.heap.size < wb.heap.size := bb.lt
             clear bb mb mm HA H2))
        refine (rhget_any (w := wb) HG.out.2 (HR.out.2.2.2.2.1.mod H3.out.1 (fun _ _ f => f)) HR.out.2.2.2.2.2.1 (by omega) HR.out.2.2.2.2.2.2.1 HR.out.2.2.2.2.2.2.2).mono ?_
        rintro r w4 ⟨rfl, m4⟩
        have hw4 := m4.size
        have H4 := Lib.hid (And.intro (H3.out.1.nn_ m4) (And.intro (H3.out.2.1.mod m4 (fun f => f)) (H3.out.2.2.mod m4 (fun f => f))))
        clear m4 H3
        generalize w2.heap.size = bx at *
        have hwx : w.heap.size < bx := by omega
        go_wp2_with (first
          | (with_reducible change wpList _ _ _ (⟨some 8, Op.alloc _, _, _, _, _⟩ :: _) _ _
             go_must (refine wpList_alloc_var 25 rfl rfl zero_head ?_)
             intro wa ba ma za
             clear za
             have HA := Lib.hid (And.intro ba ma)
             clear ba ma)
          | (with_reducible change wpList _ _ _ (⟨none, Op.store _ (.tmp 8) _, _, _, _, _⟩ :: _) _ _
             go_must (refine wpList_store_var 25 _ _ rfl rfl w4.heap.size (hC h2) _ _ rfl rfl HA.out.1 size_head rfl (hC_one _) ?_)
             intro wc bc mc zc
             clear zc
             have mm := HA.out.2.new_ mc (Nat.le_refl _)
             have H5 := Lib.hid (And.intro (H4.out.1.nn_ mm) (And.intro (H4.out.2.1.mod mm (fun f => f)) (And.intro (H4.out.2.2.mod mm (fun f => f)) bc)))
             have hwc : w4.heap.size < wc.heap.size := bc.lt
             have X5 : wc.cell? ⟨bx, 5, none⟩ = some (.int .i64 h1.n) := H5.out.2.2.1.cell 5
             have Y5 : wc.cell? ⟨w4.heap.size, 5, none⟩ = some (.int .i64 h2.n) := H5.out.2.2.2.cell 5
             clear bc mc mm HA H4)
          | (with_reducible change wpList _ _ _ (⟨some 34, Op.load _ _, _, _, _, _⟩ :: _) _ _
             go_must (refine wpList_load_var 25 _ rfl rfl bx (hC h1) _ _ rfl H5.out.2.2.1 Tryz.underlying25 rfl size_head ?_))
          | (with_reducible change wpList _ _ _ (⟨some 38, Op.load _ _, _, _, _, _⟩ :: _) _ _
             go_must (refine wpList_load_var 25 _ rfl rfl w4.heap.size (hC h2) _ _ rfl H5.out.2.2.2 Tryz.underlying25 rfl size_head ?_))
          | (with_reducible change wpList _ _ _ (⟨none, Op.store _ (.tmp 4) _, _, _, _, _⟩ :: _) _ _
             go_must (refine wpList_store_var 25 _ _ rfl rfl w.heap.size (hC h2) _ _ rfl rfl H5.out.2.1 size_head rfl (hC_one _) ?_)
             intro w9 b9 m9 z9
             have M9 := H5.out.1.new_ m9 (Nat.le_refl _)
             have C0 : w9.cell? ⟨w.heap.size, 0, none⟩ = some (.int .i64 h2.g.v) := b9.cell 0
             have C1 : w9.cell? ⟨w.heap.size, 1, none⟩ = some (.int .i64 h2.g.S) := b9.cell 1
             have C2 : w9.cell? ⟨w.heap.size, 2, none⟩ = some (.int .i64 h2.g.s) := b9.cell 2
             have C3 : w9.cell? ⟨w.heap.size, 3, none⟩ = some (.int .i64 h2.g.u) := b9.cell 3
             have C4 : w9.cell? ⟨w.heap.size, 4, none⟩ = some (.int .i64 h2.g.j) := b9.cell 4
             have C5 : w9.cell? ⟨w.heap.size, 5, none⟩ = some (.int .i64 h2.n) := b9.cell 5
             have C6 : w9.cell? ⟨w.heap.size, 6, none⟩ = some (.int .i64 h2.p) := b9.cell 6
             have C7 : w9.cell? ⟨w.heap.size, 7, none⟩ = some (.int .i64 h2.r) := b9.cell 7
             have C8 : w9.cell? ⟨w.heap.size, 8, none⟩ = some (.int .i64 h2.k) := b9.cell 8
             clear m9 b9))
        exact bodyPost_ret (v := .tuple #[hdV h2, .int .i64 1]) (by simp [results, Tryz.results26, go_sem, hdV, hC, C0, C1, C2, C3, C4, C5, C6, C7, C8]) rfl ⟨rfl, M9⟩
      · have t1 : ¬ h2.n > h1.n := by omega
        have t2 : h1.n ≥ h2.n := by omega
        rw [show hpick h1 0 h2 0 = (h1, 0) from by unfold hpick; rw [if_neg (fun e => e.2.elim (fun x => x rfl) hlt), if_pos rfl]]
        clear i1 i2
        go_enter Tryz.func26, Tryz.ntmps26
        go_wp2_with (first
          | (with_reducible change wpList _ _ _ (⟨some 4, Op.alloc _, _, _, _, _⟩ :: _) _ _
             go_must (refine wpList_alloc_var 25 rfl rfl zero_head ?_)
             intro w1 b1 m1 z1
             clear z1
             have hw1 : w.heap.size < w1.heap.size := b1.lt
             have H1 := Lib.hid (And.intro m1 b1)
             clear b1 m1))
        refine (rhget_any (w := w1) HG.out.1 (HR.out.1.mod H1.out.1 (fun _ _ f => f)) HR.out.2.1 (by omega) HR.out.2.2.1 HR.out.2.2.2.1).mono ?_
        rintro r w2 ⟨rfl, m2⟩
        have hw2 := m2.size
        have H2 := Lib.hid (And.intro (H1.out.1.nn_ m2) (H1.out.2.mod m2 (fun f => f)))
        clear m2 H1
        go_wp2_with (first
          | (with_reducible change wpList _ _ _ (⟨some 6, Op.alloc _, _, _, _, _⟩ :: _) _ _
             go_must (refine wpList_alloc_var 25 rfl rfl zero_head ?_)
             intro wa ba ma za
             clear za
             have HA := Lib.hid (And.intro ba ma)
             clear ba ma)
          | (with_reducible change wpList _ _ _ (⟨none, Op.store _ (.tmp 6) _, _, _, _, _⟩ :: _) _ _
             go_must (refine wpList_store_var 25 _ _ rfl rfl w2.heap.size (hC h1) _ _ rfl rfl HA.out.1 size_head rfl (hC_one _) ?_)
             intro wb bb mb zb
             clear zb
             have mm := HA.out.2.new_ mb (Nat.le_refl _)
             have H3 := Lib.hid (And.intro (H2.out.1.nn_ mm) (And.intro (H2.out.2.mod mm (fun f => f)) bb))
             have hwb : w2.heap.size < wb.heap.size := bb.lt
             clear bb mb mm HA H2))
        refine (rhget_any (w := wb) HG.out.2 (HR.out.2.2.2.2.1.mod H3.out.1 (fun _ _ f => f)) HR.out.2.2.2.2.2.1 (by omega) HR.out.2.2.2.2.2.2.1 HR.out.2.2.2.2.2.2.2).mono ?_
        rintro r w4 ⟨rfl, m4⟩
        have hw4 := m4.size
        have H4 := Lib.hid (And.intro (H3.out.1.nn_ m4) (And.intro (H3.out.2.1.mod m4 (fun f => f)) (H3.out.2.2.mod m4 (fun f => f))))
        clear m4 H3
        generalize w2.heap.size = bx at *
        have hwx : w.heap.size < bx := by omega
        go_wp2_with (first
          | (with_reducible change wpList _ _ _ (⟨some 8, Op.alloc _, _, _, _, _⟩ :: _) _ _
             go_must (refine wpList_alloc_var 25 rfl rfl zero_head ?_)
             intro wa ba ma za
             clear za
             have HA := Lib.hid (And.intro ba ma)
             clear ba ma)
          | (with_reducible change wpList _ _ _ (⟨none, Op.store _ (.tmp 8) _, _, _, _, _⟩ :: _) _ _
             go_must (refine wpList_store_var 25 _ _ rfl rfl w4.heap.size (hC h2) _ _ rfl rfl HA.out.1 size_head rfl (hC_one _) ?_)
             intro wc bc mc zc
             clear zc
             have mm := HA.out.2.new_ mc (Nat.le_refl _)
             have H5 := Lib.hid (And.intro (H4.out.1.nn_ mm) (And.intro (H4.out.2.1.mod mm (fun f => f)) (And.intro (H4.out.2.2.mod mm (fun f => f)) bc)))
             have hwc : w4.heap.size < wc.heap.size := bc.lt
             have X5 : wc.cell? ⟨bx, 5, none⟩ = some (.int .i64 h1.n) := H5.out.2.2.1.cell 5
             have Y5 : wc.cell? ⟨w4.heap.size, 5, none⟩ = some (.int .i64 h2.n) := H5.out.2.2.2.cell 5
             clear bc mc mm HA H4)
          | (with_reducible change wpList _ _ _ (⟨some 34, Op.load _ _, _, _, _, _⟩ :: _) _ _
             go_must (refine wpList_load_var 25 _ rfl rfl bx (hC h1) _ _ rfl H5.out.2.2.1 Tryz.underlying25 rfl size_head ?_))
          | (with_reducible change wpList _ _ _ (⟨some 38, Op.load _ _, _, _, _, _⟩ :: _) _ _
             go_must (refine wpList_load_var 25 _ rfl rfl w4.heap.size (hC h2) _ _ rfl H5.out.2.2.2 Tryz.underlying25 rfl size_head ?_))
          | (with_reducible change wpList _ _ _ (⟨none, Op.store _ (.tmp 4) _, _, _, _, _⟩ :: _) _ _
             go_must (refine wpList_store_var 25 _ _ rfl rfl w.heap.size (hC h1) _ _ rfl rfl H5.out.2.1 size_head rfl (hC_one _) ?_)
             intro w9 b9 m9 z9
             have M9 := H5.out.1.new_ m9 (Nat.le_refl _)
             have C0 : w9.cell? ⟨w.heap.size, 0, none⟩ = some (.int .i64 h1.g.v) := b9.cell 0
             have C1 : w9.cell? ⟨w.heap.size, 1, none⟩ = some (.int .i64 h1.g.S) := b9.cell 1
             have C2 : w9.cell? ⟨w.heap.size, 2, none⟩ = some (.int .i64 h1.g.s) := b9.cell 2
             have C3 : w9.cell? ⟨w.heap.size, 3, none⟩ = some (.int .i64 h1.g.u) := b9.cell 3
             have C4 : w9.cell? ⟨w.heap.size, 4, none⟩ = some (.int .i64 h1.g.j) := b9.cell 4
             have C5 : w9.cell? ⟨w.heap.size, 5, none⟩ = some (.int .i64 h1.n) := b9.cell 5
             have C6 : w9.cell? ⟨w.heap.size, 6, none⟩ = some (.int .i64 h1.p) := b9.cell 6
             have C7 : w9.cell? ⟨w.heap.size, 7, none⟩ = some (.int .i64 h1.r) := b9.cell 7
             have C8 : w9.cell? ⟨w.heap.size, 8, none⟩ = some (.int .i64 h1.k) := b9.cell 8
             clear m9 b9))
        exact bodyPost_ret (v := .tuple #[hdV h1, .int .i64 0]) (by simp [results, Tryz.results26, go_sem, hdV, hC, C0, C1, C2, C3, C4, C5, C6, C7, C8]) rfl ⟨rfl, M9⟩
    · obtain ⟨_, rfl, _⟩ : ¬ HoldsH lb ∧ h2 = hd0 ∧ (4 : Int) = 4 := by
        rcases G2 with ⟨_, _, e⟩ | e
        · exact absurd e (by decide)
        · exact e
      rw [show hpick h1 0 hd0 4 = (h1, 0) from by unfold hpick; rw [if_neg (by rintro ⟨e, _⟩; exact absurd e (by decide)), if_pos rfl]]
      clear i1 i2
      go_enter Tryz.func26, Tryz.ntmps26
      go_wp2_with (first
        | (with_reducible change wpList _ _ _ (⟨some 4, Op.alloc _, _, _, _, _⟩ :: _) _ _
           go_must (refine wpList_alloc_var 25 rfl rfl zero_head ?_)
           intro w1 b1 m1 z1
           clear z1
           have hw1 : w.heap.size < w1.heap.size := b1.lt
           have H1 := Lib.hid (And.intro m1 b1)
           clear b1 m1))
      refine (rhget_any (w := w1) HG.out.1 (HR.out.1.mod H1.out.1 (fun _ _ f => f)) HR.out.2.1 (by omega) HR.out.2.2.1 HR.out.2.2.2.1).mono ?_
      rintro r w2 ⟨rfl, m2⟩
      have hw2 := m2.size
      have H2 := Lib.hid (And.intro (H1.out.1.nn_ m2) (H1.out.2.mod m2 (fun f => f)))
      clear m2 H1
      go_wp2_with (first
        | (with_reducible change wpList _ _ _ (⟨some 6, Op.alloc _, _, _, _, _⟩ :: _) _ _
           go_must (refine wpList_alloc_var 25 rfl rfl zero_head ?_)
           intro wa ba ma za
           clear za
           have HA := Lib.hid (And.intro ba ma)
           clear ba ma)
        | (with_reducible change wpList _ _ _ (⟨none, Op.store _ (.tmp 6) _, _, _, _, _⟩ :: _) _ _
           go_must (refine wpList_store_var 25 _ _ rfl rfl w2.heap.size (hC h1) _ _ rfl rfl HA.out.1 size_head rfl (hC_one _) ?_)
           intro wb bb mb zb
           clear zb
           have mm := HA.out.2.new_ mb (Nat.le_refl _)
           have H3 := Lib.hid (And.intro (H2.out.1.nn_ mm) (And.intro (H2.out.2.mod mm (fun f => f)) bb))
           have hwb : w2.heap.size < wb.heap.size := bb.lt
           clear bb mb mm HA H2))
      refine (rhget_any (w := wb) HG.out.2 (HR.out.2.2.2.2.1.mod H3.out.1 (fun _ _ f => f)) HR.out.2.2.2.2.2.1 (by omega) HR.out.2.2.2.2.2.2.1 HR.out.2.2.2.2.2.2.2).mono ?_
      rintro r w4 ⟨rfl, m4⟩
      have hw4 := m4.size
      have H4 := Lib.hid (And.intro (H3.out.1.nn_ m4) (And.intro (H3.out.2.1.mod m4 (fun f => f)) (H3.out.2.2.mod m4 (fun f => f))))
      clear m4 H3
      generalize w2.heap.size = bx at *
      have hwx : w.heap.size < bx := by omega
      go_wp2_with (first
        | (with_reducible change wpList _ _ _ (⟨some 8, Op.alloc _, _, _, _, _⟩ :: _) _ _
           go_must (refine wpList_alloc_var 25 rfl rfl zero_head ?_)
           intro wa ba ma za
           clear za
           have HA := Lib.hid (And.intro ba ma)
           clear ba ma)
        | (with_reducible change wpList _ _ _ (⟨none, Op.store _ (.tmp 8) _, _, _, _, _⟩ :: _) _ _
           go_must (refine wpList_store_var 25 _ _ rfl rfl w4.heap.size (hC hd0) _ _ rfl rfl HA.out.1 size_head rfl (hC_one _) ?_)
           intro wc bc mc zc
           clear zc
           have mm := HA.out.2.new_ mc (Nat.le_refl _)
           have H5 := Lib.hid (And.intro (H4.out.1.nn_ mm) (And.intro (H4.out.2.1.mod mm (fun f => f)) (And.intro (H4.out.2.2.mod mm (fun f => f)) bc)))
           have hwc : w4.heap.size < wc.heap.size := bc.lt
           have X5 : wc.cell? ⟨bx, 5, none⟩ = some (.int .i64 h1.n) := H5.out.2.2.1.cell 5
           have Y5 : wc.cell? ⟨w4.heap.size, 5, none⟩ = some (.int .i64 0) := H5.out.2.2.2.cell 5
           clear bc mc mm HA H4)
        | (with_reducible change wpList _ _ _ (⟨some 34, Op.load _ _, _, _, _, _⟩ :: _) _ _
           go_must (refine wpList_load_var 25 _ rfl rfl bx (hC h1) _ _ rfl H5.out.2.2.1 Tryz.underlying25 rfl size_head ?_))
        | (with_reducible change wpList _ _ _ (⟨some 38, Op.load _ _, _, _, _, _⟩ :: _) _ _
           go_must (refine wpList_load_var 25 _ rfl rfl w4.heap.size (hC hd0) _ _ rfl H5.out.2.2.2 Tryz.underlying25 rfl size_head ?_))
        | (with_reducible change wpList _ _ _ (⟨none, Op.store _ (.tmp 4) _, _, _, _, _⟩ :: _) _ _
           go_must (refine wpList_store_var 25 _ _ rfl rfl w.heap.size (hC h1) _ _ rfl rfl H5.out.2.1 size_head rfl (hC_one _) ?_)
           intro w9 b9 m9 z9
           have M9 := H5.out.1.new_ m9 (Nat.le_refl _)
           have C0 : w9.cell? ⟨w.heap.size, 0, none⟩ = some (.int .i64 h1.g.v) := b9.cell 0
           have C1 : w9.cell? ⟨w.heap.size, 1, none⟩ = some (.int .i64 h1.g.S) := b9.cell 1
           have C2 : w9.cell? ⟨w.heap.size, 2, none⟩ = some (.int .i64 h1.g.s) := b9.cell 2
           have C3 : w9.cell? ⟨w.heap.size, 3, none⟩ = some (.int .i64 h1.g.u) := b9.cell 3
           have C4 : w9.cell? ⟨w.heap.size, 4, none⟩ = some (.int .i64 h1.g.j) := b9.cell 4
           have C5 : w9.cell? ⟨w.heap.size, 5, none⟩ = some (.int .i64 h1.n) := b9.cell 5
           have C6 : w9.cell? ⟨w.heap.size, 6, none⟩ = some (.int .i64 h1.p) := b9.cell 6
           have C7 : w9.cell? ⟨w.heap.size, 7, none⟩ = some (.int .i64 h1.r) := b9.cell 7
           have C8 : w9.cell? ⟨w.heap.size, 8, none⟩ = some (.int .i64 h1.k) := b9.cell 8
           clear m9 b9))
      exact bodyPost_ret (v := .tuple #[hdV h1, .int .i64 0]) (by simp [results, Tryz.results26, go_sem, hdV, hC, C0, C1, C2, C3, C4, C5, C6, C7, C8]) rfl ⟨rfl, M9⟩
  · obtain ⟨_, rfl, _⟩ : ¬ HoldsH la ∧ h1 = hd0 ∧ (4 : Int) = 4 := by
      rcases G1 with ⟨_, _, e⟩ | e
      · exact absurd e (by decide)
      · exact e
    rcases i2.2.1 with rfl | rfl
    · have r2 := right_v (i2.2.2.1 rfl)
      have v2 : ¬ h2.g.v = 0 := by omega
      rw [show hpick hd0 4 h2 0 = (h2, 1) from if_pos ⟨rfl, .inl (by decide)⟩]
      clear i1 i2
      go_enter Tryz.func26, Tryz.ntmps26
      go_wp2_with (first
        | (with_reducible change wpList _ _ _ (⟨some 4, Op.alloc _, _, _, _, _⟩ :: _) _ _
           go_must (refine wpList_alloc_var 25 rfl rfl zero_head ?_)
           intro w1 b1 m1 z1
           clear z1
           have hw1 : w.heap.size < w1.heap.size := b1.lt
           have H1 := Lib.hid (And.intro m1 b1)
           clear b1 m1))
      refine (rhget_any (w := w1) HG.out.1 (HR.out.1.mod H1.out.1 (fun _ _ f => f)) HR.out.2.1 (by omega) HR.out.2.2.1 HR.out.2.2.2.1).mono ?_
      rintro r w2 ⟨rfl, m2⟩
      have hw2 := m2.size
      have H2 := Lib.hid (And.intro (H1.out.1.nn_ m2) (H1.out.2.mod m2 (fun f => f)))
      clear m2 H1
      go_wp2_with (first
        | (with_reducible change wpList _ _ _ (⟨some 6, Op.alloc _, _, _, _, _⟩ :: _) _ _
           go_must (refine wpList_alloc_var 25 rfl rfl zero_head ?_)
           intro wa ba ma za
           clear za
           have HA := Lib.hid (And.intro ba ma)
           clear ba ma)
        | (with_reducible change wpList _ _ _ (⟨none, Op.store _ (.tmp 6) _, _, _, _, _⟩ :: _) _ _
           go_must (refine wpList_store_var 25 _ _ rfl rfl w2.heap.size (hC hd0) _ _ rfl rfl HA.out.1 size_head rfl (hC_one _) ?_)
           intro wb bb mb zb
           clear zb
           have mm := HA.out.2.new_ mb (Nat.le_refl _)
           have H3 := Lib.hid (And.intro (H2.out.1.nn_ mm) (And.intro (H2.out.2.mod mm (fun f => f)) bb))
           have hwb : w2.heap.size < wb.heap.size := bb.lt
           clear bb mb mm HA H2))
      refine (rhget_any (w := wb) HG.out.2 (HR.out.2.2.2.2.1.mod H3.out.1 (fun _ _ f => f)) HR.out.2.2.2.2.2.1 (by omega) HR.out.2.2.2.2.2.2.1 HR.out.2.2.2.2.2.2.2).mono ?_
      rintro r w4 ⟨rfl, m4⟩
      have hw4 := m4.size
      have H4 := Lib.hid (And.intro (H3.out.1.nn_ m4) (And.intro (H3.out.2.1.mod m4 (fun f => f)) (H3.out.2.2.mod m4 (fun f => f))))
      clear m4 H3
      generalize w2.heap.size = bx at *
      have hwx : w.heap.size < bx := by omega
      go_wp2_with (first
        | (with_reducible change wpList _ _ _ (⟨some 8, Op.alloc _, _, _, _, _⟩ :: _) _ _
           go_must (refine wpList_alloc_var 25 rfl rfl zero_head ?_)
           intro wa ba ma za
           clear za
           have HA := Lib.hid (And.intro ba ma)
           clear ba ma)
        | (with_reducible change wpList _ _ _ (⟨none, Op.store _ (.tmp 8) _, _, _, _, _⟩ :: _) _ _
           go_must (refine wpList_store_var 25 _ _ rfl rfl w4.heap.size (hC h2) _ _ rfl rfl HA.out.1 size_head rfl (hC_one _) ?_)
           intro wc bc mc zc
           clear zc
           have mm := HA.out.2.new_ mc (Nat.le_refl _)
           have H5 := Lib.hid (And.intro (H4.out.1.nn_ mm) (And.intro (H4.out.2.1.mod mm (fun f => f)) (And.intro (H4.out.2.2.mod mm (fun f => f)) bc)))
           have hwc : w4.heap.size < wc.heap.size := bc.lt
           have X5 : wc.cell? ⟨bx, 5, none⟩ = some (.int .i64 0) := H5.out.2.2.1.cell 5
           have Y5 : wc.cell? ⟨w4.heap.size, 5, none⟩ = some (.int .i64 h2.n) := H5.out.2.2.2.cell 5
           clear bc mc mm HA H4)
        | (with_reducible change wpList _ _ _ (⟨some 34, Op.load _ _, _, _, _, _⟩ :: _) _ _
           go_must (refine wpList_load_var 25 _ rfl rfl bx (hC hd0) _ _ rfl H5.out.2.2.1 Tryz.underlying25 rfl size_head ?_))
        | (with_reducible change wpList _ _ _ (⟨some 38, Op.load _ _, _, _, _, _⟩ :: _) _ _
           go_must (refine wpList_load_var 25 _ rfl rfl w4.heap.size (hC h2) _ _ rfl H5.out.2.2.2 Tryz.underlying25 rfl size_head ?_))
        | (with_reducible change wpList _ _ _ (⟨none, Op.store _ (.tmp 4) _, _, _, _, _⟩ :: _) _ _
           go_must (refine wpList_store_var 25 _ _ rfl rfl w.heap.size (hC h2) _ _ rfl rfl H5.out.2.1 size_head rfl (hC_one _) ?_)
           intro w9 b9 m9 z9
           have M9 := H5.out.1.new_ m9 (Nat.le_refl _)
           have C0 : w9.cell? ⟨w.heap.size, 0, none⟩ = some (.int .i64 h2.g.v) := b9.cell 0
           have C1 : w9.cell? ⟨w.heap.size, 1, none⟩ = some (.int .i64 h2.g.S) := b9.cell 1
           have C2 : w9.cell? ⟨w.heap.size, 2, none⟩ = some (.int .i64 h2.g.s) := b9.cell 2
           have C3 : w9.cell? ⟨w.heap.size, 3, none⟩ = some (.int .i64 h2.g.u) := b9.cell 3
           have C4 : w9.cell? ⟨w.heap.size, 4, none⟩ = some (.int .i64 h2.g.j) := b9.cell 4
           have C5 : w9.cell? ⟨w.heap.size, 5, none⟩ = some (.int .i64 h2.n) := b9.cell 5
           have C6 : w9.cell? ⟨w.heap.size, 6, none⟩ = some (.int .i64 h2.p) := b9.cell 6
           have C7 : w9.cell? ⟨w.heap.size, 7, none⟩ = some (.int .i64 h2.r) := b9.cell 7
           have C8 : w9.cell? ⟨w.heap.size, 8, none⟩ = some (.int .i64 h2.k) := b9.cell 8
           clear m9 b9))
      exact bodyPost_ret (v := .tuple #[hdV h2, .int .i64 1]) (by simp [results, Tryz.results26, go_sem, hdV, hC, C0, C1, C2, C3, C4, C5, C6, C7, C8]) rfl ⟨rfl, M9⟩
    · obtain ⟨_, rfl, _⟩ : ¬ HoldsH lb ∧ h2 = hd0 ∧ (4 : Int) = 4 := by
        rcases G2 with ⟨_, _, e⟩ | e
        · exact absurd e (by decide)
        · exact e
      rw [show hpick hd0 4 hd0 4 = (hd0, (-1)) from by unfold hpick; rw [if_neg (by rintro ⟨e, _⟩; exact absurd e (by decide)), if_neg (by decide)]]
      clear i1 i2
      go_enter Tryz.func26, Tryz.ntmps26
      go_wp2_with (first
        | (with_reducible change wpList _ _ _ (⟨some 4, Op.alloc _, _, _, _, _⟩ :: _) _ _
           go_must (refine wpList_alloc_var 25 rfl rfl zero_head ?_)
           intro w1 b1 m1 z1
           clear z1
           have hw1 : w.heap.size < w1.heap.size := b1.lt
           have H1 := Lib.hid (And.intro m1 b1)
           clear b1 m1))
      refine (rhget_any (w := w1) HG.out.1 (HR.out.1.mod H1.out.1 (fun _ _ f => f)) HR.out.2.1 (by omega) HR.out.2.2.1 HR.out.2.2.2.1).mono ?_
      rintro r w2 ⟨rfl, m2⟩
      have hw2 := m2.size
      have H2 := Lib.hid (And.intro (H1.out.1.nn_ m2) (H1.out.2.mod m2 (fun f => f)))
      clear m2 H1
      go_wp2_with (first
        | (with_reducible change wpList _ _ _ (⟨some 6, Op.alloc _, _, _, _, _⟩ :: _) _ _
           go_must (refine wpList_alloc_var 25 rfl rfl zero_head ?_)
           intro wa ba ma za
           clear za
           have HA := Lib.hid (And.intro ba ma)
           clear ba ma)
        | (with_reducible change wpList _ _ _ (⟨none, Op.store _ (.tmp 6) _, _, _, _, _⟩ :: _) _ _
           go_must (refine wpList_store_var 25 _ _ rfl rfl w2.heap.size (hC hd0) _ _ rfl rfl HA.out.1 size_head rfl (hC_one _) ?_)
           intro wb bb mb zb
           clear zb
           have mm := HA.out.2.new_ mb (Nat.le_refl _)
           have H3 := Lib.hid (And.intro (H2.out.1.nn_ mm) (And.intro (H2.out.2.mod mm (fun f => f)) bb))
           have hwb : w2.heap.size < wb.heap.size := bb.lt
           clear bb mb mm HA H2))
      refine (rhget_any (w := wb) HG.out.2 (HR.out.2.2.2.2.1.mod H3.out.1 (fun _ _ f => f)) HR.out.2.2.2.2.2.1 (by omega) HR.out.2.2.2.2.2.2.1 HR.out.2.2.2.2.2.2.2).mono ?_
      rintro r w4 ⟨rfl, m4⟩
      have hw4 := m4.size
      have H4 := Lib.hid (And.intro (H3.out.1.nn_ m4) (And.intro (H3.out.2.1.mod m4 (fun f => f)) (H3.out.2.2.mod m4 (fun f => f))))
      clear m4 H3
      generalize w2.heap.size = bx at *
      have hwx : w.heap.size < bx := by omega
      go_wp2_with (first
        | (with_reducible change wpList _ _ _ (⟨some 8, Op.alloc _, _, _, _, _⟩ :: _) _ _
           go_must (refine wpList_alloc_var 25 rfl rfl zero_head ?_)
           intro wa ba ma za
           clear za
           have HA := Lib.hid (And.intro ba ma)
           clear ba ma)
        | (with_reducible change wpList _ _ _ (⟨none, Op.store _ (.tmp 8) _, _, _, _, _⟩ :: _) _ _
           go_must (refine wpList_store_var 25 _ _ rfl rfl w4.heap.size (hC hd0) _ _ rfl rfl HA.out.1 size_head rfl (hC_one _) ?_)
           intro wc bc mc zc
           clear zc
           have mm := HA.out.2.new_ mc (Nat.le_refl _)
           have H5 := Lib.hid (And.intro (H4.out.1.nn_ mm) (And.intro (H4.out.2.1.mod mm (fun f => f)) (And.intro (H4.out.2.2.mod mm (fun f => f)) bc)))
           have hwc : w4.heap.size < wc.heap.size := bc.lt
           have X5 : wc.cell? ⟨bx, 5, none⟩ = some (.int .i64 0) := H5.out.2.2.1.cell 5
           have Y5 : wc.cell? ⟨w4.heap.size, 5, none⟩ = some (.int .i64 0) := H5.out.2.2.2.cell 5
           clear bc mc mm HA H4)
        | (with_reducible change wpList _ _ _ (⟨some 34, Op.load _ _, _, _, _, _⟩ :: _) _ _
           go_must (refine wpList_load_var 25 _ rfl rfl bx (hC hd0) _ _ rfl H5.out.2.2.1 Tryz.underlying25 rfl size_head ?_))
        | (with_reducible change wpList _ _ _ (⟨some 38, Op.load _ _, _, _, _, _⟩ :: _) _ _
           go_must (refine wpList_load_var 25 _ rfl rfl w4.heap.size (hC hd0) _ _ rfl H5.out.2.2.2 Tryz.underlying25 rfl size_head ?_))
        | (with_reducible change wpList _ _ _ (⟨none, Op.store _ (.tmp 4) _, _, _, _, _⟩ :: _) _ _
           go_must (refine wpList_store_var 25 _ _ rfl rfl w.heap.size (hC hd0) _ _ rfl rfl H5.out.2.1 size_head rfl (hC_one _) ?_)
           intro w9 b9 m9 z9
           have M9 := H5.out.1.new_ m9 (Nat.le_refl _)
           have C0 : w9.cell? ⟨w.heap.size, 0, none⟩ = some (.int .i64 0) := b9.cell 0
           have C1 : w9.cell? ⟨w.heap.size, 1, none⟩ = some (.int .i64 0) := b9.cell 1
           have C2 : w9.cell? ⟨w.heap.size, 2, none⟩ = some (.int .i64 0) := b9.cell 2
           have C3 : w9.cell? ⟨w.heap.size, 3, none⟩ = some (.int .i64 0) := b9.cell 3
           have C4 : w9.cell? ⟨w.heap.size, 4, none⟩ = some (.int .i64 0) := b9.cell 4
           have C5 : w9.cell? ⟨w.heap.size, 5, none⟩ = some (.int .i64 0) := b9.cell 5
           have C6 : w9.cell? ⟨w.heap.size, 6, none⟩ = some (.int .i64 0) := b9.cell 6
           have C7 : w9.cell? ⟨w.heap.size, 7, none⟩ = some (.int .i64 0) := b9.cell 7
           have C8 : w9.cell? ⟨w.heap.size, 8, none⟩ = some (.int .i64 0) := b9.cell 8
           clear m9 b9))
      exact bodyPost_ret (v := .tuple #[hdV hd0, .int .i64 (-1)]) (by simp [results, Tryz.results26, go_sem, hdV, hC, hd0, C0, C1, C2, C3, C4, C5, C6, C7, C8]) rfl ⟨rfl, M9⟩
end
end Go.Proofs.YtodnhbiomooknaaGreat
