/- head.Get (printed by wip/gen/hdget.py). -/
import Derived.Test.YtodnhbiomooknaaGreatHd9
import Derived.Test.YtodnhbiomooknaaGreatFrH
namespace Go.Proofs.YtodnhbiomooknaaGreat
open Go.RowKit

section
variable {w : World} {A : Option Addr} {n c : Nat} {l : List Nat}
theorem hC0 : hC hd0 = #[.int .i64 0, .int .i64 0, .int .i64 0, .int .i64 0, .int .i64 0, .int .i64 0, .int .i64 0, .int .i64 0, .int .i64 0] := rfl
set_option maxRecDepth 100000 in
set_option maxHeartbeats 12800000 in
theorem hget_any {hh : Hd} {ee : Int} (hG : HGet l hh ee) (hr : Rd w A n (bv l)) (hl : ∀ z ∈ l, z < 256) (hn : n ≤ 140737488355328) (hc : n ≤ c) (hcm : c ≤ maxLen) :
    Calls Tryz.prog 14 #[.slice A n c] w fun r w' => r = .returned (.tuple #[hdV hh, .int .i64 ee]) ∧ Mod Nn w w' := by
  have hL : l.length = n := by have := hr.1; rwa [bv_len] at this
  have HL := Lib.hid hL; clear hL
  obtain ⟨T, hT, hP⟩ := tell_of l hl
  have HG := Lib.hid hG
  clear hG
  have HR := Lib.hid (And.intro hr (And.intro hl (And.intro hc hcm)))
  have HT := Lib.hid (And.intro hT hP)
  have hb := hT.big
  clear hr hl hc hcm hT hP
  by_cases h1 : Holds l
  case neg =>
    obtain ⟨_, rfl, rfl⟩ : ¬ HoldsH l ∧ hh = hd0 ∧ ee = 4 := by
      rcases HG.out with ⟨e, _⟩ | e
      · exact (not_holdsH_of (.inl h1) e).elim
      · exact e
    go_enter Tryz.func14, Tryz.ntmps14
    go_wp2_with (first
      | (with_reducible change wpList _ _ _ (⟨some 2, Op.alloc _, _, _, _, _⟩ :: _) _ _
         go_must (refine wpList_alloc_var 25 rfl rfl zero_head ?_)
         intro w2 b2 m2 z2
         have H2 := Lib.hid (And.intro m2 (And.intro b2 z2))
         clear b2 m2 z2)
      | (with_reducible change wpList _ _ _ (⟨some 4, Op.alloc _, _, _, _, _⟩ :: _) _ _
         go_must (refine wpList_alloc_var 25 rfl rfl zero_head ?_)
         intro w3 b3 m3 z3
         rw [H2.out.2.2] at b3 z3 ⊢
         have H3 := Lib.hid (And.intro (H2.out.1.trans m3) (And.intro (H2.out.2.1.mod m3 (fun f => f)) b3))
         have hw3 : w.heap.size + 1 < w3.heap.size := by omega
         clear b3 m3 z3))
    refine (fget_any (w := w3) (l := l) (HR.out.1.mod H3.out.1 (fun _ _ f => f)) HR.out.2.1 (by omega) HR.out.2.2.1 HR.out.2.2.2).mono ?_
    intro r wf hgot
    obtain ⟨A4, c4, rfl, o4, m4⟩ := HT.out.2 _ _ _ hgot
    clear hgot
    have hw4 := m4.size
    have H4 := Lib.hid (And.intro (H3.out.1.nn_ m4) (And.intro (H3.out.2.1.mod m4 (fun f => f)) (And.intro (H3.out.2.2.mod m4 (fun f => f)) o4)))
    clear o4 m4
    go_wp2_with (first
      | (with_reducible change wpList _ _ _ (⟨some 5, Op.alloc _, _, _, _, _⟩ :: _) _ _
         go_must (refine wpList_alloc_var 45 rfl rfl info_frame ?_)
         intro wa ba ma za
         have HA := Lib.hid (And.intro ba (And.intro ma za))
         clear ba ma za)
      | (with_reducible change wpList _ _ _ (⟨none, Op.store _ (.tmp 5) _, _, _, _, _⟩ :: _) _ _
         go_must (refine wpList_store_var 45 _ _ rfl rfl wf.heap.size #[.int .i64 T.k, .int .i64 T.e, .int .i64 T.s, .slice A4 T.m c4] _ _ rfl rfl HA.out.1 size_frame rfl (one4 _ _ _ _ _ _) ?_)
         intro wb bb mb zb
         have mm := HA.out.2.1.new_ mb (Nat.le_refl _)
         have H5 := Lib.hid (And.intro (H4.out.1.nn_ mm) (And.intro (H4.out.2.1.mod mm (fun f => f)) (And.intro (H4.out.2.2.1.mod mm (fun f => f)) (And.intro (own_mod H4.out.2.2.2 mm (fun _ _ f => f)) bb))))
         have hwb : wf.heap.size < wb.heap.size := bb.lt
         clear bb mb zb mm))
    have hT4 := HT.out.1.no h1
    have hA4 : ∀ g, Of A4 g → w3.heap.size < g ∧ g < wf.heap.size := by obtain ⟨_, _, e, _, hA⟩ := own_form H4.out.2.2.2; injection e with e _ _; subst e; exact fun h hh => ⟨by have := (hA h hh).1; omega, (hA h hh).2⟩
    have HA4 := Lib.hid hA4
    clear hA4 HA H4 H3 H2
    generalize wf.heap.size = fb at *
    refine wp_region_planC (fun w' => w'.cell? ⟨fb, 3, none⟩ = some (.slice A4 T.m c4)) [(0, true), (1, true), (2, true), (3, true), (4, true), (5, true), (6, true), (7, true), (8, true), (9, true), (10, true), (11, true), (12, true), (13, false), (14, true), (15, true), (16, true), (17, true)] (by kernel_rfl) (by kernel_rfl) (H5.out.2.2.2.2.drew.cell 3) ?_
    obtain ⟨tk, te, ts, tm, td, tq, tr⟩ := T
    simp only [Tell.mk.injEq] at hT4
    obtain ⟨rfl, rfl, rfl, rfl, rfl, rfl, rfl⟩ := hT4
    iterate 3 (refine pc_pure rfl rfl (fun K hK => ?_); go_simp; refine hK _ ?_; clear hK K)
    iterate 5 (refine pc_skip rfl rfl (fun K hK => ?_); go_simp; refine hK _ ?_; clear hK K)
    iterate 2 (refine pc_pure rfl rfl (fun K hK => ?_); go_simp; refine hK _ ?_; clear hK K)
    iterate 3 (refine pc_skip rfl rfl (fun K hK => ?_); go_simp; refine hK _ ?_; clear hK K)
    refine pc_skipD rfl rfl (fun K hK => ?_); go_simp; refine hK _ ?_; clear hK K
    iterate 3 (refine pc_skip rfl rfl (fun K hK => ?_); go_simp; refine hK _ ?_; clear hK K)
    iterate 1 (refine pc_pure rfl rfl (fun K hK => ?_); go_simp; refine hK _ ?_; clear hK K)
    refine pc_nil ?_
    have H6 := Lib.hid (And.intro H5.out.1.drew H5.out.2.1.drew)
    go_wp2_with (first
      | (with_reducible change wpList _ _ _ (⟨none, Op.store _ (.tmp 2) _, _, _, _, _⟩ :: _) _ _
         go_must (refine wpList_store_var 25 _ _ rfl rfl w.heap.size (hC hd0) _ _ rfl rfl H6.out.2 size_head rfl (hC_one _) ?_)
         intro w9 b9 m9 z9
         have M9 := H6.out.1.new_ m9 (Nat.le_refl _)
         have C0 : w9.cell? ⟨w.heap.size, 0, none⟩ = some (.int .i64 hd0.g.v) := b9.cell 0
         have C1 : w9.cell? ⟨w.heap.size, 1, none⟩ = some (.int .i64 hd0.g.S) := b9.cell 1
         have C2 : w9.cell? ⟨w.heap.size, 2, none⟩ = some (.int .i64 hd0.g.s) := b9.cell 2
         have C3 : w9.cell? ⟨w.heap.size, 3, none⟩ = some (.int .i64 hd0.g.u) := b9.cell 3
         have C4 : w9.cell? ⟨w.heap.size, 4, none⟩ = some (.int .i64 hd0.g.j) := b9.cell 4
         have C5 : w9.cell? ⟨w.heap.size, 5, none⟩ = some (.int .i64 hd0.n) := b9.cell 5
         have C6 : w9.cell? ⟨w.heap.size, 6, none⟩ = some (.int .i64 hd0.p) := b9.cell 6
         have C7 : w9.cell? ⟨w.heap.size, 7, none⟩ = some (.int .i64 hd0.r) := b9.cell 7
         have C8 : w9.cell? ⟨w.heap.size, 8, none⟩ = some (.int .i64 hd0.k) := b9.cell 8
         clear m9 b9))
    exact bodyPost_ret (v := .tuple #[hdV hd0, .int .i64 4]) (by simp [results, Tryz.results14, go_sem, hdV, hC, C0, C1, C2, C3, C4, C5, C6, C7, C8]) rfl ⟨rfl, M9⟩
  by_cases h2 : l.length = 512 * fsec (frLong l)
  case neg =>
    obtain ⟨_, rfl, rfl⟩ : ¬ HoldsH l ∧ hh = hd0 ∧ ee = 4 := by
      rcases HG.out with ⟨e, _⟩ | e
      · exact (not_holdsH_of (.inr (.inl h2)) e).elim
      · exact e
    go_enter Tryz.func14, Tryz.ntmps14
    go_wp2_with (first
      | (with_reducible change wpList _ _ _ (⟨some 2, Op.alloc _, _, _, _, _⟩ :: _) _ _
         go_must (refine wpList_alloc_var 25 rfl rfl zero_head ?_)
         intro w2 b2 m2 z2
         have H2 := Lib.hid (And.intro m2 (And.intro b2 z2))
         clear b2 m2 z2)
      | (with_reducible change wpList _ _ _ (⟨some 4, Op.alloc _, _, _, _, _⟩ :: _) _ _
         go_must (refine wpList_alloc_var 25 rfl rfl zero_head ?_)
         intro w3 b3 m3 z3
         rw [H2.out.2.2] at b3 z3 ⊢
         have H3 := Lib.hid (And.intro (H2.out.1.trans m3) (And.intro (H2.out.2.1.mod m3 (fun f => f)) b3))
         have hw3 : w.heap.size + 1 < w3.heap.size := by omega
         clear b3 m3 z3))
    refine (fget_any (w := w3) (l := l) (HR.out.1.mod H3.out.1 (fun _ _ f => f)) HR.out.2.1 (by omega) HR.out.2.2.1 HR.out.2.2.2).mono ?_
    intro r wf hgot
    obtain ⟨A4, c4, rfl, o4, m4⟩ := HT.out.2 _ _ _ hgot
    clear hgot
    have hw4 := m4.size
    have H4 := Lib.hid (And.intro (H3.out.1.nn_ m4) (And.intro (H3.out.2.1.mod m4 (fun f => f)) (And.intro (H3.out.2.2.mod m4 (fun f => f)) o4)))
    clear o4 m4
    go_wp2_with (first
      | (with_reducible change wpList _ _ _ (⟨some 5, Op.alloc _, _, _, _, _⟩ :: _) _ _
         go_must (refine wpList_alloc_var 45 rfl rfl info_frame ?_)
         intro wa ba ma za
         have HA := Lib.hid (And.intro ba (And.intro ma za))
         clear ba ma za)
      | (with_reducible change wpList _ _ _ (⟨none, Op.store _ (.tmp 5) _, _, _, _, _⟩ :: _) _ _
         go_must (refine wpList_store_var 45 _ _ rfl rfl wf.heap.size #[.int .i64 T.k, .int .i64 T.e, .int .i64 T.s, .slice A4 T.m c4] _ _ rfl rfl HA.out.1 size_frame rfl (one4 _ _ _ _ _ _) ?_)
         intro wb bb mb zb
         have mm := HA.out.2.1.new_ mb (Nat.le_refl _)
         have H5 := Lib.hid (And.intro (H4.out.1.nn_ mm) (And.intro (H4.out.2.1.mod mm (fun f => f)) (And.intro (H4.out.2.2.1.mod mm (fun f => f)) (And.intro (own_mod H4.out.2.2.2 mm (fun _ _ f => f)) bb))))
         have hwb : wf.heap.size < wb.heap.size := bb.lt
         clear bb mb zb mm))
    have hT4 := HT.out.1.yes h1
    obtain ⟨m, hm⟩ : ∃ m, frLong l = m := ⟨_, rfl⟩
    obtain ⟨q, hq⟩ : ∃ q, fsec m = q := ⟨_, rfl⟩
    obtain ⟨E, hE⟩ : ∃ E, (frOf l).epoch = E := ⟨_, rfl⟩
    obtain ⟨D, hD⟩ : ∃ D, (frOf l).data = D := ⟨_, rfl⟩
    rw [hm, hq, hE, hD] at hT4
    have HM := Lib.hid (And.intro hm (And.intro hq (And.intro hE hD)))
    have hTm : T.m = m := by rw [hT4]
    have hql : q ≤ 66 := by rw [← hq]; unfold fsec; omega
    clear hTm
    clear hm hq hE hD
    obtain ⟨tk, te, ts, tm, td, tq, tr⟩ := T
    simp only [Tell.mk.injEq] at hT4
    obtain ⟨rfl, rfl, rfl, rfl, rfl, rfl, rfl⟩ := hT4
    simp only at hb H5
    have h2q := Lib.hid (show ¬ (n : Int) = 512 * (q : Int) from fun e => h2 (by rw [HM.out.1, HM.out.2.1, HL.out]; omega))
    have hA4 : ∀ g, Of A4 g → w3.heap.size < g ∧ g < wf.heap.size := by obtain ⟨_, _, e, _, hA⟩ := own_form H4.out.2.2.2; injection e with e _ _; subst e; exact fun h hh => ⟨by have := (hA h hh).1; omega, (hA h hh).2⟩
    have HA4 := Lib.hid hA4
    clear hA4 HA H4 H3 H2
    generalize wf.heap.size = fb at *
    refine wp_region_planC (fun w' => w'.cell? ⟨fb, 3, none⟩ = some (.slice A4 tm c4)) [(0, true), (1, true), (2, true), (3, true), (4, true), (5, true), (6, true), (7, true), (8, true), (9, true), (10, true), (11, true), (12, true), (13, false), (14, true), (15, true), (16, true), (17, true)] (by kernel_rfl) (by kernel_rfl) (H5.out.2.2.2.2.drew.cell 3) ?_
    iterate 7 (refine pc_pure rfl rfl (fun K hK => ?_); go_simp; refine hK _ ?_; clear hK K)
    rw [show IntKind.i64.wrap ((q : Int) * 512) = ((512 * q : Nat) : Int) from by rw [IntKind.wrap_i64]; omega]
    iterate 1 (refine pc_pure rfl rfl (fun K hK => ?_); go_simp; refine hK _ ?_; clear hK K)
    try rw [show ((n : Int) != 512 * (q : Int)) = true from bne_iff_ne.2 h2q.out]
    iterate 2 (refine pc_pure rfl rfl (fun K hK => ?_); go_simp; refine hK _ ?_; clear hK K)
    iterate 3 (refine pc_skip rfl rfl (fun K hK => ?_); go_simp; refine hK _ ?_; clear hK K)
    refine pc_skipD rfl rfl (fun K hK => ?_); go_simp; refine hK _ ?_; clear hK K
    iterate 3 (refine pc_skip rfl rfl (fun K hK => ?_); go_simp; refine hK _ ?_; clear hK K)
    iterate 1 (refine pc_pure rfl rfl (fun K hK => ?_); go_simp; refine hK _ ?_; clear hK K)
    refine pc_nil ?_
    have H6 := Lib.hid (And.intro H5.out.1.drew H5.out.2.1.drew)
    go_wp2_with (first
      | (with_reducible change wpList _ _ _ (⟨none, Op.store _ (.tmp 2) _, _, _, _, _⟩ :: _) _ _
         go_must (refine wpList_store_var 25 _ _ rfl rfl w.heap.size (hC hd0) _ _ rfl rfl H6.out.2 size_head rfl (hC_one _) ?_)
         intro w9 b9 m9 z9
         have M9 := H6.out.1.new_ m9 (Nat.le_refl _)
         have C0 : w9.cell? ⟨w.heap.size, 0, none⟩ = some (.int .i64 hd0.g.v) := b9.cell 0
         have C1 : w9.cell? ⟨w.heap.size, 1, none⟩ = some (.int .i64 hd0.g.S) := b9.cell 1
         have C2 : w9.cell? ⟨w.heap.size, 2, none⟩ = some (.int .i64 hd0.g.s) := b9.cell 2
         have C3 : w9.cell? ⟨w.heap.size, 3, none⟩ = some (.int .i64 hd0.g.u) := b9.cell 3
         have C4 : w9.cell? ⟨w.heap.size, 4, none⟩ = some (.int .i64 hd0.g.j) := b9.cell 4
         have C5 : w9.cell? ⟨w.heap.size, 5, none⟩ = some (.int .i64 hd0.n) := b9.cell 5
         have C6 : w9.cell? ⟨w.heap.size, 6, none⟩ = some (.int .i64 hd0.p) := b9.cell 6
         have C7 : w9.cell? ⟨w.heap.size, 7, none⟩ = some (.int .i64 hd0.r) := b9.cell 7
         have C8 : w9.cell? ⟨w.heap.size, 8, none⟩ = some (.int .i64 hd0.k) := b9.cell 8
         clear m9 b9))
    exact bodyPost_ret (v := .tuple #[hdV hd0, .int .i64 4]) (by simp [results, Tryz.results14, go_sem, hdV, hC, C0, C1, C2, C3, C4, C5, C6, C7, C8]) rfl ⟨rfl, M9⟩
  by_cases h3 : frLong l = 32
  case neg =>
    obtain ⟨_, rfl, rfl⟩ : ¬ HoldsH l ∧ hh = hd0 ∧ ee = 4 := by
      rcases HG.out with ⟨e, _⟩ | e
      · exact (not_holdsH_of (.inr (.inr h3)) e).elim
      · exact e
    go_enter Tryz.func14, Tryz.ntmps14
    go_wp2_with (first
      | (with_reducible change wpList _ _ _ (⟨some 2, Op.alloc _, _, _, _, _⟩ :: _) _ _
         go_must (refine wpList_alloc_var 25 rfl rfl zero_head ?_)
         intro w2 b2 m2 z2
         have H2 := Lib.hid (And.intro m2 (And.intro b2 z2))
         clear b2 m2 z2)
      | (with_reducible change wpList _ _ _ (⟨some 4, Op.alloc _, _, _, _, _⟩ :: _) _ _
         go_must (refine wpList_alloc_var 25 rfl rfl zero_head ?_)
         intro w3 b3 m3 z3
         rw [H2.out.2.2] at b3 z3 ⊢
         have H3 := Lib.hid (And.intro (H2.out.1.trans m3) (And.intro (H2.out.2.1.mod m3 (fun f => f)) b3))
         have hw3 : w.heap.size + 1 < w3.heap.size := by omega
         clear b3 m3 z3))
    refine (fget_any (w := w3) (l := l) (HR.out.1.mod H3.out.1 (fun _ _ f => f)) HR.out.2.1 (by omega) HR.out.2.2.1 HR.out.2.2.2).mono ?_
    intro r wf hgot
    obtain ⟨A4, c4, rfl, o4, m4⟩ := HT.out.2 _ _ _ hgot
    clear hgot
    have hw4 := m4.size
    have H4 := Lib.hid (And.intro (H3.out.1.nn_ m4) (And.intro (H3.out.2.1.mod m4 (fun f => f)) (And.intro (H3.out.2.2.mod m4 (fun f => f)) o4)))
    clear o4 m4
    go_wp2_with (first
      | (with_reducible change wpList _ _ _ (⟨some 5, Op.alloc _, _, _, _, _⟩ :: _) _ _
         go_must (refine wpList_alloc_var 45 rfl rfl info_frame ?_)
         intro wa ba ma za
         have HA := Lib.hid (And.intro ba (And.intro ma za))
         clear ba ma za)
      | (with_reducible change wpList _ _ _ (⟨none, Op.store _ (.tmp 5) _, _, _, _, _⟩ :: _) _ _
         go_must (refine wpList_store_var 45 _ _ rfl rfl wf.heap.size #[.int .i64 T.k, .int .i64 T.e, .int .i64 T.s, .slice A4 T.m c4] _ _ rfl rfl HA.out.1 size_frame rfl (one4 _ _ _ _ _ _) ?_)
         intro wb bb mb zb
         have mm := HA.out.2.1.new_ mb (Nat.le_refl _)
         have H5 := Lib.hid (And.intro (H4.out.1.nn_ mm) (And.intro (H4.out.2.1.mod mm (fun f => f)) (And.intro (H4.out.2.2.1.mod mm (fun f => f)) (And.intro (own_mod H4.out.2.2.2 mm (fun _ _ f => f)) bb))))
         have hwb : wf.heap.size < wb.heap.size := bb.lt
         clear bb mb zb mm))
    have hT4 := HT.out.1.yes h1
    obtain ⟨m, hm⟩ : ∃ m, frLong l = m := ⟨_, rfl⟩
    obtain ⟨q, hq⟩ : ∃ q, fsec m = q := ⟨_, rfl⟩
    obtain ⟨E, hE⟩ : ∃ E, (frOf l).epoch = E := ⟨_, rfl⟩
    obtain ⟨D, hD⟩ : ∃ D, (frOf l).data = D := ⟨_, rfl⟩
    rw [hm, hq, hE, hD] at hT4
    have HM := Lib.hid (And.intro hm (And.intro hq (And.intro hE hD)))
    have hTm : T.m = m := by rw [hT4]
    have hql : q ≤ 66 := by rw [← hq]; unfold fsec; omega
    clear hTm
    clear hm hq hE hD
    obtain ⟨tk, te, ts, tm, td, tq, tr⟩ := T
    simp only [Tell.mk.injEq] at hT4
    obtain ⟨rfl, rfl, rfl, rfl, rfl, rfl, rfl⟩ := hT4
    simp only at hb H5
    have h3q := Lib.hid (show ¬ (tm : Int) = 32 from fun e => h3 (by rw [HM.out.1]; omega))
    have h2q := Lib.hid (show (n : Int) = 512 * (q : Int) by have e := h2; rw [HM.out.1, HM.out.2.1, HL.out] at e; omega)
    have hA4 : ∀ g, Of A4 g → w3.heap.size < g ∧ g < wf.heap.size := by obtain ⟨_, _, e, _, hA⟩ := own_form H4.out.2.2.2; injection e with e _ _; subst e; exact fun h hh => ⟨by have := (hA h hh).1; omega, (hA h hh).2⟩
    have HA4 := Lib.hid hA4
    clear hA4 HA H4 H3 H2
    generalize wf.heap.size = fb at *
    refine wp_region_planC (fun w' => w'.cell? ⟨fb, 3, none⟩ = some (.slice A4 tm c4)) [(0, true), (1, true), (2, true), (3, true), (4, true), (5, true), (6, true), (7, true), (8, true), (9, true), (10, true), (11, true), (12, true), (13, false), (14, true), (15, true), (16, true), (17, true)] (by kernel_rfl) (by kernel_rfl) (H5.out.2.2.2.2.drew.cell 3) ?_
    iterate 7 (refine pc_pure rfl rfl (fun K hK => ?_); go_simp; refine hK _ ?_; clear hK K)
    rw [show IntKind.i64.wrap ((q : Int) * 512) = ((512 * q : Nat) : Int) from by rw [IntKind.wrap_i64]; omega]
    iterate 1 (refine pc_pure rfl rfl (fun K hK => ?_); go_simp; refine hK _ ?_; clear hK K)
    try rw [show ((n : Int) != 512 * (q : Int)) = false from bne_eq_false_iff_eq.2 h2q.out]
    iterate 3 (refine pc_pure rfl rfl (fun K hK => ?_); go_simp; refine hK _ ?_; clear hK K)
    refine pc_take (.slice A4 tm c4) rfl rfl (fun w' hS => exec_load1 (P := Tryz.prog) 26 _ rfl rfl hS Tryz.underlying26 rfl) (fun K hK => ?_); go_simp; refine hK _ ?_; clear hK K
    iterate 1 (refine pc_pure rfl rfl (fun K hK => ?_); go_simp; refine hK _ ?_; clear hK K)
    refine pc_call rfl rfl (fun K hK => ?_); go_simp; refine ⟨_, _, ⟨rfl, rfl⟩, hK _ _ _ ?_⟩; clear hK K
    refine (hnums_any _ _).mono ?_
    rintro r w6 ⟨rfl, m6⟩
    have H6 := Lib.hid (And.intro (H5.out.1.drew.nn_ m6) (And.intro (H5.out.2.1.drew.mod m6 (fun f => f)) (And.intro (H5.out.2.2.1.drew.mod m6 (fun f => f)) (And.intro (own_mod (H5.out.2.2.2.1.drew) m6 (fun _ _ f => f)) (H5.out.2.2.2.2.drew.mod m6 (fun f => f))))))
    clear m6
    refine ⟨_, rfl, H6.out.2.2.2.2.cell 3, ?_⟩
    iterate 2 (refine pc_pure rfl rfl (fun K hK => ?_); go_simp; refine hK _ ?_; clear hK K)
    rw [show IntKind.i64.wrap 32 = 32 from by rw [IntKind.wrap_i64]; omega]
    iterate 1 (refine pc_pure rfl rfl (fun K hK => ?_); go_simp; refine hK _ ?_; clear hK K)
    try rw [show ((tm : Int) != 32) = true from bne_iff_ne.2 h3q.out]
    iterate 1 (refine pc_pure rfl rfl (fun K hK => ?_); go_simp; refine hK _ ?_; clear hK K)
    refine pc_nil ?_
    go_wp2_with (first
      | (with_reducible change wpList _ _ _ (⟨none, Op.store _ (.tmp 2) _, _, _, _, _⟩ :: _) _ _
         go_must (refine wpList_store_var 25 _ _ rfl rfl w.heap.size (hC hd0) _ _ rfl rfl (And.intro H6.out.1 H6.out.2.1).2 size_head rfl (hC_one _) ?_)
         intro w9 b9 m9 z9
         have M9 := (And.intro H6.out.1 H6.out.2.1).1.new_ m9 (Nat.le_refl _)
         have C0 : w9.cell? ⟨w.heap.size, 0, none⟩ = some (.int .i64 hd0.g.v) := b9.cell 0
         have C1 : w9.cell? ⟨w.heap.size, 1, none⟩ = some (.int .i64 hd0.g.S) := b9.cell 1
         have C2 : w9.cell? ⟨w.heap.size, 2, none⟩ = some (.int .i64 hd0.g.s) := b9.cell 2
         have C3 : w9.cell? ⟨w.heap.size, 3, none⟩ = some (.int .i64 hd0.g.u) := b9.cell 3
         have C4 : w9.cell? ⟨w.heap.size, 4, none⟩ = some (.int .i64 hd0.g.j) := b9.cell 4
         have C5 : w9.cell? ⟨w.heap.size, 5, none⟩ = some (.int .i64 hd0.n) := b9.cell 5
         have C6 : w9.cell? ⟨w.heap.size, 6, none⟩ = some (.int .i64 hd0.p) := b9.cell 6
         have C7 : w9.cell? ⟨w.heap.size, 7, none⟩ = some (.int .i64 hd0.r) := b9.cell 7
         have C8 : w9.cell? ⟨w.heap.size, 8, none⟩ = some (.int .i64 hd0.k) := b9.cell 8
         clear m9 b9))
    exact bodyPost_ret (v := .tuple #[hdV hd0, .int .i64 4]) (by simp [results, Tryz.results14, go_sem, hdV, hC, C0, C1, C2, C3, C4, C5, C6, C7, C8]) rfl ⟨rfl, M9⟩
  go_enter Tryz.func14, Tryz.ntmps14
  go_wp2_with (first
    | (with_reducible change wpList _ _ _ (⟨some 2, Op.alloc _, _, _, _, _⟩ :: _) _ _
       go_must (refine wpList_alloc_var 25 rfl rfl zero_head ?_)
       intro w2 b2 m2 z2
       have H2 := Lib.hid (And.intro m2 (And.intro b2 z2))
       clear b2 m2 z2)
    | (with_reducible change wpList _ _ _ (⟨some 4, Op.alloc _, _, _, _, _⟩ :: _) _ _
       go_must (refine wpList_alloc_var 25 rfl rfl zero_head ?_)
       intro w3 b3 m3 z3
       rw [H2.out.2.2] at b3 z3 ⊢
       have H3 := Lib.hid (And.intro (H2.out.1.trans m3) (And.intro (H2.out.2.1.mod m3 (fun f => f)) b3))
       have hw3 : w.heap.size + 1 < w3.heap.size := by omega
       clear b3 m3 z3))
  refine (fget_any (w := w3) (l := l) (HR.out.1.mod H3.out.1 (fun _ _ f => f)) HR.out.2.1 (by omega) HR.out.2.2.1 HR.out.2.2.2).mono ?_
  intro r wf hgot
  obtain ⟨A4, c4, rfl, o4, m4⟩ := HT.out.2 _ _ _ hgot
  clear hgot
  have hw4 := m4.size
  have H4 := Lib.hid (And.intro (H3.out.1.nn_ m4) (And.intro (H3.out.2.1.mod m4 (fun f => f)) (And.intro (H3.out.2.2.mod m4 (fun f => f)) o4)))
  clear o4 m4
  go_wp2_with (first
    | (with_reducible change wpList _ _ _ (⟨some 5, Op.alloc _, _, _, _, _⟩ :: _) _ _
       go_must (refine wpList_alloc_var 45 rfl rfl info_frame ?_)
       intro wa ba ma za
       have HA := Lib.hid (And.intro ba (And.intro ma za))
       clear ba ma za)
    | (with_reducible change wpList _ _ _ (⟨none, Op.store _ (.tmp 5) _, _, _, _, _⟩ :: _) _ _
       go_must (refine wpList_store_var 45 _ _ rfl rfl wf.heap.size #[.int .i64 T.k, .int .i64 T.e, .int .i64 T.s, .slice A4 T.m c4] _ _ rfl rfl HA.out.1 size_frame rfl (one4 _ _ _ _ _ _) ?_)
       intro wb bb mb zb
       have mm := HA.out.2.1.new_ mb (Nat.le_refl _)
       have H5 := Lib.hid (And.intro (H4.out.1.nn_ mm) (And.intro (H4.out.2.1.mod mm (fun f => f)) (And.intro (H4.out.2.2.1.mod mm (fun f => f)) (And.intro (own_mod H4.out.2.2.2 mm (fun _ _ f => f)) bb))))
       have hwb : wf.heap.size < wb.heap.size := bb.lt
       clear bb mb zb mm))
  have hT4 := HT.out.1.yes h1
  obtain ⟨m, hm⟩ : ∃ m, frLong l = m := ⟨_, rfl⟩
  obtain ⟨q, hq⟩ : ∃ q, fsec m = q := ⟨_, rfl⟩
  obtain ⟨E, hE⟩ : ∃ E, (frOf l).epoch = E := ⟨_, rfl⟩
  obtain ⟨D, hD⟩ : ∃ D, (frOf l).data = D := ⟨_, rfl⟩
  rw [hm, hq, hE, hD] at hT4
  have HM := Lib.hid (And.intro hm (And.intro hq (And.intro hE hD)))
  have hTm : T.m = m := by rw [hT4]
  have hql : q ≤ 66 := by rw [← hq]; unfold fsec; omega
  clear hTm
  clear hm hq hE hD
  obtain ⟨tk, te, ts, tm, td, tq, tr⟩ := T
  simp only [Tell.mk.injEq] at hT4
  obtain ⟨rfl, rfl, rfl, rfl, rfl, rfl, rfl⟩ := hT4
  simp only at hb H5
  have htm := Lib.hid (show tm = 32 by rw [← HM.out.1]; exact h3)
  have hq1 := Lib.hid (show q = 1 by rw [← HM.out.2.1, htm.out]; decide)
  have h3q := Lib.hid (show (tm : Int) = 32 by rw [htm.out]; rfl)
  have h2q := Lib.hid (show (n : Int) = 512 * (q : Int) by have e := h2; rw [HM.out.1, HM.out.2.1, HL.out] at e; omega)
  have h3 := Lib.hid h3
  have h2 := Lib.hid h2
  have hA4 : ∀ g, Of A4 g → w3.heap.size < g ∧ g < wf.heap.size := by obtain ⟨_, _, e, _, hA⟩ := own_form H4.out.2.2.2; injection e with e _ _; subst e; exact fun h hh => ⟨by have := (hA h hh).1; omega, (hA h hh).2⟩
  have HA4 := Lib.hid hA4
  clear hA4 HA H4 H3 H2
  generalize wf.heap.size = fb at *
  refine wp_region_planC (fun w' => w'.cell? ⟨fb, 3, none⟩ = some (.slice A4 tm c4)) [(0, true), (1, true), (2, true), (3, true), (4, true), (5, true), (6, true), (7, true), (8, true), (9, true), (10, true), (11, true), (12, true), (13, false), (14, true), (15, true), (16, true), (17, true)] (by kernel_rfl) (by kernel_rfl) (H5.out.2.2.2.2.drew.cell 3) ?_
  iterate 7 (refine pc_pure rfl rfl (fun K hK => ?_); go_simp; refine hK _ ?_; clear hK K)
  rw [show IntKind.i64.wrap ((q : Int) * 512) = ((512 * q : Nat) : Int) from by rw [IntKind.wrap_i64]; omega]
  iterate 1 (refine pc_pure rfl rfl (fun K hK => ?_); go_simp; refine hK _ ?_; clear hK K)
  try rw [show ((n : Int) != 512 * (q : Int)) = false from bne_eq_false_iff_eq.2 h2q.out]
  iterate 3 (refine pc_pure rfl rfl (fun K hK => ?_); go_simp; refine hK _ ?_; clear hK K)
  refine pc_take (.slice A4 tm c4) rfl rfl (fun w' hS => exec_load1 (P := Tryz.prog) 26 _ rfl rfl hS Tryz.underlying26 rfl) (fun K hK => ?_); go_simp; refine hK _ ?_; clear hK K
  iterate 1 (refine pc_pure rfl rfl (fun K hK => ?_); go_simp; refine hK _ ?_; clear hK K)
  refine pc_call rfl rfl (fun K hK => ?_); go_simp; refine ⟨_, _, ⟨rfl, rfl⟩, hK _ _ _ ?_⟩; clear hK K
  refine (hnums_any _ _).mono ?_
  rintro r w6 ⟨rfl, m6⟩
  have H6 := Lib.hid (And.intro (H5.out.1.drew.nn_ m6) (And.intro (H5.out.2.1.drew.mod m6 (fun f => f)) (And.intro (H5.out.2.2.1.drew.mod m6 (fun f => f)) (And.intro (own_mod (H5.out.2.2.2.1.drew) m6 (fun _ _ f => f)) (H5.out.2.2.2.2.drew.mod m6 (fun f => f))))))
  clear m6
  refine ⟨_, rfl, H6.out.2.2.2.2.cell 3, ?_⟩
  iterate 2 (refine pc_pure rfl rfl (fun K hK => ?_); go_simp; refine hK _ ?_; clear hK K)
  rw [show IntKind.i64.wrap 32 = 32 from by rw [IntKind.wrap_i64]; omega]
  iterate 1 (refine pc_pure rfl rfl (fun K hK => ?_); go_simp; refine hK _ ?_; clear hK K)
  try rw [show ((tm : Int) != 32) = false from bne_eq_false_iff_eq.2 h3q.out]
  iterate 1 (refine pc_pure rfl rfl (fun K hK => ?_); go_simp; refine hK _ ?_; clear hK K)
  refine pc_nil ?_
  have hDl : td.length = tm := by have := (Rd.of_own H6.out.2.2.2.1).1; rwa [bv_len] at this
  have hDb : ∀ z ∈ td, z < 256 := HT.out.1.dl
  have HD := Lib.hid (And.intro hDl hDb)
  have hKn : (hdOf l).n = (E : Int) := by show (((frOf l).epoch : Nat) : Int) = _; rw [HM.out.2.2.1]
  have hKw : ∀ k, k < 8 → hnum (hdOf l) k = w4 td k := fun k hk => by rw [hnum_of l k hk, HM.out.2.2.2]
  obtain ⟨K, hK⟩ : ∃ K, hdOf l = K := ⟨_, rfl⟩
  rw [hK] at hKn hKw
  have HK := Lib.hid (And.intro hKn (And.intro hKw hK))
  clear hDl hDb hKn hKw hK H5
  have D1 : w6.cell? ⟨fb, 1, none⟩ = some (.int .i64 (E : Int)) := H6.out.2.2.2.2.cell 1
  have hfb9 : w.heap.size + 1 < fb := by omega
  go_wp2_with (first
    | (with_reducible change wpList _ _ _ (⟨none, Op.store _ (Operand.tmp 41) _, _, _, _, _⟩ :: _) _ _
       go_must (refine wpList_unit rfl (exec_store1 (P := Tryz.prog) (v := .int .i64 (E : Int)) 3 _ _ rfl rfl rfl (show _ = some (.int .i64 0) from H6.out.2.2.1.cell 5) (H6.out.2.2.1.frozen _) rfl rfl rfl size_int) ?_)
       have b7 := H6.out.2.2.1.set_ 5 (.int .i64 (E : Int))
       rw [show ((Value.agg #[.int .i64 0, .int .i64 0, .int .i64 0, .int .i64 0, .int .i64 0, .int .i64 0, .int .i64 0, .int .i64 0, .int .i64 0]).cells).setIfInBounds 5 (.int .i64 (E : Int)) = hC (hpart K 0) from by rw [← HK.out.1]; exact hpart_0 K] at b7
       have m7 : Mod (At (w.heap.size + 1)) w6 (w6.setCell ⟨w.heap.size + 1, 5, none⟩ (.int .i64 (E : Int))) := Mod.cellAt _ _ _ _
       have H7 := Lib.hid (And.intro (H6.out.1.new_ m7 (by omega)) (And.intro (H6.out.2.1.mod m7 (fun e => by have e : w.heap.size = w.heap.size + 1 := e; omega)) (And.intro b7 (And.intro (own_mod H6.out.2.2.2.1 m7 (fun g hg e => by have e : g = w.heap.size + 1 := e; have := (HA4.out g (own_of hg)).1; omega)) (H6.out.2.2.2.2.mod m7 (fun e => by have e : fb = w.heap.size + 1 := e; omega))))))
       clear b7 m7
       generalize w6.setCell ⟨w.heap.size + 1, 5, none⟩ (.int .i64 (E : Int)) = w7 at *)
    | ((with_reducible refine (hnums_any _ _).mono ?_); rintro r w8 ⟨rfl, m8⟩
       have H8 := Lib.hid (And.intro (H7.out.1.nn_ m8) (And.intro (H7.out.2.1.mod m8 (fun f => f)) (And.intro (H7.out.2.2.1.mod m8 (fun f => f)) (And.intro (own_mod H7.out.2.2.2.1 m8 (fun _ _ f => f)) (H7.out.2.2.2.2.mod m8 (fun f => f))))))
       clear m8))
  clear H6 H7 D1
  go_loopw [43] (fun i wr => ∃ k : Nat, k ≤ 8 ∧ i = .int .i64 k ∧ Mod Nn w wr ∧ Blk wr w.heap.size 25 (Value.agg #[.int .i64 0, .int .i64 0, .int .i64 0, .int .i64 0, .int .i64 0, .int .i64 0, .int .i64 0, .int .i64 0, .int .i64 0]).cells ∧ Blk wr (w.heap.size + 1) 25 (hC (hpart K k)) ∧ wr.ownsRow (w3.heap.size + 1) 5 1 (.slice A4 tm c4) tm (bv td) ∧ Blk wr fb 45 #[.int .i64 (frOf l).kind, .int .i64 E, .int .i64 (frOf l).seq, .slice A4 tm c4]) (fun i _ => 8 - (intOf i).toNat)
  case atStart => exact ⟨0, by omega, rfl, H8.out.1, H8.out.2.1, H8.out.2.2.1, H8.out.2.2.2.1, H8.out.2.2.2.2⟩
  case round =>
    obtain ⟨k, hk, rfl, hm, hbR, hbH, hown, hbF⟩ := hrel
    have HX := Lib.hid (And.intro hm (And.intro hbR (And.intro hbH (And.intro hown hbF))))
    clear hm hbR hbH hown hbF
    by_cases hlt : k < 8
    · have hlt' : (k : Int) < 8 := by omega
      have hix := fun w' => ptr8_at (w.heap.size + 1) w' k hlt
      have D3 : wr.cell? ⟨fb, 3, none⟩ = some (.slice A4 tm c4) := HX.out.2.2.2.2.cell 3
      have hcm4 : tm ≤ c4 := (own_max HX.out.2.2.2.1).1
      go_wp2_with (first
        | (with_reducible change wpList _ _ _ (⟨some 54, Op.slice _ _ _ _ _, _, _, _, _⟩ :: _) _ _
           go_must (refine wpList_sub_lh 26 _ _ _ rfl rfl 5 1 Tryz.underlying26 size_u8' (l := 4 * k) (h := 4 * k + 4) rfl rfl rfl (by omega) (by have := htm.out; omega) ?_)
           rw [show 4 * k + 4 - 4 * k = 4 from by omega]))
      have hB := rd_sub (Rd.of_own HX.out.2.2.2.1) (4 * k) 4 (by rw [htm.out]; omega) hcm4
      have hBn : ∀ g, Of (subA A4 c4 (4 * k) 1) g → g ≠ w.heap.size + 1 := fun g hg e => by have := (HA4.out g (of_sub hg)).1; omega
      have HB4 := Lib.hid (And.intro hB hBn)
      clear hB hBn D3
      generalize subA A4 c4 (4 * k) 1 = B at *
      go_loopw [56] (fun i wr' => ∃ j : Nat, j ≤ 4 ∧ i = .int .i64 j ∧ Mod Nn w wr' ∧ Blk wr' w.heap.size 25 (Value.agg #[.int .i64 0, .int .i64 0, .int .i64 0, .int .i64 0, .int .i64 0, .int .i64 0, .int .i64 0, .int .i64 0, .int .i64 0]).cells ∧ Blk wr' (w.heap.size + 1) 25 (hcur K k (said ((td.drop (4 * k)).take j) : Nat)) ∧ wr'.ownsRow (w3.heap.size + 1) 5 1 (.slice A4 tm c4) tm (bv td) ∧ Blk wr' fb 45 #[.int .i64 (frOf l).kind, .int .i64 E, .int .i64 (frOf l).seq, .slice A4 tm c4] ∧ Rd wr' B 4 (bv ((td.drop (4 * k)).take 4))) (fun i _ => 4 - (intOf i).toNat)
      case atStart => exact ⟨0, by omega, rfl, HX.out.1, HX.out.2.1, by have := HX.out.2.2.1; rw [← hcur_0 K k hlt] at this; exact this, HX.out.2.2.2.1, HX.out.2.2.2.2, HB4.out.1⟩
      case round =>
        obtain ⟨j, hj, rfl, hm, hbR, hbH, hown, hbF, hrd⟩ := hrel
        by_cases hjl : j < 4
        · have hjl' : (j : Int) < 4 := by omega
          obtain ⟨g, off, v, rfl, hv, hcell⟩ := hrd.at_ (k := j) hjl
          obtain ⟨z, hz, hz4, hsd⟩ := said_step td (4 * k) j hjl (by have := HD.out.1; rw [htm.out] at this; omega)
          rw [bv_at] at hv
          rw [hz4] at hv
          injection hv with hv
          subst hv
          have hz8 : z < 256 := HD.out.2 z (List.mem_of_getElem? hz)
          have hX3 := said_lt3 td HD.out.2 (4 * k) j hjl
          have HY := Lib.hid (And.intro hm (And.intro hbR (And.intro hbH (And.intro hown (And.intro hbF (And.intro hrd hsd))))))
          clear hm hbR hbH hown hbF hrd hz hz4 hsd
          generalize said ((td.drop (4 * k)).take j) = X at *
          have hor := or_goi X z hX3 hz8
          have D4 : wr.cell? ⟨w.heap.size + 1, hpos k, none⟩ = some (.int .i64 (X : Int)) := (HY.out.2.2.1.cell (hpos k)).trans (hcur_at K X k hlt)
          go_wp2_with (first
            | (with_reducible change wpList _ _ _ (⟨none, Op.store _ (Operand.tmp 68) _, _, _, _, _⟩ :: _) _ _
               go_must (refine wpList_unit rfl (exec_store1 (P := Tryz.prog) (v := .int .i64 ((256 * X + z : Nat) : Int)) 3 _ _ rfl rfl rfl D4 (HY.out.2.2.1.frozen _) rfl rfl rfl size_int) ?_)))
          have m7 : Mod (At (w.heap.size + 1)) wr (wr.setCell ⟨w.heap.size + 1, hpos k, none⟩ (.int .i64 ((256 * X + z : Nat) : Int))) := Mod.cellAt _ _ _ _
          have b7 := HY.out.2.2.1.set_ (hpos k) (.int .i64 ((256 * X + z : Nat) : Int))
          rw [hcur_set] at b7
          exact ⟨⟨j + 1, by omega, by go_num, HY.out.1.new_ m7 (by omega), HY.out.2.1.mod m7 (fun e => by have e : w.heap.size = w.heap.size + 1 := e; omega), by rw [HY.out.2.2.2.2.2.2]; exact b7, own_mod HY.out.2.2.2.1 m7 (fun g hg e => by have e : g = w.heap.size + 1 := e; have := (HA4.out g (own_of hg)).1; omega), HY.out.2.2.2.2.1.mod m7 (fun e => by have e : fb = w.heap.size + 1 := e; omega), HY.out.2.2.2.2.2.1.mod m7 (fun g hg e => HB4.out.2 g hg e)⟩, by simp [intOf]; omega⟩
        · obtain rfl : j = 4 := by omega
          have hbH' : Blk wr (w.heap.size + 1) 25 (hC (hpart K (k + 1))) := by
            have := hbH
            rw [show ((said ((td.drop (4 * k)).take 4) : Nat) : Int) = hnum K k from (HK.out.2.1 k hlt).symm, hcur_1 K k hlt] at this
            exact this
          have HY := Lib.hid (And.intro hm (And.intro hbR (And.intro hbH' (And.intro hown hbF))))
          clear hm hbR hbH hbH' hown hbF hrd hix
          go_wp2
          exact ⟨⟨k + 1, by omega, by go_num, HY.out.1, HY.out.2.1, HY.out.2.2.1, HY.out.2.2.2.1, HY.out.2.2.2.2⟩, by simp [intOf]; omega⟩
    · obtain rfl : k = 8 := by omega
      have hb8 := HX.out.2.2.1
      rw [hpart_8] at hb8
      have HB8 := Lib.hid hb8
      clear hb8
      go_wp2_with (first
        | (with_reducible change wpList _ _ _ (⟨some 72, Op.load _ _, _, _, _, _⟩ :: _) _ _
           go_must (refine wpList_load_var 25 _ rfl rfl (w.heap.size + 1) (hC K) _ _ rfl HB8.out Tryz.underlying25 rfl size_head ?_)))
      refine (hput_any K _).mono ?_
      rintro r w7 ⟨A7, c7, rfl, o7, m7⟩
      have H7 := Lib.hid (And.intro (HX.out.1.nn_ m7) (And.intro (HX.out.2.1.mod m7 (fun f => f)) (And.intro (HB8.out.mod m7 (fun f => f)) (Rd.of_own o7))))
      clear o7 m7
      by_cases hr9 : K.right
      case neg =>
        obtain ⟨_, rfl, rfl⟩ : ¬ HoldsH l ∧ hh = hd0 ∧ ee = 4 := by
          rcases HG.out with ⟨e, _⟩ | e
          · exact (hr9 (by have := e.2.2.2.1; rwa [HK.out.2.2] at this)).elim
          · exact e
        have he : herr K = 2 := if_neg hr9
        rw [he]
        clear he hr9
        go_wp2_with (first
          | (with_reducible change wpList _ _ _ (⟨none, Op.store _ (.tmp 2) _, _, _, _, _⟩ :: _) _ _
             go_must (refine wpList_store_var 25 _ _ rfl rfl w.heap.size (hC hd0) _ _ rfl rfl (And.intro H7.out.1 H7.out.2.1).2 size_head rfl (hC_one _) ?_)
             intro w9 b9 m9 z9
             have M9 := (And.intro H7.out.1 H7.out.2.1).1.new_ m9 (Nat.le_refl _)
             have C0 : w9.cell? ⟨w.heap.size, 0, none⟩ = some (.int .i64 hd0.g.v) := b9.cell 0
             have C1 : w9.cell? ⟨w.heap.size, 1, none⟩ = some (.int .i64 hd0.g.S) := b9.cell 1
             have C2 : w9.cell? ⟨w.heap.size, 2, none⟩ = some (.int .i64 hd0.g.s) := b9.cell 2
             have C3 : w9.cell? ⟨w.heap.size, 3, none⟩ = some (.int .i64 hd0.g.u) := b9.cell 3
             have C4 : w9.cell? ⟨w.heap.size, 4, none⟩ = some (.int .i64 hd0.g.j) := b9.cell 4
             have C5 : w9.cell? ⟨w.heap.size, 5, none⟩ = some (.int .i64 hd0.n) := b9.cell 5
             have C6 : w9.cell? ⟨w.heap.size, 6, none⟩ = some (.int .i64 hd0.p) := b9.cell 6
             have C7 : w9.cell? ⟨w.heap.size, 7, none⟩ = some (.int .i64 hd0.r) := b9.cell 7
             have C8 : w9.cell? ⟨w.heap.size, 8, none⟩ = some (.int .i64 hd0.k) := b9.cell 8
             clear m9 b9))
        exact bodyPost_ret (v := .tuple #[hdV hd0, .int .i64 4]) (by simp [results, Tryz.results14, go_sem, hdV, hC, C0, C1, C2, C3, C4, C5, C6, C7, C8]) rfl ⟨rfl, M9⟩
      have he : herr K = 0 := if_pos hr9
      have hby : hbytes K = K.fr.bytes := if_pos hr9
      rw [he]
      have HBY := Lib.hid hby
      have hrd7 := H7.out.2.2.2
      rw [hby] at hrd7
      have heq := bequal_any (c := c7) (d := c) hrd7 (HR.out.1.mod H7.out.1 (fun _ _ f => f)) (K.fr.bytes_lt K.data_lt) HR.out.2.1
      rw [← hby] at heq
      have HR9 := Lib.hid hr9
      clear he hby hrd7 hr9
      by_cases hbq : K.fr.bytes = l
      case neg =>
        obtain ⟨_, rfl, rfl⟩ : ¬ HoldsH l ∧ hh = hd0 ∧ ee = 4 := by
          rcases HG.out with ⟨e, _⟩ | e
          · exact (hbq (by have := e.2.2.2.2; rwa [HK.out.2.2] at this)).elim
          · exact e
        rw [HBY.out, decide_eq_false hbq, ← HBY.out] at heq
        have HE := Lib.hid heq
        clear heq hbq
        go_wp2_with (first
          | ((with_reducible refine HE.out.mono ?_); rintro r w8 ⟨rfl, rfl⟩)
          | (with_reducible change wpList _ _ _ (⟨none, Op.store _ (.tmp 2) _, _, _, _, _⟩ :: _) _ _
             go_must (refine wpList_store_var 25 _ _ rfl rfl w.heap.size (hC hd0) _ _ rfl rfl (And.intro H7.out.1 H7.out.2.1).2 size_head rfl (hC_one _) ?_)
             intro w9 b9 m9 z9
             have M9 := (And.intro H7.out.1 H7.out.2.1).1.new_ m9 (Nat.le_refl _)
             have C0 : w9.cell? ⟨w.heap.size, 0, none⟩ = some (.int .i64 hd0.g.v) := b9.cell 0
             have C1 : w9.cell? ⟨w.heap.size, 1, none⟩ = some (.int .i64 hd0.g.S) := b9.cell 1
             have C2 : w9.cell? ⟨w.heap.size, 2, none⟩ = some (.int .i64 hd0.g.s) := b9.cell 2
             have C3 : w9.cell? ⟨w.heap.size, 3, none⟩ = some (.int .i64 hd0.g.u) := b9.cell 3
             have C4 : w9.cell? ⟨w.heap.size, 4, none⟩ = some (.int .i64 hd0.g.j) := b9.cell 4
             have C5 : w9.cell? ⟨w.heap.size, 5, none⟩ = some (.int .i64 hd0.n) := b9.cell 5
             have C6 : w9.cell? ⟨w.heap.size, 6, none⟩ = some (.int .i64 hd0.p) := b9.cell 6
             have C7 : w9.cell? ⟨w.heap.size, 7, none⟩ = some (.int .i64 hd0.r) := b9.cell 7
             have C8 : w9.cell? ⟨w.heap.size, 8, none⟩ = some (.int .i64 hd0.k) := b9.cell 8
             clear m9 b9))
        exact bodyPost_ret (v := .tuple #[hdV hd0, .int .i64 4]) (by simp [results, Tryz.results14, go_sem, hdV, hC, C0, C1, C2, C3, C4, C5, C6, C7, C8]) rfl ⟨rfl, M9⟩
      obtain ⟨_, rfl, rfl⟩ : HoldsH l ∧ hh = K ∧ ee = 0 := by
        have hH : HoldsH l := ⟨by rw [h2.out, HM.out.1, HM.out.2.1, hq1.out], h1, h3.out, by rw [HK.out.2.2]; exact HR9.out, by rw [HK.out.2.2]; exact hbq⟩
        rcases HG.out with ⟨e1, e2, e3⟩ | ⟨e, _⟩
        · exact ⟨e1, by rw [← HK.out.2.2]; exact e2, e3⟩
        · exact (e hH).elim
      rw [HBY.out, decide_eq_true hbq, ← HBY.out] at heq
      have HE := Lib.hid heq
      clear heq hbq
      go_wp2_with (first
        | ((with_reducible refine HE.out.mono ?_); rintro r w8 ⟨rfl, rfl⟩)
        | (with_reducible change wpList _ _ _ (⟨some 85, Op.load _ _, _, _, _, _⟩ :: _) _ _
           go_must (refine wpList_load_var 25 _ rfl rfl (w.heap.size + 1) (hC hh) _ _ rfl H7.out.2.2.1 Tryz.underlying25 rfl size_head ?_))
        | (with_reducible change wpList _ _ _ (⟨none, Op.store _ (.tmp 2) _, _, _, _, _⟩ :: _) _ _
           go_must (refine wpList_store_var 25 _ _ rfl rfl w.heap.size (hC hh) _ _ rfl rfl (And.intro H7.out.1 H7.out.2.1).2 size_head rfl (hC_one _) ?_)
           intro w9 b9 m9 z9
           have M9 := (And.intro H7.out.1 H7.out.2.1).1.new_ m9 (Nat.le_refl _)
           have C0 : w9.cell? ⟨w.heap.size, 0, none⟩ = some (.int .i64 hh.g.v) := b9.cell 0
           have C1 : w9.cell? ⟨w.heap.size, 1, none⟩ = some (.int .i64 hh.g.S) := b9.cell 1
           have C2 : w9.cell? ⟨w.heap.size, 2, none⟩ = some (.int .i64 hh.g.s) := b9.cell 2
           have C3 : w9.cell? ⟨w.heap.size, 3, none⟩ = some (.int .i64 hh.g.u) := b9.cell 3
           have C4 : w9.cell? ⟨w.heap.size, 4, none⟩ = some (.int .i64 hh.g.j) := b9.cell 4
           have C5 : w9.cell? ⟨w.heap.size, 5, none⟩ = some (.int .i64 hh.n) := b9.cell 5
           have C6 : w9.cell? ⟨w.heap.size, 6, none⟩ = some (.int .i64 hh.p) := b9.cell 6
           have C7 : w9.cell? ⟨w.heap.size, 7, none⟩ = some (.int .i64 hh.r) := b9.cell 7
           have C8 : w9.cell? ⟨w.heap.size, 8, none⟩ = some (.int .i64 hh.k) := b9.cell 8
           clear m9 b9))
      exact bodyPost_ret (v := .tuple #[hdV hh, .int .i64 0]) (by simp [results, Tryz.results14, go_sem, hdV, hC, C0, C1, C2, C3, C4, C5, C6, C7, C8]) rfl ⟨rfl, M9⟩
end
end Go.Proofs.YtodnhbiomooknaaGreat
