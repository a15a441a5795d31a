/- peatbankref12.Get (printed by wip/gen/hdrget.py). -/
import Derived.Test.YtodnhbiomooknaaGreatHd8
import Derived.Test.YtodnhbiomooknaaGreatHd9
import Derived.Test.YtodnhbiomooknaaGreatNdI
import Derived.Test.YtodnhbiomooknaaGreatFrH
namespace Go.Proofs.YtodnhbiomooknaaGreat
open Go.RowKit

theorem said4 (a b c d : Nat) : said [a, b, c, d] = a * 16777216 + b * 65536 + c * 256 + d := by
  simp [said]; omega
theorem four_of (D : List Nat) (a : Nat) (h : a + 4 ≤ D.length) : ∃ z0 z1 z2 z3, D[a]? = some z0 ∧ D[a + 1]? = some z1 ∧ D[a + 2]? = some z2 ∧ D[a + 3]? = some z3 ∧ (D.drop a).take 4 = [z0, z1, z2, z3] := by
  refine ⟨_, _, _, _, List.getElem?_eq_getElem (by omega), List.getElem?_eq_getElem (by omega), List.getElem?_eq_getElem (by omega), List.getElem?_eq_getElem (by omega), ?_⟩
  rw [List.drop_eq_getElem_cons (by omega), List.drop_eq_getElem_cons (i := a + 1) (by omega), List.drop_eq_getElem_cons (i := a + 2) (by omega), List.drop_eq_getElem_cons (i := a + 3) (by omega)]
  rfl
def iv (l : List Int) : List Value := l.map (Value.int .i64)
theorem iv_one (l : List Int) : ∀ u ∈ iv l, u.oneCell' = true := by intro u hu; obtain ⟨_, _, rfl⟩ := List.mem_map.1 hu; rfl
theorem nums_of (l : List Nat) : ∀ k, k < 8 → (hdOf l).nums[k]? = some (w4 (frOf l).data k)
  | 0, _ | 1, _ | 2, _ | 3, _ | 4, _ | 5, _ | 6, _ | 7, _ => rfl
  | k + 8, h => by omega
theorem info_int : (Tryz.prog.info? 3).map (fun i => (i.zero, i.size, i.bytes)) = some (some (.int .i64 0), 1, 8) := by kernel_rfl
section
variable {w : World} {A : Option Addr} {n c : Nat} {l : List Nat}
set_option maxRecDepth 100000 in
set_option maxHeartbeats 12800000 in
theorem rhget_any {hh : Hd} {ee : Int} (hG : HGet l hh ee) (hr : Rd w A n (bv l)) (hl : ∀ z ∈ l, z < 256) (hn : n ≤ 140737488355328) (hc : n ≤ c) (hcm : c ≤ maxLen) :
    Calls Tryz.prog 25 #[.slice A n c] w fun r w' => r = .returned (.tuple #[hdV hh, .int .i64 ee]) ∧ Mod Nn w w' := by
  have hL : l.length = n := by have := hr.1; rwa [bv_len] at this
  have HL := Lib.hid hL; clear hL
  obtain ⟨T, hT, hP⟩ := tell_of l hl
  have HG := Lib.hid hG
  clear hG
  have HR := Lib.hid (And.intro hr (And.intro hl (And.intro hc hcm)))
  have HT := Lib.hid (And.intro hT hP)
  have hb := hT.big
  clear hr hl hc hcm hT hP
  by_cases h1 : Holds l
  case neg =>
    obtain ⟨_, rfl, rfl⟩ : ¬ HoldsH l ∧ hh = hd0 ∧ ee = 4 := by
      rcases HG.out with ⟨e, _⟩ | e
      · exact (not_holdsH_of (.inl h1) e).elim
      · exact e
    have hT4 := HT.out.1.no h1
    obtain ⟨tk, te, ts, tm, td, tq, tr⟩ := T
    simp only [Tell.mk.injEq] at hT4
    obtain ⟨rfl, rfl, rfl, rfl, rfl, rfl, rfl⟩ := hT4
    simp only at hb
    go_enter Tryz.func25, Tryz.ntmps25
    go_wp2_with (first
      | (with_reducible change wpList _ _ _ (⟨some 2, Op.alloc _, _, _, _, _⟩ :: _) _ _
         go_must (refine wpList_alloc_var 25 rfl rfl zero_head ?_)
         intro w2 b2 m2 z2
         have H2 := Lib.hid (And.intro m2 b2)
         clear b2 m2))
    refine (rget_any (w := w2) (l := l) (HR.out.1.mod H2.out.1 (fun _ _ f => f)) HR.out.2.1 (by omega) HR.out.2.2.1 HR.out.2.2.2).mono ?_
    intro r wf hgot
    obtain ⟨A4, c4, rfl, o4, m4⟩ := HT.out.2 _ _ _ hgot
    clear hgot
    have hw4 := m4.size
    have H4 := Lib.hid (And.intro (H2.out.1.nn_ m4) (And.intro (H2.out.2.mod m4 (fun f => f)) o4))
    clear o4 m4
    go_wp2_with (first
      | (with_reducible change wpList _ _ _ (⟨some 4, Op.alloc _, _, _, _, _⟩ :: _) _ _
         go_must (refine wpList_alloc_var 45 rfl rfl info_frame ?_)
         intro wa ba ma za
         have HA := Lib.hid (And.intro ba (And.intro ma za))
         clear ba ma za)
      | (with_reducible change wpList _ _ _ (⟨none, Op.store _ (.tmp 4) _, _, _, _, _⟩ :: _) _ _
         go_must (refine wpList_store_var 45 _ _ rfl rfl wf.heap.size #[.int .i64 0, .int .i64 0, .int .i64 0, .slice A4 0 c4] _ _ rfl rfl HA.out.1 size_frame rfl (one4 _ _ _ _ _ _) ?_)
         intro wb bb mb zb
         have mm := HA.out.2.1.new_ mb (Nat.le_refl _)
         have D3 : wb.cell? ⟨wf.heap.size, 3, none⟩ = some (.slice A4 0 c4) := bb.cell 3
         have H5 := Lib.hid (And.intro (H4.out.1.nn_ mm) (And.intro (H4.out.2.1.mod mm (fun f => f)) (And.intro (own_mod H4.out.2.2 mm (fun _ _ f => f)) bb)))
         have hwb : wf.heap.size < wb.heap.size := bb.lt
         clear bb mb zb mm)
      | (with_reducible change wpList _ _ _ (⟨none, Op.store _ (.tmp 2) _, _, _, _, _⟩ :: _) _ _
         go_must (refine wpList_store_var 25 _ _ rfl rfl w.heap.size (hC hd0) _ _ rfl rfl (And.intro H5.out.1 H5.out.2.1).2 size_head rfl (hC_one _) ?_)
         intro w9 b9 m9 z9
         have M9 := (And.intro H5.out.1 H5.out.2.1).1.new_ m9 (Nat.le_refl _)
         have C0 : w9.cell? ⟨w.heap.size, 0, none⟩ = some (.int .i64 hd0.g.v) := b9.cell 0
         have C1 : w9.cell? ⟨w.heap.size, 1, none⟩ = some (.int .i64 hd0.g.S) := b9.cell 1
         have C2 : w9.cell? ⟨w.heap.size, 2, none⟩ = some (.int .i64 hd0.g.s) := b9.cell 2
         have C3 : w9.cell? ⟨w.heap.size, 3, none⟩ = some (.int .i64 hd0.g.u) := b9.cell 3
         have C4 : w9.cell? ⟨w.heap.size, 4, none⟩ = some (.int .i64 hd0.g.j) := b9.cell 4
         have C5 : w9.cell? ⟨w.heap.size, 5, none⟩ = some (.int .i64 hd0.n) := b9.cell 5
         have C6 : w9.cell? ⟨w.heap.size, 6, none⟩ = some (.int .i64 hd0.p) := b9.cell 6
         have C7 : w9.cell? ⟨w.heap.size, 7, none⟩ = some (.int .i64 hd0.r) := b9.cell 7
         have C8 : w9.cell? ⟨w.heap.size, 8, none⟩ = some (.int .i64 hd0.k) := b9.cell 8
         clear m9 b9))
    exact bodyPost_ret (v := .tuple #[hdV hd0, .int .i64 4]) (by simp [results, Tryz.results25, go_sem, hdV, hC, C0, C1, C2, C3, C4, C5, C6, C7, C8]) rfl ⟨rfl, M9⟩
  by_cases h2 : n = 512
  case neg =>
    obtain ⟨_, rfl, rfl⟩ : ¬ HoldsH l ∧ hh = hd0 ∧ ee = 4 := by
      rcases HG.out with ⟨e, _⟩ | e
      · exact (h2 (by rw [← HL.out]; exact e.1)).elim
      · exact e
    have hT4 := HT.out.1.yes h1
    have hN5 : ((n : Int) != 512) = true := bne_iff_ne.2 (by omega)
    obtain ⟨m, hm⟩ : ∃ m, frLong l = m := ⟨_, rfl⟩
    obtain ⟨q, hq⟩ : ∃ q, fsec m = q := ⟨_, rfl⟩
    obtain ⟨E, hE⟩ : ∃ E, (frOf l).epoch = E := ⟨_, rfl⟩
    obtain ⟨D, hD⟩ : ∃ D, (frOf l).data = D := ⟨_, rfl⟩
    rw [hm, hq, hE, hD] at hT4
    have HM := Lib.hid (And.intro hm (And.intro hq (And.intro hE hD)))
    clear hm hq hE hD
    obtain ⟨tk, te, ts, tm, td, tq, tr⟩ := T
    simp only [Tell.mk.injEq] at hT4
    obtain ⟨rfl, rfl, rfl, rfl, rfl, rfl, rfl⟩ := hT4
    simp only at hb
    go_enter Tryz.func25, Tryz.ntmps25
    go_wp2_with (first
      | (with_reducible change wpList _ _ _ (⟨some 2, Op.alloc _, _, _, _, _⟩ :: _) _ _
         go_must (refine wpList_alloc_var 25 rfl rfl zero_head ?_)
         intro w2 b2 m2 z2
         have H2 := Lib.hid (And.intro m2 b2)
         clear b2 m2))
    refine (rget_any (w := w2) (l := l) (HR.out.1.mod H2.out.1 (fun _ _ f => f)) HR.out.2.1 (by omega) HR.out.2.2.1 HR.out.2.2.2).mono ?_
    intro r wf hgot
    obtain ⟨A4, c4, rfl, o4, m4⟩ := HT.out.2 _ _ _ hgot
    clear hgot
    have hw4 := m4.size
    have H4 := Lib.hid (And.intro (H2.out.1.nn_ m4) (And.intro (H2.out.2.mod m4 (fun f => f)) o4))
    clear o4 m4
    go_wp2_with (first
      | (with_reducible change wpList _ _ _ (⟨some 4, Op.alloc _, _, _, _, _⟩ :: _) _ _
         go_must (refine wpList_alloc_var 45 rfl rfl info_frame ?_)
         intro wa ba ma za
         have HA := Lib.hid (And.intro ba (And.intro ma za))
         clear ba ma za)
      | (with_reducible change wpList _ _ _ (⟨none, Op.store _ (.tmp 4) _, _, _, _, _⟩ :: _) _ _
         go_must (refine wpList_store_var 45 _ _ rfl rfl wf.heap.size #[.int .i64 ((frOf l).kind : Int), .int .i64 (E : Int), .int .i64 ((frOf l).seq : Int), .slice A4 tm c4] _ _ rfl rfl HA.out.1 size_frame rfl (one4 _ _ _ _ _ _) ?_)
         intro wb bb mb zb
         have mm := HA.out.2.1.new_ mb (Nat.le_refl _)
         have D3 : wb.cell? ⟨wf.heap.size, 3, none⟩ = some (.slice A4 tm c4) := bb.cell 3
         have H5 := Lib.hid (And.intro (H4.out.1.nn_ mm) (And.intro (H4.out.2.1.mod mm (fun f => f)) (And.intro (own_mod H4.out.2.2 mm (fun _ _ f => f)) bb)))
         have hwb : wf.heap.size < wb.heap.size := bb.lt
         clear bb mb zb mm)
      | (with_reducible change wpList _ _ _ (⟨none, Op.store _ (.tmp 2) _, _, _, _, _⟩ :: _) _ _
         go_must (refine wpList_store_var 25 _ _ rfl rfl w.heap.size (hC hd0) _ _ rfl rfl (And.intro H5.out.1 H5.out.2.1).2 size_head rfl (hC_one _) ?_)
         intro w9 b9 m9 z9
         have M9 := (And.intro H5.out.1 H5.out.2.1).1.new_ m9 (Nat.le_refl _)
         have C0 : w9.cell? ⟨w.heap.size, 0, none⟩ = some (.int .i64 hd0.g.v) := b9.cell 0
         have C1 : w9.cell? ⟨w.heap.size, 1, none⟩ = some (.int .i64 hd0.g.S) := b9.cell 1
         have C2 : w9.cell? ⟨w.heap.size, 2, none⟩ = some (.int .i64 hd0.g.s) := b9.cell 2
         have C3 : w9.cell? ⟨w.heap.size, 3, none⟩ = some (.int .i64 hd0.g.u) := b9.cell 3
         have C4 : w9.cell? ⟨w.heap.size, 4, none⟩ = some (.int .i64 hd0.g.j) := b9.cell 4
         have C5 : w9.cell? ⟨w.heap.size, 5, none⟩ = some (.int .i64 hd0.n) := b9.cell 5
         have C6 : w9.cell? ⟨w.heap.size, 6, none⟩ = some (.int .i64 hd0.p) := b9.cell 6
         have C7 : w9.cell? ⟨w.heap.size, 7, none⟩ = some (.int .i64 hd0.r) := b9.cell 7
         have C8 : w9.cell? ⟨w.heap.size, 8, none⟩ = some (.int .i64 hd0.k) := b9.cell 8
         clear m9 b9))
    exact bodyPost_ret (v := .tuple #[hdV hd0, .int .i64 4]) (by simp [results, Tryz.results25, go_sem, hdV, hC, C0, C1, C2, C3, C4, C5, C6, C7, C8]) rfl ⟨rfl, M9⟩
  have hN5 : ((n : Int) != 512) = false := bne_eq_false_iff_eq.2 (by omega)
  have H512 := Lib.hid h2
  clear h2
  by_cases h3 : frLong l = 32
  case neg =>
    obtain ⟨_, rfl, rfl⟩ : ¬ HoldsH l ∧ hh = hd0 ∧ ee = 4 := by
      rcases HG.out with ⟨e, _⟩ | e
      · exact (not_holdsH_of (.inr (.inr h3)) e).elim
      · exact e
    have hT4 := HT.out.1.yes h1
    obtain ⟨m, hm⟩ : ∃ m, frLong l = m := ⟨_, rfl⟩
    obtain ⟨q, hq⟩ : ∃ q, fsec m = q := ⟨_, rfl⟩
    obtain ⟨E, hE⟩ : ∃ E, (frOf l).epoch = E := ⟨_, rfl⟩
    obtain ⟨D, hD⟩ : ∃ D, (frOf l).data = D := ⟨_, rfl⟩
    rw [hm, hq, hE, hD] at hT4
    have HM := Lib.hid (And.intro hm (And.intro hq (And.intro hE hD)))
    clear hm hq hE hD
    obtain ⟨tk, te, ts, tm, td, tq, tr⟩ := T
    simp only [Tell.mk.injEq] at hT4
    obtain ⟨rfl, rfl, rfl, rfl, rfl, rfl, rfl⟩ := hT4
    simp only at hb
    have hM3 : ((tm : Int) != 32) = true := bne_iff_ne.2 (by have := HM.out.1; omega)
    go_enter Tryz.func25, Tryz.ntmps25
    go_wp2_with (first
      | (with_reducible change wpList _ _ _ (⟨some 2, Op.alloc _, _, _, _, _⟩ :: _) _ _
         go_must (refine wpList_alloc_var 25 rfl rfl zero_head ?_)
         intro w2 b2 m2 z2
         have H2 := Lib.hid (And.intro m2 b2)
         clear b2 m2))
    refine (rget_any (w := w2) (l := l) (HR.out.1.mod H2.out.1 (fun _ _ f => f)) HR.out.2.1 (by omega) HR.out.2.2.1 HR.out.2.2.2).mono ?_
    intro r wf hgot
    obtain ⟨A4, c4, rfl, o4, m4⟩ := HT.out.2 _ _ _ hgot
    clear hgot
    have hw4 := m4.size
    have H4 := Lib.hid (And.intro (H2.out.1.nn_ m4) (And.intro (H2.out.2.mod m4 (fun f => f)) o4))
    clear o4 m4
    go_wp2_with (first
      | (with_reducible change wpList _ _ _ (⟨some 4, Op.alloc _, _, _, _, _⟩ :: _) _ _
         go_must (refine wpList_alloc_var 45 rfl rfl info_frame ?_)
         intro wa ba ma za
         have HA := Lib.hid (And.intro ba (And.intro ma za))
         clear ba ma za)
      | (with_reducible change wpList _ _ _ (⟨none, Op.store _ (.tmp 4) _, _, _, _, _⟩ :: _) _ _
         go_must (refine wpList_store_var 45 _ _ rfl rfl wf.heap.size #[.int .i64 ((frOf l).kind : Int), .int .i64 (E : Int), .int .i64 ((frOf l).seq : Int), .slice A4 tm c4] _ _ rfl rfl HA.out.1 size_frame rfl (one4 _ _ _ _ _ _) ?_)
         intro wb bb mb zb
         have mm := HA.out.2.1.new_ mb (Nat.le_refl _)
         have D3 : wb.cell? ⟨wf.heap.size, 3, none⟩ = some (.slice A4 tm c4) := bb.cell 3
         have H5 := Lib.hid (And.intro (H4.out.1.nn_ mm) (And.intro (H4.out.2.1.mod mm (fun f => f)) (And.intro (own_mod H4.out.2.2 mm (fun _ _ f => f)) bb)))
         have hwb : wf.heap.size < wb.heap.size := bb.lt
         clear bb mb zb mm)
      | (with_reducible change wpList _ _ _ (⟨none, Op.store _ (.tmp 2) _, _, _, _, _⟩ :: _) _ _
         go_must (refine wpList_store_var 25 _ _ rfl rfl w.heap.size (hC hd0) _ _ rfl rfl (And.intro H5.out.1 H5.out.2.1).2 size_head rfl (hC_one _) ?_)
         intro w9 b9 m9 z9
         have M9 := (And.intro H5.out.1 H5.out.2.1).1.new_ m9 (Nat.le_refl _)
         have C0 : w9.cell? ⟨w.heap.size, 0, none⟩ = some (.int .i64 hd0.g.v) := b9.cell 0
         have C1 : w9.cell? ⟨w.heap.size, 1, none⟩ = some (.int .i64 hd0.g.S) := b9.cell 1
         have C2 : w9.cell? ⟨w.heap.size, 2, none⟩ = some (.int .i64 hd0.g.s) := b9.cell 2
         have C3 : w9.cell? ⟨w.heap.size, 3, none⟩ = some (.int .i64 hd0.g.u) := b9.cell 3
         have C4 : w9.cell? ⟨w.heap.size, 4, none⟩ = some (.int .i64 hd0.g.j) := b9.cell 4
         have C5 : w9.cell? ⟨w.heap.size, 5, none⟩ = some (.int .i64 hd0.n) := b9.cell 5
         have C6 : w9.cell? ⟨w.heap.size, 6, none⟩ = some (.int .i64 hd0.p) := b9.cell 6
         have C7 : w9.cell? ⟨w.heap.size, 7, none⟩ = some (.int .i64 hd0.r) := b9.cell 7
         have C8 : w9.cell? ⟨w.heap.size, 8, none⟩ = some (.int .i64 hd0.k) := b9.cell 8
         clear m9 b9))
    exact bodyPost_ret (v := .tuple #[hdV hd0, .int .i64 4]) (by simp [results, Tryz.results25, go_sem, hdV, hC, C0, C1, C2, C3, C4, C5, C6, C7, C8]) rfl ⟨rfl, M9⟩
  have hT4 := HT.out.1.yes h1
  obtain ⟨m, hm⟩ : ∃ m, frLong l = m := ⟨_, rfl⟩
  obtain ⟨q, hq⟩ : ∃ q, fsec m = q := ⟨_, rfl⟩
  obtain ⟨E, hE⟩ : ∃ E, (frOf l).epoch = E := ⟨_, rfl⟩
  obtain ⟨D, hD⟩ : ∃ D, (frOf l).data = D := ⟨_, rfl⟩
  rw [hm, hq, hE, hD] at hT4
  have HM := Lib.hid (And.intro hm (And.intro hq (And.intro hE hD)))
  clear hm hq hE hD
  obtain ⟨tk, te, ts, tm, td, tq, tr⟩ := T
  simp only [Tell.mk.injEq] at hT4
  obtain ⟨rfl, rfl, rfl, rfl, rfl, rfl, rfl⟩ := hT4
  simp only at hb
  have htm := Lib.hid (show tm = 32 by rw [← HM.out.1]; exact h3)
  have hM3 : ((tm : Int) != 32) = false := bne_eq_false_iff_eq.2 (by have := htm.out; omega)
  go_enter Tryz.func25, Tryz.ntmps25
  go_wp2_with (first
    | (with_reducible change wpList _ _ _ (⟨some 2, Op.alloc _, _, _, _, _⟩ :: _) _ _
       go_must (refine wpList_alloc_var 25 rfl rfl zero_head ?_)
       intro w2 b2 m2 z2
       have H2 := Lib.hid (And.intro m2 b2)
       clear b2 m2))
  refine (rget_any (w := w2) (l := l) (HR.out.1.mod H2.out.1 (fun _ _ f => f)) HR.out.2.1 (by omega) HR.out.2.2.1 HR.out.2.2.2).mono ?_
  intro r wf hgot
  obtain ⟨A4, c4, rfl, o4, m4⟩ := HT.out.2 _ _ _ hgot
  clear hgot
  have hw4 := m4.size
  have H4 := Lib.hid (And.intro (H2.out.1.nn_ m4) (And.intro (H2.out.2.mod m4 (fun f => f)) o4))
  clear o4 m4
  go_wp2_with (first
    | (with_reducible change wpList _ _ _ (⟨some 4, Op.alloc _, _, _, _, _⟩ :: _) _ _
       go_must (refine wpList_alloc_var 45 rfl rfl info_frame ?_)
       intro wa ba ma za
       have HA := Lib.hid (And.intro ba (And.intro ma za))
       clear ba ma za)
    | (with_reducible change wpList _ _ _ (⟨none, Op.store _ (.tmp 4) _, _, _, _, _⟩ :: _) _ _
       go_must (refine wpList_store_var 45 _ _ rfl rfl wf.heap.size #[.int .i64 ((frOf l).kind : Int), .int .i64 (E : Int), .int .i64 ((frOf l).seq : Int), .slice A4 tm c4] _ _ rfl rfl HA.out.1 size_frame rfl (one4 _ _ _ _ _ _) ?_)
       intro wb bb mb zb
       have mm := HA.out.2.1.new_ mb (Nat.le_refl _)
       have D3 : wb.cell? ⟨wf.heap.size, 3, none⟩ = some (.slice A4 tm c4) := bb.cell 3
       have H5 := Lib.hid (And.intro (H4.out.1.nn_ mm) (And.intro (H4.out.2.1.mod mm (fun f => f)) (And.intro (own_mod H4.out.2.2 mm (fun _ _ f => f)) bb)))
       have hwb : wf.heap.size < wb.heap.size := bb.lt
       clear bb mb zb mm))
  have hA4 : ∀ g, Of A4 g → w.heap.size + 1 < g ∧ g < wf.heap.size := by obtain ⟨_, _, e, _, hA⟩ := own_form H4.out.2.2; injection e with e _ _; subst e; exact fun h hh => ⟨by have := (hA h hh).1; omega, (hA h hh).2⟩
  have HA4 := Lib.hid hA4
  clear hA4 HA H4 H2 D3
  generalize wf.heap.size = fb at *
  have H3 := Lib.hid h3
  clear h3
  have hDl : td.length = tm := by have := (Rd.of_own H5.out.2.2.1).1; rwa [bv_len] at this
  have hDb : ∀ z ∈ td, z < 256 := HT.out.1.dl
  have HD := Lib.hid (And.intro hDl hDb)
  have hKn : (hdOf l).n = (E : Int) := by show (((frOf l).epoch : Nat) : Int) = _; rw [HM.out.2.2.1]
  have hKw : ∀ k, k < 8 → (hdOf l).nums[k]? = some (w4 td k) := fun k hk => by rw [nums_of l k hk, HM.out.2.2.2]
  obtain ⟨Kh, hK⟩ : ∃ Kh, hdOf l = Kh := ⟨_, rfl⟩
  rw [hK] at hKn hKw
  have HK := Lib.hid (And.intro hKn (And.intro hKw hK))
  clear hDl hDb hKn hKw hK
  have hwfb : w.heap.size < fb := by omega
  clear hM3 hN5
  go_loopw [7, 8] (fun v i wr => ∃ k : Nat, k ≤ 8 ∧ i = .int .i64 (4 * k : Nat) ∧ Mod Nn w wr ∧ Blk wr w.heap.size 25 (Value.agg #[.int .i64 0, .int .i64 0, .int .i64 0, .int .i64 0, .int .i64 0, .int .i64 0, .int .i64 0, .int .i64 0, .int .i64 0]).cells ∧ wr.ownsRow (w.heap.size + 1) 5 1 (.slice A4 tm c4) tm (bv td) ∧ Blk wr fb 45 #[.int .i64 (frOf l).kind, .int .i64 E, .int .i64 (frOf l).seq, .slice A4 tm c4] ∧ ∃ Ai ci, v = .slice Ai k ci ∧ wr.ownsRow (fb + 1) 3 1 (.slice Ai k ci) k (iv (Kh.nums.take k))) (fun _ i _ => 32 - (intOf i).toNat)
  case atStart => exact ⟨0, by omega, rfl, H5.out.1, H5.out.2.1, own_base H5.out.2.2.1 (fun g hg => by have := own_ge H5.out.2.2.1 g hg; omega), H5.out.2.2.2, none, 0, rfl, own_nil _ _ _ _⟩
  case round =>
    obtain ⟨k, hk, rfl, hm, hbR, hown, hbF, Ai, ci, rfl, hoi⟩ := hrel
    have HX := Lib.hid (And.intro hm (And.intro hbR (And.intro hown (And.intro hbF hoi))))
    clear hm hbR hown hbF hoi
    by_cases hlt : k < 8
    · have hlt' : ((4 * k : Nat) : Int) < 32 := by omega
      have D3 : wr.cell? ⟨fb, 3, none⟩ = some (.slice A4 tm c4) := HX.out.2.2.2.1.cell 3
      have hcm4 : tm ≤ c4 := (own_max HX.out.2.2.1).1
      have hsub : 4 * k ≤ tm := by have := htm.out; omega
      go_wp2_with (first
        | (with_reducible change wpList _ _ _ (⟨some 40, Op.slice _ _ _ _ _, _, _, _, _⟩ :: _) _ _
           go_must (refine wpList_sub_l 26 _ _ rfl rfl 5 1 Tryz.underlying26 size_u8' (l := 4 * k) rfl rfl hsub ?_)))
      obtain ⟨z0, z1, z2, z3, hz0, hz1, hz2, hz3, hz⟩ := four_of td (4 * k) (by have := HD.out.1; have := htm.out; omega)
      have hB := rd_sub (Rd.of_own HX.out.2.2.1) (4 * k) 4 (by have := htm.out; omega) hcm4
      rw [hz] at hB
      have hw4 : Kh.nums[k]? = some ((z0 * 16777216 + z1 * 65536 + z2 * 256 + z3 : Nat) : Int) := by
        rw [HK.out.2.1 k hlt]
        show some ((said ((td.drop (4 * k)).take 4) : Nat) : Int) = _
        rw [hz, said4]
      have hzl : z0 < 256 ∧ z1 < 256 ∧ z2 < 256 ∧ z3 < 256 := ⟨HD.out.2 _ (List.mem_of_getElem? hz0), HD.out.2 _ (List.mem_of_getElem? hz1), HD.out.2 _ (List.mem_of_getElem? hz2), HD.out.2 _ (List.mem_of_getElem? hz3)⟩
      have HW := Lib.hid (And.intro hw4 hzl)
      clear hw4 hzl hz hz0 hz1 hz2 hz3 D3
      have hlen4 : 4 ≤ tm - 4 * k := by have := htm.out; omega
      generalize subA A4 c4 (4 * k) 1 = B at *
      obtain ⟨g, off, hBA, hBc⟩ := hB.2 (by omega)
      subst hBA
      have e0 : wr.cell? ⟨g, off + 0, none⟩ = some (.int .u8 (z0 : Int)) := hBc 0 _ rfl
      have e1 : wr.cell? ⟨g, off + 1, none⟩ = some (.int .u8 (z1 : Int)) := hBc 1 _ rfl
      have e2 : wr.cell? ⟨g, off + 2, none⟩ = some (.int .u8 (z2 : Int)) := hBc 2 _ rfl
      have e3 : wr.cell? ⟨g, off + 3, none⟩ = some (.int .u8 (z3 : Int)) := hBc 3 _ rfl
      have hgl : g < wr.heap.size := World.block_lt_of_cell? wr _ e0
      have HE := Lib.hid (And.intro e0 (And.intro e1 (And.intro e2 e3)))
      clear hB hBc e0 e1 e2 e3
      generalize tm - 4 * k = lb at *
      have i0 : 0 < lb := by omega
      have i1 : (1 : Int) < (lb : Int) := by omega
      have i2 : (2 : Int) < (lb : Int) := by omega
      have i3 : (3 : Int) < (lb : Int) := by omega
      refine wp_region_planT (fun w' => w'.cell? ⟨g, off + 0, none⟩ = some (.int .u8 (z0 : Int)) ∧ w'.cell? ⟨g, off + 1, none⟩ = some (.int .u8 (z1 : Int)) ∧ w'.cell? ⟨g, off + 2, none⟩ = some (.int .u8 (z2 : Int)) ∧ w'.cell? ⟨g, off + 3, none⟩ = some (.int .u8 (z3 : Int))) 24 [(0, 0), (1, 0), (2, 0), (3, 1), (4, 0), (5, 0), (6, 0), (7, 0), (8, 1), (9, 0), (10, 0), (11, 0), (12, 0), (13, 0), (14, 1), (15, 0), (16, 0), (17, 0), (18, 0), (19, 0), (20, 1), (21, 0), (22, 0), (23, 2), (24, 2), (25, 0)] (by kernel_rfl) (by kernel_rfl) HE.out ?_
      iterate 3 (refine pt_pure rfl rfl (fun K hK => ?_); go_simp; refine hK _ ?_; clear hK K)
      refine pt_take (.int .u8 (z0 : Int)) rfl rfl (fun w' hS => exec_load1 (P := Tryz.prog) 5 _ rfl rfl hS.1 Tryz.underlying5 rfl) (fun K hK => ?_); go_simp; refine hK _ ?_; clear hK K
      iterate 4 (refine pt_pure rfl rfl (fun K hK => ?_); go_simp; refine hK _ ?_; clear hK K)
      refine pt_take (.int .u8 (z1 : Int)) rfl rfl (fun w' hS => exec_load1 (P := Tryz.prog) 5 _ rfl rfl hS.2.1 Tryz.underlying5 rfl) (fun K hK => ?_); go_simp; refine hK _ ?_; clear hK K
      iterate 5 (refine pt_pure rfl rfl (fun K hK => ?_); go_simp; refine hK _ ?_; clear hK K)
      refine pt_take (.int .u8 (z2 : Int)) rfl rfl (fun w' hS => exec_load1 (P := Tryz.prog) 5 _ rfl rfl hS.2.2.1 Tryz.underlying5 rfl) (fun K hK => ?_); go_simp; refine hK _ ?_; clear hK K
      iterate 5 (refine pt_pure rfl rfl (fun K hK => ?_); go_simp; refine hK _ ?_; clear hK K)
      refine pt_take (.int .u8 (z3 : Int)) rfl rfl (fun w' hS => exec_load1 (P := Tryz.prog) 5 _ rfl rfl hS.2.2.2 Tryz.underlying5 rfl) (fun K hK => ?_); go_simp; refine hK _ ?_; clear hK K
      iterate 2 (refine pt_pure rfl rfl (fun K hK => ?_); go_simp; refine hK _ ?_; clear hK K)
      rw [or4 z0 z1 z2 z3 HW.out.2.1 HW.out.2.2.1 HW.out.2.2.2.1 HW.out.2.2.2.2]
      have HWn := Lib.hid HW.out.1
      clear HW i0 i1 i2 i3
      generalize z0 * 16777216 + z1 * 65536 + z2 * 256 + z3 = N at *
      have mA : Mod Nn wr (wr.alloc (.cells #[.int .i64 (N : Int)] 3)).drew := ((Mod.refl Nn wr).alloc _).drew
      have rA : Rd (wr.alloc (.cells #[.int .i64 (N : Int)] 3)).drew (some ⟨wr.heap.size, 0, none⟩) 1 (iv [(N : Int)]) := (Rd.of_blk0 (Blk.new _ _ _) rfl).drew
      have zA : (wr.alloc (.cells #[.int .i64 (N : Int)] 3)).drew.heap.size = wr.heap.size + 1 := by simp
      have HA := Lib.hid (And.intro mA (And.intro rA zA))
      clear mA rA zA
      refine pt_mem rfl rfl (fun K hK => ?_); go_simp; refine ⟨_, _, ⟨rfl, rfl⟩, hK _ _ ?_ ?_⟩; clear hK K
      · exact fun _ => ⟨(HA.out.1.cell (p := ⟨g, off + 0, none⟩) hgl (fun f => f)).trans HE.out.1, (HA.out.1.cell (p := ⟨g, off + 1, none⟩) hgl (fun f => f)).trans HE.out.2.1, (HA.out.1.cell (p := ⟨g, off + 2, none⟩) hgl (fun f => f)).trans HE.out.2.2.1, (HA.out.1.cell (p := ⟨g, off + 3, none⟩) hgl (fun f => f)).trans HE.out.2.2.2⟩
      have mB := HX.out.1.nn_ HA.out.1
      have HB := Lib.hid (And.intro (HX.out.2.1.mod HA.out.1 (fun f => f)) (And.intro (own_mod HX.out.2.2.1 HA.out.1 (fun _ _ f => f)) (And.intro (HX.out.2.2.2.1.mod HA.out.1 (fun f => f)) (And.intro (own_mod HX.out.2.2.2.2 HA.out.1 (fun _ _ f => f)) mB))))
      have hszB : fb + 1 ≤ (wr.alloc (.cells #[.int .i64 (N : Int)] 3)).drew.heap.size := by have := HX.out.2.2.2.1.lt; rw [HA.out.2.2]; omega
      clear mB
      generalize hwA : (wr.alloc (.cells #[.int .i64 (N : Int)] 3)).drew = wA at *
      clear hwA
      refine pt_append 35 _ _ rfl rfl rfl (fb + 1) 3 (.int .i64 0) 1 8 Tryz.underlying35 info_int rfl (by omega) _ k _ rfl HB.out.2.2.2.1 _ 1 _ (iv [(N : Int)]) rfl HA.out.2.1.toC (iv_one _) (by omega) (by omega) hszB ?_
      intro v3 w3' o3 g3 ob3
      have mD : Mod Nn w w3' := HB.out.2.2.2.2.grown g3 (fun g hg => .inl (by have := own_ge HB.out.2.2.2.1 g hg; omega))
      have mC : Mod (fun g => fb < g) wA w3' := (Mod.refl (fun g => fb < g) wA).grown g3 (fun g hg => .inr (by have := own_ge HB.out.2.2.2.1 g hg; omega))
      have bh := HB.out.1.mod mC (fun e => by have e : fb < w.heap.size := e; omega)
      have bf := HB.out.2.2.1.mod mC (fun e => by have e : fb < fb := e; omega)
      have od := own_mod HB.out.2.1 mC (fun g hg e => by have e : fb < g := e; have := HA4.out g (own_of hg); omega)
      obtain ⟨A3, c3, rfl, -, hA3⟩ := own_form o3
      have hst : Kh.nums.take (k + 1) = Kh.nums.take k ++ [(N : Int)] := by rw [List.take_add_one, HWn.out]; rfl
      rw [show iv (Kh.nums.take k) ++ iv [(N : Int)] = iv (Kh.nums.take (k + 1)) from by rw [hst]; simp [iv]] at o3
      have HD4 := Lib.hid (And.intro mD (And.intro bh (And.intro od (And.intro bf o3))))
      clear mC mD bh bf od o3 g3 ob3 hA3 hst HX HB HA
      refine ⟨fun h => by simp at h, fun K hK => ?_⟩; go_simp; refine hK _ ?_; clear hK K
      iterate 1 (refine pt_pure rfl rfl (fun K hK => ?_); go_simp; refine hK _ ?_; clear hK K)
      refine pt_nil ?_
      go_wp2
      exact ⟨⟨k + 1, by omega, by go_num, HD4.out.1, HD4.out.2.1, HD4.out.2.2.1, HD4.out.2.2.2.1, A3, c3, rfl, HD4.out.2.2.2.2⟩, by simp [intOf]; omega⟩
    · obtain rfl : k = 8 := by omega
      have hd : Kh.nums.take 8 = Kh.nums := List.take_of_length_le (by show 8 ≤ 8; omega)
      have hoi := HX.out.2.2.2.2
      rw [hd] at hoi
      obtain ⟨gi, capi, curi, hvi, hgi, hbi, -, -, -, hti⟩ := own_blk hoi (by omega)
      injection hvi with hvi _ _
      subst hvi
      have hci : ∀ (j : Nat) (x : Int), Kh.nums[j]? = some x → wr.cell? ⟨gi, j, none⟩ = some (.int .i64 x) := by
        intro j x hj
        have e : (iv Kh.nums)[j]? = some (.int .i64 x) := by unfold iv; rw [List.getElem?_map, hj]; rfl
        rw [hbi.cell j]
        rw [← hti, List.getElem?_take] at e
        split at e
        · simpa using e
        · cases e
      have HI := Lib.hid (And.intro hci hbi)
      have hg9 : fb < gi := hgi
      clear hd hoi hci hbi hti
      have hcE : wr.cell? ⟨fb, 1, none⟩ = some (.int .i64 Kh.n) := by rw [HK.out.1]; exact HX.out.2.2.2.1.cell 1
      have HS := Lib.hid (And.intro HI.out.1 hcE)
      have hgl : gi < wr.heap.size := HI.out.2.lt
      clear hcE
      go_wp2_with fail
      have hd5 : ∀ j x, Kh.nums[j]? = some x → wr.drew.cell? ⟨gi, j, none⟩ = some (.int .i64 x) := HS.out.1
      refine wp_region_planT (fun w' => (∀ (j : Nat) (x : Int), Kh.nums[j]? = some x → w'.cell? ⟨gi, j, none⟩ = some (.int .i64 x)) ∧ w'.cell? ⟨fb, 1, none⟩ = some (.int .i64 Kh.n)) 29 [(0, 0), (1, 0), (2, 1), (3, 0), (4, 0), (5, 1), (6, 0), (7, 0), (8, 1), (9, 0), (10, 0), (11, 1), (12, 0), (13, 0), (14, 1), (15, 0), (16, 0), (17, 1), (18, 0), (19, 0), (20, 1), (21, 0), (22, 0), (23, 1), (24, 0), (25, 0), (26, 1), (27, 0), (28, 2), (29, 2)] (by kernel_rfl) (by kernel_rfl) HS.out ?_
      clear hd5
      iterate 2 (refine pt_pure rfl rfl (fun K hK => ?_); go_simp; refine hK _ ?_; clear hK K)
      refine pt_take (.int .i64 Kh.g.v) rfl rfl (fun w' hS => exec_load1 (P := Tryz.prog) 3 _ rfl rfl (hS.1 0 _ rfl) Tryz.underlying3 rfl) (fun K hK => ?_); go_simp; refine hK _ ?_; clear hK K
      iterate 2 (refine pt_pure rfl rfl (fun K hK => ?_); go_simp; refine hK _ ?_; clear hK K)
      refine pt_take (.int .i64 Kh.g.S) rfl rfl (fun w' hS => exec_load1 (P := Tryz.prog) 3 _ rfl rfl (hS.1 1 _ rfl) Tryz.underlying3 rfl) (fun K hK => ?_); go_simp; refine hK _ ?_; clear hK K
      iterate 2 (refine pt_pure rfl rfl (fun K hK => ?_); go_simp; refine hK _ ?_; clear hK K)
      refine pt_take (.int .i64 Kh.g.s) rfl rfl (fun w' hS => exec_load1 (P := Tryz.prog) 3 _ rfl rfl (hS.1 2 _ rfl) Tryz.underlying3 rfl) (fun K hK => ?_); go_simp; refine hK _ ?_; clear hK K
      iterate 2 (refine pt_pure rfl rfl (fun K hK => ?_); go_simp; refine hK _ ?_; clear hK K)
      refine pt_take (.int .i64 Kh.g.u) rfl rfl (fun w' hS => exec_load1 (P := Tryz.prog) 3 _ rfl rfl (hS.1 3 _ rfl) Tryz.underlying3 rfl) (fun K hK => ?_); go_simp; refine hK _ ?_; clear hK K
      iterate 2 (refine pt_pure rfl rfl (fun K hK => ?_); go_simp; refine hK _ ?_; clear hK K)
      refine pt_take (.int .i64 Kh.g.j) rfl rfl (fun w' hS => exec_load1 (P := Tryz.prog) 3 _ rfl rfl (hS.1 4 _ rfl) Tryz.underlying3 rfl) (fun K hK => ?_); go_simp; refine hK _ ?_; clear hK K
      iterate 2 (refine pt_pure rfl rfl (fun K hK => ?_); go_simp; refine hK _ ?_; clear hK K)
      refine pt_take (.int .i64 Kh.n) rfl rfl (fun w' hS => exec_load1 (P := Tryz.prog) 3 _ rfl rfl hS.2 Tryz.underlying3 rfl) (fun K hK => ?_); go_simp; refine hK _ ?_; clear hK K
      iterate 2 (refine pt_pure rfl rfl (fun K hK => ?_); go_simp; refine hK _ ?_; clear hK K)
      refine pt_take (.int .i64 Kh.p) rfl rfl (fun w' hS => exec_load1 (P := Tryz.prog) 3 _ rfl rfl (hS.1 5 _ rfl) Tryz.underlying3 rfl) (fun K hK => ?_); go_simp; refine hK _ ?_; clear hK K
      iterate 2 (refine pt_pure rfl rfl (fun K hK => ?_); go_simp; refine hK _ ?_; clear hK K)
      refine pt_take (.int .i64 Kh.r) rfl rfl (fun w' hS => exec_load1 (P := Tryz.prog) 3 _ rfl rfl (hS.1 6 _ rfl) Tryz.underlying3 rfl) (fun K hK => ?_); go_simp; refine hK _ ?_; clear hK K
      iterate 2 (refine pt_pure rfl rfl (fun K hK => ?_); go_simp; refine hK _ ?_; clear hK K)
      refine pt_take (.int .i64 Kh.k) rfl rfl (fun w' hS => exec_load1 (P := Tryz.prog) 3 _ rfl rfl (hS.1 7 _ rfl) Tryz.underlying3 rfl) (fun K hK => ?_); go_simp; refine hK _ ?_; clear hK K
      iterate 1 (refine pt_pure rfl rfl (fun K hK => ?_); go_simp; refine hK _ ?_; clear hK K)
      have hfb9 : fb < wr.drew.heap.size := HX.out.2.2.2.1.lt
      have hgl9 : gi < wr.drew.heap.size := hgl
      have HS9 := Lib.hid (show (∀ (j : Nat) (x : Int), Kh.nums[j]? = some x → wr.drew.cell? ⟨gi, j, none⟩ = some (.int .i64 x)) ∧ wr.drew.cell? ⟨fb, 1, none⟩ = some (.int .i64 Kh.n) from HS.out)
      have HM9 := Lib.hid (And.intro HX.out.1.drew HX.out.2.1.drew)
      clear HX HS hgl
      generalize wr.drew = wd at *
      have ma : Mod Nn wd (wd.alloc (.cells (Value.agg #[.int .i64 0, .int .i64 0, .int .i64 0, .int .i64 0, .int .i64 0, .int .i64 0, .int .i64 0, .int .i64 0, .int .i64 0]).cells 25)) := (Mod.refl Nn wd).alloc _
      have ba : Blk (wd.alloc (.cells (Value.agg #[.int .i64 0, .int .i64 0, .int .i64 0, .int .i64 0, .int .i64 0, .int .i64 0, .int .i64 0, .int .i64 0, .int .i64 0]).cells 25)) wd.heap.size 25 (Value.agg #[.int .i64 0, .int .i64 0, .int .i64 0, .int .i64 0, .int .i64 0, .int .i64 0, .int .i64 0, .int .i64 0, .int .i64 0]).cells := Blk.new _ _ _
      have HA := Lib.hid (And.intro ma ba)
      clear ma ba
      refine pt_val rfl rfl (exec_alloc (P := Tryz.prog) 25 rfl zero_head) (fun _ => ⟨fun j x hj => (HA.out.1.cell (p := ⟨gi, j, none⟩) hgl9 (fun f => f)).trans (HS9.out.1 j x hj), (HA.out.1.cell (p := ⟨fb, 1, none⟩) hfb9 (fun f => f)).trans HS9.out.2⟩) (fun K hK => ?_); go_simp; refine hK _ ?_; clear hK K
      refine pt_unit rfl rfl (exec_store_row (P := Tryz.prog) 25 _ (.tmp 93) rfl (g := wd.heap.size) (cells := hC Kh) rfl rfl HA.out.2 size_head rfl (hC_one _)) (fun h => by simp at h) (fun K hK => ?_); go_simp; refine hK _ ?_; clear hK K
      refine pt_nil ?_
      have m9 := (HM9.out.1.nn_ HA.out.1).new_ (Mod.rowAt _ wd.heap.size (hC Kh)) HM9.out.1.size
      have hne : w.heap.size ≠ wd.heap.size := by have := HM9.out.2.lt; omega
      have r9 := (HM9.out.2.mod HA.out.1 (fun f => f)).farRow hne (hC Kh)
      have b9 := HA.out.2.setRow_ (hC Kh)
      have HY := Lib.hid (And.intro m9 (And.intro r9 b9))
      clear m9 r9 b9 HA HS9 hfb9 hgl9
      generalize hwx : (wd.alloc (.cells (Value.agg #[.int .i64 0, .int .i64 0, .int .i64 0, .int .i64 0, .int .i64 0, .int .i64 0, .int .i64 0, .int .i64 0, .int .i64 0]).cells 25)).setRow wd.heap.size (hC Kh) = wx at *
      clear hwx
      generalize wd.heap.size = hb at *
      go_wp2_with (first
        | (with_reducible change wpList _ _ _ (⟨some 95, Op.load _ _, _, _, _, _⟩ :: _) _ _
           go_must (refine wpList_load_var 25 _ rfl rfl hb (hC Kh) _ _ rfl HY.out.2.2 Tryz.underlying25 rfl size_head ?_)))
      refine (r12put_any Kh _).mono ?_
      rintro r w7 ⟨A7, c7, rfl, o7, m7⟩
      have H7 := Lib.hid (And.intro (HY.out.1.nn_ m7) (And.intro (HY.out.2.1.mod m7 (fun f => f)) (And.intro (HY.out.2.2.mod m7 (fun f => f)) (Rd.of_own o7))))
      clear o7 m7
      by_cases hr9 : Kh.right
      case neg =>
        obtain ⟨_, rfl, rfl⟩ : ¬ HoldsH l ∧ hh = hd0 ∧ ee = 4 := by
          rcases HG.out with ⟨e, _⟩ | e
          · exact (hr9 (by have := e.2.2.2.1; rwa [HK.out.2.2] at this)).elim
          · exact e
        have he : herr Kh = 2 := if_neg hr9
        rw [he]
        clear he hr9
        go_wp2_with (first
          | (with_reducible change wpList _ _ _ (⟨none, Op.store _ (.tmp 2) _, _, _, _, _⟩ :: _) _ _
             go_must (refine wpList_store_var 25 _ _ rfl rfl w.heap.size (hC hd0) _ _ rfl rfl (And.intro H7.out.1 H7.out.2.1).2 size_head rfl (hC_one _) ?_)
             intro w9 b9 m9 z9
             have M9 := (And.intro H7.out.1 H7.out.2.1).1.new_ m9 (Nat.le_refl _)
             have C0 : w9.cell? ⟨w.heap.size, 0, none⟩ = some (.int .i64 hd0.g.v) := b9.cell 0
             have C1 : w9.cell? ⟨w.heap.size, 1, none⟩ = some (.int .i64 hd0.g.S) := b9.cell 1
             have C2 : w9.cell? ⟨w.heap.size, 2, none⟩ = some (.int .i64 hd0.g.s) := b9.cell 2
             have C3 : w9.cell? ⟨w.heap.size, 3, none⟩ = some (.int .i64 hd0.g.u) := b9.cell 3
             have C4 : w9.cell? ⟨w.heap.size, 4, none⟩ = some (.int .i64 hd0.g.j) := b9.cell 4
             have C5 : w9.cell? ⟨w.heap.size, 5, none⟩ = some (.int .i64 hd0.n) := b9.cell 5
             have C6 : w9.cell? ⟨w.heap.size, 6, none⟩ = some (.int .i64 hd0.p) := b9.cell 6
             have C7 : w9.cell? ⟨w.heap.size, 7, none⟩ = some (.int .i64 hd0.r) := b9.cell 7
             have C8 : w9.cell? ⟨w.heap.size, 8, none⟩ = some (.int .i64 hd0.k) := b9.cell 8
             clear m9 b9))
        exact bodyPost_ret (v := .tuple #[hdV hd0, .int .i64 4]) (by simp [results, Tryz.results25, go_sem, hdV, hC, C0, C1, C2, C3, C4, C5, C6, C7, C8]) rfl ⟨rfl, M9⟩
      have he : herr Kh = 0 := if_pos hr9
      have hby : hbytes Kh = Kh.fr.bytes := if_pos hr9
      rw [he]
      have HBY := Lib.hid hby
      have hrd7 := H7.out.2.2.2
      rw [hby] at hrd7
      have q1 := conv_str (P := Tryz.prog) (c := c7) 26 5 9 Tryz.underlying26 Tryz.underlying5 Tryz.underlying9 hrd7
      rw [← hby] at q1
      have q2 := conv_str (P := Tryz.prog) (c := c) 26 5 9 Tryz.underlying26 Tryz.underlying5 Tryz.underlying9 (HR.out.1.mod H7.out.1 (fun _ _ f => f))
      have hi := bstr_eq (Kh.fr.bytes_lt Kh.data_lt) HR.out.2.1
      rw [← hby] at hi
      have HR9 := Lib.hid hr9
      clear he hby hrd7 hr9
      by_cases hbq : Kh.fr.bytes = l
      case neg =>
        obtain ⟨_, rfl, rfl⟩ : ¬ HoldsH l ∧ hh = hd0 ∧ ee = 4 := by
          rcases HG.out with ⟨e, _⟩ | e
          · exact (hbq (by have := e.2.2.2.2; rwa [HK.out.2.2] at this)).elim
          · exact e
        rw [HBY.out, decide_eq_false hbq, ← HBY.out] at hi
        clear hbq
        generalize bstr (hbytes Kh) = S1 at *
        generalize bstr l = S2 at *
        go_wp2_with (first
          | (with_reducible change wpList _ _ _ (⟨none, Op.store _ (.tmp 2) _, _, _, _, _⟩ :: _) _ _
             go_must (refine wpList_store_var 25 _ _ rfl rfl w.heap.size (hC hd0) _ _ rfl rfl (And.intro H7.out.1 H7.out.2.1).2 size_head rfl (hC_one _) ?_)
             intro w9 b9 m9 z9
             have M9 := (And.intro H7.out.1 H7.out.2.1).1.new_ m9 (Nat.le_refl _)
             have C0 : w9.cell? ⟨w.heap.size, 0, none⟩ = some (.int .i64 hd0.g.v) := b9.cell 0
             have C1 : w9.cell? ⟨w.heap.size, 1, none⟩ = some (.int .i64 hd0.g.S) := b9.cell 1
             have C2 : w9.cell? ⟨w.heap.size, 2, none⟩ = some (.int .i64 hd0.g.s) := b9.cell 2
             have C3 : w9.cell? ⟨w.heap.size, 3, none⟩ = some (.int .i64 hd0.g.u) := b9.cell 3
             have C4 : w9.cell? ⟨w.heap.size, 4, none⟩ = some (.int .i64 hd0.g.j) := b9.cell 4
             have C5 : w9.cell? ⟨w.heap.size, 5, none⟩ = some (.int .i64 hd0.n) := b9.cell 5
             have C6 : w9.cell? ⟨w.heap.size, 6, none⟩ = some (.int .i64 hd0.p) := b9.cell 6
             have C7 : w9.cell? ⟨w.heap.size, 7, none⟩ = some (.int .i64 hd0.r) := b9.cell 7
             have C8 : w9.cell? ⟨w.heap.size, 8, none⟩ = some (.int .i64 hd0.k) := b9.cell 8
             clear m9 b9))
        exact bodyPost_ret (v := .tuple #[hdV hd0, .int .i64 4]) (by simp [results, Tryz.results25, go_sem, hdV, hC, C0, C1, C2, C3, C4, C5, C6, C7, C8]) rfl ⟨rfl, M9⟩
      obtain ⟨_, rfl, rfl⟩ : HoldsH l ∧ hh = Kh ∧ ee = 0 := by
        have hH : HoldsH l := ⟨by rw [HL.out, H512.out], h1, H3.out, by rw [HK.out.2.2]; exact HR9.out, by rw [HK.out.2.2]; exact hbq⟩
        rcases HG.out with ⟨e1, e2, e3⟩ | ⟨e, _⟩
        · exact ⟨e1, by rw [← HK.out.2.2]; exact e2, e3⟩
        · exact (e hH).elim
      rw [HBY.out, decide_eq_true hbq, ← HBY.out] at hi
      clear hbq
      generalize bstr (hbytes hh) = S1 at *
      generalize bstr l = S2 at *
      go_wp2_with (first
        | (with_reducible change wpList _ _ _ (⟨some 109, Op.load _ _, _, _, _, _⟩ :: _) _ _
           go_must (refine wpList_load_var 25 _ rfl rfl hb (hC hh) _ _ rfl H7.out.2.2.1 Tryz.underlying25 rfl size_head ?_))
        | (with_reducible change wpList _ _ _ (⟨none, Op.store _ (.tmp 2) _, _, _, _, _⟩ :: _) _ _
           go_must (refine wpList_store_var 25 _ _ rfl rfl w.heap.size (hC hh) _ _ rfl rfl (And.intro H7.out.1 H7.out.2.1).2 size_head rfl (hC_one _) ?_)
           intro w9 b9 m9 z9
           have M9 := (And.intro H7.out.1 H7.out.2.1).1.new_ m9 (Nat.le_refl _)
           have C0 : w9.cell? ⟨w.heap.size, 0, none⟩ = some (.int .i64 hh.g.v) := b9.cell 0
           have C1 : w9.cell? ⟨w.heap.size, 1, none⟩ = some (.int .i64 hh.g.S) := b9.cell 1
           have C2 : w9.cell? ⟨w.heap.size, 2, none⟩ = some (.int .i64 hh.g.s) := b9.cell 2
           have C3 : w9.cell? ⟨w.heap.size, 3, none⟩ = some (.int .i64 hh.g.u) := b9.cell 3
           have C4 : w9.cell? ⟨w.heap.size, 4, none⟩ = some (.int .i64 hh.g.j) := b9.cell 4
           have C5 : w9.cell? ⟨w.heap.size, 5, none⟩ = some (.int .i64 hh.n) := b9.cell 5
           have C6 : w9.cell? ⟨w.heap.size, 6, none⟩ = some (.int .i64 hh.p) := b9.cell 6
           have C7 : w9.cell? ⟨w.heap.size, 7, none⟩ = some (.int .i64 hh.r) := b9.cell 7
           have C8 : w9.cell? ⟨w.heap.size, 8, none⟩ = some (.int .i64 hh.k) := b9.cell 8
           clear m9 b9))
      exact bodyPost_ret (v := .tuple #[hdV hh, .int .i64 0]) (by simp [results, Tryz.results25, go_sem, hdV, hC, C0, C1, C2, C3, C4, C5, C6, C7, C8]) rfl ⟨rfl, M9⟩
end
end Go.Proofs.YtodnhbiomooknaaGreat
