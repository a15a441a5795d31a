/- peatbanklaw10.FramePuts: the walk (printed by wip/gen/frlaws.py). -/
import Derived.Test.YtjndcgpfikngaaaFrM
namespace Go.Proofs.Ytjndcgpfikngaaa
open Go.RowKit

section
variable {w : World} {A : Option Addr} {n c : Nat} {D : List Nat}
set_option maxRecDepth 100000 in
set_option maxHeartbeats 3200000 in
theorem fputs_any (k e s : Int) (hr : Rd w A n (bv D)) (hl : ∀ z ∈ D, z < 256) (hn : n ≤ 9223372036854775807) :
    Calls Try.prog 3 #[frV k e s A n c] w fun r w' => r = .returned (.bool true) ∧ Mod Nn w w' := by
  have hL : D.length = n := by have := hr.1; simpa [bv] using this
  have HL := Lib.hid hL; clear hL
  have HR := Lib.hid (And.intro hr hl); clear hr hl
  obtain ⟨E, hE⟩ : ∃ E, perr k e s D.length = E := ⟨_, rfl⟩
  obtain ⟨C, hC⟩ : ∃ C, (pbytes k e s D).length = C := ⟨_, rfl⟩
  have hC9 : C ≤ 40000 := hC ▸ pbytes_len k e s D
  have HE := Lib.hid (And.intro hE hC); clear hE hC
  unfold frV
  have m0 : Mod Nn w (w.alloc (.cells #[.int .i64 k, .int .i64 e, .int .i64 s, .slice A n c] 24)) := (Mod.refl Nn w).alloc _
  have b0 : Blk (w.alloc (.cells #[.int .i64 k, .int .i64 e, .int .i64 s, .slice A n c] 24)) w.heap.size 24 #[.int .i64 k, .int .i64 e, .int .i64 s, .slice A n c] := Blk.new _ _ _
  have H0 := Lib.hid (And.intro m0 b0)
  clear m0 b0
  by_cases h1 : 3000 < n ∧ n ≤ 32768
  · have d1 : (3000 : Int) < n := by omega
    have d2 : (n : Int) ≤ 32768 := by omega
    go_enter Try.func3, Try.ntmps3
    go_wp2_with fail
    refine (f_awake _).mono ?_
    rintro r w1 ⟨rfl, m1⟩
    have H1 := Lib.hid (And.intro (H0.out.1.nn_ m1) (H0.out.2.mod m1 (fun f => f)))
    have C3 : w1.cell? ⟨w.heap.size, 3, none⟩ = some (.slice A n c) := H1.out.2.cell 3
    clear m1
    go_wp2
    go_ret
    exact ⟨rfl, H1.out.1⟩
  by_cases h2 : 40000 < n
  · have d1 : (3000 : Int) < n := by omega
    have d2 : ¬ (n : Int) ≤ 32768 := by omega
    have d3 : (40000 : Int) < n := by omega
    go_enter Try.func3, Try.ntmps3
    go_wp2_with fail
    refine (f_awake _).mono ?_
    rintro r w1 ⟨rfl, m1⟩
    have H1 := Lib.hid (And.intro (H0.out.1.nn_ m1) (H0.out.2.mod m1 (fun f => f)))
    have C3 : w1.cell? ⟨w.heap.size, 3, none⟩ = some (.slice A n c) := H1.out.2.cell 3
    clear m1
    go_wp2
    go_ret
    exact ⟨rfl, H1.out.1⟩
  by_cases h3 : 3000 < n
  · have d1 : decide ((3000 : Int) < n) = true := decide_eq_true (by omega)
    have d2 : decide ((n : Int) ≤ 32768) = false := decide_eq_false (by omega)
    have d3 : decide ((40000 : Int) < n) = false := decide_eq_false (by omega)
    go_enter Try.func3, Try.ntmps3
    go_wp2_with fail
    refine (f_awake _).mono ?_
    rintro r w1 ⟨rfl, m1⟩
    have H1 := Lib.hid (And.intro (H0.out.1.nn_ m1) (H0.out.2.mod m1 (fun f => f)))
    have C3 : w1.cell? ⟨w.heap.size, 3, none⟩ = some (.slice A n c) := H1.out.2.cell 3
    have hw1 := m1.size
    clear m1
    go_wp2_with (first
          | (with_reducible change wpList _ _ _ (⟨some 26, Op.load _ _, _, _, _, _⟩ :: _) _ _
             go_loud (
               refine wpList_load_var 24 _ rfl rfl w.heap.size #[.int .i64 k, .int .i64 e, .int .i64 s, .slice A n c] _ _ rfl H1.out.2 Try.underlying24 rfl size_frame ?_)))
    refine (lentf_any k e s (HR.out.1.mod H1.out.1 (fun _ _ f => f)) (by omega)).mono ?_
    rintro r w2 ⟨g, rfl, b2, m2, hg⟩
    have hw2 := m2.size
    have H2 := Lib.hid (And.intro (H1.out.1.nn_ m2) (And.intro (H1.out.2.mod m2 (fun f => f)) b2))
    clear b2 m2 hg
    go_wp2_with (first
          | (with_reducible change wpList _ _ _ (⟨some 3, Op.alloc _, _, _, _, _⟩ :: _) _ _
             go_loud (
               go_must (refine wpList_alloc_var 24 rfl rfl info_frame ?_)
               intro wa3 ba3 ma3 za3
               have HA3 := Lib.hid (And.intro ba3 (And.intro ma3 za3))
               clear ba3 ma3 za3))
          | (with_reducible change wpList _ _ _ (⟨none, Op.store _ (.tmp 3) _, _, _, _, _⟩ :: _) _ _
             go_loud (
               go_must (refine wpList_store_var 24 _ _ rfl rfl w2.heap.size #[.int .i64 k, .int .i64 e, .int .i64 s, .slice (some ⟨g, 0, none⟩) n (n + 12)] _ _ rfl rfl HA3.out.1 size_frame rfl (one4 _ _ _ _ _ _) ?_)
               intro wb3 bb3 mb3 zb3
               have mm3 := HA3.out.2.1.new_ mb3 (Nat.le_refl _)
               have hs3 : w2.heap.size < wb3.heap.size := bb3.lt
               have H3 := Lib.hid (And.intro (H2.out.1.nn_ mm3) (And.intro (H2.out.2.1.mod mm3 (fun f => f)) (And.intro (H2.out.2.2.mod mm3 (fun f => f)) bb3)))
               clear bb3 mb3 zb3 mm3))
          | (with_reducible change wpList _ _ _ (⟨some 29, Op.load _ _, _, _, _, _⟩ :: _) _ _
             go_loud (
               refine wpList_load_var 24 _ rfl rfl w2.heap.size #[.int .i64 k, .int .i64 e, .int .i64 s, .slice (some ⟨g, 0, none⟩) n (n + 12)] _ _ rfl H3.out.2.2.2 Try.underlying24 rfl size_frame ?_)))
    refine (fput_all k e s (lent_rd H3.out.2.2.1 HL.out) HR.out.2).mono ?_
    rintro r w4 ⟨A4, c4, rfl, o4, m4⟩
    rw [HE.out.2] at o4 ⊢
    rw [HE.out.1]
    have hw4 := m4.size
    have H4 := Lib.hid (And.intro (H3.out.1.nn_ m4) (And.intro (H3.out.2.1.mod m4 (fun f => f)) (And.intro (H3.out.2.2.1.mod m4 (fun f => f)) (And.intro (H3.out.2.2.2.mod m4 (fun f => f)) (Rd.of_own o4)))))
    clear o4 m4
    go_wp2_with (first
          | (with_reducible change wpList _ _ _ (⟨some 34, Op.load _ _, _, _, _, _⟩ :: _) _ _
             go_loud (
               refine wpList_load_var 24 _ rfl rfl w.heap.size #[.int .i64 k, .int .i64 e, .int .i64 s, .slice A n c] _ _ rfl H4.out.2.1 Try.underlying24 rfl size_frame ?_)))
    refine (rput_all k e s (HR.out.1.mod H4.out.1 (fun _ _ f => f)) HR.out.2).mono ?_
    rintro r w5 ⟨A5, c5, rfl, o5, m5⟩
    rw [HE.out.2] at o5 ⊢
    rw [HE.out.1]
    have hw5 := m5.size
    have H5 := Lib.hid (And.intro (H4.out.1.nn_ m5) (And.intro (H4.out.2.1.mod m5 (fun f => f)) (And.intro (H4.out.2.2.1.mod m5 (fun f => f)) (And.intro (H4.out.2.2.2.1.mod m5 (fun f => f)) (And.intro (H4.out.2.2.2.2.mod m5 (fun _ _ f => f)) (Rd.of_own o5))))))
    clear o5 m5
    go_wp2_with fail
    refine (sameb_yes H5.out.2.2.2.2.1 H5.out.2.2.2.2.2 (by omega)).mono ?_
    rintro r w6 ⟨rfl, m6⟩
    have H6 := Lib.hid (And.intro (H5.out.1.nn_ m6) (And.intro (H5.out.2.1.mod m6 (fun f => f)) (And.intro (H5.out.2.2.1.mod m6 (fun f => f)) (H5.out.2.2.2.1.mod m6 (fun f => f)))))
    clear m6
    go_wp2_with (first
          | (with_reducible change wpList _ _ _ (⟨some 47, Op.load _ _, _, _, _, _⟩ :: _) _ _
             go_loud (
               refine wpList_load_var 24 _ rfl rfl w2.heap.size #[.int .i64 k, .int .i64 e, .int .i64 s, .slice (some ⟨g, 0, none⟩) n (n + 12)] _ _ rfl H6.out.2.2.2 Try.underlying24 rfl size_frame ?_))
          | (with_reducible change wpList _ _ _ (⟨some 48, Op.load _ _, _, _, _, _⟩ :: _) _ _
             go_loud (
               refine wpList_load_var 24 _ rfl rfl w.heap.size #[.int .i64 k, .int .i64 e, .int .i64 s, .slice A n c] _ _ rfl H6.out.2.1 Try.underlying24 rfl size_frame ?_)))
    refine (keptf_any k e s (HR.out.1.mod H6.out.1 (fun _ _ f => f)) H6.out.2.2.1 (by omega)).mono ?_
    rintro r w7 ⟨rfl, m7⟩
    have M7 := Lib.hid (H6.out.1.nn_ m7)
    clear m7
    go_wp2
    go_ret
    exact ⟨rfl, M7.out⟩
  · have d1 : decide ((3000 : Int) < n) = false := decide_eq_false (by omega)
    have d3 : decide ((40000 : Int) < n) = false := decide_eq_false (by omega)
    go_enter Try.func3, Try.ntmps3
    go_wp2_with fail
    refine (f_awake _).mono ?_
    rintro r w1 ⟨rfl, m1⟩
    have H1 := Lib.hid (And.intro (H0.out.1.nn_ m1) (H0.out.2.mod m1 (fun f => f)))
    have C3 : w1.cell? ⟨w.heap.size, 3, none⟩ = some (.slice A n c) := H1.out.2.cell 3
    have hw1 := m1.size
    clear m1
    go_wp2_with (first
          | (with_reducible change wpList _ _ _ (⟨some 26, Op.load _ _, _, _, _, _⟩ :: _) _ _
             go_loud (
               refine wpList_load_var 24 _ rfl rfl w.heap.size #[.int .i64 k, .int .i64 e, .int .i64 s, .slice A n c] _ _ rfl H1.out.2 Try.underlying24 rfl size_frame ?_)))
    refine (lentf_any k e s (HR.out.1.mod H1.out.1 (fun _ _ f => f)) (by omega)).mono ?_
    rintro r w2 ⟨g, rfl, b2, m2, hg⟩
    have hw2 := m2.size
    have H2 := Lib.hid (And.intro (H1.out.1.nn_ m2) (And.intro (H1.out.2.mod m2 (fun f => f)) b2))
    clear b2 m2 hg
    go_wp2_with (first
          | (with_reducible change wpList _ _ _ (⟨some 3, Op.alloc _, _, _, _, _⟩ :: _) _ _
             go_loud (
               go_must (refine wpList_alloc_var 24 rfl rfl info_frame ?_)
               intro wa3 ba3 ma3 za3
               have HA3 := Lib.hid (And.intro ba3 (And.intro ma3 za3))
               clear ba3 ma3 za3))
          | (with_reducible change wpList _ _ _ (⟨none, Op.store _ (.tmp 3) _, _, _, _, _⟩ :: _) _ _
             go_loud (
               go_must (refine wpList_store_var 24 _ _ rfl rfl w2.heap.size #[.int .i64 k, .int .i64 e, .int .i64 s, .slice (some ⟨g, 0, none⟩) n (n + 12)] _ _ rfl rfl HA3.out.1 size_frame rfl (one4 _ _ _ _ _ _) ?_)
               intro wb3 bb3 mb3 zb3
               have mm3 := HA3.out.2.1.new_ mb3 (Nat.le_refl _)
               have hs3 : w2.heap.size < wb3.heap.size := bb3.lt
               have H3 := Lib.hid (And.intro (H2.out.1.nn_ mm3) (And.intro (H2.out.2.1.mod mm3 (fun f => f)) (And.intro (H2.out.2.2.mod mm3 (fun f => f)) bb3)))
               clear bb3 mb3 zb3 mm3))
          | (with_reducible change wpList _ _ _ (⟨some 29, Op.load _ _, _, _, _, _⟩ :: _) _ _
             go_loud (
               refine wpList_load_var 24 _ rfl rfl w2.heap.size #[.int .i64 k, .int .i64 e, .int .i64 s, .slice (some ⟨g, 0, none⟩) n (n + 12)] _ _ rfl H3.out.2.2.2 Try.underlying24 rfl size_frame ?_)))
    refine (fput_all k e s (lent_rd H3.out.2.2.1 HL.out) HR.out.2).mono ?_
    rintro r w4 ⟨A4, c4, rfl, o4, m4⟩
    rw [HE.out.2] at o4 ⊢
    rw [HE.out.1]
    have hw4 := m4.size
    have H4 := Lib.hid (And.intro (H3.out.1.nn_ m4) (And.intro (H3.out.2.1.mod m4 (fun f => f)) (And.intro (H3.out.2.2.1.mod m4 (fun f => f)) (And.intro (H3.out.2.2.2.mod m4 (fun f => f)) (Rd.of_own o4)))))
    clear o4 m4
    go_wp2_with (first
          | (with_reducible change wpList _ _ _ (⟨some 34, Op.load _ _, _, _, _, _⟩ :: _) _ _
             go_loud (
               refine wpList_load_var 24 _ rfl rfl w.heap.size #[.int .i64 k, .int .i64 e, .int .i64 s, .slice A n c] _ _ rfl H4.out.2.1 Try.underlying24 rfl size_frame ?_)))
    refine (rput_all k e s (HR.out.1.mod H4.out.1 (fun _ _ f => f)) HR.out.2).mono ?_
    rintro r w5 ⟨A5, c5, rfl, o5, m5⟩
    rw [HE.out.2] at o5 ⊢
    rw [HE.out.1]
    have hw5 := m5.size
    have H5 := Lib.hid (And.intro (H4.out.1.nn_ m5) (And.intro (H4.out.2.1.mod m5 (fun f => f)) (And.intro (H4.out.2.2.1.mod m5 (fun f => f)) (And.intro (H4.out.2.2.2.1.mod m5 (fun f => f)) (And.intro (H4.out.2.2.2.2.mod m5 (fun _ _ f => f)) (Rd.of_own o5))))))
    clear o5 m5
    go_wp2_with fail
    refine (sameb_yes H5.out.2.2.2.2.1 H5.out.2.2.2.2.2 (by omega)).mono ?_
    rintro r w6 ⟨rfl, m6⟩
    have H6 := Lib.hid (And.intro (H5.out.1.nn_ m6) (And.intro (H5.out.2.1.mod m6 (fun f => f)) (And.intro (H5.out.2.2.1.mod m6 (fun f => f)) (H5.out.2.2.2.1.mod m6 (fun f => f)))))
    clear m6
    go_wp2_with (first
          | (with_reducible change wpList _ _ _ (⟨some 47, Op.load _ _, _, _, _, _⟩ :: _) _ _
             go_loud (
               refine wpList_load_var 24 _ rfl rfl w2.heap.size #[.int .i64 k, .int .i64 e, .int .i64 s, .slice (some ⟨g, 0, none⟩) n (n + 12)] _ _ rfl H6.out.2.2.2 Try.underlying24 rfl size_frame ?_))
          | (with_reducible change wpList _ _ _ (⟨some 48, Op.load _ _, _, _, _, _⟩ :: _) _ _
             go_loud (
               refine wpList_load_var 24 _ rfl rfl w.heap.size #[.int .i64 k, .int .i64 e, .int .i64 s, .slice A n c] _ _ rfl H6.out.2.1 Try.underlying24 rfl size_frame ?_)))
    refine (keptf_any k e s (HR.out.1.mod H6.out.1 (fun _ _ f => f)) H6.out.2.2.1 (by omega)).mono ?_
    rintro r w7 ⟨rfl, m7⟩
    have M7 := Lib.hid (H6.out.1.nn_ m7)
    clear m7
    go_wp2
    go_ret
    exact ⟨rfl, M7.out⟩
end
end Go.Proofs.Ytjndcgpfikngaaa
