/- peatbanklaw10.FrameApart: the walk (printed by wip/gen/frlaws.py). -/
import Derived.Test.YtjndcgpfikngaaaFrN
import Derived.Test.YtjndcgpfikngaaaApB3
namespace Go.Proofs.Ytjndcgpfikngaaa
open Go.RowKit

section
variable {w : World} {A : Option Addr} {n c : Nat} {D : List Nat}
set_option maxRecDepth 100000 in
set_option maxHeartbeats 3200000 in
theorem fapart_any (k e s : Int) (hr : Rd w A n (bv D)) (hl : ∀ z ∈ D, z < 256) (hn : n ≤ 9223372036854775807) :
    Calls Try.prog 8 #[frV k e s A n c] w fun r w' => r = .returned (.bool true) ∧ Mod Nn w w' := by
  have hL : D.length = n := by have := hr.1; simpa [bv] using this
  have HL := Lib.hid hL; clear hL
  have HR := Lib.hid (And.intro hr hl)
  obtain ⟨T, hT, hP⟩ := tell_of (pbytes k e s D) (pbytes_lt hl)
  have hb := hT.big
  have HT := Lib.hid (And.intro hT (And.intro hP (pbytes_lt (k := k) (e := e) (s := s) hl)))
  clear hr hl hT hP
  obtain ⟨E, hE⟩ : ∃ E, perr k e s D.length = E := ⟨_, rfl⟩
  obtain ⟨C, hC⟩ : ∃ C, (pbytes k e s D).length = C := ⟨_, rfl⟩
  have hC9 : C ≤ 40000 := hC ▸ pbytes_len k e s D
  have HE := Lib.hid (And.intro hE hC); clear hE hC
  unfold frV
  have m0 : Mod Nn w (w.alloc (.cells #[.int .i64 k, .int .i64 e, .int .i64 s, .slice A n c] 24)) := (Mod.refl Nn w).alloc _
  have b0 : Blk (w.alloc (.cells #[.int .i64 k, .int .i64 e, .int .i64 s, .slice A n c] 24)) w.heap.size 24 #[.int .i64 k, .int .i64 e, .int .i64 s, .slice A n c] := Blk.new _ _ _
  have H0 := Lib.hid (And.intro m0 b0)
  clear m0 b0
  by_cases h1 : 2000 < n
  · have d1 : (2000 : Int) < n := by omega
    go_enter Try.func8, Try.ntmps8
    go_wp2_with fail
    refine (f_awake _).mono ?_
    rintro r w1 ⟨rfl, m1⟩
    have H1 := Lib.hid (And.intro (H0.out.1.nn_ m1) (H0.out.2.mod m1 (fun f => f)))
    have C3 : w1.cell? ⟨w.heap.size, 3, none⟩ = some (.slice A n c) := H1.out.2.cell 3
    clear m1
    go_wp2
    go_ret
    exact ⟨rfl, H1.out.1⟩
  have d1 : decide ((2000 : Int) < n) = false := decide_eq_false (by omega)
  go_enter Try.func8, Try.ntmps8
  go_wp2_with fail
  refine (f_awake _).mono ?_
  rintro r w1 ⟨rfl, m1⟩
  have H1 := Lib.hid (And.intro (H0.out.1.nn_ m1) (H0.out.2.mod m1 (fun f => f)))
  have C3 : w1.cell? ⟨w.heap.size, 3, none⟩ = some (.slice A n c) := H1.out.2.cell 3
  have hw1 := m1.size
  clear m1
  go_wp2_with (first
        | (with_reducible change wpList _ _ _ (⟨some 15, Op.load _ _, _, _, _, _⟩ :: _) _ _
           refine wpList_load_var 24 _ rfl rfl w.heap.size #[.int .i64 k, .int .i64 e, .int .i64 s, .slice A n c] _ _ rfl H1.out.2 Try.underlying24 rfl size_frame ?_))
  refine (copyf_any k e s (HR.out.1.mod H1.out.1 (fun _ _ f => f)) (by omega)).mono ?_
  rintro r w2 ⟨A2, c2, rfl, o2, m2⟩
  have hw2 := m2.size
  have hA2 : ∀ g, Of A2 g → w.heap.size < g ∧ g < w2.heap.size := by
    obtain ⟨_, _, e', _, hA⟩ := own_form o2
    injection e' with e' _ _; subst e'
    exact fun g hg => ⟨by have := (hA g hg).1; have := H1.out.2.lt; omega, (hA g hg).2⟩
  have H2 := Lib.hid (And.intro (H1.out.1.nn_ m2) (And.intro o2 hA2))
  clear m2 o2 hA2 C3
  go_wp2_with (first
        | (with_reducible change wpList _ _ _ (⟨some 3, Op.alloc _, _, _, _, _⟩ :: _) _ _
           go_must (refine wpList_alloc_var 24 rfl rfl info_frame ?_)
           intro wa3 ba3 ma3 za3
           have HA3 := Lib.hid (And.intro ba3 (And.intro ma3 za3))
           clear ba3 ma3 za3)
        | (with_reducible change wpList _ _ _ (⟨none, Op.store _ (.tmp 3) _, _, _, _, _⟩ :: _) _ _
           go_must (refine wpList_store_var 24 _ _ rfl rfl w2.heap.size #[.int .i64 k, .int .i64 e, .int .i64 s, .slice A2 n c2] _ _ rfl rfl HA3.out.1 size_frame rfl (one4 _ _ _ _ _ _) ?_)
           intro wb3 bb3 mb3 zb3
           have mm3 := HA3.out.2.1.new_ mb3 (Nat.le_refl _)
           have hs3 : w2.heap.size < wb3.heap.size := bb3.lt
           have H3 := Lib.hid (And.intro (H2.out.1.nn_ mm3) (And.intro (own_mod H2.out.2.1 mm3 (fun _ _ f => f)) bb3))
           clear bb3 mb3 zb3 mm3)
        | (with_reducible change wpList _ _ _ (⟨some 18, Op.load _ _, _, _, _, _⟩ :: _) _ _
           refine wpList_load_var 24 _ rfl rfl w2.heap.size #[.int .i64 k, .int .i64 e, .int .i64 s, .slice A2 n c2] _ _ rfl H3.out.2.2 Try.underlying24 rfl size_frame ?_))
  refine (fput_all k e s (Rd.of_own H3.out.2.1) HR.out.2).mono ?_
  rintro r w4 ⟨A4, c4, rfl, o4, m4⟩
  rw [HE.out.2] at o4 ⊢
  rw [HE.out.1]
  have hw4 := m4.size
  have hmx := own_max o4
  have hA4 : ∀ g, Of A4 g → wb3.heap.size ≤ g ∧ g < w4.heap.size := by
    obtain ⟨_, _, e', _, hA⟩ := own_form o4
    injection e' with e' _ _; subst e'
    exact hA
  have H4 := Lib.hid (And.intro (H3.out.1.nn_ m4) (And.intro (own_mod H3.out.2.1 m4 (fun _ _ f => f)) (And.intro (H3.out.2.2.mod m4 (fun f => f)) (And.intro o4 (And.intro hmx hA4)))))
  clear o4 m4 hmx hA4
  by_cases hE0 : E = 0
  · subst hE0
    go_wp2_with fail
    refine (fget_any (w := w4) (l := pbytes k e s D) (Rd.of_own H4.out.2.2.2.1) HT.out.2.2 (by omega) H4.out.2.2.2.2.1.1 H4.out.2.2.2.2.1.2).mono ?_
    intro r w5 hgot
    obtain ⟨A5, c5, rfl, o5, m5⟩ := HT.out.2.1 _ _ _ hgot
    clear hgot
    have hw5 := m5.size
    have hA5 : ∀ g, Of A5 g → w4.heap.size + 1 ≤ g ∧ g < w5.heap.size := by
      obtain ⟨_, _, e', _, hA⟩ := own_form o5
      injection e' with e' _ _; subst e'
      exact hA
    have H5 := Lib.hid (And.intro (H4.out.1.nn_ m5) (And.intro (own_mod H4.out.2.1 m5 (fun _ _ f => f)) (And.intro (H4.out.2.2.1.mod m5 (fun f => f)) (And.intro (own_mod H4.out.2.2.2.1 m5 (fun _ _ f => f)) (And.intro o5 hA5)))))
    clear o5 m5 hA5
    go_wp2_with (first
          | (with_reducible change wpList _ _ _ (⟨some 6, Op.alloc _, _, _, _, _⟩ :: _) _ _
             go_must (refine wpList_alloc_var 24 rfl rfl info_frame ?_)
             intro wa6 ba6 ma6 za6
             have HA6 := Lib.hid (And.intro ba6 (And.intro ma6 za6))
             clear ba6 ma6 za6)
          | (with_reducible change wpList _ _ _ (⟨none, Op.store _ (.tmp 6) _, _, _, _, _⟩ :: _) _ _
             go_must (refine wpList_store_var 24 _ _ rfl rfl w5.heap.size #[.int .i64 T.k, .int .i64 T.e, .int .i64 T.s, .slice A5 T.m c5] _ _ rfl rfl HA6.out.1 size_frame rfl (one4 _ _ _ _ _ _) ?_)
             intro wb6 bb6 mb6 zb6
             have mm6 := HA6.out.2.1.new_ mb6 (Nat.le_refl _)
             have hs6 : w5.heap.size < wb6.heap.size := bb6.lt
             have H6 := Lib.hid (And.intro (H5.out.1.nn_ mm6) (And.intro (own_mod H5.out.2.1 mm6 (fun _ _ f => f)) (And.intro (H5.out.2.2.1.mod mm6 (fun f => f)) (And.intro (own_mod H5.out.2.2.2.1 mm6 (fun _ _ f => f)) (And.intro (own_mod H5.out.2.2.2.2.1 mm6 (fun _ _ f => f)) bb6)))))
             have E3 : wb6.cell? ⟨w2.heap.size, 3, none⟩ = some (.slice A2 n c2) := H6.out.2.2.1.cell 3
             have E6 : wb6.cell? ⟨w5.heap.size, 3, none⟩ = some (.slice A5 T.m c5) := bb6.cell 3
             clear bb6 mb6 zb6 mm6))
    have hb7 : Blk (wb6.alloc (.cells #[.slice A2 n c2, .slice A4 C c4, .slice A5 T.m c5] 22)) wb6.heap.size 22 #[.slice A2 n c2, .slice A4 C c4, .slice A5 T.m c5] := Blk.new _ _ _
    have m7 : Mod Nn wb6 (wb6.alloc (.cells #[.slice A2 n c2, .slice A4 C c4, .slice A5 T.m c5] 22)) := (Mod.refl Nn wb6).alloc _
    refine (apartB3 (cc := 3) hb7 (own_mod H6.out.2.1 m7 (fun _ _ f => f)) (own_mod H6.out.2.2.2.1 m7 (fun _ _ f => f)) (own_mod H6.out.2.2.2.2.1 m7 (fun _ _ f => f)) (by omega) (by omega) (by omega) (fun g h h' => by have := (H2.out.2.2 g h).2; have := (H4.out.2.2.2.2.2 g h').1; omega) (fun g h h' => by have := (H2.out.2.2 g h).2; have := (H5.out.2.2.2.2.2 g h').1; omega) (fun g h h' => by have := (H4.out.2.2.2.2.2 g h).2; have := (H5.out.2.2.2.2.2 g h').1; omega)).mono ?_
    rintro r w8 ⟨rfl, m8⟩
    have M8 : Mod Nn w w8 := (H6.out.1.nn_ m7).then_ m8 (fun g hg h => by
      rcases h with h | h | h
      · have := (H2.out.2.2 g h).1; omega
      · have := (H4.out.2.2.2.2.2 g h).1; have := H3.out.1.size; omega
      · have := (H5.out.2.2.2.2.2 g h).1; have := H4.out.1.size; omega)
    have M8' := Lib.hid M8
    clear M8 m8 m7 hb7
    go_wp2
    go_ret
    exact ⟨rfl, M8'.out⟩
  · have hE1 : (E == 0) = false := by rw [beq_eq_false_iff_ne]; exact hE0
    go_wp2
    go_ret
    exact ⟨rfl, H4.out.1⟩
end
end Go.Proofs.Ytjndcgpfikngaaa
