/- peatbanklaw10.FrameGets: the walk (printed by wip/gen/frlaws.py). -/
import Derived.Test.YtjndcgpfikngaaaFrN
import Derived.Test.YtjndcgpfikngaaaFrH
namespace Go.Proofs.Ytjndcgpfikngaaa
open Go.RowKit

section
variable {w : World} {A : Option Addr} {n c : Nat} {D : List Nat}
set_option maxRecDepth 100000 in
set_option maxHeartbeats 3200000 in
theorem fgets_any (hr : Rd w A n (bv D)) (hl : ∀ z ∈ D, z < 256) (hc : n ≤ c) (hcm : c ≤ maxLen) :
    Calls Try.prog 4 #[.slice A n c] w fun r w' => r = .returned (.bool true) ∧ Mod Nn w w' := by
  have hL : D.length = n := by have := hr.1; simpa [bv] using this
  have HL := Lib.hid hL; clear hL
  have HR := Lib.hid (And.intro hr (And.intro hl (And.intro hc hcm)))
  obtain ⟨T, hT, hP⟩ := tell_of D hl
  have hb := hT.big
  have HT := Lib.hid (And.intro hT hP)
  clear hr hl hc hcm hT hP
  by_cases h1 : 3000 < n
  · have d1 : (3000 : Int) < n := by omega
    go_enter Try.func4, Try.ntmps4
    go_wp2_with fail
    refine (f_awake _).mono ?_
    rintro r w1 ⟨rfl, m1⟩
    go_wp2
    go_ret
    exact ⟨rfl, m1⟩
  have d1 : decide ((3000 : Int) < n) = false := decide_eq_false (by omega)
  go_enter Try.func4, Try.ntmps4
  go_wp2_with fail
  refine (f_awake _).mono ?_
  rintro r w1 ⟨rfl, m1⟩
  have H1 := Lib.hid m1
  clear m1
  go_wp2_with fail
  refine (lentb_any (HR.out.1.mod H1.out (fun _ _ f => f)) (by omega)).mono ?_
  rintro r w2 ⟨g, rfl, b2, m2, hg⟩
  have H2 := Lib.hid (And.intro (H1.out.nn_ m2) b2)
  clear b2 m2 hg
  go_wp2_with fail
  refine (fget_any (w := w2) (l := D) (lent_rd H2.out.2 HL.out) HR.out.2.1 (by omega) (by omega) (by unfold maxLen; omega)).mono ?_
  intro r w3 hgot
  obtain ⟨A3, c3, rfl, o3, m3⟩ := HT.out.2 _ _ _ hgot
  clear hgot
  have H3 := Lib.hid (And.intro (H2.out.1.nn_ m3) (And.intro (H2.out.2.mod m3 (fun f => f)) (Rd.of_own o3)))
  clear o3 m3
  go_wp2_with (first
        | (with_reducible change wpList _ _ _ (⟨some 4, Op.alloc _, _, _, _, _⟩ :: _) _ _
           go_must (refine wpList_alloc_var 24 rfl rfl info_frame ?_)
           intro wa4 ba4 ma4 za4
           have HA4 := Lib.hid (And.intro ba4 (And.intro ma4 za4))
           clear ba4 ma4 za4)
        | (with_reducible change wpList _ _ _ (⟨none, Op.store _ (.tmp 4) _, _, _, _, _⟩ :: _) _ _
           go_must (refine wpList_store_var 24 _ _ rfl rfl w3.heap.size #[.int .i64 T.k, .int .i64 T.e, .int .i64 T.s, .slice A3 T.m c3] _ _ rfl rfl HA4.out.1 size_frame rfl (one4 _ _ _ _ _ _) ?_)
           intro wb4 bb4 mb4 zb4
           have mm4 := HA4.out.2.1.new_ mb4 (Nat.le_refl _)
           have hs4 : w3.heap.size < wb4.heap.size := bb4.lt
           have H4 := Lib.hid (And.intro (H3.out.1.nn_ mm4) (And.intro (H3.out.2.1.mod mm4 (fun f => f)) (And.intro (H3.out.2.2.mod mm4 (fun _ _ f => f)) bb4)))
           clear bb4 mb4 zb4 mm4))
  refine (rget_any (HR.out.1.mod H4.out.1 (fun _ _ f => f)) HR.out.2.1 (by omega) HR.out.2.2.1 HR.out.2.2.2).mono ?_
  intro r w5 hgot
  obtain ⟨A5, c5, rfl, o5, m5⟩ := HT.out.2 _ _ _ hgot
  clear hgot
  have hw5 := m5.size
  have H5 := Lib.hid (And.intro (H4.out.1.nn_ m5) (And.intro (H4.out.2.1.mod m5 (fun f => f)) (And.intro (H4.out.2.2.1.mod m5 (fun _ _ f => f)) (And.intro (H4.out.2.2.2.mod m5 (fun f => f)) (Rd.of_own o5)))))
  clear o5 m5
  go_wp2_with (first
        | (with_reducible change wpList _ _ _ (⟨some 7, Op.alloc _, _, _, _, _⟩ :: _) _ _
           go_must (refine wpList_alloc_var 24 rfl rfl info_frame ?_)
           intro wa7 ba7 ma7 za7
           have HA7 := Lib.hid (And.intro ba7 (And.intro ma7 za7))
           clear ba7 ma7 za7)
        | (with_reducible change wpList _ _ _ (⟨none, Op.store _ (.tmp 7) _, _, _, _, _⟩ :: _) _ _
           go_must (refine wpList_store_var 24 _ _ rfl rfl w5.heap.size #[.int .i64 T.k, .int .i64 T.e, .int .i64 T.s, .slice A5 T.m c5] _ _ rfl rfl HA7.out.1 size_frame rfl (one4 _ _ _ _ _ _) ?_)
           intro wb7 bb7 mb7 zb7
           have mm7 := HA7.out.2.1.new_ mb7 (Nat.le_refl _)
           have hs7 : w5.heap.size < wb7.heap.size := bb7.lt
           have H7 := Lib.hid (And.intro (H5.out.1.nn_ mm7) (And.intro (H5.out.2.1.mod mm7 (fun f => f)) (And.intro (H5.out.2.2.1.mod mm7 (fun _ _ f => f)) (And.intro (H5.out.2.2.2.1.mod mm7 (fun f => f)) (And.intro (H5.out.2.2.2.2.mod mm7 (fun _ _ f => f)) bb7)))))
           clear bb7 mb7 zb7 mm7)
        | (with_reducible change wpList _ _ _ (⟨some 38, Op.load _ _, _, _, _, _⟩ :: _) _ _
           refine wpList_load_var 24 _ rfl rfl w3.heap.size #[.int .i64 T.k, .int .i64 T.e, .int .i64 T.s, .slice A3 T.m c3] _ _ rfl H7.out.2.2.2.1 Try.underlying24 rfl size_frame ?_)
        | (with_reducible change wpList _ _ _ (⟨some 39, Op.load _ _, _, _, _, _⟩ :: _) _ _
           refine wpList_load_var 24 _ rfl rfl w5.heap.size #[.int .i64 T.k, .int .i64 T.e, .int .i64 T.s, .slice A5 T.m c5] _ _ rfl H7.out.2.2.2.2.2 Try.underlying24 rfl size_frame ?_))
  refine (samef_yes T.k T.e T.s H7.out.2.2.1 H7.out.2.2.2.2.1 (by omega)).mono ?_
  rintro r w8 ⟨rfl, m8⟩
  have H8 := Lib.hid (And.intro (H7.out.1.nn_ m8) (H7.out.2.1.mod m8 (fun f => f)))
  clear m8
  go_wp2_with fail
  refine (keptb_any (HR.out.1.mod H8.out.1 (fun _ _ f => f)) H8.out.2 (by omega)).mono ?_
  rintro r w9 ⟨rfl, m9⟩
  have M9 := Lib.hid (H8.out.1.nn_ m9)
  clear m9
  go_wp2
  go_ret
  exact ⟨rfl, M9.out⟩
end
end Go.Proofs.Ytjndcgpfikngaaa
