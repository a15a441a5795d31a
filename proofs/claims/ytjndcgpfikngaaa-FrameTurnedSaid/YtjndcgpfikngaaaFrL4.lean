/- peatbanklaw10.FrameTurned: the walk (printed by wip/gen/frlaws.py). -/
import Derived.Test.YtjndcgpfikngaaaFrN
import Derived.Test.YtjndcgpfikngaaaKit10
import Derived.Test.YtjndcgpfikngaaaFrH
namespace Go.Proofs.Ytjndcgpfikngaaa
open Go.RowKit

theorem xor_u8 (c d : Nat) (hc : c < 256) (hd : d < 256) : bits .xor .u8 (c : Int) (d : Int) = ((c ^^^ d : Nat) : Int) := by
  show IntKind.u8.wrap ((BitVec.ofInt 8 (c : Int) ^^^ BitVec.ofInt 8 (d : Int)).toNat : Int) = _
  have := xor8_lt c d hc hd
  rw [BitVec.ofInt_natCast, BitVec.ofInt_natCast, BitVec.toNat_xor, BitVec.toNat_ofNat, BitVec.toNat_ofNat, Nat.mod_eq_of_lt (show c < 2 ^ 8 by omega), Nat.mod_eq_of_lt (show d < 2 ^ 8 by omega), IntKind.wrap_u8]
  omega
theorem bv_set (l : List Nat) (i z : Nat) : (bv l).set i (.int .u8 (z : Int)) = bv (l.set i z) := by unfold bv; rw [List.map_set]
section
variable {w : World} {A B : Option Addr} {n c m d : Nat} {D M : List Nat}
set_option maxRecDepth 100000 in
set_option maxHeartbeats 3200000 in
theorem fturn_any (k e s x : Int) (y : Nat) (hy : y < 256) (hr : Rd w A n (bv D)) (hl : ∀ z ∈ D, z < 256) (hn : n ≤ 9223372036854775807) (hr2 : Rd w B m (bv M)) (hl2 : ∀ z ∈ M, z < 256) (hm : m < 140737488355328) :
    Calls Try.prog 5 #[frV k e s A n c, .int .i64 x, .int .u8 (y : Int), .slice B m d] w fun r w' => r = .returned (.bool true) ∧ Mod Nn w w' := by
  have hL : D.length = n := by have := hr.1; simpa [bv] using this
  have hLM : M.length = m := by have := hr2.1; simpa [bv] using this
  have HL := Lib.hid (And.intro hL hLM); clear hLM
  obtain ⟨E, hE⟩ : ∃ E, perr k e s D.length = E := ⟨_, rfl⟩
  obtain ⟨C, hC⟩ : ∃ C, (pbytes k e s D).length = C := ⟨_, rfl⟩
  have hC9 : C ≤ 40000 := hC ▸ pbytes_len k e s D
  have hbig : 32768 < n → E ≠ 0 := fun h e0 => by
    have := (perr_zero (hE.trans e0)).2.2.2.2.2.2
    rw [hL] at this; omega
  have HR := Lib.hid (And.intro hr (And.intro hl (And.intro hr2 (And.intro hl2 (pbytes_lt (k := k) (e := e) (s := s) hl))))); clear hr hl hr2 hl2 hL
  have HE := Lib.hid (And.intro hE hC); clear hE hC
  unfold frV
  have m0 : Mod Nn w (w.alloc (.cells #[.int .i64 k, .int .i64 e, .int .i64 s, .slice A n c] 24)) := (Mod.refl Nn w).alloc _
  have b0 : Blk (w.alloc (.cells #[.int .i64 k, .int .i64 e, .int .i64 s, .slice A n c] 24)) w.heap.size 24 #[.int .i64 k, .int .i64 e, .int .i64 s, .slice A n c] := Blk.new _ _ _
  have H0 := Lib.hid (And.intro m0 b0)
  clear m0 b0
  by_cases h1 : (9223372036854775807 : Int) < (n : Int) + m
  · obtain ⟨V, hV⟩ : ∃ V, IntKind.i64.wrap ((n : Int) + (m : Int)) = V := ⟨_, rfl⟩
    have hV2 : V ≤ 2000 := by rw [← hV, IntKind.wrap_i64]; omega
    have d1 : decide ((2000 : Int) < V) = false := decide_eq_false (by omega)
    have hE0 : E ≠ 0 := hbig (by omega)
    have hE1 : (E == 0) = false := by rw [beq_eq_false_iff_ne]; exact hE0
    clear hbig
    go_enter Try.func5, Try.ntmps5
    go_wp2_with fail
    refine (f_awake _).mono ?_
    rintro r w1 ⟨rfl, m1⟩
    have H1 := Lib.hid (And.intro (H0.out.1.nn_ m1) (H0.out.2.mod m1 (fun f => f)))
    have C3 : w1.cell? ⟨w.heap.size, 3, none⟩ = some (.slice A n c) := H1.out.2.cell 3
    have hw1 := m1.size
    clear m1
    go_wp2_with (first
          | (with_reducible change wpList _ _ _ (⟨some 27, Op.load _ _, _, _, _, _⟩ :: _) _ _
             refine wpList_load_var 24 _ rfl rfl w.heap.size #[.int .i64 k, .int .i64 e, .int .i64 s, .slice A n c] _ _ rfl H1.out.2 Try.underlying24 rfl size_frame ?_))
    refine (rput_all k e s (HR.out.1.mod H1.out.1 (fun _ _ f => f)) HR.out.2.1).mono ?_
    rintro r w4 ⟨A4, c4, rfl, o4, m4⟩
    rw [HE.out.2] at o4 ⊢
    rw [HE.out.1]
    have hw4 := m4.size
    have H4 := Lib.hid (And.intro (H1.out.1.nn_ m4) o4)
    clear o4 m4 C3
    go_wp2
    go_ret
    exact ⟨rfl, H4.out.1⟩
  by_cases h2 : 2000 < n + m
  · have d1 : decide ((2000 : Int) < (n : Int) + (m : Int)) = true := decide_eq_true (by omega)
    have hnm : (n : Int) + (m : Int) ≤ 9223372036854775807 := by omega
    go_enter Try.func5, Try.ntmps5
    go_wp2_with fail
    refine (f_awake _).mono ?_
    rintro r w1 ⟨rfl, m1⟩
    have H1 := Lib.hid (And.intro (H0.out.1.nn_ m1) (H0.out.2.mod m1 (fun f => f)))
    have C3 : w1.cell? ⟨w.heap.size, 3, none⟩ = some (.slice A n c) := H1.out.2.cell 3
    have hw1 := m1.size
    clear m1
    go_wp2
    go_ret
    exact ⟨rfl, H1.out.1⟩
  have d1 : decide ((2000 : Int) < (n : Int) + (m : Int)) = false := decide_eq_false (by omega)
  clear hbig
  go_enter Try.func5, Try.ntmps5
  go_wp2_with fail
  refine (f_awake _).mono ?_
  rintro r w1 ⟨rfl, m1⟩
  have H1 := Lib.hid (And.intro (H0.out.1.nn_ m1) (H0.out.2.mod m1 (fun f => f)))
  have C3 : w1.cell? ⟨w.heap.size, 3, none⟩ = some (.slice A n c) := H1.out.2.cell 3
  have hw1 := m1.size
  clear m1
  go_wp2_with (first
        | (with_reducible change wpList _ _ _ (⟨some 27, Op.load _ _, _, _, _, _⟩ :: _) _ _
           refine wpList_load_var 24 _ rfl rfl w.heap.size #[.int .i64 k, .int .i64 e, .int .i64 s, .slice A n c] _ _ rfl H1.out.2 Try.underlying24 rfl size_frame ?_))
  refine (rput_all k e s (HR.out.1.mod H1.out.1 (fun _ _ f => f)) HR.out.2.1).mono ?_
  rintro r w4 ⟨A4, c4, rfl, o4, m4⟩
  rw [HE.out.2] at o4 ⊢
  rw [HE.out.1]
  have hw4 := m4.size
  have H4 := Lib.hid (And.intro (H1.out.1.nn_ m4) o4)
  clear o4 m4 C3
  by_cases hE0 : E = 0
  · subst hE0
    have hC5 : 512 ≤ C := by
      rw [← HE.out.2]
      have h0 := HE.out.1
      unfold pbytes; rw [if_pos h0, Fr.bytes_len]
      have := fsec_le D.length
      show 512 ≤ 512 * fsec D.length
      unfold fsec; omega
    go_wp2_with (first
      | (with_reducible change wpList _ _ _ (⟨some 35, _, _, _, _, _⟩ :: _) _ _
         go_must (refine wpList_append_rd 22 _ _ rfl rfl w1.heap.size 5 (.int .u8 0) 1 1 Try.underlying22 info_u8 rfl (by omega) _ C _ rfl H4.out.2 _ m _ _ rfl (HR.out.2.2.1.mod H4.out.1 (fun _ _ f => f)).toC (bv_one _) (by omega) (by omega) (by omega) ?_)
         intro v5 w5 o5 g5 b5
         rw [← bv_append] at o5
         obtain ⟨g, cap, cur, rfl, hgb, hblk, hnc, hcm, _, _⟩ := own_blk o5 (by omega)
         have M5 : Mod Nn w w5 := H4.out.1.grown g5 (fun g hg => .inl (by have := own_ge H4.out.2 g hg; have := H1.out.1.size; omega))
         have hlt5 := hblk.lt
         have H5 := Lib.hid (And.intro M5 (And.intro o5 (And.intro hnc hcm)))
         clear o5 g5 b5 M5 hblk hnc hcm))
    refine (pick_any x ((C : Int) + m) _ (by omega)).mono ?_
    rintro r w5' ⟨rfl, rfl⟩
    have hpr := pick_range x ((C : Int) + m) (by omega)
    obtain ⟨i, hi⟩ : ∃ i : Nat, pick x ((C : Int) + m) = i := ⟨(pick x ((C : Int) + m)).toNat, by omega⟩
    rw [hi] at hpr ⊢
    clear hi
    have hil : i < C + m := by omega
    have hPM : (pbytes k e s D ++ M).length = C + m := by rw [List.length_append, HE.out.2, HL.out.2]
    obtain ⟨z, hz⟩ : ∃ z, (pbytes k e s D ++ M)[i]? = some z := ⟨_, List.getElem?_eq_getElem (by omega)⟩
    have hPl : ∀ z ∈ pbytes k e s D ++ M, z < 256 := fun z hz => by
      rcases List.mem_append.1 hz with h | h
      · exact HR.out.2.2.2.2 z h
      · exact HR.out.2.2.2.1 z h
    have hz8 : z < 256 := hPl z (List.mem_of_getElem? hz)
    have hx8 := xor8_lt z y hz8 hy
    have hcz : w5.cell? ⟨g, i, none⟩ = some (.int .u8 (z : Int)) := own_cell H5.out.2.1 (by unfold bv; rw [List.getElem?_map, hz]; rfl)
    have hfz := own_free H5.out.2.1 i
    have hxo := xor_u8 z y hz8 hy
    have ho6 := own_set H5.out.2.1 i (.int .u8 ((z ^^^ y : Nat) : Int))
    rw [bv_set] at ho6
    have hl6 : ∀ u ∈ (pbytes k e s D ++ M).set i (z ^^^ y), u < 256 := fun u hu => by
      rcases List.mem_or_eq_of_mem_set hu with h | h
      · exact hPl u h
      · rw [h]; exact hx8
    obtain ⟨T, hT, hP⟩ := tell_of _ hl6
    have hb := hT.big
    have hgw : w.heap.size ≤ g := by have := H1.out.1.size; omega
    have M6 : Mod Nn w (w5.setCell ⟨g, i, none⟩ (.int .u8 ((z ^^^ y : Nat) : Int))) := H5.out.1.setCell (.inl hgw) _
    have HX := Lib.hid (And.intro ho6 (And.intro hl6 (And.intro hP (And.intro M6 (And.intro H5.out.2.2.1 H5.out.2.2.2)))))
    have hir : (i : Int) < (C : Int) + (m : Int) := by omega
    have HXO := Lib.hid hxo
    clear ho6 hl6 hT hP M6 hPM hz hPl hz8 hx8 hxo
    go_wp2_with fail
    rw [HXO.out]
    generalize w5.setCell ⟨g, i, none⟩ (.int .u8 ((z ^^^ y : Nat) : Int)) = w6 at *
    have hw6 : w.heap.size ≤ w6.heap.size := HX.out.2.2.2.1.size
    clear hcz hfz
    refine (fget_any (Rd.of_own HX.out.1) HX.out.2.1 (by omega) HX.out.2.2.2.2.1 (by unfold maxLen; exact HX.out.2.2.2.2.2)).mono ?_
    intro r w7 hgot
    obtain ⟨A7, c7, rfl, o7, m7⟩ := HX.out.2.2.1 _ _ _ hgot
    clear hgot
    have hw7 := m7.size
    have H7 := Lib.hid (And.intro (HX.out.2.2.2.1.nn_ m7) (And.intro (own_mod HX.out.1 m7 (fun _ _ f => f)) (Rd.of_own o7)))
    clear o7 m7
    go_wp2_with (first
          | (with_reducible change wpList _ _ _ (⟨some 11, Op.alloc _, _, _, _, _⟩ :: _) _ _
             go_must (refine wpList_alloc_var 24 rfl rfl info_frame ?_)
             intro wa11 ba11 ma11 za11
             have HA11 := Lib.hid (And.intro ba11 (And.intro ma11 za11))
             clear ba11 ma11 za11)
          | (with_reducible change wpList _ _ _ (⟨none, Op.store _ (.tmp 11) _, _, _, _, _⟩ :: _) _ _
             go_must (refine wpList_store_var 24 _ _ rfl rfl w7.heap.size #[.int .i64 T.k, .int .i64 T.e, .int .i64 T.s, .slice A7 T.m c7] _ _ rfl rfl HA11.out.1 size_frame rfl (one4 _ _ _ _ _ _) ?_)
             intro wb11 bb11 mb11 zb11
             have mm11 := HA11.out.2.1.new_ mb11 (Nat.le_refl _)
             have hs11 : w7.heap.size < wb11.heap.size := bb11.lt
             have H11 := Lib.hid (And.intro (H7.out.1.nn_ mm11) (And.intro (own_mod H7.out.2.1 mm11 (fun _ _ f => f)) (And.intro (H7.out.2.2.mod mm11 (fun _ _ f => f)) bb11)))
             clear bb11 mb11 zb11 mm11))
    refine (rget_any (Rd.of_own H11.out.2.1) HX.out.2.1 (by omega) HX.out.2.2.2.2.1 (by unfold maxLen; exact HX.out.2.2.2.2.2)).mono ?_
    intro r w8 hgot
    obtain ⟨A8, c8, rfl, o8, m8⟩ := HX.out.2.2.1 _ _ _ hgot
    clear hgot
    have hw8 := m8.size
    have H8 := Lib.hid (And.intro (H11.out.1.nn_ m8) (And.intro (H11.out.2.2.1.mod m8 (fun _ _ f => f)) (And.intro (H11.out.2.2.2.mod m8 (fun f => f)) (Rd.of_own o8))))
    clear o8 m8
    go_wp2_with (first
          | (with_reducible change wpList _ _ _ (⟨some 14, Op.alloc _, _, _, _, _⟩ :: _) _ _
             go_must (refine wpList_alloc_var 24 rfl rfl info_frame ?_)
             intro wa14 ba14 ma14 za14
             have HA14 := Lib.hid (And.intro ba14 (And.intro ma14 za14))
             clear ba14 ma14 za14)
          | (with_reducible change wpList _ _ _ (⟨none, Op.store _ (.tmp 14) _, _, _, _, _⟩ :: _) _ _
             go_must (refine wpList_store_var 24 _ _ rfl rfl w8.heap.size #[.int .i64 T.k, .int .i64 T.e, .int .i64 T.s, .slice A8 T.m c8] _ _ rfl rfl HA14.out.1 size_frame rfl (one4 _ _ _ _ _ _) ?_)
             intro wb14 bb14 mb14 zb14
             have mm14 := HA14.out.2.1.new_ mb14 (Nat.le_refl _)
             have hs14 : w8.heap.size < wb14.heap.size := bb14.lt
             have H14 := Lib.hid (And.intro (H8.out.1.nn_ mm14) (And.intro (H8.out.2.1.mod mm14 (fun _ _ f => f)) (And.intro (H8.out.2.2.1.mod mm14 (fun f => f)) (And.intro (H8.out.2.2.2.mod mm14 (fun _ _ f => f)) bb14))))
             clear bb14 mb14 zb14 mm14)
          | (with_reducible change wpList _ _ _ (⟨some 67, Op.load _ _, _, _, _, _⟩ :: _) _ _
             refine wpList_load_var 24 _ rfl rfl w7.heap.size #[.int .i64 T.k, .int .i64 T.e, .int .i64 T.s, .slice A7 T.m c7] _ _ rfl H14.out.2.2.1 Try.underlying24 rfl size_frame ?_)
          | (with_reducible change wpList _ _ _ (⟨some 68, Op.load _ _, _, _, _, _⟩ :: _) _ _
             refine wpList_load_var 24 _ rfl rfl w8.heap.size #[.int .i64 T.k, .int .i64 T.e, .int .i64 T.s, .slice A8 T.m c8] _ _ rfl H14.out.2.2.2.2 Try.underlying24 rfl size_frame ?_))
    refine (samef_yes T.k T.e T.s H14.out.2.1 H14.out.2.2.2.1 (by omega)).mono ?_
    rintro r w9 ⟨rfl, m9⟩
    have M9 := Lib.hid (H14.out.1.nn_ m9)
    clear m9
    go_wp2
    go_ret
    exact ⟨rfl, M9.out⟩
  · have hE1 : (E == 0) = false := by rw [beq_eq_false_iff_ne]; exact hE0
    go_wp2
    go_ret
    exact ⟨rfl, H4.out.1⟩
end
end Go.Proofs.Ytjndcgpfikngaaa
