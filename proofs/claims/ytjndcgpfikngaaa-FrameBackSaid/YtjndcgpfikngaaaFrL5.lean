/- peatbanklaw10.FrameBack: the walk (printed by wip/gen/frlaws.py). -/
import Derived.Test.YtjndcgpfikngaaaFrN
import Derived.Test.YtjndcgpfikngaaaFr2
import Derived.Test.YtjndcgpfikngaaaKit10
namespace Go.Proofs.Ytjndcgpfikngaaa
open Go.RowKit

theorem xor_u8 (c d : Nat) (hc : c < 256) (hd : d < 256) : bits .xor .u8 (c : Int) (d : Int) = ((c ^^^ d : Nat) : Int) := by
  show IntKind.u8.wrap ((BitVec.ofInt 8 (c : Int) ^^^ BitVec.ofInt 8 (d : Int)).toNat : Int) = _
  have := xor8_lt c d hc hd
  rw [BitVec.ofInt_natCast, BitVec.ofInt_natCast, BitVec.toNat_xor, BitVec.toNat_ofNat, BitVec.toNat_ofNat, Nat.mod_eq_of_lt (show c < 2 ^ 8 by omega), Nat.mod_eq_of_lt (show d < 2 ^ 8 by omega), IntKind.wrap_u8]
  omega
theorem bv_set (l : List Nat) (i z : Nat) : (bv l).set i (.int .u8 (z : Int)) = bv (l.set i z) := by unfold bv; rw [List.map_set]
section
variable {w : World} {A B : Option Addr} {n c m d : Nat} {D M : List Nat}
set_option maxRecDepth 100000 in
set_option maxHeartbeats 6400000 in
theorem fback_any (k e s x1 x2 : Int) (hr : Rd w A n (bv D)) (hl : ∀ z ∈ D, z < 256) (hn : n ≤ 9223372036854775807) (hr2 : Rd w B m (bv M)) (hl2 : ∀ z ∈ M, z < 256) (hm : m < 140737488355328) :
    Calls Try.prog 7 #[frV k e s A n c, .slice B m d, .int .i64 x1, .int .i64 x2] w fun r w' => r = .returned (.bool true) ∧ Mod Nn w w' := by
  have hL : D.length = n := by have := hr.1; simpa [bv] using this
  have hLM : M.length = m := by have := hr2.1; simpa [bv] using this
  have HL := Lib.hid (And.intro hL hLM); clear hLM
  obtain ⟨E, hE⟩ : ∃ E, perr k e s D.length = E := ⟨_, rfl⟩
  obtain ⟨C, hC⟩ : ∃ C, (pbytes k e s D).length = C := ⟨_, rfl⟩
  have hC9 : C ≤ 40000 := hC ▸ pbytes_len k e s D
  have hbig : 32768 < n → E ≠ 0 := fun h e0 => by
    have := (perr_zero (hE.trans e0)).2.2.2.2.2.2
    rw [hL] at this; omega
  have hC0 : E ≠ 0 → C = 0 := fun h => by rw [← hC]; unfold pbytes; rw [hE, if_neg h]; rfl
  have HR := Lib.hid (And.intro hr (And.intro hl (And.intro hr2 (And.intro hl2 (pbytes_lt (k := k) (e := e) (s := s) hl))))); clear hr hl hr2 hl2 hL
  have HE := Lib.hid (And.intro hE hC); clear hE hC
  unfold frV
  have m0 : Mod Nn w (w.alloc (.cells #[.int .i64 k, .int .i64 e, .int .i64 s, .slice A n c] 24)) := (Mod.refl Nn w).alloc _
  have b0 : Blk (w.alloc (.cells #[.int .i64 k, .int .i64 e, .int .i64 s, .slice A n c] 24)) w.heap.size 24 #[.int .i64 k, .int .i64 e, .int .i64 s, .slice A n c] := Blk.new _ _ _
  have H0 := Lib.hid (And.intro m0 b0)
  clear m0 b0
  by_cases h1 : (9223372036854775807 : Int) < (n : Int) + m
  · obtain ⟨V, hV⟩ : ∃ V, IntKind.i64.wrap ((n : Int) + (m : Int)) = V := ⟨_, rfl⟩
    have hV2 : V ≤ 2000 := by rw [← hV, IntKind.wrap_i64]; omega
    have d1 : decide ((2000 : Int) < V) = false := decide_eq_false (by omega)
    have hE0 : E ≠ 0 := hbig (by omega)
    have hE1 : (E == 0) = false := by rw [beq_eq_false_iff_ne]; exact hE0
    obtain rfl := hC0 hE0
    clear hbig hC0
    go_enter Try.func7, Try.ntmps7
    go_wp2_with fail
    refine (f_awake _).mono ?_
    rintro r w1 ⟨rfl, m1⟩
    have H1 := Lib.hid (And.intro (H0.out.1.nn_ m1) (H0.out.2.mod m1 (fun f => f)))
    have C3 : w1.cell? ⟨w.heap.size, 3, none⟩ = some (.slice A n c) := H1.out.2.cell 3
    have hw1 := m1.size
    clear m1
    go_wp2_with (first
          | (with_reducible change wpList _ _ _ (⟨some 33, Op.load _ _, _, _, _, _⟩ :: _) _ _
             go_loud (
               refine wpList_load_var 24 _ rfl rfl w.heap.size #[.int .i64 k, .int .i64 e, .int .i64 s, .slice A n c] _ _ rfl H1.out.2 Try.underlying24 rfl size_frame ?_)))
    refine (fput_all k e s (HR.out.1.mod H1.out.1 (fun _ _ f => f)) HR.out.2.1).mono ?_
    rintro r w4 ⟨A4, c4, rfl, o4, m4⟩
    rw [HE.out.2] at o4 ⊢
    rw [HE.out.1]
    have hw4 := m4.size
    have H4 := Lib.hid (And.intro (H1.out.1.nn_ m4) (And.intro o4 (H1.out.2.mod m4 (fun f => f))))
    clear o4 m4 C3
    go_wp2
    go_ret
    exact ⟨rfl, H4.out.1⟩
  by_cases h2 : 2000 < n + m
  · have d1 : decide ((2000 : Int) < (n : Int) + (m : Int)) = true := decide_eq_true (by omega)
    have hnm : (n : Int) + (m : Int) ≤ 9223372036854775807 := by omega
    go_enter Try.func7, Try.ntmps7
    go_wp2_with fail
    refine (f_awake _).mono ?_
    rintro r w1 ⟨rfl, m1⟩
    have H1 := Lib.hid (And.intro (H0.out.1.nn_ m1) (H0.out.2.mod m1 (fun f => f)))
    have C3 : w1.cell? ⟨w.heap.size, 3, none⟩ = some (.slice A n c) := H1.out.2.cell 3
    have hw1 := m1.size
    clear m1
    go_wp2
    go_ret
    exact ⟨rfl, H1.out.1⟩
  have d1 : decide ((2000 : Int) < (n : Int) + (m : Int)) = false := decide_eq_false (by omega)
  clear hbig
  by_cases hE0 : E = 0
  · subst hE0
    obtain ⟨f, hf, hfd, hfk, hfe, hfs, hfb⟩ := put_fr HE.out.1
    have hCq : C = 512 * fsec n := by rw [← HE.out.2, hfb, f.bytes_len, hfd, HL.out.1]
    have hfl := fsec_le n
    have hfl2 : ∀ z ∈ f.data, z < 256 := by rw [hfd]; exact HR.out.2.1
    have HF := Lib.hid (And.intro hf (And.intro hfd (And.intro hfk (And.intro hfe (And.intro hfs (And.intro hfb hfl2))))))
    clear hf hfd hfk hfe hfs hfb hfl2 hC0
    generalize hq : fsec n = q at *
    have HQ := Lib.hid hq; clear hq
    have hC5 : 512 ≤ C := by omega
    have HC := Lib.hid hCq; clear hCq
    go_enter Try.func7, Try.ntmps7
    go_wp2_with fail
    refine (f_awake _).mono ?_
    rintro r w1 ⟨rfl, m1⟩
    have H1 := Lib.hid (And.intro (H0.out.1.nn_ m1) (H0.out.2.mod m1 (fun f => f)))
    have C3 : w1.cell? ⟨w.heap.size, 3, none⟩ = some (.slice A n c) := H1.out.2.cell 3
    have hw1 := m1.size
    clear m1
    go_wp2_with (first
          | (with_reducible change wpList _ _ _ (⟨some 33, Op.load _ _, _, _, _, _⟩ :: _) _ _
             go_loud (
               refine wpList_load_var 24 _ rfl rfl w.heap.size #[.int .i64 k, .int .i64 e, .int .i64 s, .slice A n c] _ _ rfl H1.out.2 Try.underlying24 rfl size_frame ?_)))
    refine (fput_all k e s (HR.out.1.mod H1.out.1 (fun _ _ f => f)) HR.out.2.1).mono ?_
    rintro r w4 ⟨A4, c4, rfl, o4, m4⟩
    rw [HE.out.2] at o4 ⊢
    rw [HE.out.1]
    have hw4 := m4.size
    have H4 := Lib.hid (And.intro (H1.out.1.nn_ m4) (And.intro o4 (H1.out.2.mod m4 (fun f => f))))
    clear o4 m4 C3
    have hmx := own_max H4.out.2.1
    obtain ⟨g, cap, cur, hv4, hgb, _, _, _, _, _⟩ := own_blk H4.out.2.1 (by omega)
    injection hv4 with hv41 _ hv43
    subst hv41; subst hv43
    have e1 : decide ((C : Int) < 32 + (n : Int)) = false := decide_eq_false (by have := HC.out; omega)
    have e2 : decide (32 + (n : Int) + 512 ≤ (C : Int)) = false := decide_eq_false (by have := HC.out; omega)
    have e3 : ((512 : Int) * (q : Int) == (C : Int)) = true := by rw [beq_iff_eq]; have := HC.out; omega
    have e4 : ((512 : Int) * (q : Int) != (C : Int)) = false := by have := HC.out; rw [bne_eq_false_iff_eq]; omega
    have hq9 : q ≤ 100 := by have := HC.out; omega
    go_wp2_with fail
    refine (copy_any (xs := nats (pbytes k e s D)) (by rw [bv_nats]; exact Rd.of_own H4.out.2.1) (by omega)).mono ?_
    rintro r w5 ⟨v5, rfl, o5, m5⟩
    rw [bv_nats] at o5
    obtain ⟨A5, c5, rfl, -, -⟩ := own_form o5
    have hw5 := m5.size
    have H5 := Lib.hid (And.intro (H4.out.1.nn_ m5) (And.intro (own_mod H4.out.2.1 m5 (fun _ _ f => f)) (And.intro (H4.out.2.2.mod m5 (fun f => f)) (And.intro o5 m5))))
    clear o5 m5
    go_wp2_with (first
      | (with_reducible change wpList _ _ _ (⟨some 48, _, _, _, _, _⟩ :: _) _ _
         go_loud (
           go_must (refine wpList_append_rd 22 _ _ rfl rfl w4.heap.size 5 (.int .u8 0) 1 1 Try.underlying22 info_u8 rfl (by omega) _ C _ rfl H5.out.2.2.2.1 _ m _ _ rfl (HR.out.2.2.1.mod H5.out.1 (fun _ _ f => f)).toC (bv_one _) (by omega) (by omega) (by omega) ?_)
           intro v6 w6 o6 g6 b6
           rw [← bv_append] at o6
           have M6 : Mod Nn w4 w6 := H5.out.2.2.2.2.grown g6 (fun g hg => .inl (own_ge H5.out.2.2.2.1 g hg))
           obtain ⟨A6, c6, rfl, -, -⟩ := own_form o6
           have H6 := Lib.hid (And.intro (H4.out.1.nn_ M6) (And.intro (own_mod H4.out.2.1 M6 (fun _ _ f => f)) (And.intro (H4.out.2.2.mod M6 (fun f => f)) (And.intro o6 (own_max o6)))))
           clear o6 g6 b6 M6)))
    have hget := fget_back (w := w6) (c := c6) HE.out.1 HR.out.2.1 HR.out.2.2.2.1 (Rd.of_own H6.out.2.2.2.1) (by omega) H6.out.2.2.2.2.1 H6.out.2.2.2.2.2
    rw [HL.out.1, HQ.out] at hget
    refine hget.mono ?_
    clear hget
    rintro r w7 ⟨A7, c7, rfl, o7, m7⟩
    have hw7 := m7.size
    have hw6 : w.heap.size ≤ w6.heap.size := H6.out.1.size
    have H7 := Lib.hid (And.intro (H6.out.1.nn_ m7) (And.intro (own_mod H6.out.2.1 m7 (fun _ _ f => f)) (And.intro (H6.out.2.2.1.mod m7 (fun f => f)) (Rd.of_own o7))))
    clear o7 m7
    go_wp2_with (first
          | (with_reducible change wpList _ _ _ (⟨some 12, Op.alloc _, _, _, _, _⟩ :: _) _ _
             go_loud (
               go_must (refine wpList_alloc_var 24 rfl rfl info_frame ?_)
               intro wa12 ba12 ma12 za12
               have HA12 := Lib.hid (And.intro ba12 (And.intro ma12 za12))
               clear ba12 ma12 za12))
          | (with_reducible change wpList _ _ _ (⟨none, Op.store _ (.tmp 12) _, _, _, _, _⟩ :: _) _ _
             go_loud (
               go_must (refine wpList_store_var 24 _ _ rfl rfl w7.heap.size #[.int .i64 k, .int .i64 e, .int .i64 s, .slice A7 n c7] _ _ rfl rfl HA12.out.1 size_frame rfl (one4 _ _ _ _ _ _) ?_)
               intro wb12 bb12 mb12 zb12
               have mm12 := HA12.out.2.1.new_ mb12 (Nat.le_refl _)
               have hs12 : w7.heap.size < wb12.heap.size := bb12.lt
               have H12 := Lib.hid (And.intro (H7.out.1.nn_ mm12) (And.intro (own_mod H7.out.2.1 mm12 (fun _ _ f => f)) (And.intro (H7.out.2.2.1.mod mm12 (fun f => f)) (And.intro (H7.out.2.2.2.mod mm12 (fun _ _ f => f)) bb12))))
               have K3 : wb12.cell? ⟨w.heap.size, 3, none⟩ = some (.slice A n c) := H12.out.2.2.1.cell 3
               clear bb12 mb12 zb12 mm12))
          | (with_reducible change wpList _ _ _ (⟨some 79, Op.load _ _, _, _, _, _⟩ :: _) _ _
             go_loud (
               refine wpList_load_var 24 _ rfl rfl w.heap.size #[.int .i64 k, .int .i64 e, .int .i64 s, .slice A n c] _ _ rfl H12.out.2.2.1 Try.underlying24 rfl size_frame ?_))
          | (with_reducible change wpList _ _ _ (⟨some 80, Op.load _ _, _, _, _, _⟩ :: _) _ _
             go_loud (
               refine wpList_load_var 24 _ rfl rfl w7.heap.size #[.int .i64 k, .int .i64 e, .int .i64 s, .slice A7 n c7] _ _ rfl H12.out.2.2.2.2 Try.underlying24 rfl size_frame ?_)))
    refine (samef_yes k e s (HR.out.1.mod H12.out.1 (fun _ _ f => f)) H12.out.2.2.2.1 (by omega)).mono ?_
    rintro r w13 ⟨rfl, m13⟩
    have H13 := Lib.hid (And.intro (H12.out.1.nn_ m13) (own_mod H12.out.2.1 m13 (fun _ _ f => f)))
    clear m13 K3
    go_wp2_with fail
    refine (pick_any x2 (C : Int) _ (by omega)).mono ?_
    rintro r w13' ⟨rfl, rfl⟩
    have hpr := pick_range x2 (C : Int) (by omega)
    obtain ⟨j, hj⟩ : ∃ j : Nat, pick x2 (C : Int) = j := ⟨(pick x2 (C : Int)).toNat, by omega⟩
    rw [hj] at hpr ⊢
    clear hj
    have hjC : j < C := by omega
    clear hpr
    have hcut : ¬ Holds ((pbytes k e s D).take j) := by
      rw [HF.out.2.2.2.2.2.1]
      refine Fr.cut f HF.out.1 j ?_
      rw [← HF.out.2.2.2.2.2.1, HE.out.2]; exact hjC
    have hrt := (Rd.of_own H13.out.2).pre (c := c4) j (by omega) hmx.1
    have et : (bv (pbytes k e s D)).take j = bv ((pbytes k e s D).take j) := by unfold bv; rw [← List.map_take]
    rw [et] at hrt
    have HCUT := Lib.hid (And.intro hcut hrt)
    clear hcut hrt et
    go_wp2_with (first
      | (with_reducible change wpList _ _ _ (⟨some 89, _, _, _, _, _⟩ :: _) _ _
         go_loud (
           go_must (refine wpList_sub_h 22 _ _ rfl rfl 5 1 Try.underlying22 size_u8' (h := j) rfl rfl (by have := hmx.1; omega) ?_))))
    refine (fget_any (w := w13) (l := (pbytes k e s D).take j) HCUT.out.2 (fun z hz => HR.out.2.2.2.2 z (List.mem_of_mem_take hz)) (by omega) (by have := hmx.1; omega) hmx.2).mono ?_
    intro r w14 hgot
    obtain ⟨rfl, m14⟩ : r = .returned (.tuple #[frV 0 0 0 none 0 0, .int .i64 0, .int .i64 4]) ∧ Mod Nn w13 w14 := by
      rcases hgot with ⟨h, _⟩ | ⟨_, h1, h2⟩
      · exact (HCUT.out.1 h).elim
      · exact ⟨h1, h2⟩
    clear hgot
    have hw14 : w.heap.size ≤ w14.heap.size := (H13.out.1.nn_ m14).size
    have H14 := Lib.hid (And.intro (H13.out.1.nn_ m14) (own_mod H13.out.2 m14 (fun _ _ f => f)))
    clear m14
    go_wp2_with (first
          | (with_reducible change wpList _ _ _ (⟨some 15, Op.alloc _, _, _, _, _⟩ :: _) _ _
             go_loud (
               go_must (refine wpList_alloc_var 24 rfl rfl info_frame ?_)
               intro wa15 ba15 ma15 za15
               have HA15 := Lib.hid (And.intro ba15 (And.intro ma15 za15))
               clear ba15 ma15 za15))
          | (with_reducible change wpList _ _ _ (⟨none, Op.store _ (.tmp 15) _, _, _, _, _⟩ :: _) _ _
             go_loud (
               go_must (refine wpList_store_var 24 _ _ rfl rfl w14.heap.size #[.int .i64 0, .int .i64 0, .int .i64 0, .slice none 0 0] _ _ rfl rfl HA15.out.1 size_frame rfl (one4 _ _ _ _ _ _) ?_)
               intro wb15 bb15 mb15 zb15
               have mm15 := HA15.out.2.1.new_ mb15 (Nat.le_refl _)
               have hs15 : w14.heap.size < wb15.heap.size := bb15.lt
               have H15 := Lib.hid (And.intro (H14.out.1.nn_ mm15) (own_mod H14.out.2 mm15 (fun _ _ f => f)))
               clear bb15 mb15 zb15 mm15)))
    refine (pick_any x1 (8 * (C : Int)) _ (by omega)).mono ?_
    rintro r w15' ⟨rfl, rfl⟩
    have hpr := pick_range x1 (8 * (C : Int)) (by omega)
    obtain ⟨i, hi⟩ : ∃ i : Nat, pick x1 (8 * (C : Int)) = i := ⟨(pick x1 (8 * (C : Int))).toNat, by omega⟩
    rw [hi] at hpr ⊢
    clear hi
    obtain ⟨qi, hqi⟩ : ∃ qi : Nat, i / 8 = qi := ⟨_, rfl⟩
    obtain ⟨ri, hri⟩ : ∃ ri : Nat, i % 8 = ri := ⟨_, rfl⟩
    have hr8 : ri < 8 := by omega
    have hqC : qi < C := by omega
    have hPl : (pbytes k e s D).length = C := HE.out.2
    obtain ⟨z, hz⟩ : ∃ z, (pbytes k e s D)[qi]? = some z := ⟨_, List.getElem?_eq_getElem (by omega)⟩
    have hz8 : z < 256 := HR.out.2.2.2.2 z (List.mem_of_getElem? hz)
    have hx8 := xor8_lt z (2 ^ ri) hz8 (pow_lt8 ri hr8)
    have hcz : wb15.cell? ⟨g, qi, none⟩ = some (.int .u8 (z : Int)) := own_cell H15.out.2 (by unfold bv; rw [List.getElem?_map, hz]; rfl)
    have hfz := own_free H15.out.2 qi
    have hxo := xor_u8 z (2 ^ ri) hz8 (pow_lt8 ri hr8)
    have ho6 := own_set H15.out.2 qi (.int .u8 ((z ^^^ 2 ^ ri : Nat) : Int))
    rw [bv_set] at ho6
    have hl6 : ∀ u ∈ (pbytes k e s D).set qi (z ^^^ 2 ^ ri), u < 256 := fun u hu => by
      rcases List.mem_or_eq_of_mem_set hu with h | h
      · exact HR.out.2.2.2.2 u h
      · rw [h]; exact hx8
    have hturn : qi < 24 ∨ 28 ≤ qi → ¬ Holds ((pbytes k e s D).set qi (z ^^^ 2 ^ ri)) := fun ho => by
      have hzz : z = (pbytes k e s D).getD qi 0 := by rw [List.getD_eq_getElem?_getD, hz]; rfl
      rw [hzz]
      have hb := HF.out.2.2.2.2.2.1
      rw [hb]
      exact Fr.turned f HF.out.1 HF.out.2.2.2.2.2.2 qi ri (by rw [← hb, hPl]; exact hqC) hr8 ho
    obtain ⟨T, hT, hP⟩ := tell_of _ hl6
    have hb := hT.big
    have hgw : w.heap.size ≤ g := by have := H1.out.1.size; omega
    have M6 : Mod Nn w (wb15.setCell ⟨g, qi, none⟩ (.int .u8 ((z ^^^ 2 ^ ri : Nat) : Int))) := H15.out.1.setCell (.inl hgw) _
    have HX := Lib.hid (And.intro ho6 (And.intro hl6 (And.intro hP (And.intro M6 (And.intro hT hturn)))))
    have hw2 : (i : Int) / 8 = qi := by omega
    have hw3 : (i : Int) % 8 = ri := by omega
    have hr8' : (ri : Int) < 8 := by omega
    have hqC' : (qi : Int) < C := by omega
    have HXO := Lib.hid hxo
    clear ho6 hl6 hT hP M6 hPl hz hz8 hx8 hxo hturn hqi hri
    go_wp2_with fail
    have hp8 := pow_lt8 ri hr8
    have hsh : ((2 : Int) ^ ri % 256) = ((2 ^ ri : Nat) : Int) := by
      rw [Int.natCast_pow] at *
      have : ((2 ^ ri : Nat) : Int) < 256 := by omega
      rw [Int.natCast_pow] at this
      exact Int.emod_eq_of_lt (Int.pow_nonneg (by omega)) this
    rw [hsh, HXO.out]
    clear hsh hp8
    generalize wb15.setCell ⟨g, qi, none⟩ (.int .u8 ((z ^^^ 2 ^ ri : Nat) : Int)) = w16 at *
    clear hcz hfz
    refine (fget_any (Rd.of_own HX.out.1) HX.out.2.1 (by omega) hmx.1 hmx.2).mono ?_
    intro r w17 hgot
    obtain ⟨A9, c9, rfl, o9, m9⟩ := HX.out.2.2.1 _ _ _ hgot
    clear hgot
    have hw17 : w.heap.size ≤ w17.heap.size := (HX.out.2.2.2.1.nn_ m9).size
    have H17 := Lib.hid (HX.out.2.2.2.1.nn_ m9)
    clear o9 m9
    have no4 : ¬ Holds ((pbytes k e s D).set qi (z ^^^ 2 ^ ri)) → T.r = 4 := fun h => by rw [HX.out.2.2.2.2.1.no h]
    have out4 : qi < 24 ∨ 28 ≤ qi → T.r = 4 := fun h => no4 (HX.out.2.2.2.2.2 h)
    clear no4
    by_cases q24 : qi < 24
    · have hr4 := out4 (.inl q24)
      have d1 : decide ((24 : Int) ≤ (qi : Int)) = false := decide_eq_false (by omega)
      clear out4
      go_wp2_with (first
            | (with_reducible change wpList _ _ _ (⟨some 19, Op.alloc _, _, _, _, _⟩ :: _) _ _
               go_loud (
                 go_must (refine wpList_alloc_var 24 rfl rfl info_frame ?_)
                 intro wa19 ba19 ma19 za19
                 have HA19 := Lib.hid (And.intro ba19 (And.intro ma19 za19))
                 clear ba19 ma19 za19))
            | (with_reducible change wpList _ _ _ (⟨none, Op.store _ (.tmp 19) _, _, _, _, _⟩ :: _) _ _
               go_loud (
                 go_must (refine wpList_store_var 24 _ _ rfl rfl w17.heap.size _ _ _ rfl rfl HA19.out.1 size_frame rfl (one4 _ _ _ _ _ _) ?_)
                 intro wb19 bb19 mb19 zb19
                 have mm19 := HA19.out.2.1.new_ mb19 (Nat.le_refl _)
                 have hs19 : w17.heap.size < wb19.heap.size := bb19.lt
                 have H19 := Lib.hid (H17.out.nn_ mm19)
                 clear bb19 mb19 zb19 mm19)))
      go_ret
      exact ⟨rfl, H19.out⟩
    by_cases q28 : 28 ≤ qi
    · have hr4 := out4 (.inr q28)
      have d1 : decide ((24 : Int) ≤ (qi : Int)) = true := decide_eq_true (by omega)
      have d2 : decide ((qi : Int) < 28) = false := decide_eq_false (by omega)
      clear out4
      go_wp2_with (first
            | (with_reducible change wpList _ _ _ (⟨some 19, Op.alloc _, _, _, _, _⟩ :: _) _ _
               go_loud (
                 go_must (refine wpList_alloc_var 24 rfl rfl info_frame ?_)
                 intro wa19 ba19 ma19 za19
                 have HA19 := Lib.hid (And.intro ba19 (And.intro ma19 za19))
                 clear ba19 ma19 za19))
            | (with_reducible change wpList _ _ _ (⟨none, Op.store _ (.tmp 19) _, _, _, _, _⟩ :: _) _ _
               go_loud (
                 go_must (refine wpList_store_var 24 _ _ rfl rfl w17.heap.size _ _ _ rfl rfl HA19.out.1 size_frame rfl (one4 _ _ _ _ _ _) ?_)
                 intro wb19 bb19 mb19 zb19
                 have mm19 := HA19.out.2.1.new_ mb19 (Nat.le_refl _)
                 have hs19 : w17.heap.size < wb19.heap.size := bb19.lt
                 have H19 := Lib.hid (H17.out.nn_ mm19)
                 clear bb19 mb19 zb19 mm19)))
      go_ret
      exact ⟨rfl, H19.out⟩
    have d1 : decide ((24 : Int) ≤ (qi : Int)) = true := decide_eq_true (by omega)
    have d2 : decide ((qi : Int) < 28) = true := decide_eq_true (by omega)
    clear out4
    by_cases hr4 : T.r = 4
    · skip
      go_wp2_with (first
            | (with_reducible change wpList _ _ _ (⟨some 19, Op.alloc _, _, _, _, _⟩ :: _) _ _
               go_loud (
                 go_must (refine wpList_alloc_var 24 rfl rfl info_frame ?_)
                 intro wa19 ba19 ma19 za19
                 have HA19 := Lib.hid (And.intro ba19 (And.intro ma19 za19))
                 clear ba19 ma19 za19))
            | (with_reducible change wpList _ _ _ (⟨none, Op.store _ (.tmp 19) _, _, _, _, _⟩ :: _) _ _
               go_loud (
                 go_must (refine wpList_store_var 24 _ _ rfl rfl w17.heap.size _ _ _ rfl rfl HA19.out.1 size_frame rfl (one4 _ _ _ _ _ _) ?_)
                 intro wb19 bb19 mb19 zb19
                 have mm19 := HA19.out.2.1.new_ mb19 (Nat.le_refl _)
                 have hs19 : w17.heap.size < wb19.heap.size := bb19.lt
                 have H19 := Lib.hid (H17.out.nn_ mm19)
                 clear bb19 mb19 zb19 mm19)))
      go_ret
      exact ⟨rfl, H19.out⟩
    · have hr5 : (T.r == 4) = false := by rw [beq_eq_false_iff_ne]; exact hr4
      go_wp2_with (first
            | (with_reducible change wpList _ _ _ (⟨some 19, Op.alloc _, _, _, _, _⟩ :: _) _ _
               go_loud (
                 go_must (refine wpList_alloc_var 24 rfl rfl info_frame ?_)
                 intro wa19 ba19 ma19 za19
                 have HA19 := Lib.hid (And.intro ba19 (And.intro ma19 za19))
                 clear ba19 ma19 za19))
            | (with_reducible change wpList _ _ _ (⟨none, Op.store _ (.tmp 19) _, _, _, _, _⟩ :: _) _ _
               go_loud (
                 go_must (refine wpList_store_var 24 _ _ rfl rfl w17.heap.size _ _ _ rfl rfl HA19.out.1 size_frame rfl (one4 _ _ _ _ _ _) ?_)
                 intro wb19 bb19 mb19 zb19
                 have mm19 := HA19.out.2.1.new_ mb19 (Nat.le_refl _)
                 have hs19 : w17.heap.size < wb19.heap.size := bb19.lt
                 have H19 := Lib.hid (H17.out.nn_ mm19)
                 clear bb19 mb19 zb19 mm19)))
      go_ret
      exact ⟨rfl, H19.out⟩
  · have hE1 : (E == 0) = false := by rw [beq_eq_false_iff_ne]; exact hE0
    obtain rfl := hC0 hE0
    clear hC0
    go_enter Try.func7, Try.ntmps7
    go_wp2_with fail
    refine (f_awake _).mono ?_
    rintro r w1 ⟨rfl, m1⟩
    have H1 := Lib.hid (And.intro (H0.out.1.nn_ m1) (H0.out.2.mod m1 (fun f => f)))
    have C3 : w1.cell? ⟨w.heap.size, 3, none⟩ = some (.slice A n c) := H1.out.2.cell 3
    have hw1 := m1.size
    clear m1
    go_wp2_with (first
          | (with_reducible change wpList _ _ _ (⟨some 33, Op.load _ _, _, _, _, _⟩ :: _) _ _
             go_loud (
               refine wpList_load_var 24 _ rfl rfl w.heap.size #[.int .i64 k, .int .i64 e, .int .i64 s, .slice A n c] _ _ rfl H1.out.2 Try.underlying24 rfl size_frame ?_)))
    refine (fput_all k e s (HR.out.1.mod H1.out.1 (fun _ _ f => f)) HR.out.2.1).mono ?_
    rintro r w4 ⟨A4, c4, rfl, o4, m4⟩
    rw [HE.out.2] at o4 ⊢
    rw [HE.out.1]
    have hw4 := m4.size
    have H4 := Lib.hid (And.intro (H1.out.1.nn_ m4) (And.intro o4 (H1.out.2.mod m4 (fun f => f))))
    clear o4 m4 C3
    go_wp2
    go_ret
    exact ⟨rfl, H4.out.1⟩
end
end Go.Proofs.Ytjndcgpfikngaaa
