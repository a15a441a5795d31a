/- peatbanklaw10.FrameLong: the walk (printed by wip/gen/frlaws.py). -/
import Derived.Test.YtjndcgpfikngaaaFrN
namespace Go.Proofs.Ytjndcgpfikngaaa
open Go.RowKit

def longD (n c : Nat) : List Nat := (List.replicate n 0).set (n - 1) c
theorem longD_len (n c : Nat) : (longD n c).length = n := by simp [longD]
theorem longD_lt {n c : Nat} (hc : c < 256) : ∀ z ∈ longD n c, z < 256 := fun z hz => by
  rcases List.mem_or_eq_of_mem_set hz with h | h
  · rw [(List.mem_replicate.1 h).2]; omega
  · rw [h]; exact hc
theorem long_set (n c : Nat) : (Array.replicate n (Value.int .u8 0)).setIfInBounds (n - 1) (.int .u8 (c : Int)) = (bv (longD n c)).toArray := by
  apply Array.ext'
  simp [bv, longD, List.map_set]
section
variable {w : World}
set_option maxRecDepth 100000 in
set_option maxHeartbeats 3200000 in
theorem flong_any (x : Int) (y : Nat) (hy : y < 256) :
    Calls Try.prog 6 #[.int .i64 x, .int .u8 (y : Int)] w fun r w' => r = .returned (.bool true) ∧ Mod Nn w w' := by
  have hpr := pick_range x 3 (by omega)
  obtain ⟨n, hn⟩ : ∃ n : Nat, (32769 : Int) - pick x 3 = n := ⟨(32769 - pick x 3).toNat, by omega⟩
  have hn1 : 32767 ≤ n := by omega
  have hn2 : n ≤ 32769 := by omega
  have HN := Lib.hid hn; clear hn hpr
  obtain ⟨E, hE⟩ : ∃ E, perr 255 1099511627776 1099511627776 (longD n y).length = E := ⟨_, rfl⟩
  obtain ⟨C, hC⟩ : ∃ C, (pbytes 255 1099511627776 1099511627776 (longD n y)).length = C := ⟨_, rfl⟩
  have hC9 : C ≤ 40000 := hC ▸ pbytes_len _ _ _ _
  have hE3 : 32768 < n → E = 3 ∧ C = 0 := fun h => by
    have e3 : E = 3 := by rw [← hE, longD_len]; unfold perr; rw [if_neg (by omega), if_pos h]
    refine ⟨e3, ?_⟩
    rw [← hC]; unfold pbytes; rw [hE, if_neg (by rw [e3]; decide)]; rfl
  have hE0 : ¬ 32768 < n → E = 0 := fun h => by rw [← hE, longD_len]; unfold perr; rw [if_neg (by omega), if_neg h]
  have HE := Lib.hid (And.intro hE (And.intro hC (And.intro hE3 hE0))); clear hE hC hE3 hE0
  have HD := Lib.hid (And.intro (longD_len n y) (longD_lt (n := n) hy))
  have hni : (0 : Int) ≤ (n : Int) - 1 := by omega
  have hnt : ((n : Int) - 1).toNat = n - 1 := by omega
  have HNT := Lib.hid hnt; clear hnt
  have hnl : (n : Int) - 1 < (n : Int) := by omega
  go_enter Try.func6, Try.ntmps6
  go_wp2_with fail
  refine (f_awake _).mono ?_
  rintro r w1 ⟨rfl, m1⟩
  have H1 := Lib.hid m1
  clear m1
  go_wp2_with fail
  refine (pick_any x 3 _ (by omega)).mono ?_
  rintro r w1' ⟨rfl, rfl⟩
  have hpr := pick_range x 3 (by omega)
  obtain ⟨p, hp⟩ : ∃ p, pick x 3 = p := ⟨_, rfl⟩
  have hq : (32769 : Int) - p = (n : Int) := by rw [← hp]; exact HN.out
  rw [hp] at hpr ⊢
  have HQ := Lib.hid hq; clear hq hp
  go_wp2_with (first
        | (with_reducible change wpList _ _ _ (⟨some 18, _, _, _, _, _⟩ :: _) _ _
           rw [HQ.out]
           go_must (refine wpList_make1 22 _ _ rfl rfl 5 (.int .u8 0) 1 Try.underlying22 info_u8 rfl _ _ n n rfl rfl rfl rfl (Nat.le_refl _) (by omega) (by omega) ?_)
           intro w2 b2 m2 z2
           have hz2 : w1.heap.size < w2.heap.size := by omega
           have H2 := Lib.hid (And.intro (H1.out.nn_ m2) b2)
           clear b2 m2 z2)
        | (with_reducible change wpList _ _ _ (⟨some 6, Op.alloc _, _, _, _, _⟩ :: _) _ _
           go_must (refine wpList_alloc_var 24 rfl rfl info_frame ?_)
           intro wa6 ba6 ma6 za6
           have HA6 := Lib.hid (And.intro ba6 (And.intro ma6 za6))
           clear ba6 ma6 za6)
        | (with_reducible change wpList _ _ _ (⟨none, Op.store _ (.tmp 6) _, _, _, _, _⟩ :: _) _ _
           go_must (refine wpList_store_var 24 _ _ rfl rfl w2.heap.size #[.int .i64 255, .int .i64 1099511627776, .int .i64 1099511627776, .slice (some ⟨w1.heap.size, 0, none⟩) n n] _ _ rfl rfl HA6.out.1 size_frame rfl (one4 _ _ _ _ _ _) ?_)
           intro wb6 bb6 mb6 zb6
           have mm6 := HA6.out.2.1.new_ mb6 (Nat.le_refl _)
           have hs6 : w2.heap.size < wb6.heap.size := bb6.lt
           have H6 := Lib.hid (And.intro (H2.out.1.nn_ mm6) (And.intro (H2.out.2.mod mm6 (fun f => f)) bb6))
           have K3 : wb6.cell? ⟨w2.heap.size, 3, none⟩ = some (.slice (some ⟨w1.heap.size, 0, none⟩) n n) := bb6.cell 3
           have D3 : wb6.cell? ⟨w1.heap.size, n - 1, none⟩ = some (.int .u8 0) := (H6.out.2.1.cell (n - 1)).trans (by rw [Array.getElem?_replicate, if_pos (by omega)])
           have F3 := H6.out.2.1.frozen (n - 1)
           have hnt := HNT.out
           clear bb6 mb6 zb6 mm6)
        | (with_reducible change wpList _ _ _ (⟨some 27, Op.load _ _, _, _, _, _⟩ :: _) _ _
           have b7 := H6.out.2.2.far (p := ⟨w1.heap.size, n - 1, none⟩) (by show w2.heap.size ≠ w1.heap.size; omega) (.int .u8 (y : Int))
           refine wpList_load_var 24 _ rfl rfl w2.heap.size #[.int .i64 255, .int .i64 1099511627776, .int .i64 1099511627776, .slice (some ⟨w1.heap.size, 0, none⟩) n n] _ _ rfl b7 Try.underlying24 rfl size_frame ?_
           have m7 : Mod (At w1.heap.size) wb6 (wb6.setCell ⟨w1.heap.size, n - 1, none⟩ (.int .u8 (y : Int))) := Mod.cellAt _ _ _ _
           have M7 := H6.out.1.new_ m7 H1.out.size
           have D7 := H6.out.2.1.set_ (n - 1) (.int .u8 (y : Int))
           rw [long_set] at D7
           have H7 := Lib.hid (And.intro M7 (And.intro (Rd.of_blk0 D7 (by rw [bv_len, longD_len])) b7))
           clear b7 m7 M7 D7 K3 D3 F3 hnt
           generalize wb6.setCell ⟨w1.heap.size, n - 1, none⟩ (.int .u8 (y : Int)) = w7 at *))
  refine (fput_all 255 1099511627776 1099511627776 H7.out.2.1 HD.out.2).mono ?_
  rintro r w8 ⟨A8, c8, rfl, o8, m8⟩
  rw [HE.out.2.1] at o8 ⊢
  rw [HE.out.1]
  have hmx := own_max o8
  have hz7 := H7.out.2.2.lt
  have hw8 := m8.size
  have H8 := Lib.hid (And.intro (H7.out.1.nn_ m8) (And.intro (H7.out.2.1.mod m8 (fun _ _ f => f)) (And.intro (H7.out.2.2.mod m8 (fun f => f)) (And.intro (Rd.of_own o8) hmx))))
  clear o8 m8 hmx
  by_cases h9 : 32768 < n
  · obtain ⟨rfl, rfl⟩ := HE.out.2.2.1 h9
    have d9 : (32768 : Int) < n := by omega
    go_wp2
    go_ret
    exact ⟨rfl, H8.out.1⟩
  · have hE0 := HE.out.2.2.2 h9
    subst hE0
    have d9 : ¬ (32768 : Int) < n := by omega
    have hp0 : perr 255 1099511627776 1099511627776 (longD n y).length = 0 := HE.out.1
    have hCC : C = 512 * fsec n := by
      obtain ⟨f, hf, hfd, _, _, _, hfb⟩ := put_fr hp0
      rw [← HE.out.2.1, hfb, f.bytes_len, hfd, longD_len]
    have hget := fget_back (w := w8) (A := A8) (n := C) (c := c8) (M := []) hp0 HD.out.2 (fun z hz => by cases hz) (by rw [List.append_nil]; exact H8.out.2.2.2.1) (by omega) H8.out.2.2.2.2.1 H8.out.2.2.2.2.2
    rw [HD.out.1] at hget
    generalize hq : fsec n = q at *
    have HQ2 := Lib.hid hCC
    have HG := Lib.hid hget
    clear hget hp0 hq hCC
    have e3 : ((512 : Int) * (q : Int) == (C : Int)) = true := by rw [beq_iff_eq]; have := HQ2.out; omega
    have hq9 : q ≤ 100 := by have := HQ2.out; omega
    go_wp2_with fail
    refine HG.out.mono ?_
    rintro r w10 ⟨A5, c5, rfl, o5, m5⟩
    have hw10 := m5.size
    have H10 := Lib.hid (And.intro (H8.out.1.nn_ m5) (And.intro (H8.out.2.1.mod m5 (fun _ _ f => f)) (And.intro (H8.out.2.2.1.mod m5 (fun f => f)) (Rd.of_own o5))))
    clear o5 m5
    go_wp2_with (first
          | (with_reducible change wpList _ _ _ (⟨some 9, Op.alloc _, _, _, _, _⟩ :: _) _ _
             go_must (refine wpList_alloc_var 24 rfl rfl info_frame ?_)
             intro wa9 ba9 ma9 za9
             have HA9 := Lib.hid (And.intro ba9 (And.intro ma9 za9))
             clear ba9 ma9 za9)
          | (with_reducible change wpList _ _ _ (⟨none, Op.store _ (.tmp 9) _, _, _, _, _⟩ :: _) _ _
             go_must (refine wpList_store_var 24 _ _ rfl rfl w10.heap.size #[.int .i64 255, .int .i64 1099511627776, .int .i64 1099511627776, .slice A5 n c5] _ _ rfl rfl HA9.out.1 size_frame rfl (one4 _ _ _ _ _ _) ?_)
             intro wb9 bb9 mb9 zb9
             have mm9 := HA9.out.2.1.new_ mb9 (Nat.le_refl _)
             have hs9 : w10.heap.size < wb9.heap.size := bb9.lt
             have H9 := Lib.hid (And.intro (H10.out.1.nn_ mm9) (And.intro (H10.out.2.1.mod mm9 (fun _ _ f => f)) (And.intro (H10.out.2.2.1.mod mm9 (fun f => f)) (And.intro (H10.out.2.2.2.mod mm9 (fun _ _ f => f)) bb9))))
             clear bb9 mb9 zb9 mm9)
          | (with_reducible change wpList _ _ _ (⟨some 60, Op.load _ _, _, _, _, _⟩ :: _) _ _
             refine wpList_load_var 24 _ rfl rfl w2.heap.size #[.int .i64 255, .int .i64 1099511627776, .int .i64 1099511627776, .slice (some ⟨w1.heap.size, 0, none⟩) n n] _ _ rfl H9.out.2.2.1 Try.underlying24 rfl size_frame ?_)
          | (with_reducible change wpList _ _ _ (⟨some 61, Op.load _ _, _, _, _, _⟩ :: _) _ _
             refine wpList_load_var 24 _ rfl rfl w10.heap.size #[.int .i64 255, .int .i64 1099511627776, .int .i64 1099511627776, .slice A5 n c5] _ _ rfl H9.out.2.2.2.2 Try.underlying24 rfl size_frame ?_))
    refine (samef_yes 255 1099511627776 1099511627776 H9.out.2.1 H9.out.2.2.2.1 (by omega)).mono ?_
    rintro r w11 ⟨rfl, m11⟩
    have M11 := Lib.hid (H9.out.1.nn_ m11)
    clear m11
    go_wp2
    go_ret
    exact ⟨rfl, M11.out⟩
end
end Go.Proofs.Ytjndcgpfikngaaa
