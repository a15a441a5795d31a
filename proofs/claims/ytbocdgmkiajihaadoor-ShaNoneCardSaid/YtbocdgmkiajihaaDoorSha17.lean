/- peatbanklaw01.ShaNone: the walk. -/
import Derived.Test.YtbocdgmkiajihaaDoorSha16
namespace Go.Proofs.YtbocdgmkiajihaaDoor
open Go.RowKit

set_option maxRecDepth 100000 in
set_option maxHeartbeats 1600000 in
theorem shanone_any {w : World} (hg : Gl w) (A : Option Addr) (n c : Nat) :
    Calls Tryd.prog 5 #[.slice A n c] w fun r w' => r = .returned (.bool true) ∧ Mod Nn w w' := by
  have HG := Lib.hid hg
  clear hg
  by_cases hn : (3000 : Int) < n
  · go_enter Tryd.func5, Tryd.ntmps5
    go_wp2_with fail
    refine (awake_any HG.out).mono ?_
    rintro r w1 ⟨rfl, m1⟩
    go_wp2
    go_ret
    exact ⟨rfl, m1⟩
  · go_enter Tryd.func5, Tryd.ntmps5
    go_wp2_with fail
    refine (awake_any HG.out).mono ?_
    rintro r w1 ⟨rfl, m1⟩
    have H1 := Lib.hid m1; clear m1
    go_wp2_with (first
      | (with_reducible change wpList _ _ _ (⟨some 10, _, _, _, _, _⟩ :: _) _ _
         go_must (refine wpList_val rfl (exec_build0H rfl) ?_)
         generalize hH : hashC (.pointer none) (.slice none 0 0) 0 0 0 false z32 = C at *))
    obtain ⟨N, hN⟩ : ∃ x, w1.heap.size = x := ⟨_, rfl⟩
    rw [hN]
    have hB : Blk (w1.alloc (.cells C 48)) N 48 C := hN ▸ Blk.new _ _ _
    have hB2 := hB.alloc (.cells #[.pointer none, .pointer (some ⟨N, 0, none⟩)] 32)
    have hL : Blk ((w1.alloc (.cells C 48)).alloc (.cells #[.pointer none, .pointer (some ⟨N, 0, none⟩)] 32)) (N + 1) 32 #[.pointer none, .pointer (some ⟨N, 0, none⟩)] := by
      have := Blk.new (w1.alloc (.cells C 48)) 32 #[.pointer none, .pointer (some ⟨N, 0, none⟩)]
      rwa [World.size_alloc, hN] at this
    have m2 : Mod Nn w ((w1.alloc (.cells C 48)).alloc (.cells #[.pointer none, .pointer (some ⟨N, 0, none⟩)] 32)) := (H1.out.alloc _).alloc _
    have hc0 : C[0]? = some (.pointer none) := by rw [← hH]; exact hashC_0
    generalize ((w1.alloc (.cells C 48)).alloc (.cells #[.pointer none, .pointer (some ⟨N, 0, none⟩)] 32)) = w2 at *
    have H2 := Lib.hid (And.intro hB2 (And.intro hL (And.intro m2 hc0)))
    clear hN hB hB2 hL m2 hc0 hH
    go_loopw [4] (fun i wr => ∃ k : Nat, k ≤ 2 ∧ i = .int .i64 k ∧ Mod Nn w2 wr) (fun i _ => 2 - (intOf i).toNat)
    case atStart => exact ⟨0, Nat.zero_le _, rfl, Mod.refl _ _⟩
    case round =>
      obtain ⟨k, hk, rfl, hm⟩ := hrel
      obtain ⟨wo, rfl⟩ : ∃ wo : World, wo = wr := ⟨_, rfl⟩
      have HM := Lib.hid hm; clear hm
      by_cases hlt : k < 2
      · have hlt' : (k : Int) < 2 := by omega
        obtain ⟨p, hp, hno⟩ : ∃ p, (#[.pointer none, .pointer (some ⟨N, 0, none⟩)] : Array Value)[k]? = some (.pointer p) ∧ NoH wo p := by
          rcases (show k = 0 ∨ k = 1 by omega) with rfl | rfl
          · exact ⟨none, rfl, .inl rfl⟩
          · exact ⟨some ⟨N, 0, none⟩, rfl, .inr ⟨N, rfl, ((H2.out.1.mod HM.out (fun f => f)).cell 0).trans H2.out.2.2.2⟩⟩
        have c1 : wo.cell? ⟨N + 1, k, none⟩ = some (.pointer p) := ((H2.out.2.1.mod HM.out (fun f => f)).cell k).trans hp
        have HNO := Lib.hid hno
        clear hp hno
        go_wp2_with fail
        refine (wnone_any HNO.out _).mono ?_
        rintro r w3 ⟨rfl, m3⟩
        have HM3 := Lib.hid (HM.out.nn_ m3)
        have c2 : w3.cell? ⟨N + 1, k, none⟩ = some (.pointer p) := (m3.cell (p := ⟨N + 1, k, none⟩) (World.block_lt_of_cell? wo _ c1) (fun f => f)).trans c1
        have HNO3 := Lib.hid (show NoH w3 p from by
          rcases HNO.out with h | ⟨g, h, hc⟩
          · exact .inl h
          · exact .inr ⟨g, h, (m3.cell (p := ⟨g, 0, none⟩) (World.block_lt_of_cell? wo _ hc) (fun f => f)).trans hc⟩)
        clear m3 c1
        go_wp2_with fail
        refine (snone_any HNO3.out).mono ?_
        rintro r w4 ⟨rfl, m4⟩
        have HM4 := Lib.hid (HM3.out.nn_ m4)
        clear m4 c2
        go_wp2_with (first
          | (with_reducible change wpList _ _ _ (⟨some 30, _, _, _, _, _⟩ :: _) _ _
             go_must (refine wpList_val rfl (exec_buildK rfl) ?_))
          | (with_reducible change wpList _ _ _ (⟨some 31, _, _, _, _, _⟩ :: _) _ _
             go_must (refine wpList_val rfl (exec_neK _ _ rfl rfl rfl (by rfl) (by decide)) ?_)))
        exact ⟨⟨k + 1, by omega, by go_num, HM4.out⟩, by simp [intOf]; omega⟩
      · have hlt' : ¬ (k : Int) < 2 := by omega
        go_wp2
        go_ret
        exact ⟨rfl, H2.out.2.2.1.nn_ HM.out⟩
end Go.Proofs.YtbocdgmkiajihaaDoor
