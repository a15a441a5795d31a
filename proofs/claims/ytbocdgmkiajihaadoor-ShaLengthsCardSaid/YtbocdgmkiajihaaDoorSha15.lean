/- peatbanklaw01.ShaLengths: the walk. -/
import Derived.Test.YtbocdgmkiajihaaDoorSha14
import Derived.Test.YtbocdgmkiajihaaDoorBytesP
namespace Go.Proofs.YtbocdgmkiajihaaDoor
open Go.RowKit

set_option maxRecDepth 100000 in
set_option maxHeartbeats 1600000 in
theorem shalen_any {w : World} (hg : Gl w) (b : Nat) (hb : b < 256) (x : Int) :
    Calls Tryd.prog 4 #[.int .u8 (b : Int), .int .i64 x] w fun r w' => r = .returned (.bool true) ∧ Mod Nn w w' := by
  have hp := pick_range x 201 (by omega)
  obtain ⟨K, hK⟩ : ∃ K : Nat, pick x 201 = (K : Int) := ⟨(pick x 201).toNat, by omega⟩
  have hK2 : K ≤ 200 := by omega
  have HG := Lib.hid (And.intro hg (And.intro hK hb))
  clear hg hp hK hb
  go_enter Tryd.func4, Tryd.ntmps4
  go_wp2_with fail
  refine (awake_any HG.out.1).mono ?_
  rintro r w1 ⟨rfl, m1⟩
  have H1 := Lib.hid m1; clear m1
  go_wp2_with fail
  refine (pick_any x 201 w1 (by omega)).mono ?_
  rintro r w2 ⟨rfl, rfl⟩
  rw [HG.out.2.1]
  go_wp2
  go_loopw [6, 7] (fun v i wr => ∃ (k : Nat) (A' : Option Addr) (c' : Nat), k ≤ K ∧ i = .int .i64 k ∧ v = .slice A' k c' ∧ wr.ownsRow w1.heap.size 5 1 (.slice A' k c') k (u8s (List.replicate k b)) ∧ Mod Nn w1 wr) (fun _ i _ => K - (intOf i).toNat)
  case atStart => exact ⟨0, none, 0, Nat.zero_le _, rfl, rfl, World.ownsRow_nil _ _ _ _, Mod.refl _ _⟩
  case round =>
    obtain ⟨k, A', c', hk, rfl, rfl, hown, hmd⟩ := hrel
    obtain ⟨wo, rfl⟩ : ∃ wo : World, wo = wr := ⟨_, rfl⟩
    have HX := Lib.hid (And.intro hown hmd)
    clear hown hmd
    by_cases hlt : k < K
    · have hlt' : (k : Int) < K := by omega
      go_wp2_with (first
        | (with_reducible change wpList _ _ _ (⟨some 20, _, _, _, _, _⟩ :: _) _ _
           go_must (refine wpList_append_rd 22 _ _ rfl rfl w1.heap.size 5 (.int .u8 0) 1 1 Tryd.underlying22 info8 rfl (by omega) (.slice A' k c') k _ rfl (own_mod HX.out.1 ((Mod.refl Nn _).alloc _) (fun _ _ f => f)) _ 1 1 (u8s [b]) rfl (Rd.of_blk0 (Blk.new _ _ _) rfl).toC (u8s_one _) (by omega) (by omega) (by have := HX.out.2.size; rw [World.size_alloc]; omega) ?_)
           intro v1 wb own1 gr1 ob1
           have hmd2 : Mod Nn w1 wb := (HX.out.2.alloc _).grown gr1 (fun g hg => .inl (by obtain ⟨_, _, e, _, hb⟩ := own_form HX.out.1; rw [e] at hg; exact (hb g (own_of hg)).1))
           rw [← u8s_append, ← List.replicate_succ'] at own1
           obtain ⟨A2, c2, rfl, -, -⟩ := own_form own1
           have HY := Lib.hid (And.intro own1 hmd2)
           clear own1 gr1 ob1 hmd2))
      exact ⟨⟨k + 1, A2, c2, by omega, by go_num, rfl, HY.out⟩, by simp [intOf]; omega⟩
    · have hkK : k = K := by omega
      subst hkK
      have hlt' : ¬ (k : Int) < k := by omega
      have hrl : ∀ z ∈ List.replicate k b, z < 256 := fun z hz => by rw [List.eq_of_mem_replicate hz]; exact HG.out.2.2
      have HR := Lib.hid (And.intro (Rd.of_own HX.out.1) hrl)
      clear hrl
      go_wp2_with fail
      refine (psum_any ((HG.out.1.nn H1.out).nn HX.out.2) HR.out.1 HR.out.2 (by omega)).mono ?_
      rintro r w3 ⟨rfl, m3⟩
      have M3 := (H1.out.nn_ HX.out.2).nn_ m3
      obtain ⟨D, hD⟩ : ∃ x, digL (List.replicate k b) = x := ⟨_, rfl⟩
      rw [hD]
      have HD := Lib.hid hD
      have HDl := Lib.hid (show D.length = 32 ∧ ∀ z ∈ D, z < 256 from ⟨hD ▸ digL_len _, hD ▸ digL_lt _⟩)
      clear hD
      have H3 := Lib.hid (And.intro m3 M3)
      clear m3 M3
      go_wp2_with fail
      refine (rsum_any (HR.out.1.mod H3.out.1 (fun _ _ f => f)) HR.out.2 (by omega)).mono ?_
      rintro r w4 ⟨rfl, m4⟩
      rw [HD.out]
      have M4 := H3.out.2.nn_ m4
      clear m4
      go_wp2_with (first
        | (with_reducible change wpList _ _ _ (⟨some 25, _, _, _, _, _⟩ :: _) _ _
           go_must (refine wpList_val rfl (exec_eqK _ _ rfl rfl rfl HDl.out.1 HDl.out.2) ?_)))
      go_ret
      exact ⟨rfl, M4⟩
end Go.Proofs.YtbocdgmkiajihaaDoor
