/- Words turned, by the program and by the document. -/
import Derived.Test.YtbocdgmkiajihaaDoorRows
import Derived.Test.YtbocdgmkiajihaaDoorKit11
import Derived.Test.YtbocdgmkiajihaaDoorSha0
import Derived.Deep.LoopGhost
namespace Go.Proofs.YtbocdgmkiajihaaDoor
open Go.RowKit

def turns : List Nat := [2, 6, 7, 11, 13, 17, 18, 19, 22, 25]
theorem rot_or (x : W32) (n : Nat) (p q : Int) (hp : p = 2 ^ n) (hq : q = 2 ^ (32 - n)) : bits .or .u32 ((x.toNat : Int) / p) ((x.toNat : Int) * q % 4294967296) = ((rot x n).toNat : Int) := by
  have h1 : (x.toNat : Int) / p = ((x >>> n).toNat : Int) := by
    rw [hp, BitVec.toNat_ushiftRight, Nat.shiftRight_eq_div_pow]; simp
  have h2 : (x.toNat : Int) * q % 4294967296 = ((x <<< (32 - n)).toNat : Int) := by
    rw [hq, BitVec.toNat_shiftLeft, Nat.shiftLeft_eq]; simp
  rw [h1, h2, w_or]; rfl
theorem rot_or' (x : W32) (n : Nat) (p q : Int) (hp : p = 2 ^ n) (hq : q = 2 ^ (32 - n)) : bits .or .u32 ((x.toNat : Int) * q % 4294967296) ((x.toNat : Int) / p) = ((rot x n).toNat : Int) := by
  have h1 : (x.toNat : Int) / p = ((x >>> n).toNat : Int) := by
    rw [hp, BitVec.toNat_ushiftRight, Nat.shiftRight_eq_div_pow]; simp
  have h2 : (x.toNat : Int) * q % 4294967296 = ((x <<< (32 - n)).toNat : Int) := by
    rw [hq, BitVec.toNat_shiftLeft, Nat.shiftLeft_eq]; simp
  rw [h1, h2, w_or, BitVec.or_comm]; rfl
theorem ret_u32 {a b : Int} (h : a = b) : Ending.returned (.int .u32 a) = .returned (.int .u32 b) := by rw [h]
set_option maxHeartbeats 800000 in
theorem rturned_any (x : W32) (n : Nat) (hn : n ∈ turns) (w : World) : Calls Tryd.prog 26 #[wv x, .int .u64 (n : Int)] w fun r w' => r = .returned (wv (rot x n)) ∧ w = w' := by
  unfold wv
  simp only [turns, List.mem_cons, List.not_mem_nil, or_false] at hn
  have hR : ∃ R : Nat → Nat, ∀ n, (rot x n).toNat = R n := ⟨_, fun _ => rfl⟩
  obtain ⟨R, hR⟩ := hR
  have HR := Lib.hid hR
  rw [hR]
  clear hR
  rcases hn with rfl | rfl | rfl | rfl | rfl | rfl | rfl | rfl | rfl | rfl
  all_goals
    go_enter Tryd.func26, Tryd.ntmps26
    go_wp2
    go_ret
    exact ⟨ret_u32 ((rot_or x _ _ _ (by decide) (by decide)).trans (congrArg Int.ofNat (HR.out _))), rfl⟩
set_option maxHeartbeats 800000 in
theorem pturned_any (x : W32) (n : Nat) (hn : n ∈ turns) (w : World) : Calls Tryd.prog 32 #[wv x, .int .i64 (n : Int)] w fun r w' => r = .returned (wv (rot x n)) ∧ w = w' := by
  unfold wv
  simp only [turns, List.mem_cons, List.not_mem_nil, or_false] at hn
  have hR : ∃ R : Nat → Nat, ∀ n, (rot x n).toNat = R n := ⟨_, fun _ => rfl⟩
  obtain ⟨R, hR⟩ := hR
  have HR := Lib.hid hR
  rw [hR]
  clear hR
  rcases hn with rfl | rfl | rfl | rfl | rfl | rfl | rfl | rfl | rfl | rfl
  · have hz : bits .and .u64 (IntKind.u64.wrap (-2)) 31 = 30 := by decide +kernel
    go_enter Tryd.func32, Tryd.ntmps32
    go_wp2
    go_ret
    exact ⟨ret_u32 ((rot_or' x 2 _ _ (by decide) (by decide)).trans (congrArg Int.ofNat (HR.out _))), rfl⟩
  · have hz : bits .and .u64 (IntKind.u64.wrap (-6)) 31 = 26 := by decide +kernel
    go_enter Tryd.func32, Tryd.ntmps32
    go_wp2
    go_ret
    exact ⟨ret_u32 ((rot_or' x 6 _ _ (by decide) (by decide)).trans (congrArg Int.ofNat (HR.out _))), rfl⟩
  · have hz : bits .and .u64 (IntKind.u64.wrap (-7)) 31 = 25 := by decide +kernel
    go_enter Tryd.func32, Tryd.ntmps32
    go_wp2
    go_ret
    exact ⟨ret_u32 ((rot_or' x 7 _ _ (by decide) (by decide)).trans (congrArg Int.ofNat (HR.out _))), rfl⟩
  · have hz : bits .and .u64 (IntKind.u64.wrap (-11)) 31 = 21 := by decide +kernel
    go_enter Tryd.func32, Tryd.ntmps32
    go_wp2
    go_ret
    exact ⟨ret_u32 ((rot_or' x 11 _ _ (by decide) (by decide)).trans (congrArg Int.ofNat (HR.out _))), rfl⟩
  · have hz : bits .and .u64 (IntKind.u64.wrap (-13)) 31 = 19 := by decide +kernel
    go_enter Tryd.func32, Tryd.ntmps32
    go_wp2
    go_ret
    exact ⟨ret_u32 ((rot_or' x 13 _ _ (by decide) (by decide)).trans (congrArg Int.ofNat (HR.out _))), rfl⟩
  · have hz : bits .and .u64 (IntKind.u64.wrap (-17)) 31 = 15 := by decide +kernel
    go_enter Tryd.func32, Tryd.ntmps32
    go_wp2
    go_ret
    exact ⟨ret_u32 ((rot_or' x 17 _ _ (by decide) (by decide)).trans (congrArg Int.ofNat (HR.out _))), rfl⟩
  · have hz : bits .and .u64 (IntKind.u64.wrap (-18)) 31 = 14 := by decide +kernel
    go_enter Tryd.func32, Tryd.ntmps32
    go_wp2
    go_ret
    exact ⟨ret_u32 ((rot_or' x 18 _ _ (by decide) (by decide)).trans (congrArg Int.ofNat (HR.out _))), rfl⟩
  · have hz : bits .and .u64 (IntKind.u64.wrap (-19)) 31 = 13 := by decide +kernel
    go_enter Tryd.func32, Tryd.ntmps32
    go_wp2
    go_ret
    exact ⟨ret_u32 ((rot_or' x 19 _ _ (by decide) (by decide)).trans (congrArg Int.ofNat (HR.out _))), rfl⟩
  · have hz : bits .and .u64 (IntKind.u64.wrap (-22)) 31 = 10 := by decide +kernel
    go_enter Tryd.func32, Tryd.ntmps32
    go_wp2
    go_ret
    exact ⟨ret_u32 ((rot_or' x 22 _ _ (by decide) (by decide)).trans (congrArg Int.ofNat (HR.out _))), rfl⟩
  · have hz : bits .and .u64 (IntKind.u64.wrap (-25)) 31 = 7 := by decide +kernel
    go_enter Tryd.func32, Tryd.ntmps32
    go_wp2
    go_ret
    exact ⟨ret_u32 ((rot_or' x 25 _ _ (by decide) (by decide)).trans (congrArg Int.ofNat (HR.out _))), rfl⟩
end Go.Proofs.YtbocdgmkiajihaaDoor
