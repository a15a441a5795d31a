/- crc's arguments in plain words: a uint32, a slice of bytes. -/
import Derived.Test.YtijmkbhbpbkkoaaGreatCrcA
import Derived.Test.YtijmkbhbpbkkoaaGreatOpenA
namespace Go.Proofs.YtijmkbhbpbkkoaaGreat
open Go.RowKit

theorem word_of {z : Int} (h : (Lit.int .u32 z).wf = true) : ∃ s : BitVec 32, z = (s.toNat : Int) := by
  have h' : 0 ≤ z ∧ z ≤ 4294967295 := by simpa [Lit.wf, IntKind.min, IntKind.max, IntKind.signed, IntKind.bits] using h
  refine ⟨BitVec.ofNat 32 z.toNat, ?_⟩
  rw [BitVec.toNat_ofNat, Nat.mod_eq_of_lt (by omega)]
  omega
theorem bytes_of {w : World} {A : Option Addr} {n : Nat} {zs : List Int} (h : Rd w A n (zs.map (Value.int .u8))) (hz : ∀ z ∈ zs, (Lit.int .u8 z).wf = true) : ∃ l : List Nat, Rd w A n (bv l) ∧ ∀ z ∈ l, z < 256 := by
  have hz' : ∀ z ∈ zs, 0 ≤ z ∧ z ≤ 255 := fun z h => by simpa [Lit.wf, IntKind.min, IntKind.max, IntKind.signed, IntKind.bits] using hz z h
  refine ⟨zs.map Int.toNat, ?_, fun z h => ?_⟩
  · have : bv (zs.map Int.toNat) = zs.map (Value.int .u8) := by
      unfold bv
      rw [List.map_map]
      refine List.map_congr_left fun z h => ?_
      show Value.int .u8 ((z.toNat : Nat) : Int) = _
      rw [Int.toNat_of_nonneg (hz' z h).1]
    rw [this]; exact h
  · obtain ⟨y, hy, rfl⟩ := List.mem_map.1 h
    have := hz' y hy
    omega
end Go.Proofs.YtijmkbhbpbkkoaaGreat
