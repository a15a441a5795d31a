/- crc.New, Add, Sum; a table that is not; the document's Of, Add, Sum. -/
import Derived.Test.YtjndcgpfikngaaaCrc3
namespace Go.Proofs.Ytjndcgpfikngaaa
open Go.RowKit

theorem tbl_zero : (Try.prog.info? 215).map (fun i => (i.zero, i.size)) = some (some (.agg (tblC false 0#32 0 0 0 (rowsK 0#32 0))), 261) := by kernel_rfl
theorem rowsK_none (p q : BitVec 32) : rowsK p 0 = rowsK q 0 := by simp [rowsK]
theorem tblC_size (m : Bool) (p : BitVec 32) (d s e : Int) (rows : List (BitVec 32)) : (tblC m p d s e rows).size = 5 + rows.length := by simp [tblC]; omega
set_option maxRecDepth 100000 in
set_option maxHeartbeats 1600000 in
theorem new_any (p : BitVec 32) (w : World) : Calls Try.prog 86 #[.int .u32 (p.toNat : Int)] w fun r w' => ∃ b, r = .returned (.pointer (some ⟨b, 0, none⟩)) ∧ TblAt w' b p ∧ Mod Nn w w' ∧ w.heap.size ≤ b := by
  have hex : ∃ Z : Array Value, Z = tblC false 0#32 0 0 0 (rowsK 0#32 0) := ⟨_, rfl⟩
  obtain ⟨Z, hZ⟩ := hex
  have hz : ∀ w, (zeroValue 215).run Try.prog w = .ok (.agg Z) w := fun w => by rw [hZ]; exact zero_of tbl_zero w
  have hs : ¬ Z.size < 2 := by rw [hZ, tblC_size, rowsK_len]; omega
  have hne : ¬ Z = #[] := fun h => by rw [h] at hs; exact hs (by simp)
  have hfin : (Z.setIfInBounds 0 (.bool true)).setIfInBounds 1 (.int .u32 (p.toNat : Int)) = tblC true p 0 0 0 (rowsK p 0) := by
    rw [hZ, rowsK_none 0#32 p]; simp [tblC, u32v]
  have HF := Lib.hid hfin
  clear hZ hfin
  go_enter Try.func86, Try.ntmps86
  go_wp2
  go_ret
  refine ⟨_, rfl, ⟨0, .inl ?_⟩, (Mod.refl _ _).alloc _, Nat.le_refl _⟩
  rw [← HF.out]
  exact Blk.new _ _ _

def cas : BitVec 32 := 2197175160#32
section
variable {w : World} {A : Option Addr} {n c : Nat} {l : List Nat}
set_option maxHeartbeats 800000 in
theorem crc_add (s : BitVec 32) (hr : Rd w A n (bv l)) (hl : ∀ z ∈ l, z < 256) (hn : n ≤ 140737488355328) :
    Calls Try.prog 61 #[.int .u32 (s.toNat : Int), .slice A n c] w fun r w' => r = .returned (.int .u32 ((crcS cas s l).toNat : Int)) ∧ Mod Nn w w' := by
  generalize hR : (crcS cas s l).toNat = R
  have HR := Lib.hid hR; clear hR
  go_enter Try.func61, Try.ntmps61
  go_wp2_with fail
  refine (new_any cas w).mono ?_
  rintro r w1 ⟨b, rfl, ht, m1, hb⟩
  have hA : ∀ g, Of A g → 0 < n → g ≠ b := fun g hg hp e => by have := hr.in_ hp hg; omega
  have hr1 := hr.mod m1 (fun _ _ f => f)
  have HB := Lib.hid hb; clear hb
  go_wp2_with fail
  refine (add_any0 ht s hr1 hA hl hn).mono ?_
  rintro r w2 ⟨rfl, ht2, m2⟩
  rw [HR.out]
  have M2 : Mod Nn w w2 := m1.new_ m2 HB.out
  go_wp2
  go_ret
  exact ⟨rfl, M2⟩
set_option maxHeartbeats 800000 in
theorem crc_sum (hr : Rd w A n (bv l)) (hl : ∀ z ∈ l, z < 256) (hn : n ≤ 140737488355328) :
    Calls Try.prog 37 #[.slice A n c] w fun r w' => r = .returned (.int .u32 ((crcS cas 0#32 l).toNat : Int)) ∧ Mod Nn w w' := by
  generalize hR : (crcS cas 0#32 l).toNat = R
  have HR := Lib.hid hR; clear hR
  go_enter Try.func37, Try.ntmps37
  go_wp2_with fail
  refine (crc_add 0#32 hr hl hn).mono ?_
  rintro r w1 ⟨rfl, m1⟩
  rw [HR.out]
  go_wp2
  go_ret
  exact ⟨rfl, m1⟩
end
set_option maxHeartbeats 800000 in
theorem add_nil (s : Int) (v : Value) (w : World) : Calls Try.prog 87 #[.pointer none, .int .u32 s, v] w fun r w' => r = .returned (.int .u32 0) ∧ w = w' := by
  go_enter Try.func87, Try.ntmps87
  go_wp2
  go_ret
  exact ⟨rfl, rfl⟩
set_option maxHeartbeats 800000 in
theorem add_unmade (b : Nat) (s : Int) (v : Value) (w : World) (c0 : w.cell? ⟨b, 0, none⟩ = some (.bool false)) : Calls Try.prog 87 #[.pointer (some ⟨b, 0, none⟩), .int .u32 s, v] w fun r w' => r = .returned (.int .u32 0) ∧ w = w' := by
  go_enter Try.func87, Try.ntmps87
  go_wp2
  go_ret
  exact ⟨rfl, rfl⟩
end Go.Proofs.Ytjndcgpfikngaaa
