/- peatbanklaw02.CrcNil: the walk. -/
import Derived.Test.YtbocdgmkiajihaaCrc6
namespace Go.Proofs.Ytbocdgmkiajihaa
open Go.RowKit

set_option maxRecDepth 100000 in
set_option maxHeartbeats 1600000 in
theorem crc_nil_any (s : Int) (v : Value) (w : World) : Calls Try.prog 5 #[.int .u32 s, v] w fun r w' => r = .returned (.bool true) ∧ Mod Nn w w' := by
  have hex : ∃ Z : Array Value, Z = tblC false 0#32 0 0 0 (rowsK 0#32 0) := ⟨_, rfl⟩
  obtain ⟨Z, hZ⟩ := hex
  have hz : ∀ w, (zeroValue 47).run Try.prog w = .ok (.agg Z) w := fun w => by rw [hZ]; exact zero_of tbl_zero w
  have hs : ¬ Z.size < 2 := by rw [hZ, tblC_size, rowsK_len]; omega
  have hne : ¬ Z = #[] := fun h => by rw [h] at hs; exact hs (by simp)
  have hc0 : Z[0]? = some (.bool false) := by rw [hZ]; exact tblC_0 _ _ _ _ _ _
  have HC := Lib.hid hc0
  clear hZ hc0
  go_enter Try.func5, Try.ntmps5
  go_wp2_with fail
  refine (add_nil s v w).mono ?_
  rintro r w1 ⟨rfl, rfl⟩
  go_wp2_with fail
  have hb : Blk (w.alloc (.cells Z 47)) w.heap.size 47 Z := Blk.new _ _ _
  have m1 : Mod Nn w (w.alloc (.cells Z 47)) := (Mod.refl _ _).alloc _
  refine (add_unmade _ s v _ ((hb.cell 0).trans HC.out)).mono ?_
  rintro r w2 ⟨rfl, rfl⟩
  go_wp2_with fail
  refine (crc_awake _).mono ?_
  rintro r w3 ⟨rfl, m3⟩
  have M3 := m1.nn_ m3
  go_wp2
  go_ret
  exact ⟨rfl, M3⟩
end Go.Proofs.Ytbocdgmkiajihaa
