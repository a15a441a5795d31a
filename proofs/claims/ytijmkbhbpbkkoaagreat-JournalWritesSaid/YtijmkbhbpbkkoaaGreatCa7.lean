/- peatbanklaw09.CacheNil: no cache, and one that nobody made. -/
import Derived.Test.YtijmkbhbpbkkoaaGreatCa6
namespace Go.Proofs.YtijmkbhbpbkkoaaGreat
open Go.RowKit

def NotC (w : World) (p : Value) : Prop := p = .pointer none ∨ ∃ c, p = .pointer (some ⟨c, 0, none⟩) ∧ w.cell? ⟨c, 1, none⟩ = some (.int .i64 0)
section
variable {w w' : World} {p : Value}
theorem NotC.nn (h : NotC w p) (hm : Mod Nn w w') : NotC w' p := by
  rcases h with rfl | ⟨c, rfl, hc⟩
  · exact .inl rfl
  · exact .inr ⟨c, rfl, (hm.cell (p := ⟨c, 1, none⟩) (World.block_lt_of_cell? w _ hc) (fun f => f)).trans hc⟩
theorem known_not (h : NotC w p) : Calls Tryz.prog 56 #[p] w fun e w' => e = .returned (.bool false) ∧ w = w' := by
  rcases h with rfl | ⟨c, rfl, hc⟩
  · exact known_nil w
  · exact known_zero hc
set_option maxRecDepth 100000 in
theorem read_not (h : NotC w p) (k : Int) : Calls Tryz.prog 46 #[p, .int .i64 k] w fun e w' => e = .returned (.tuple #[.slice none 0 0, .int .i64 1]) ∧ w = w' := by
  go_enter Tryz.func46, Tryz.ntmps46
  go_wp2_with fail
  refine (known_not h).mono ?_
  rintro e w1 ⟨rfl, rfl⟩
  clear h
  go_wp2
  go_ret2
  exact ⟨rfl, rfl⟩
set_option maxRecDepth 100000 in
theorem write_not (h : NotC w p) (k : Int) (v : Value) : Calls Tryz.prog 44 #[p, .int .i64 k, v] w fun e w' => e = .returned (.int .i64 1) ∧ w = w' := by
  go_enter Tryz.func44, Tryz.ntmps44
  go_wp2_with fail
  refine (known_not h).mono ?_
  rintro e w1 ⟨rfl, rfl⟩
  clear h
  go_wp2
  go_ret
  exact ⟨rfl, rfl⟩
set_option maxRecDepth 100000 in
theorem sectors_not (h : NotC w p) : Calls Tryz.prog 39 #[p] w fun e w' => e = .returned (.int .i64 0) ∧ w = w' := by
  go_enter Tryz.func39, Tryz.ntmps39
  go_wp2_with fail
  refine (known_not h).mono ?_
  rintro e w1 ⟨rfl, rfl⟩
  clear h
  go_wp2
  go_ret
  exact ⟨rfl, rfl⟩
end

end Go.Proofs.YtijmkbhbpbkkoaaGreat
