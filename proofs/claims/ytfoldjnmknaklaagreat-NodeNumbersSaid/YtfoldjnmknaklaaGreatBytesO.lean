/- peatbankkit over bytes: OverBytes, TurnBytes. -/
import Derived.Test.YtfoldjnmknaklaaGreatBytes2
import Derived.Test.YtfoldjnmknaklaaGreatKitB
namespace Go.Proofs.YtfoldjnmknaklaaGreat
open Go.RowKit

set_option maxRecDepth 100000 in
set_option maxHeartbeats 1600000 in
theorem over_any {w : World} {n g : Nat} {cs : Array Value} (hb : Blk w g 5 cs) (hc : cs.size = n + 12) (hn : n ≤ 1099511627776) :
    Calls Tryz.prog 23 #[.slice (some ⟨g, 0, none⟩) n (n + 12)] w fun r w' => r = .returned (.tuple #[]) ∧ Mod (At g) w w' := by
  go_enter Tryz.func23, Tryz.ntmps23
  go_wp2
  go_loopw [3] (fun i wr => ∃ k : Nat, k ≤ n + 12 ∧ i = .int .i64 k ∧ Mod (At g) w wr ∧ ∃ cs : Array Value, Blk wr g 5 cs ∧ cs.size = n + 12) (fun i _ => n + 12 - (intOf i).toNat)
  case atStart => exact ⟨0, by omega, rfl, Mod.refl _ _, cs, hb, hc⟩
  case round =>
    clear hb hc
    obtain ⟨k, hk, rfl, hm, cs, hb, hc⟩ := hrel
    obtain ⟨wo, rfl⟩ : ∃ wo : World, wo = wr := ⟨_, rfl⟩
    by_cases hlt : k < n + 12
    · have hlt' : (k : Int) < n + 12 := by omega
      have hcell : wo.cell? ⟨g, k, none⟩ = some (cs[k]'(by omega)) := by rw [hb.cell k]; exact Array.getElem?_eq_getElem _
      generalize cs[k]'(by omega) = u at *
      have hfz := hb.frozen k
      have HB := Lib.hid (And.intro hm (And.intro hb hc))
      clear hm hb hc
      go_wp2_with fail
      refine (markByte_any 2 k _ (by omega) (by omega) (by omega) (by omega)).mono ?_
      rintro r w3 ⟨rfl, rfl⟩
      generalize mb 2 k = B at *
      go_wp2
      exact ⟨⟨k + 1, by omega, by go_num, HB.out.1.setCell (p := ⟨g, k, none⟩) (.inr rfl) _, _, HB.out.2.1.set_ k _, by rw [Array.size_setIfInBounds]; exact HB.out.2.2⟩, by simp [intOf]; omega⟩
    · have hlt' : ¬ (k : Int) < n + 12 := by omega
      clear hb
      go_wp2
      go_end0
      exact ⟨rfl, hm⟩
end Go.Proofs.YtfoldjnmknaklaaGreat
