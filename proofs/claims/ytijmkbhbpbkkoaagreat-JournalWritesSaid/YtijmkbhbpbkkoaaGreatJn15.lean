/- A device made of bytes, and what stands in a half of it, in plain words. No program is named. -/
import Derived.Test.YtijmkbhbpbkkoaaGreatJnC
import Derived.Test.YtijmkbhbpbkkoaaGreatDevO1
namespace Go.Proofs.YtijmkbhbpbkkoaaGreat
open Go.RowKit

theorem ofD_latest {zs : List Int} {n : Nat} {i : Nat} (h : i < n) : (ofD zs n n).latest (i : Int) = ofS zs i := by
  unfold Dk.latest ofD
  simp only
  rw [if_pos (by omega)]
  rfl
/-- what is read of a device made of bytes -/
theorem ofD_rows {zs : List Int} {n a k : Nat} (h : a + k ≤ n) : rowsL (ofD zs n n) (a : Int) k = (zs.drop (512 * a)).take (512 * k) := by
  refine rowsL_of k (fun i hi => ?_)
  rw [show ((a : Int) + (i : Int)) = ((a + i : Nat) : Int) from by omega, ofD_latest (by omega)]
  unfold ofS
  rw [List.drop_drop, show 512 * a + 512 * i = 512 * (a + i) from by omega]
theorem ofD_half {own : List Nat} {N a J : Nat} {Z : List Int} {zs : List Int} (hz : zs = Z.take (512 * a) ++ (natsn own ++ Z.drop (512 * a + 512 * J))) (hZ : Z.length = 512 * N) (ho : own.length = 512 * J) (hf : a + J ≤ N) :
    rowsL (ofD zs N N) (a : Int) J = natsn own := by
  rw [ofD_rows hf, hz]
  have h1 : (Z.take (512 * a)).length = 512 * a := by rw [List.length_take]; omega
  have h2 : (natsn own).length = 512 * J := by rw [natsn_len, ho]
  rw [List.drop_left' h1, List.take_left' h2]
end Go.Proofs.YtijmkbhbpbkkoaaGreat
