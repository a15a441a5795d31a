/- Bytes lent out and kept, in natural numbers. -/
import Derived.Test.YtijmkbhbpbkkoaaBytes2
import Derived.Test.YtijmkbhbpbkkoaaCrcA
namespace Go.Proofs.Ytijmkbhbpbkkoaa
open Go.RowKit

theorem bv_intsn (l : List Nat) : (l.map (fun c : Nat => (c : Int))).map (Value.int .u8) = bv l := by unfold bv; rw [List.map_map]; rfl
def natsn (l : List Nat) : List Int := l.map (fun c : Nat => (c : Int))
theorem bv_natsn (l : List Nat) : (natsn l).map (Value.int .u8) = bv l := bv_intsn l
section
variable {w : World} {A : Option Addr} {n c g : Nat} {l : List Nat}
theorem lentn_rd {t : TypeId} {ys : List Int} (h : Blk w g t ((natsn l ++ ys).map (Value.int .u8)).toArray) (hl : l.length = n) : Rd w (some ⟨g, 0, none⟩) n (bv l) :=
  Rd.of_blk h 0 (by simpa [bv] using hl) (fun j v hv => by
    rw [List.getElem?_toArray, Nat.zero_add, List.map_append, bv_natsn, List.getElem?_append_left (List.getElem?_eq_some_iff.1 hv).1]; exact hv)
end
end Go.Proofs.Ytijmkbhbpbkkoaa
