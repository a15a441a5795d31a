/- Bytes lent out and kept, in natural numbers. -/
import Derived.Test.YtijmkbhbpbkkoaaGreatBytes2
import Derived.Test.YtijmkbhbpbkkoaaGreatCrcA
namespace Go.Proofs.YtijmkbhbpbkkoaaGreat
open Go.RowKit

theorem bv_intsn (l : List Nat) : (l.map (fun c : Nat => (c : Int))).map (Value.int .u8) = bv l := by unfold bv; rw [List.map_map]; rfl
def natsn (l : List Nat) : List Int := l.map (fun c : Nat => (c : Int))
theorem bv_natsn (l : List Nat) : (natsn l).map (Value.int .u8) = bv l := bv_intsn l
section
variable {w : World} {A : Option Addr} {n c g : Nat} {l : List Nat}
theorem lentn_any (hr : Rd w A n (bv l)) (hn : n ≤ 1099511627776) :
    Calls Tryz.prog 13 #[.slice A n c] w fun r w' => ∃ g, r = .returned (.slice (some ⟨g, 0, none⟩) n (n + 12)) ∧ Blk w' g 5 ((natsn l ++ mks 1 12).map (Value.int .u8)).toArray ∧ Mod Nn w w' ∧ w.heap.size ≤ g :=
  lent_any (xs := natsn l) (by rw [bv_natsn]; exact hr) hn
theorem keptn_any (hr : Rd w A n (bv l)) (hb : Blk w g 5 ((natsn l ++ mks 1 12).map (Value.int .u8)).toArray) (hn : n ≤ 1099511627776) :
    Calls Tryz.prog 16 #[.slice (some ⟨g, 0, none⟩) n (n + 12), .slice A n c] w fun r w' => r = .returned (.bool true) ∧ Mod Nn w w' :=
  kept_any (xs := natsn l) (by rw [bv_natsn]; exact hr) hb hn
theorem lentn_rd {t : TypeId} {ys : List Int} (h : Blk w g t ((natsn l ++ ys).map (Value.int .u8)).toArray) (hl : l.length = n) : Rd w (some ⟨g, 0, none⟩) n (bv l) :=
  Rd.of_blk h 0 (by simpa [bv] using hl) (fun j v hv => by
    rw [List.getElem?_toArray, Nat.zero_add, List.map_append, bv_natsn, List.getElem?_append_left (List.getElem?_eq_some_iff.1 hv).1]; exact hv)
end
end Go.Proofs.YtijmkbhbpbkkoaaGreat
