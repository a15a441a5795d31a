/- Rows of deeds and of truths. -/
import Derived.Test.YtkcpmkeckcnobaaTrK
namespace Go.Proofs.Ytkcpmkeckcnobaa
open Go.RowKit

/-- a deed -/
structure DeedR where
  kd : Int
  n : Int
  v : Nat
  hv : v < 256
def DeedR.cells (d : DeedR) : List Value := [.int .i64 d.kd, .int .i64 d.n, .int .u8 (d.v : Int)]
theorem DeedR.len (d : DeedR) : d.cells.length = 3 := rfl
theorem size_deed3 : (Try.prog.info? 69).map (·.size) = some 3 := by kernel_rfl
def DeedsAt (w : World) (A : Option Addr) (n : Nat) (Ds : List DeedR) : Prop := RdC w A n 3 (flat DeedR.cells Ds) ∧ Ds.length = n
def BoolsAt (w : World) (A : Option Addr) (n : Nat) (bs : List Bool) : Prop := Rd w A n (bs.map Value.bool)
theorem DeedsAt.at_ {w : World} {A : Option Addr} {n : Nat} {Ds : List DeedR} (h : DeedsAt w A n Ds) {i : Nat} {d : DeedR} (hd : Ds[i]? = some d) : ∃ g off, A = some ⟨g, off, none⟩ ∧ ∀ j v, d.cells[j]? = some v → w.cell? ⟨g, off + i * 3 + j, none⟩ = some v := by
  have hi := (List.getElem?_eq_some_iff.1 hd).1
  obtain ⟨g, off, hA, hc⟩ := h.1.2 (by have := h.2; omega)
  refine ⟨g, off, hA, fun j v hv => ?_⟩
  have hj : j < 3 := by have := (List.getElem?_eq_some_iff.1 hv).1; rwa [DeedR.len] at this
  rw [Nat.add_assoc]
  exact hc _ v (by rw [flat_at DeedR.len Ds i j hj, hd]; exact hv)
end Go.Proofs.Ytkcpmkeckcnobaa
