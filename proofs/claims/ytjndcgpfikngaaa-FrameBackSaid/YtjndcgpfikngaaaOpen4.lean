/- The fields of a struct out of the form's reading. No program is named. -/
import Derived.Test.YtjndcgpfikngaaaOpen
namespace Go.Proofs.Ytjndcgpfikngaaa
open Go.RowKit Go.ChangeShapes Go.WideShapes Go.ChangeAt Go.Deep

section
variable {H : Type} {enc : TypeId × Value → H} {P : Program} {w : World} {base : Nat} {spare : Nat → Bool} {held : Bool}
theorem fields_of {t : TypeId} {fs : Array Field} {fuel : Nat} {cs : List Value} {x : DataW H × List MemPlace} (ht : P.underlying t = some (.struct fs)) (hone : oneCellFields P fs = true) (hC : P.cellsOf t = fs.size)
    (h : DataW.trod enc P w base spare held fuel t cs = some x) :
    cs.length = fs.size ∧ ∃ n, ∀ (j : Nat) (f : Field) (u : Value), fs[j]? = some f → cs[j]? = some u → ∃ y, DataW.trod enc P w base spare held n f.type [u] = some y := by
  obtain ⟨xs, n, rfl, rfl, hl, hlen, hf⟩ := DataW.trod_struct ht h
  rw [hC] at hl
  refine ⟨hl, n, fun j f u hj hu => ?_⟩
  obtain ⟨ho, h1⟩ := hone_of hone j f hj
  have hjl : j < fs.size := (Array.getElem?_eq_some_iff.1 hj).1
  have h2 := hf j f hj
  have hjc : j < cs.length := by omega
  have hdt : (cs.drop j).take 1 = [cs[j]] := by rw [List.drop_eq_getElem_cons hjc]; rfl
  rw [ho, h1, hdt] at h2
  rw [List.getElem?_eq_getElem hjc] at hu
  injection hu with hu
  rw [hu] at h2
  exact ⟨_, h2.trans (List.getElem?_eq_getElem (by omega))⟩
end
end Go.Proofs.Ytjndcgpfikngaaa
