/- A geometry out of the form's reading. -/
import Derived.Test.YtijmkbhbpbkkoaaGreatHdX
import Derived.Test.YtijmkbhbpbkkoaaGreatOpenA
import Derived.Test.YtijmkbhbpbkkoaaGreatCrcO
namespace Go.Proofs.YtijmkbhbpbkkoaaGreat
open Go.RowKit Go.ChangeShapes Go.WideShapes Go.ChangeAt Go.Deep

section
variable {H : Type} {enc : TypeId × Value → H} {w : World} {base : Nat} {spare : Nat → Bool} {held : Bool}
theorem int_ofJ {fuel : Nat} {v : Value} {x : DataW H × List MemPlace} (h : DataW.trod enc Tryz.prog w base spare held fuel 3 [v] = some x) : ∃ z, v = .int .i64 z := by
  obtain ⟨z, e, _, _⟩ := DataW.trod_int Tryz.underlying3 h
  injection e with e _
  exact ⟨z, e⟩
theorem geo_of {fuel : Nat} {cs : List Value} {x : DataW H × List MemPlace} (h : DataW.trod enc Tryz.prog w base spare held fuel 23 cs = some x) : ∃ g : Geo, cs = (gC g).toList := by
  obtain ⟨hl0, n9, hg⟩ := fields_of (P := Tryz.prog) Tryz.underlying23 (by kernel_rfl) (by kernel_rfl) h
  have hl : cs.length = 5 := hl0
  obtain ⟨v0, v1, v2, v3, v4, rfl⟩ : ∃ a b c d e, cs = [a, b, c, d, e] := by
    match cs, hl with
    | [a, b, c, d, e], _ => exact ⟨a, b, c, d, e, rfl⟩
  obtain ⟨y0, g0⟩ := hg 0 _ v0 rfl rfl
  obtain ⟨y1, g1⟩ := hg 1 _ v1 rfl rfl
  obtain ⟨y2, g2⟩ := hg 2 _ v2 rfl rfl
  obtain ⟨y3, g3⟩ := hg 3 _ v3 rfl rfl
  obtain ⟨y4, g4⟩ := hg 4 _ v4 rfl rfl
  obtain ⟨a0, rfl⟩ := int_ofJ g0
  obtain ⟨a1, rfl⟩ := int_ofJ g1
  obtain ⟨a2, rfl⟩ := int_ofJ g2
  obtain ⟨a3, rfl⟩ := int_ofJ g3
  obtain ⟨a4, rfl⟩ := int_ofJ g4
  exact ⟨⟨a0, a1, a2, a3, a4⟩, rfl⟩
end
end Go.Proofs.YtijmkbhbpbkkoaaGreat
