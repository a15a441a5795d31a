/- A head out of the form's reading. -/
import Derived.Test.YtodnhbiomooknaaHd5
import Derived.Test.YtodnhbiomooknaaOpenA
import Derived.Test.YtodnhbiomooknaaCrcO
namespace Go.Proofs.Ytodnhbiomooknaa
open Go.RowKit Go.ChangeShapes Go.WideShapes Go.ChangeAt Go.Deep

theorem list5 {α : Type} {l : List α} (h : l.length = 5) : ∃ a b c d e, l = [a, b, c, d, e] := by
  match l, h with
  | [a, b, c, d, e], _ => exact ⟨a, b, c, d, e, rfl⟩
theorem list9 {α : Type} {l : List α} (h : l.length = 9) : ∃ a b c d e f g i j, l = [a, b, c, d, e, f, g, i, j] := by
  match l, h with
  | [a, b, c, d, e, f, g, i, j], _ => exact ⟨a, b, c, d, e, f, g, i, j, rfl⟩
section
variable {H : Type} {enc : TypeId × Value → H} {w : World} {base : Nat} {spare : Nat → Bool} {held : Bool}
theorem int_of {fuel : Nat} {v : Value} {x : DataW H × List MemPlace} (h : DataW.trod enc Try.prog w base spare held fuel 3 [v] = some x) : ∃ z, v = .int .i64 z := by
  obtain ⟨z, e, _, _⟩ := DataW.trod_int Try.underlying3 h
  injection e with e _
  exact ⟨z, e⟩
theorem head_of {fuel : Nat} {cs : List Value} {x : DataW H × List MemPlace} (h : DataW.trod enc Try.prog w base spare held fuel 28 cs = some x) :
    ∃ hd : Hd, cs = (hC hd).toList := by
  obtain ⟨xs, n, rfl, rfl, hl, hlen, hf⟩ := DataW.trod_struct Try.underlying28 h
  rw [show Try.prog.cellsOf 28 = 9 from by kernel_rfl] at hl
  obtain ⟨v0, v1, v2, v3, v4, v5, v6, v7, v8, rfl⟩ := list9 hl
  obtain ⟨x0, x1, x2, x3, x4, rfl⟩ := list5 hlen
  have c5 : Try.prog.cellsOf 26 = 5 := by kernel_rfl
  have c1 : Try.prog.cellsOf 3 = 1 := by kernel_rfl
  have h0 : DataW.trod enc Try.prog w base spare held n 26 (List.take (Try.prog.cellsOf 26) (List.drop 0 [v0, v1, v2, v3, v4, v5, v6, v7, v8])) = some x0 := hf 0 _ rfl
  have h1 : DataW.trod enc Try.prog w base spare held n 3 (List.take (Try.prog.cellsOf 3) (List.drop 5 [v0, v1, v2, v3, v4, v5, v6, v7, v8])) = some x1 := hf 1 _ rfl
  have h2 : DataW.trod enc Try.prog w base spare held n 3 (List.take (Try.prog.cellsOf 3) (List.drop 6 [v0, v1, v2, v3, v4, v5, v6, v7, v8])) = some x2 := hf 2 _ rfl
  have h3 : DataW.trod enc Try.prog w base spare held n 3 (List.take (Try.prog.cellsOf 3) (List.drop 7 [v0, v1, v2, v3, v4, v5, v6, v7, v8])) = some x3 := hf 3 _ rfl
  have h4 : DataW.trod enc Try.prog w base spare held n 3 (List.take (Try.prog.cellsOf 3) (List.drop 8 [v0, v1, v2, v3, v4, v5, v6, v7, v8])) = some x4 := hf 4 _ rfl
  rw [c5] at h0
  rw [c1] at h1 h2 h3 h4
  obtain ⟨n1, rfl⟩ := int_of (v := v5) h1
  obtain ⟨n2, rfl⟩ := int_of (v := v6) h2
  obtain ⟨n3, rfl⟩ := int_of (v := v7) h3
  obtain ⟨n4, rfl⟩ := int_of (v := v8) h4
  obtain ⟨hl0, n9, hg⟩ := fields_of (cs := [v0, v1, v2, v3, v4]) (P := Try.prog) Try.underlying26 (by kernel_rfl) (by kernel_rfl) h0
  obtain ⟨y0, g0⟩ := hg 0 _ v0 rfl rfl
  obtain ⟨y1, g1⟩ := hg 1 _ v1 rfl rfl
  obtain ⟨y2, g2⟩ := hg 2 _ v2 rfl rfl
  obtain ⟨y3, g3⟩ := hg 3 _ v3 rfl rfl
  obtain ⟨y4, g4⟩ := hg 4 _ v4 rfl rfl
  obtain ⟨a0, rfl⟩ := int_of g0
  obtain ⟨a1, rfl⟩ := int_of g1
  obtain ⟨a2, rfl⟩ := int_of g2
  obtain ⟨a3, rfl⟩ := int_of g3
  obtain ⟨a4, rfl⟩ := int_of g4
  exact ⟨⟨⟨a0, a1, a2, a3, a4⟩, n1, n2, n3, n4⟩, rfl⟩
end
end Go.Proofs.Ytodnhbiomooknaa
