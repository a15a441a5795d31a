/- law16's deeds out of the form's reading. -/
import Derived.Test.YtkcpmkeckcnobaaOpenA
import Derived.Test.YtkcpmkeckcnobaaTrK
namespace Go.Proofs.Ytkcpmkeckcnobaa
open Go.RowKit Go.ChangeShapes Go.WideShapes Go.ChangeAt Go.Deep

theorem three_of {α : Type} : ∀ (cs : List α), cs.length = 3 → ∃ a b c, cs = [a, b, c]
  | [a, b, c], _ => ⟨a, b, c, rfl⟩
theorem wf_u8t {a : Int} (h : (Lit.int .u8 a).wf = true) : 0 ≤ a ∧ a ≤ 255 := by simpa [Lit.wf, IntKind.min, IntKind.max, IntKind.signed, IntKind.bits] using h
section
variable {H : Type} {enc : TypeId × Value → H} {w : World} {base : Nat} {spare : Nat → Bool} {held : Bool}
theorem deed_of {fuel : Nat} {cs : List Value} {x : DataW H × List MemPlace} (h : DataW.trod enc Try.prog w base spare held fuel 69 cs = some x) : ∃ (kd n : Int) (v : Nat), cs = [.int .i64 kd, .int .i64 n, .int .u8 (v : Int)] ∧ v < 256 := by
  obtain ⟨xs, m, rfl, rfl, hl, hlen, hf⟩ := DataW.trod_struct Try.underlying69 h
  have hC : Try.prog.cellsOf 69 = 3 := by kernel_rfl
  rw [hC] at hl
  have hx : xs.length = 3 := hlen
  have c0 : Try.prog.cellsOf 3 = 1 := by kernel_rfl
  have c2 : Try.prog.cellsOf 5 = 1 := by kernel_rfl
  have g0 : DataW.trod enc Try.prog w base spare held m 3 ((cs.drop 0).take (Try.prog.cellsOf 3)) = xs[0]? := hf 0 _ rfl
  have g1 : DataW.trod enc Try.prog w base spare held m 3 ((cs.drop 1).take (Try.prog.cellsOf 3)) = xs[1]? := hf 1 _ rfl
  have g2 : DataW.trod enc Try.prog w base spare held m 5 ((cs.drop 2).take (Try.prog.cellsOf 5)) = xs[2]? := hf 2 _ rfl
  rw [c0, List.getElem?_eq_getElem (by omega)] at g0 g1
  rw [c2, List.getElem?_eq_getElem (by omega)] at g2
  obtain ⟨z0, e0, -, -⟩ := DataW.trod_int Try.underlying3 g0
  obtain ⟨z1, e1, -, -⟩ := DataW.trod_int Try.underlying3 g1
  obtain ⟨z2, e2, -, hz⟩ := DataW.trod_int Try.underlying5 g2
  have hb := wf_u8t hz
  clear hf g0 g1 g2 hx hlen
  obtain ⟨a, b, c, rfl⟩ := three_of cs hl
  simp only [List.drop_zero, List.take_succ_cons, List.take_zero, List.drop_succ_cons, List.cons.injEq, and_true] at e0 e1 e2
  subst e0 e1 e2
  exact ⟨z0, z1, z2.toNat, by rw [Int.toNat_of_nonneg hb.1], by omega⟩
theorem deedarg {fuel : Nat} {cs : Array Value} {x : DataW H × List MemPlace} (h : DataW.trod enc Try.prog w base spare held fuel 69 cs.toList = some x) : ∃ (kd n : Int) (v : Nat), cs = #[.int .i64 kd, .int .i64 n, .int .u8 (v : Int)] ∧ v < 256 := by
  obtain ⟨kd, n, v, h1, h2⟩ := deed_of h
  exact ⟨kd, n, v, by rw [← Array.toArray_toList (xs := cs), h1], h2⟩
end
end Go.Proofs.Ytkcpmkeckcnobaa
