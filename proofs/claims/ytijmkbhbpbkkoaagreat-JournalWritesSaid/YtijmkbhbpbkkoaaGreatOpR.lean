/- Rows of bytes out of the form's reading. -/
import Derived.Test.YtijmkbhbpbkkoaaGreatOpJ
import Derived.Test.YtijmkbhbpbkkoaaGreatOpenA
import Derived.Test.YtijmkbhbpbkkoaaGreatJnE
namespace Go.Proofs.YtijmkbhbpbkkoaaGreat
open Go.RowKit Go.ChangeShapes Go.WideShapes Go.ChangeAt Go.Deep

section
variable {H : Type} {enc : TypeId × Value → H} {w : World} {base : Nat} {spare : Nat → Bool} {held : Bool}
theorem rowsarg {fuel : Nat} {v : Value} {x : DataW H × List MemPlace} (h : DataW.trod enc Tryz.prog w base spare held fuel 24 [v] = some x) :
    ∃ (A : Option Addr) (n c : Nat) (R : List (List Nat)), v = .slice A n c ∧ RdR w A n R ∧ n ≤ 9223372036854775807 ∧ ∀ r ∈ R, ∀ z ∈ r, z < 256 := by
  obtain ⟨A, n, c, L, rfl, h1, h2⟩ := rd_of_parts (P := Tryz.prog) Tryz.underlying24 (by kernel_rfl) Tryz.underlying29 Tryz.underlying5 (by kernel_rfl) h
  obtain ⟨R, h3, h4⟩ := RdR.of_parts h1 h2
  refine ⟨A, n, c, R, rfl, h3, ?_, h4⟩
  rcases open_slice1 (P := Tryz.prog) Tryz.underlying24 (by kernel_rfl) h with ⟨hcs, _⟩ | ⟨a, len, cap, m, q, V, D, Pl, hcs, _, hl, hm, -⟩
  · injection hcs with hcs _
    injection hcs with _ hn _
    omega
  · injection hcs with hcs _
    injection hcs with _ hn _
    unfold maxLen at hm
    omega
end
end Go.Proofs.YtijmkbhbpbkkoaaGreat
