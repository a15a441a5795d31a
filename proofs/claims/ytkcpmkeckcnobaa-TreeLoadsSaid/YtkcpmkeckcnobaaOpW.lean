/- Keys and entries out of the form's reading. -/
import Derived.Test.YtkcpmkeckcnobaaOpen5
import Derived.Test.YtkcpmkeckcnobaaOpenA
import Derived.Test.YtkcpmkeckcnobaaWkA
namespace Go.Proofs.Ytkcpmkeckcnobaa
open Go.RowKit Go.ChangeShapes Go.WideShapes Go.ChangeAt Go.Deep

theorem okWide_array {P : Program} {w : World} {r : Reach} {base n : Nat} {t e : TypeId} {v : Value} (ht : P.underlying t = some (.array n e)) (h : Value.okWide P w r base t v) : ∃ cs, v = .agg cs ∧ cs.size = P.cellsOf t := by
  simp only [Value.okWide, ht] at h
  obtain ⟨cs, h1, h2, _⟩ := h
  exact ⟨cs, h1, h2⟩
section
variable {H : Type} {enc : TypeId × Value → H} {w : World} {base : Nat} {spare : Nat → Bool} {held : Bool}
theorem key_of {fuel : Nat} {cs : List Value} {x : DataW H × List MemPlace} (h : DataW.trod enc Try.prog w base spare held fuel 23 cs = some x) : ∃ l : List Nat, cs = bv l ∧ l.length = 40 ∧ ∀ z ∈ l, z < 256 :=
  arr_of (P := Try.prog) Try.underlying23 Try.underlying5 (by kernel_rfl) (by kernel_rfl) h
theorem val_of {fuel : Nat} {cs : List Value} {x : DataW H × List MemPlace} (h : DataW.trod enc Try.prog w base spare held fuel 26 cs = some x) : ∃ l : List Nat, cs = bv l ∧ l.length = 40 ∧ ∀ z ∈ l, z < 256 :=
  arr_of (P := Try.prog) Try.underlying26 Try.underlying5 (by kernel_rfl) (by kernel_rfl) h
theorem ent_of {fuel : Nat} {cs : List Value} {x : DataW H × List MemPlace} (h : DataW.trod enc Try.prog w base spare held fuel 28 cs = some x) : ∃ l : List Nat, cs = bv l ∧ l.length = 80 ∧ ∀ z ∈ l, z < 256 :=
  pair_of (P := Try.prog) (s0 := 40) (s1 := 40) Try.underlying28 rfl rfl (by kernel_rfl) (by kernel_rfl) (by kernel_rfl) (fun _ _ _ h => key_of h) (fun _ _ _ h => val_of h) h
theorem keyarg {fuel : Nat} {cs : Array Value} {x : DataW H × List MemPlace} (h : DataW.trod enc Try.prog w base spare held fuel 23 cs.toList = some x) : ∃ l : List Nat, cs = (bv l).toArray ∧ (l.length = 40 ∧ ∀ z ∈ l, z < 256) := by
  obtain ⟨l, h1, h2⟩ := key_of h
  exact ⟨l, by rw [← h1], h2⟩
theorem entsarg {fuel : Nat} {v : Value} {x : DataW H × List MemPlace} (h : DataW.trod enc Try.prog w base spare held fuel 40 [v] = some x) : ∃ (A : Option Addr) (n c : Nat) (R : List (List Nat)), v = .slice A n c ∧ RowsAt w A n R ∧ n ≤ c ∧ c ≤ maxLen := by
  obtain ⟨A, n, c, R, h1, h2, h3, h4, h5, h6⟩ := rows_of (P := Try.prog) (s := 80) Try.underlying40 (by kernel_rfl) (by omega) (fun _ _ _ h => ent_of h) h
  exact ⟨A, n, c, R, h1, ⟨h2, h4, h3⟩, h5, h6⟩
end
end Go.Proofs.Ytkcpmkeckcnobaa
