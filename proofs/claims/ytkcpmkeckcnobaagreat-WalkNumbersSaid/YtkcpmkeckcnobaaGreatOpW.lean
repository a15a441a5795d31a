/- Keys and entries out of the form's reading. -/
import Derived.Test.YtkcpmkeckcnobaaGreatOpen5
import Derived.Test.YtkcpmkeckcnobaaGreatOpenA
import Derived.Test.YtkcpmkeckcnobaaGreatWkA
namespace Go.Proofs.YtkcpmkeckcnobaaGreat
open Go.RowKit Go.ChangeShapes Go.WideShapes Go.ChangeAt Go.Deep

theorem okWide_array {P : Program} {w : World} {r : Reach} {base n : Nat} {t e : TypeId} {v : Value} (ht : P.underlying t = some (.array n e)) (h : Value.okWide P w r base t v) : ∃ cs, v = .agg cs ∧ cs.size = P.cellsOf t := by
  simp only [Value.okWide, ht] at h
  obtain ⟨cs, h1, h2, _⟩ := h
  exact ⟨cs, h1, h2⟩
section
variable {H : Type} {enc : TypeId × Value → H} {w : World} {base : Nat} {spare : Nat → Bool} {held : Bool}
theorem key_of {fuel : Nat} {cs : List Value} {x : DataW H × List MemPlace} (h : DataW.trod enc Tryz.prog w base spare held fuel 40 cs = some x) : ∃ l : List Nat, cs = bv l ∧ l.length = 40 ∧ ∀ z ∈ l, z < 256 :=
  arr_of (P := Tryz.prog) Tryz.underlying40 Tryz.underlying5 (by kernel_rfl) (by kernel_rfl) h
theorem val_of {fuel : Nat} {cs : List Value} {x : DataW H × List MemPlace} (h : DataW.trod enc Tryz.prog w base spare held fuel 41 cs = some x) : ∃ l : List Nat, cs = bv l ∧ l.length = 40 ∧ ∀ z ∈ l, z < 256 :=
  arr_of (P := Tryz.prog) Tryz.underlying41 Tryz.underlying5 (by kernel_rfl) (by kernel_rfl) h
theorem ent_of {fuel : Nat} {cs : List Value} {x : DataW H × List MemPlace} (h : DataW.trod enc Tryz.prog w base spare held fuel 43 cs = some x) : ∃ l : List Nat, cs = bv l ∧ l.length = 80 ∧ ∀ z ∈ l, z < 256 :=
  pair_of (P := Tryz.prog) (s0 := 40) (s1 := 40) Tryz.underlying43 rfl rfl (by kernel_rfl) (by kernel_rfl) (by kernel_rfl) (fun _ _ _ h => key_of h) (fun _ _ _ h => val_of h) h
theorem keyarg {fuel : Nat} {cs : Array Value} {x : DataW H × List MemPlace} (h : DataW.trod enc Tryz.prog w base spare held fuel 40 cs.toList = some x) : ∃ l : List Nat, cs = (bv l).toArray ∧ (l.length = 40 ∧ ∀ z ∈ l, z < 256) := by
  obtain ⟨l, h1, h2⟩ := key_of h
  exact ⟨l, by rw [← h1], h2⟩
theorem entsarg {fuel : Nat} {v : Value} {x : DataW H × List MemPlace} (h : DataW.trod enc Tryz.prog w base spare held fuel 28 [v] = some x) : ∃ (A : Option Addr) (n c : Nat) (R : List (List Nat)), v = .slice A n c ∧ RowsAt w A n R ∧ n ≤ c ∧ c ≤ maxLen := by
  obtain ⟨A, n, c, R, h1, h2, h3, h4, h5, h6⟩ := rows_of (P := Tryz.prog) (s := 80) Tryz.underlying28 (by kernel_rfl) (by omega) (fun _ _ _ h => ent_of h) h
  exact ⟨A, n, c, R, h1, ⟨h2, h4, h3⟩, h5, h6⟩
end
end Go.Proofs.YtkcpmkeckcnobaaGreat
