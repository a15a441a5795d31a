/- Rows of deeds and of truths out of the form's reading. -/
import Derived.Test.YtkcpmkeckcnobaaOpT
import Derived.Test.YtkcpmkeckcnobaaOpG
import Derived.Test.YtkcpmkeckcnobaaTdR
namespace Go.Proofs.Ytkcpmkeckcnobaa
open Go.RowKit Go.ChangeShapes Go.WideShapes Go.ChangeAt Go.Deep

theorem flat_bools : ∀ M : List Bool, flat (fun b => [Value.bool b]) M = M.map Value.bool
  | [] => rfl
  | b :: bs => by rw [flat_cons, flat_bools bs]; rfl
section
variable {H : Type} {enc : TypeId × Value → H} {w : World} {base : Nat} {spare : Nat → Bool} {held : Bool}
theorem deedsarg {fuel : Nat} {v : Value} {x : DataW H × List MemPlace} (h : DataW.trod enc Try.prog w base spare held fuel 79 [v] = some x) : ∃ (A : Option Addr) (n c : Nat) (Ds : List DeedR), v = .slice A n c ∧ DeedsAt w A n Ds := by
  obtain ⟨A, n, c, M, h1, h2, h3, _⟩ := rows_ofG (P := Try.prog) (s := 3) (f := DeedR.cells) Try.underlying79 (by kernel_rfl) (by omega) DeedR.len (fun _ _ _ h => by
    obtain ⟨kd, n, v, e, hv⟩ := deed_of h
    exact ⟨⟨kd, n, v, hv⟩, e⟩) h
  exact ⟨A, n, c, M, h1, h2, h3⟩
theorem boolsarg {fuel : Nat} {v : Value} {x : DataW H × List MemPlace} (h : DataW.trod enc Try.prog w base spare held fuel 80 [v] = some x) : ∃ (A : Option Addr) (n c : Nat) (bs : List Bool), v = .slice A n c ∧ BoolsAt w A n bs := by
  obtain ⟨A, n, c, M, h1, h2, h3, _⟩ := rows_ofG (P := Try.prog) (s := 1) (f := fun b => [Value.bool b]) Try.underlying80 (by kernel_rfl) (by omega) (fun _ => rfl) (fun _ cs _ h => by
    obtain ⟨b, e, _⟩ := DataW.trod_bool Try.underlying4 h
    exact ⟨b, e⟩) h
  refine ⟨A, n, c, M, h1, ?_⟩
  have e := flat_bools M
  rw [e] at h2
  exact ⟨by rw [List.length_map]; exact h3, fun hp => h2.2 (by omega)⟩
end
end Go.Proofs.Ytkcpmkeckcnobaa
