/- A slice's length lies within the form's reach. No program is named. -/
import Derived.Test.YtjndcgpfikngaaaRows
import Derived.ProofKit
import Derived.SizedLaws
import Derived.ChangeSlices
namespace Go.Proofs.Ytjndcgpfikngaaa
open Go.RowKit Go.ChangeShapes Go.WideShapes Go.ChangeAt

section
variable {H : Type} {enc : TypeId × Value → H} {P : Program} {w : World} {base : Nat} {spare : Nat → Bool} {held : Bool}
theorem len_of_ints {t e : TypeId} {k : IntKind} {fuel : Nat} {A : Option Addr} {len cap : Nat} {x : DataW H × List MemPlace} (ht : P.underlying t = some (.slice e)) (he : P.underlying e = some (.int k)) (hc : P.cellsOf e = 1)
    (h : DataW.trod enc P w base spare held fuel t [.slice A len cap] = some x) : len = 0 ∨ ∃ el sp, x.1 = .slice el sp ∧ el.length = len := by
  rcases open_ints ht he hc h with ⟨hcs, _⟩ | ⟨a, len', cap', zs, hcs, _, hl, hm, hz, hx, _, _⟩
  · left
    injection hcs with hcs _
    injection hcs
  · right
    injection hcs with hcs _
    injection hcs with e1 e2 e3
    subst e2; subst e3
    have hlz : len ≤ zs.length := by rw [hz]; split <;> omega
    refine ⟨_, _, by rw [hx], ?_⟩
    simp [lits]; omega
theorem len_lt {ts : List TypeId} {ds : List (DataW H)} (h : (DataW.weightsEach P ts ds).all (· ≤ reachBytes) = true) {j : Nat} {t e : TypeId} {d : DataW H} {len : Nat} (ht : ts[j]? = some t) (hd : ds[j]? = some d) (hu : P.underlying t = some (.slice e)) (hb : P.bytesOf e = 1)
    (hl : len = 0 ∨ ∃ el sp, d = .slice el sp ∧ el.length = len) : len < 140737488355328 := by
  rcases hl with rfl | ⟨el, sp, rfl, rfl⟩
  · omega
  · have := sized_slice h ht hd hu
    have hr : reachBytes < 140737488355328 := reachBytes_lt
    rw [hb] at this
    omega
end
end Go.Proofs.Ytjndcgpfikngaaa
