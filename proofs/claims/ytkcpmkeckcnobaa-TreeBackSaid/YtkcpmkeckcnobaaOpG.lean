/- Rows of any elements out of the form's reading. No program is named. -/
import Derived.Test.YtkcpmkeckcnobaaOpenA
import Derived.Test.YtkcpmkeckcnobaaKitB
namespace Go.Proofs.Ytkcpmkeckcnobaa
open Go.RowKit Go.ChangeShapes Go.WideShapes Go.ChangeAt Go.Deep

section
variable {H : Type} {enc : TypeId × Value → H} {P : Program} {w : World} {base : Nat} {spare : Nat → Bool} {held : Bool}
theorem rows_ofG {α : Type} {f : α → List Value} {t e : TypeId} {s fuel : Nat} {v : Value} {x : DataW H × List MemPlace} (ht : P.underlying t = some (.slice e)) (hC : P.cellsOf e = s) (hs : 0 < s) (hlf : ∀ a, (f a).length = s)
    (dec : ∀ (fuel : Nat) (cs : List Value) (x : DataW H × List MemPlace), DataW.trod enc P w base spare held fuel e cs = some x → ∃ a : α, cs = f a)
    (h : DataW.trod enc P w base spare held fuel t [v] = some x) :
    ∃ (A : Option Addr) (len cap : Nat) (L : List α), v = .slice A len cap ∧ RdC w A len s (flat f L) ∧ L.length = len ∧ len ≤ cap ∧ cap ≤ maxLen := by
  rcases open_slice ht h with ⟨hcs, _⟩ | ⟨a, len, cap, m, n, D, Pl, hcs, _, hl, hm, hmm, _, hi⟩
  · injection hcs with hcs _
    exact ⟨none, 0, 0, [], hcs, ⟨by simp [flat], fun h => absurd h (by omega)⟩, rfl, Nat.le_refl _, Nat.zero_le _⟩
  · injection hcs with hcs _
    have hlm : len ≤ m := by rw [hmm]; split <;> omega
    have key : ∀ i, i < len → ∃ l : α, ∀ j, j < s → w.cell? ((a.add (i * s)).add j) = (f l)[j]? := fun i hi' => by
      obtain ⟨cs', h1, h2⟩ := hi i (by omega)
      rw [hC] at h1
      obtain ⟨_, _, h3⟩ := World.cells?_some h1
      obtain ⟨l, e1⟩ := dec _ _ _ h2
      exact ⟨l, fun j hj => by rw [h3 j hj, e1]⟩
    rcases Nat.eq_zero_or_pos len with h0 | hp
    · subst h0
      exact ⟨some a, 0, cap, [], hcs, ⟨by simp [flat], fun h => absurd h (by omega)⟩, rfl, hl, hm⟩
    obtain ⟨x0, _⟩ := key 0 hp
    have key2 : ∀ i, ∃ l : α, i < len → ∀ j, j < s → w.cell? ((a.add (i * s)).add j) = (f l)[j]? := fun i => by
      by_cases hi : i < len
      · obtain ⟨l, hl⟩ := key i hi
        exact ⟨l, fun _ => hl⟩
      · exact ⟨x0, fun h => absurd h hi⟩
    obtain ⟨F, hF⟩ := Classical.axiomOfChoice key2
    refine ⟨some a, len, cap, (List.range len).map F, hcs, ⟨by rw [flat_len hlf]; simp, fun _ => ?_⟩, by simp, hl, hm⟩
    have h0 := hF 0 hp 0 hs
    obtain ⟨v0, hv0⟩ : ∃ v0, (f (F 0))[0]? = some v0 := ⟨_, List.getElem?_eq_getElem (by rw [hlf]; exact hs)⟩
    rw [hv0] at h0
    have hsp := spot_none h0
    have hsp' : a.spot = none := by simpa [Addr.add] using hsp
    refine ⟨a.block, a.off, by cases a; simp_all, fun j u hu => ?_⟩
    have hjl : j < len * s := by
      have := (List.getElem?_eq_some_iff.1 hu).1
      rw [flat_len hlf] at this; simpa using this
    have hq : j / s < len := Nat.div_lt_of_lt_mul (by rw [Nat.mul_comm]; exact hjl)
    have hr : j % s < s := Nat.mod_lt _ hs
    have hdm : j / s * s + j % s = j := by have := Nat.div_add_mod j s; rw [Nat.mul_comm] at this; exact this
    have h2 := hF _ hq _ hr
    have hat := flat_at hlf ((List.range len).map F) (j / s) (j % s) hr
    rw [hdm, hu, List.getElem?_map, List.getElem?_range hq] at hat
    rw [add_none _ hsp' ((j / s) * s), add_none _ rfl] at h2
    have e : a.off + j / s * s + j % s = a.off + j := by omega
    rw [e] at h2
    rw [h2]
    exact hat.symm
end
end Go.Proofs.Ytkcpmkeckcnobaa
