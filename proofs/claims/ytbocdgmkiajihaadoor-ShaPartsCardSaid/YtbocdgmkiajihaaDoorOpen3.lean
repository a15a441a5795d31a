/- A slice of slices of bytes out of the form's reading. No program is named. -/
import Derived.Test.YtbocdgmkiajihaaDoorOpen
namespace Go.Proofs.YtbocdgmkiajihaaDoor
open Go.RowKit Go.ChangeShapes Go.WideShapes Go.ChangeAt Go.Deep

/-- one slice of bytes in a slice of slices -/
structure Part where
  A : Option Addr
  n : Nat
  c : Nat
  zs : List Int
deriving Inhabited
def Part.v (p : Part) : Value := .slice p.A p.n p.c
def Part.ok (w : World) (p : Part) : Prop := Rd w p.A p.n (p.zs.map (Value.int .u8)) ∧ ∀ z ∈ p.zs, (Lit.int .u8 z).wf = true
section
variable {H : Type} {enc : TypeId × Value → H} {P : Program} {w : World} {base : Nat} {spare : Nat → Bool} {held : Bool}
theorem rd_of_parts {t e b : TypeId} {fuel : Nat} {v : Value} {x : DataW H × List MemPlace} (ht : P.underlying t = some (.slice e)) (hc : P.cellsOf e = 1) (he : P.underlying e = some (.slice b)) (hb : P.underlying b = some (.int .u8)) (hcb : P.cellsOf b = 1)
    (h : DataW.trod enc P w base spare held fuel t [v] = some x) :
    ∃ (A : Option Addr) (len cap : Nat) (L : List Part), v = .slice A len cap ∧ Rd w A len (L.map Part.v) ∧ ∀ p ∈ L, p.ok w := by
  rcases open_slice1 ht hc h with ⟨hcs, _⟩ | ⟨a, len, cap, m, n, V, D, Pl, hcs, _, hl, hm, hmm, _, hi⟩
  · injection hcs with hcs _
    exact ⟨none, 0, 0, [], hcs, Rd.nil _ _, by simp⟩
  · injection hcs with hcs _
    have hlm : len ≤ m := by rw [hmm]; split <;> omega
    have key : ∀ i, i < len → ∃ p : Part, w.cell? (a.add i) = some p.v ∧ p.ok w := fun i hi' => by
      obtain ⟨h1, h2⟩ := hi i (by omega)
      obtain ⟨A, n', c', zs, e1, hr, hz, _, _⟩ := rd_of_ints he hb hcb h2
      exact ⟨⟨A, n', c', zs⟩, by rw [h1, e1]; rfl, hr, hz⟩
    obtain ⟨F, hF⟩ := choose_lt key
    refine ⟨some a, len, cap, (List.range len).map F, hcs, ⟨by simp, fun hp => ?_⟩, fun p hp => ?_⟩
    · have h0 := (hF 0 hp).1
      have hsp : (a.add 0).spot = none := spot_none h0
      have hsp' : a.spot = none := by simpa [Addr.add] using hsp
      refine ⟨a.block, a.off, by cases a; simp_all, fun j u hu => ?_⟩
      rw [List.map_map, List.getElem?_map] at hu
      obtain ⟨k, hk, rfl⟩ := Option.map_eq_some_iff.1 hu
      have hjl : j < len := by have := (List.getElem?_eq_some_iff.1 hk).1; simpa using this
      rw [List.getElem?_range hjl] at hk
      injection hk with hk; subst hk
      have := (hF j hjl).1
      rwa [add_none a hsp'] at this
    · obtain ⟨i, hi', rfl⟩ := List.mem_map.1 hp
      exact (hF i (List.mem_range.1 hi')).2
end
end Go.Proofs.YtbocdgmkiajihaaDoor
