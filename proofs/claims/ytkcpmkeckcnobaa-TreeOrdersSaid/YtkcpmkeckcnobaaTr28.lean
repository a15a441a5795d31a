/- A tree's nodes counted: thirteen entries are three nodes, none is one. -/
import Derived.Test.YtkcpmkeckcnobaaTr26
namespace Go.Proofs.Ytkcpmkeckcnobaa
open Go.RowKit

/-- what is told of a tree's nodes -/
def NodesT (L : List (List Nat)) (Ms : List PN) (i : Nat) : Prop := ∃ d k, NodesIs d L k 0 Ms i ∧ k ≤ hiB d ∧ (d = 0 ∨ 2 ≤ k)
theorem entsQ_ge (m : Nat) : ∀ (qs : List KQ), (∀ q ∈ qs, m ≤ q.L.length) → m * qs.length ≤ (entsQ qs).length
  | [], _ => by simp
  | q :: qs, h => by
    have h1 := h q List.mem_cons_self
    have h2 := entsQ_ge m qs (fun x hx => h x (List.mem_cons_of_mem _ hx))
    simp only [entsQ, List.flatMap_cons, List.length_append, List.length_cons, Nat.mul_add, Nat.mul_one] at h2 ⊢
    omega
theorem ents_ge : ∀ (d : Nat) (L : List (List Nat)) (k b : Nat) (Ms : List PN) (i : Nat), NodesIs d L k b Ms i → loB d ≤ k → 6 ≤ L.length
  | 0, L, k, b, Ms, i, ⟨_, _, hk⟩, hlo => by simp only [loB] at hlo; omega
  | d + 1, L, k, b, Ms, i, ⟨ks, qs, h1, _, h3, h4, _, _, _, _, h9⟩, hlo => by
    have := entsQ_ge 6 qs (fun q hq => by
      obtain ⟨j, hj⟩ := List.mem_iff_getElem?.1 hq
      obtain ⟨ha, hb, _⟩ := h9 j q hj
      exact ents_ge d _ _ _ _ _ ha hb)
    simp only [loB] at hlo
    subst h3 h4
    omega
/-- an inner has six entries and more for each kid -/
theorem ents_kids {d : Nat} {L : List (List Nat)} {k b : Nat} {Ms : List PN} {i : Nat} (h : NodesIs (d + 1) L k b Ms i) : 6 * k ≤ L.length := by
  obtain ⟨ks, qs, h1, _, h3, h4, _, _, _, _, h9⟩ := h
  subst h3 h4
  exact entsQ_ge 6 qs (fun q hq => by
    obtain ⟨j, hj⟩ := List.mem_iff_getElem?.1 hq
    obtain ⟨ha, hb, _⟩ := h9 j q hj
    exact ents_ge d _ _ _ _ _ ha hb)
theorem msOf_ones : ∀ (qs : List KQ), (∀ q ∈ qs, q.ms.length = 1) → (msOf qs).length = qs.length
  | [], _ => rfl
  | q :: qs, h => by
    have h1 := h q List.mem_cons_self
    have h2 := msOf_ones qs (fun x hx => h x (List.mem_cons_of_mem _ hx))
    simp only [msOf, List.flatMap_cons, List.length_append, List.length_cons] at h2 ⊢
    omega
theorem nodesT_len {L : List (List Nat)} {Ms : List PN} {i : Nat} (h : NodesT L Ms i) : Ms.length ≤ L.length / 4 + 1 := by
  obtain ⟨d, k, h, hk, hd⟩ := h
  cases d with
  | zero => rw [h.1]; simp
  | succ d =>
    obtain ⟨ks, qs, h1, _, h3, h4, _, _, _, _, h9⟩ := h
    have := msOf_len qs (fun q hq => by
      obtain ⟨j, hj⟩ := List.mem_iff_getElem?.1 hq
      obtain ⟨ha, hb, _⟩ := h9 j q hj
      exact nodes_len d _ _ _ _ _ ha hb)
    subst h1 h3 h4
    have h2 : 2 ≤ qs.length := hd.elim (fun h => by omega) id
    simp only [List.length_append, List.length_cons, List.length_nil]
    omega
theorem nodesT_root {L : List (List Nat)} {Ms : List PN} {i : Nat} (h : NodesT L Ms i) : i + 1 = Ms.length := by
  obtain ⟨d, k, h, hk, hd⟩ := h
  cases d with
  | zero => rw [h.1, h.2.1]; simp
  | succ d =>
    obtain ⟨ks, qs, h1, h2, _⟩ := h
    rw [h1, h2]; simp
theorem nodesT_nil {Ms : List PN} {i : Nat} (h : NodesT [] Ms i) : Ms = [⟨true, [], [], []⟩] ∧ i = 0 := by
  obtain ⟨d, k, h, hk, hd⟩ := h
  cases d with
  | zero => exact ⟨h.1, h.2.1⟩
  | succ d =>
    have := ents_kids h
    have h2 : 2 ≤ k := hd.elim (fun h => by omega) id
    simp at this; omega
theorem nodesT_13 {L : List (List Nat)} {Ms : List PN} {i : Nat} (h : NodesT L Ms i) (hL : L.length = 13) : Ms.length = 3 ∧ i = 2 ∧ ∃ n, Ms[i]? = some n ∧ n.kids.length = 2 := by
  obtain ⟨d, k, h, hk, hd⟩ := h
  match d, h, hk, hd with
  | 0, h, hk, hd => have := h.2.2; simp only [hiB] at hk; omega
  | 1, h, hk, hd =>
    have h6 := ents_kids h
    have h2 : 2 ≤ k := hd.elim (fun h => by omega) id
    obtain ⟨ks, qs, h1, hi, h3, h4, _, _, _, _, h9⟩ := h
    have hm := msOf_ones qs (fun q hq => by
      obtain ⟨j, hj⟩ := List.mem_iff_getElem?.1 hq
      obtain ⟨ha, hb, _⟩ := h9 j q hj
      rw [ha.1]; rfl)
    have hq : qs.length = 2 := by omega
    have hi2 : i = 2 := by omega
    subst h1 hi2
    refine ⟨by simp; omega, rfl, ⟨false, [], ks, qs.map (·.i)⟩, ?_, by simpa using hq⟩
    rw [List.getElem?_append_right (by omega), show 2 - (msOf qs).length = 0 by omega]
    rfl
  | d + 2, h, hk, hd =>
    exfalso
    have h2 : 2 ≤ k := hd.elim (fun h => by omega) id
    obtain ⟨ks, qs, h1, hi, h3, h4, _, _, _, _, h9⟩ := h
    have := entsQ_ge 60 qs (fun q hq => by
      obtain ⟨j, hj⟩ := List.mem_iff_getElem?.1 hq
      obtain ⟨ha, hb, _⟩ := h9 j q hj
      have := ents_kids ha
      simp only [loB] at hb
      omega)
    subst h3
    omega
end Go.Proofs.Ytkcpmkeckcnobaa
