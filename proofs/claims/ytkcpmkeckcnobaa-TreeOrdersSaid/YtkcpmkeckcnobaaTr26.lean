/- tree.nodes of an inner: the plain side of the loop over the kids. -/
import Derived.Test.YtkcpmkeckcnobaaTr25
namespace Go.Proofs.Ytkcpmkeckcnobaa
open Go.RowKit

theorem msOf_len : ∀ (qs : List KQ), (∀ q ∈ qs, 4 * q.ms.length + 2 ≤ q.L.length) → 4 * (msOf qs).length + 2 * qs.length ≤ (entsQ qs).length
  | [], _ => by simp [msOf, entsQ]
  | q :: qs, h => by
    have h1 := h q List.mem_cons_self
    have h2 := msOf_len qs (fun x hx => h x (List.mem_cons_of_mem _ hx))
    simp only [msOf, entsQ, List.flatMap_cons, List.length_append, List.length_cons] at h2 ⊢
    omega
theorem nodes_len : ∀ (d : Nat) (L : List (List Nat)) (k b : Nat) (Ms : List PN) (i : Nat), NodesIs d L k b Ms i → loB d ≤ k → 4 * Ms.length + 2 ≤ L.length
  | 0, L, k, b, Ms, i, ⟨h, _, hk⟩, hlo => by
    subst h; simp only [loB] at hlo; simp; omega
  | d + 1, L, k, b, Ms, i, ⟨ks, qs, h1, _, h3, h4, _, _, _, _, h9⟩, hlo => by
    have := msOf_len qs (fun q hq => by
      obtain ⟨j, hj⟩ := List.mem_iff_getElem?.1 hq
      obtain ⟨ha, hb, _⟩ := h9 j q hj
      exact nodes_len d _ _ _ _ _ ha hb)
    subst h1; subst h3; subst h4
    simp only [loB] at hlo
    simp only [List.length_append, List.length_cons, List.length_nil]
    omega
/-- the kids done are as their nodes say -/
def QOk (d b : Nat) (ts : List Kid) (qs : List KQ) : Prop := ∀ i q, qs[i]? = some q → ∃ t, ts[i]? = some t ∧ q.L = t.L ∧ q.k = t.k ∧ NodesIs d q.L q.k (b + (msOf (qs.take i)).length) q.ms q.i
section
variable {d b : Nat} {ts : List Kid} {qs : List KQ}
theorem QOk.ents (h : QOk d b ts qs) : entsQ qs = entsOf (ts.take qs.length) := by
  have : qs.map (·.L) = (ts.take qs.length).map (·.L) := by
    apply List.ext_getElem?
    intro i
    rw [List.getElem?_map, List.getElem?_map, List.getElem?_take]
    rcases Nat.lt_or_ge i qs.length with hi | hi
    · obtain ⟨t, h1, h2, _⟩ := h i _ (List.getElem?_eq_getElem hi)
      rw [if_pos hi, List.getElem?_eq_getElem hi, h1]
      simp [h2]
    · rw [if_neg (by omega), List.getElem?_eq_none hi]; rfl
  unfold entsQ entsOf
  rw [List.flatMap_def, List.flatMap_def, this]
theorem QOk.snoc {q : KQ} {t : Kid} (h : QOk d b ts qs) (ht : ts[qs.length]? = some t) (h1 : q.L = t.L) (h2 : q.k = t.k) (h3 : NodesIs d q.L q.k (b + (msOf qs).length) q.ms q.i) : QOk d b ts (qs ++ [q]) := fun i x hx => by
  rcases Nat.lt_or_ge i qs.length with hi | hi
  · rw [List.getElem?_append_left hi] at hx
    obtain ⟨t', a1, a2, a3, a4⟩ := h i x hx
    exact ⟨t', a1, a2, a3, by rwa [List.take_append_of_le_length (by omega)]⟩
  · have hlt := (List.getElem?_eq_some_iff.1 hx).1
    rw [List.length_append, List.length_singleton] at hlt
    have e : i = qs.length := by omega
    subst e
    rw [List.getElem?_append_right (Nat.le_refl _), Nat.sub_self] at hx
    injection hx with hx
    subst hx
    exact ⟨t, ht, h1, h2, by rwa [List.take_append_of_le_length (Nat.le_refl _), List.take_length]⟩
/-- the whole node of an inner -/
theorem NodesIs.inner {ks : List (List Nat)} (h : QOk d b ts qs) (hl : qs.length = ts.length) (hk : ks.length + 1 = ts.length) (hr : Rows 40 ks) (hs : ks.Pairwise klt) (hsep : Sep ks ts) (hbd : ∀ t ∈ ts, loB d ≤ t.k ∧ t.k ≤ hiB d) : NodesIs (d + 1) (entsOf ts) ts.length b (msOf qs ++ [⟨false, [], ks, qs.map (·.i)⟩]) (b + (msOf qs).length) := by
  have he : entsQ qs = entsOf ts := by rw [h.ents, hl, List.take_length]
  have ht : ∀ j, entsQ (qs.take j) = entsOf (ts.take j) := fun j => by
    have : QOk d b ts (qs.take j) := fun i q hi => by
      rw [List.getElem?_take] at hi
      split at hi
      · obtain ⟨t, a1, a2, a3, a4⟩ := h i q hi
        exact ⟨t, a1, a2, a3, by rwa [List.take_take, Nat.min_eq_left (by omega)]⟩
      · cases hi
    rw [this.ents, List.length_take, hl, ← List.take_take, List.take_length] 
  have hd : ∀ j, entsQ (qs.drop j) = entsOf (ts.drop j) := fun j => by
    have h1 : entsQ (qs.take j) ++ entsQ (qs.drop j) = entsQ qs := by unfold entsQ; rw [← List.flatMap_append, List.take_append_drop]
    have h2 : entsOf (ts.take j) ++ entsOf (ts.drop j) = entsOf ts := by unfold entsOf; rw [← List.flatMap_append, List.take_append_drop]
    rw [ht j, he, ← h2] at h1
    exact List.append_cancel_left h1
  refine ⟨ks, qs, rfl, rfl, he.symm, hl.symm, by omega, hr, hs, fun j κ hj => ?_, fun j q hj => ?_⟩
  · rw [ht, hd]; exact hsep j κ hj
  · obtain ⟨t, a1, a2, a3, a4⟩ := h j q hj
    have := hbd t (List.mem_of_getElem? a1)
    exact ⟨a4, by rw [a3]; exact this.1, by rw [a3]; exact this.2⟩
end
end Go.Proofs.Ytkcpmkeckcnobaa
