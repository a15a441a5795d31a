/- Rows of elements of several cells: a list of elements as cells; a row that the call owns, cell by cell. No program is named. -/
import Derived.Test.YtjndcgpfikngaaaKit9
namespace Go.Proofs.Ytjndcgpfikngaaa
open Go.RowKit

/-- a list of elements as cells -/
def flat {α : Type} (enc : α → List Value) (L : List α) : List Value := L.flatMap enc
section
variable {α : Type} {enc : α → List Value} {s : Nat}
theorem flat_nil : flat enc ([] : List α) = [] := rfl
theorem flat_cons (x : α) (L : List α) : flat enc (x :: L) = enc x ++ flat enc L := List.flatMap_cons ..
theorem flat_append (L M : List α) : flat enc (L ++ M) = flat enc L ++ flat enc M := List.flatMap_append ..
theorem flat_one (x : α) : flat enc [x] = enc x := by simp [flat]
theorem flat_len (he : ∀ x, (enc x).length = s) : ∀ L : List α, (flat enc L).length = L.length * s
  | [] => by simp [flat]
  | x :: L => by rw [flat_cons, List.length_append, he, flat_len he L, List.length_cons, Nat.add_mul]; omega
theorem flat_at (he : ∀ x, (enc x).length = s) : ∀ (L : List α) (i j : Nat), j < s → (flat enc L)[i * s + j]? = (L[i]?).bind (fun x => (enc x)[j]?)
  | [], i, j, _ => by simp [flat]
  | x :: L, 0, j, hj => by rw [flat_cons, List.getElem?_append_left (by rw [he]; omega)]; simp
  | x :: L, i + 1, j, hj => by
    rw [flat_cons, List.getElem?_append_right (by rw [he, Nat.add_mul]; omega), he, show (i + 1) * s + j - s = i * s + j from by rw [Nat.add_mul]; omega, flat_at he L i j hj]
    simp
theorem flat_take (he : ∀ x, (enc x).length = s) : ∀ (L : List α) (k : Nat), (flat enc L).take (k * s) = flat enc (L.take k)
  | [], k => by simp [flat]
  | x :: L, 0 => by simp [flat]
  | x :: L, k + 1 => by
    rw [flat_cons, List.take_succ_cons, flat_cons, List.take_append, he, List.take_of_length_le (by rw [he, Nat.add_mul]; omega), show (k + 1) * s - s = k * s from by rw [Nat.add_mul]; omega, flat_take he L k]
theorem flat_drop (he : ∀ x, (enc x).length = s) : ∀ (L : List α) (k : Nat), (flat enc L).drop (k * s) = flat enc (L.drop k)
  | [], k => by simp [flat]
  | x :: L, 0 => by simp
  | x :: L, k + 1 => by
    rw [flat_cons, List.drop_succ_cons, List.drop_append, he, List.drop_of_length_le (by rw [he, Nat.add_mul]; omega), show (k + 1) * s - s = k * s from by rw [Nat.add_mul]; omega, flat_drop he L k, List.nil_append]
theorem flat_set (he : ∀ x, (enc x).length = s) : ∀ (L : List α) (i j : Nat) (x y : α) (v : Value), L[i]? = some x → j < s → enc y = (enc x).set j v → (flat enc L).set (i * s + j) v = flat enc (L.set i y)
  | [], i, j, x, y, v, h, _, _ => by simp at h
  | z :: L, 0, j, x, y, v, h, hj, hy => by
    simp only [List.getElem?_cons_zero, Option.some.injEq] at h; subst h
    rw [flat_cons, List.set_cons_zero, flat_cons, List.set_append_left _ _ (by rw [he]; omega), hy, Nat.zero_mul, Nat.zero_add]
  | z :: L, i + 1, j, x, y, v, h, hj, hy => by
    simp only [List.getElem?_cons_succ] at h
    rw [flat_cons, List.set_cons_succ, flat_cons, List.set_append_right _ _ (by rw [he, Nat.add_mul]; omega), he, show (i + 1) * s + j - s = i * s + j from by rw [Nat.add_mul]; omega, flat_set he L i j x y v h hj hy]
end

section
variable {w w' : World} {base g n cap size : Nat} {e : TypeId} {xs : List Value}
theorem own_parts (h : w.ownsRow base e size (.slice (some ⟨g, 0, none⟩) n cap) n xs) :
    ∃ cur : Array Value, base ≤ g ∧ Blk w g e cur ∧ n ≤ cap ∧ cap ≤ maxLen ∧ cur.size = cap * size ∧ cur.toList.take (n * size) = xs := by
  rcases h.2 with ⟨h0, _⟩ | ⟨g', cap', cur, hv, h1, h2, h3, h4, h5, h6⟩
  · cases h0
  · injection hv with hv _ hc
    injection hv with hv; injection hv with hv _ _
    subst hv; subst hc
    exact ⟨cur, h1, h2, h3, h4, h5, h6⟩
theorem own_cell (h : w.ownsRow base e size (.slice (some ⟨g, 0, none⟩) n cap) n xs) {i : Nat} {v : Value} (hv : xs[i]? = some v) : w.cell? ⟨g, i, none⟩ = some v := by
  obtain ⟨cur, _, hb, _, _, _, ht⟩ := own_parts h
  rw [← ht, List.getElem?_take] at hv
  split at hv
  · rw [hb.cell i]; simpa using hv
  · cases hv
theorem own_free (h : w.ownsRow base e size (.slice (some ⟨g, 0, none⟩) n cap) n xs) (i : Nat) : w.frozen? ⟨g, i, none⟩ = false := by
  obtain ⟨cur, _, hb, _⟩ := own_parts h
  exact hb.frozen i
theorem own_lt (h : w.ownsRow base e size (.slice (some ⟨g, 0, none⟩) n cap) n xs) : g < w.heap.size := by
  obtain ⟨cur, _, hb, _⟩ := own_parts h
  exact hb.lt
theorem own_set (h : w.ownsRow base e size (.slice (some ⟨g, 0, none⟩) n cap) n xs) (i : Nat) (v : Value) : (w.setCell ⟨g, i, none⟩ v).ownsRow base e size (.slice (some ⟨g, 0, none⟩) n cap) n (xs.set i v) := by
  obtain ⟨cur, h1, h2, h3, h4, h5, h6⟩ := own_parts h
  refine ⟨by rw [List.length_set]; exact h.1, .inr ⟨g, cap, cur.setIfInBounds i v, rfl, h1, h2.set_ i v, h3, h4, by rw [Array.size_setIfInBounds]; exact h5, ?_⟩⟩
  rw [Array.toList_setIfInBounds, List.take_set, h6]
theorem own_setRow (h : w.ownsRow base e size (.slice (some ⟨g, 0, none⟩) n cap) n xs) {u : Addr} (hu : u.block ≠ g) (v : Value) : (w.setCell u v).ownsRow base e size (.slice (some ⟨g, 0, none⟩) n cap) n xs :=
  own_mod h ((Mod.refl (At u.block) w).setCell (.inr rfl) v) (fun k hk e => by injection hk with hk; exact hu (e.symm.trans hk.symm))
theorem own_rdC {A : Option Addr} {c : Nat} (h : w.ownsRow base e size (.slice A n c) n xs) : RdC w A n size xs := by
  refine ⟨h.1, fun hn => ?_⟩
  obtain ⟨g, cap, cur, hv, _, hb, hnc, _, hcs, ht⟩ := own_blk h hn
  injection hv with hA _ _
  refine ⟨g, 0, hA, fun j v hj => ?_⟩
  rw [Nat.zero_add, hb.cell j]
  rw [← ht, List.getElem?_take] at hj
  split at hj
  · simpa using hj
  · cases hj
end
end Go.Proofs.Ytjndcgpfikngaaa
