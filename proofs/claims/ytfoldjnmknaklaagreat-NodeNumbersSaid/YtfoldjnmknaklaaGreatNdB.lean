/- A right node's page is got as it. No step of the program. -/
import Derived.Test.YtfoldjnmknaklaaGreatNd7
namespace Go.Proofs.YtfoldjnmknaklaaGreat
open Go.RowKit

theorem rows_cut {k : Nat} : ∀ {L : List (List Nat)} (_ : ∀ r ∈ L, r.length = k) (T : List Nat) {i : Nat} {r : List Nat}, L[i]? = some r → ((L.flatten ++ T).drop (i * k)).take k = r
  | [], _, _, _, _, h => by simp at h
  | a :: L, hr, T, 0, r, h => by
    injection h with h
    subst h
    rw [List.flatten_cons, Nat.zero_mul, List.drop_zero, List.append_assoc, List.take_left' (hr a List.mem_cons_self)]
  | a :: L, hr, T, i + 1, r, h => by
    have ha := hr a List.mem_cons_self
    rw [List.flatten_cons, Nat.add_mul, Nat.one_mul, Nat.add_comm, ← List.drop_drop, List.append_assoc, List.drop_left' ha]
    exact rows_cut (fun x hx => hr x (List.mem_cons_of_mem _ hx)) T h
/-- row i, behind something -/
theorem cut_rows {k : Nat} {L : List (List Nat)} (h : ∀ r ∈ L, r.length = k) (A T : List Nat) {i : Nat} {r : List Nat} (hr : L[i]? = some r) : ((A ++ (L.flatten ++ T)).drop (A.length + k * i)).take k = r := by
  rw [← List.drop_drop, List.drop_left' rfl, Nat.mul_comm]
  exact rows_cut h T hr
theorem ngetD_drop (l : List Nat) (i j : Nat) : (l.drop i).getD j 0 = l.getD (i + j) 0 := by
  rw [List.getD_eq_getElem?_getD, List.getElem?_drop, List.getD_eq_getElem?_getD]
theorem ngetD_take (l : List Nat) {n j : Nat} (h : j < n) : (l.take n).getD j 0 = l.getD j 0 := by
  rw [List.getD_eq_getElem?_getD, List.getElem?_take_of_lt h, List.getD_eq_getElem?_getD]
theorem be4_cut (l : List Nat) (i : Nat) : be4 l i = be4 ((l.drop i).take 4) 0 := by
  unfold be4
  rw [ngetD_take _ (by omega), ngetD_take _ (by omega), ngetD_take _ (by omega), ngetD_take _ (by omega), ngetD_drop, ngetD_drop, ngetD_drop, ngetD_drop]
  simp only [Nat.add_zero, Nat.zero_add, Nat.add_assoc]
theorem be4_num {N : Nat} (h : N < 4294967296) : be4 (num N 4) 0 = N := by
  unfold be4 num num num num num
  simp
  omega
theorem map_range_eq {α : Type} (f : Nat → α) (L : List α) (h : ∀ i x, L[i]? = some x → f i = x) : (List.range L.length).map f = L := by
  apply List.ext_getElem?
  intro i
  rw [List.getElem?_map]
  rcases Nat.lt_or_ge i L.length with hi | hi
  · rw [List.getElem?_range hi]
    cases hx : L[i]? with
    | none => rw [List.getElem?_eq_none_iff] at hx; omega
    | some x => rw [Option.map_some, h i x hx]
  · rw [List.getElem?_eq_none (by simpa using hi), List.getElem?_eq_none hi]; rfl
/-- the page, told apart -/
theorem bytes_leaf {N : Nd} (hl : N.leaf = true) (hk : N.keys = []) (hc : N.kids = []) (he : N.ents.length ≤ 12) : ∃ T, N.bytes = [1, N.ents.length, 0, 0] ++ (N.ents.flatten ++ T) := by
  refine ⟨List.replicate (1020 - ([1, N.ents.length % 256, 0, 0] ++ N.ents.flatten ++ [] ++ []).length) 0 ++ num N.sum 4, ?_⟩
  unfold Nd.bytes Nd.body
  simp only [hl, if_true, hk, hc, List.map_nil, List.flatten_nil]
  rw [Nat.mod_eq_of_lt (by omega)]
  simp [List.append_assoc]
theorem bytes_inner {N : Nd} (hl : N.leaf = false) (he : N.ents = []) (hc : N.kids.length ≤ 20) : ∃ T, N.bytes = [2, N.kids.length, 0, 0] ++ (kidsB N.kids ++ (N.keys.flatten ++ T)) := by
  refine ⟨?_, ?_⟩
  rotate_left
  · unfold Nd.bytes Nd.body
    simp only [hl, he, List.flatten_nil, Bool.false_eq_true, if_false, List.append_nil]
    rw [Nat.mod_eq_of_lt (show N.kids.length < 256 by omega)]
    simp only [List.append_assoc]
    rfl
theorem right_parts {N : Nd} (hr : N.right = true) : (N.leaf = true ∧ N.keys = [] ∧ N.kids = [] ∧ N.ents.length ≤ 12) ∨ (N.leaf = false ∧ N.ents = [] ∧ 2 ≤ N.kids.length ∧ N.kids.length ≤ 20 ∧ N.keys.length + 1 = N.kids.length ∧ ∀ k ∈ N.kids, 0 ≤ k ∧ k ≤ 1048576) := by
  unfold Nd.right at hr
  split at hr
  · rename_i h
    simp only [Bool.and_eq_true, beq_iff_eq, decide_eq_true_eq] at hr
    exact .inl ⟨h, List.eq_nil_of_length_eq_zero hr.1.1.1, List.eq_nil_of_length_eq_zero hr.1.1.2, hr.1.2⟩
  · rename_i h
    simp only [Bool.and_eq_true, beq_iff_eq, decide_eq_true_eq, List.all_eq_true] at hr
    exact .inr ⟨by simpa using h, List.eq_nil_of_length_eq_zero hr.1.1.1.1.2, hr.1.1.1.2, hr.1.1.2, hr.1.2, hr.1.1.1.1.1⟩
/-- what is put is got -/
theorem nd_back {N : Nd} (hok : N.ok) (hr : N.right = true) : isNd N.bytes ∧ ndOf N.bytes = N := by
  have hb := bytes_ok hok hr
  have key : ndOf N.bytes = N ∧ cntOk N.bytes := by
    rcases right_parts hr with ⟨hl, hk, hc, he⟩ | ⟨hl, he, h2, h20, hkl, hkid⟩
    · obtain ⟨T, hT⟩ := bytes_leaf hl hk hc he
      have g0 : N.bytes.getD 0 0 = 1 := by rw [hT]; rfl
      have g1 : N.bytes.getD 1 0 = N.ents.length := by rw [hT]; rfl
      refine ⟨?_, by rw [g1]; omega, fun _ => by rw [g1]; exact he⟩
      unfold ndOf ndUp
      rw [if_pos g0, g1, map_range_eq _ N.ents (fun i x hx => by
        unfold cutE
        rw [hT]
        exact cut_rows (fun r h => (hok.e r h).1) [1, N.ents.length, 0, 0] T hx)]
      cases N
      simp_all
    · obtain ⟨T, hT⟩ := bytes_inner hl he h20
      have g0 : N.bytes.getD 0 0 = 2 := by rw [hT]; rfl
      have g1 : N.bytes.getD 1 0 = N.kids.length := by rw [hT]; rfl
      refine ⟨?_, by rw [g1]; exact h20, fun h => by rw [g0] at h; omega⟩
      unfold ndOf ndUp
      rw [if_neg (by rw [g0]; decide), g1, show N.kids.length - 1 = N.keys.length from by omega,
        map_range_eq _ N.keys (fun i x hx => by
          unfold keyAt
          rw [hT, ← List.append_assoc]
          have := cut_rows (fun r h => (hok.k r h).1) ([2, N.kids.length, 0, 0] ++ kidsB N.kids) T hx
          rw [List.length_append, kidsB_len] at this
          exact this),
        map_range_eq _ N.kids (fun i x hx => by
          have hx' := hkid x (List.mem_of_getElem? hx)
          unfold kidAt
          rw [hT, be4_cut, show kidsB N.kids = (N.kids.map (fun k => num k.toNat 4)).flatten from rfl, show 4 + 4 * i = ([2, N.kids.length, 0, 0] : List Nat).length + 4 * i from rfl, cut_rows (k := 4) (L := N.kids.map (fun k => num k.toNat 4)) (r := num x.toNat 4) (fun r h => by
            obtain ⟨k, -, rfl⟩ := List.mem_map.1 h
            exact num_len 4 _) [2, N.kids.length, 0, 0] (N.keys.flatten ++ T) (by rw [List.getElem?_map, hx]; rfl), be4_num (by omega)]
          omega)]
      cases N
      simp_all
  exact ⟨⟨hb.1, key.2, by rw [key.1]; exact hr, by rw [key.1]⟩, key.1⟩
/-- two pages with one sum part whose bodies have unlike sums are not both nodes' -/
theorem page_parts {l : List Nat} (h : isNd l) : l = (ndOf l).body ++ num (crcS 2197175160#32 0#32 (ndOf l).body).toNat 4 := h.2.2.2.symm
theorem num_inj {a b : Nat} (ha : a < 4294967296) (hb : b < 4294967296) (h : num a 4 = num b 4) : a = b := by
  rw [← be4_num ha, ← be4_num hb, h]
theorem page_sum {l : List Nat} (h : isNd l) (hz : ∀ z ∈ l, z < 256) : l = l.take 1020 ++ num (crcS 2197175160#32 0#32 (l.take 1020)).toNat 4 := by
  have e := page_parts h
  have hok : (ndOf l).ok := ndUp_ok h.1 hz h.2.1 (Nat.le_refl _)
  have hb := (body_ok hok h.2.2.1).1
  have ht : l.take 1020 = (ndOf l).body := by
    have : (l.take 1020) = ((ndOf l).body ++ num (crcS 2197175160#32 0#32 (ndOf l).body).toNat 4).take 1020 := congrArg (List.take 1020) e
    rw [this, List.take_left' hb]
  rw [ht]; exact e
/-- a page with another body under the same sum is none -/
theorem page_turned {l m : List Nat} (h : isNd l) (hz : ∀ z ∈ l, z < 256) (hmz : ∀ z ∈ m, z < 256) (hs : m.drop 1020 = l.drop 1020) (hne : crcS 2197175160#32 0#32 (m.take 1020) ≠ crcS 2197175160#32 0#32 (l.take 1020)) : ¬ isNd m := fun hm => by
  have e1 := page_sum h hz
  have e2 := page_sum hm hmz
  have hl : (l.take 1020).length = 1020 := by rw [List.length_take, h.1]; rfl
  have hl2 : (m.take 1020).length = 1020 := by rw [List.length_take, hm.1]; rfl
  have d1 : l.drop 1020 = num (crcS 2197175160#32 0#32 (l.take 1020)).toNat 4 := by
    have := congrArg (List.drop 1020) e1
    rwa [List.drop_left' hl] at this
  have d2 : m.drop 1020 = num (crcS 2197175160#32 0#32 (m.take 1020)).toNat 4 := by
    have := congrArg (List.drop 1020) e2
    rwa [List.drop_left' hl2] at this
  exact hne (BitVec.eq_of_toNat_eq (num_inj (BitVec.isLt _) (BitVec.isLt _) (by rw [← d2, hs, d1])))
/-- a page with the same body under another sum is none -/
theorem page_tail {l m : List Nat} (h : isNd l) (hz : ∀ z ∈ l, z < 256) (hmz : ∀ z ∈ m, z < 256) (hs : m.take 1020 = l.take 1020) (hne : m ≠ l) : ¬ isNd m := fun hm => by
  have e1 := page_sum h hz
  have e2 := page_sum hm hmz
  rw [hs, ← e1] at e2
  exact hne e2
end Go.Proofs.YtfoldjnmknaklaaGreat
