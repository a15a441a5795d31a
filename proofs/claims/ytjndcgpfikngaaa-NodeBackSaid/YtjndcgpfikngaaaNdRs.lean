/- Rows that rise: one taken out, one put in twice; a page whose bits were turned. No step of the program. -/
import Derived.Test.YtjndcgpfikngaaaNdB
import Derived.Test.YtjndcgpfikngaaaCrc7
namespace Go.Proofs.Ytjndcgpfikngaaa
open Go.RowKit

theorem lexc_trans : ∀ {a b c : List Nat}, lexc a b < 0 → lexc b c < 0 → lexc a c < 0
  | [], [], _, h, _ => by simp [lexc] at h
  | [], _ :: _, [], _, h => by simp [lexc] at h
  | [], _ :: _, _ :: _, _, _ => by simp [lexc]
  | _ :: _, [], _, h, _ => by simp [lexc] at h
  | _ :: _, _ :: _, [], _, h => by simp [lexc] at h
  | a :: l, b :: k, c :: m, h1, h2 => by
    rw [lexc_cons] at h1 h2 ⊢
    by_cases hab : a < b
    · by_cases hbc : b < c
      · rw [if_pos (by omega)]; decide
      · rw [if_neg hbc] at h2
        by_cases hcb : c < b
        · rw [if_pos hcb] at h2; omega
        · have : b = c := by omega
          subst this
          rw [if_pos hab]; decide
    · rw [if_neg hab] at h1
      by_cases hba : b < a
      · rw [if_pos hba] at h1; omega
      · have : a = b := by omega
        subst this
        rw [if_neg hba] at h1
        by_cases hbc : a < c
        · rw [if_pos hbc]; decide
        · rw [if_neg hbc] at h2 ⊢
          by_cases hcb : c < a
          · rw [if_pos hcb] at h2; omega
          · rw [if_neg hcb] at h2 ⊢
            exact lexc_trans h1 h2
theorem rise_lt {L : List (List Nat)} (h : riseB L = true) {i : Nat} : ∀ (d : Nat), i + d + 1 < L.length → lexc (L.getD i []) (L.getD (i + d + 1) []) < 0
  | 0, hi => (rise_iff L).1 h i hi
  | d + 1, hi => lexc_trans (rise_lt h d (by omega)) ((rise_iff L).1 h (i + d + 1) hi)
theorem getD_take_drop (L : List (List Nat)) (a i : Nat) (ha : a < L.length) : (L.take a ++ L.drop (a + 1)).getD i [] = if i < a then L.getD i [] else L.getD (i + 1) [] := by
  rw [List.getD_eq_getElem?_getD]
  split
  · next h => rw [List.getElem?_append_left (by rw [List.length_take]; omega), List.getElem?_take_of_lt h, ← List.getD_eq_getElem?_getD]
  · next h =>
    rw [List.getElem?_append_right (by rw [List.length_take]; omega), List.length_take, Nat.min_eq_left (by omega), List.getElem?_drop, show a + 1 + (i - a) = i + 1 from by omega, ← List.getD_eq_getElem?_getD]
theorem rise_less {L : List (List Nat)} (h : riseB L = true) {a : Nat} (ha : a < L.length) : riseB (L.take a ++ L.drop (a + 1)) = true := by
  rw [rise_iff]
  intro i hi
  have hl : (L.take a ++ L.drop (a + 1)).length = L.length - 1 := by rw [List.length_append, List.length_take, List.length_drop]; omega
  rw [hl] at hi
  rw [getD_take_drop L a i ha, getD_take_drop L a (i + 1) ha]
  by_cases h1 : i + 1 < a
  · rw [if_pos (by omega), if_pos h1]
    exact (rise_iff L).1 h i (by omega)
  · rw [if_neg h1]
    by_cases h2 : i < a
    · rw [if_pos h2]
      exact rise_lt h 1 (by omega)
    · rw [if_neg h2]
      exact (rise_iff L).1 h (i + 1) (by omega)
theorem rise_twice {L : List (List Nat)} {x : List Nat} {a : Nat} (ha : a < L.length) (hx : L.getD a [] = x) : riseB (L ++ [x]) = false := by
  cases hb : riseB (L ++ [x]) with
  | false => rfl
  | true =>
    have hl : (L ++ [x]).length = L.length + 1 := by simp
    have := rise_lt hb (i := a) (L.length - a - 1) (by omega)
    rw [show a + (L.length - a - 1) + 1 = L.length from by omega] at this
    have e1 : (L ++ [x]).getD a [] = x := by rw [List.getD_eq_getElem?_getD, List.getElem?_append_left ha, ← List.getD_eq_getElem?_getD, hx]
    have e2 : (L ++ [x]).getD L.length [] = x := by rw [List.getD_eq_getElem?_getD, List.getElem?_append_right (Nat.le_refl _), Nat.sub_self]; rfl
    rw [e1, e2, lexc_self] at this
    omega
/-- the part of a row that is looked at -/
theorem flip_take {a b : List Nat} {at_ n : Nat} {v : BitVec 32} {k : Nat} (h : Flip a b (eAt at_ v k)) (hn : n ≤ a.length) : Flip (a.take n) (b.take n) (eAt at_ v k) := by
  refine ⟨by rw [List.length_take, List.length_take, h.1], fun i hi j hj => ?_⟩
  rw [List.length_take] at hi
  rw [getD_take7 a n i (by omega), getD_take7 b n i (by omega)]
  exact h.2 i (by omega) j hj
theorem flip_same {a b : List Nat} {at_ : Nat} {v : BitVec 32} {k i : Nat} (h : Flip a b (eAt at_ v k)) (ha : ∀ z ∈ a, z < 256) (hb : ∀ z ∈ b, z < 256) (hi : i < a.length) (hat : at_ + k ≤ 8 * i) : a.getD i 0 = b.getD i 0 := by
  have hz : BitVec.ofNat 32 (a.getD i 0) ^^^ BitVec.ofNat 32 (b.getD i 0) = 0#32 := by
    apply BitVec.eq_of_getLsbD_eq
    intro j hj
    rw [BitVec.getLsbD_zero]
    rcases Nat.lt_or_ge j 8 with h8 | h8
    · rw [← h.2 i hi j h8]
      unfold eAt
      simp [show ¬ 8 * i + j < at_ + k from by omega]
    · have la := getD_lt7 ha i
      have lb := getD_lt7 hb i
      have hp : 2 ^ 8 ≤ 2 ^ j := Nat.pow_le_pow_right (by omega) h8
      have la' : a.getD i 0 < 2 ^ j := Nat.lt_of_lt_of_le (show a.getD i 0 < 2 ^ 8 from la) hp
      have lb' : b.getD i 0 < 2 ^ j := Nat.lt_of_lt_of_le (show b.getD i 0 < 2 ^ 8 from lb) hp
      rw [BitVec.getLsbD_xor, BitVec.getLsbD_ofNat, BitVec.getLsbD_ofNat, Nat.testBit_lt_two_pow la', Nat.testBit_lt_two_pow lb']
      simp
  have he : BitVec.ofNat 32 (a.getD i 0) = BitVec.ofNat 32 (b.getD i 0) := by
    have := congrArg (· ^^^ BitVec.ofNat 32 (b.getD i 0)) hz
    simpa [BitVec.xor_assoc] using this
  have := congrArg BitVec.toNat he
  have la := getD_lt7 ha i
  have lb := getD_lt7 hb i
  rwa [BitVec.toNat_ofNat, BitVec.toNat_ofNat, Nat.mod_eq_of_lt (by omega), Nat.mod_eq_of_lt (by omega)] at this
/-- a node's page of which a burst of bits was turned is none's -/
theorem page_burst {l m : List Nat} {at_ : Nat} {v : BitVec 32} (h : isNd l) (hz : ∀ z ∈ l, z < 256) (hmz : ∀ z ∈ m, z < 256) (hf : Flip l m (eAt at_ v 32)) (hv : v ≠ 0#32) (hat : at_ + 32 ≤ 8160) : ¬ isNd m := by
  have hl := h.1
  refine page_turned h hz hmz ?_ (Ne.symm (finds_ne 2197175160#32 0#32 (by decide) (flip_take hf (n := 1020) (by omega)) hv (take_lt 1020 hz) (take_lt 1020 hmz) (by rw [List.length_take]; omega)))
  apply List.ext_getElem?
  intro i
  rw [List.getElem?_drop, List.getElem?_drop]
  have hml : m.length = 1024 := by rw [← hf.1, hl]
  rcases Nat.lt_or_ge (1020 + i) 1024 with hi | hi
  · have := flip_same hf hz hmz (i := 1020 + i) (by omega) (by omega)
    rw [getD_in (by omega), getD_in (by omega)] at this
    rw [List.getElem?_eq_getElem (by omega), List.getElem?_eq_getElem (by omega), this]
  · rw [List.getElem?_eq_none (by omega), List.getElem?_eq_none (by omega)]
end Go.Proofs.Ytjndcgpfikngaaa
