/- CRC in plain words: what CrcFinds and CrcParts ask. No program is named. -/
import Derived.Test.YtijmkbhbpbkkoaaGreatCrcB
namespace Go.Proofs.YtijmkbhbpbkkoaaGreat

theorem getD_in {a : List Nat} {i : Nat} (h : i < a.length) : a.getD i 0 = a[i] := by rw [List.getD_eq_getElem?_getD, List.getElem?_eq_getElem h]; rfl
theorem getD_out {a : List Nat} {i : Nat} (h : ¬ i < a.length) : a.getD i 0 = 0 := by rw [List.getD_eq_getElem?_getD, List.getElem?_eq_none (by omega)]; rfl
/-- bit j of byte i parts just if e says so of 8i+j -/
def Flip (a b : List Nat) (e : Nat → Bool) : Prop :=
  a.length = b.length ∧ ∀ i, i < a.length → ∀ k, k < 8 → e (8 * i + k) = (BitVec.ofNat 32 (a.getD i 0) ^^^ BitVec.ofNat 32 (b.getD i 0)).getLsbD k
/-- the first k of v's bits, from at_ on -/
def eAt (at_ : Nat) (v : BitVec 32) (k : Nat) (t : Nat) : Bool := decide (at_ ≤ t) && (decide (t < at_ + k) && v.getLsbD (t - at_))
theorem flip_zero (b : List Nat) (at_ : Nat) (v : BitVec 32) : Flip b b (eAt at_ v 0) := by
  refine ⟨rfl, fun i _ k _ => ?_⟩
  rw [BitVec.xor_self]
  unfold eAt
  by_cases h : at_ ≤ 8 * i + k
  · rw [show decide (8 * i + k < at_ + 0) = false from by simp; omega]; simp
  · simp [h]
theorem eAt_succ (at_ : Nat) (v : BitVec 32) (k t : Nat) : eAt at_ v (k + 1) t = (eAt at_ v k t ^^ (decide (t = at_ + k) && v.getLsbD k)) := by
  unfold eAt
  by_cases h : t = at_ + k
  · subst h; simp
  · by_cases h1 : at_ ≤ t
    · have h2 : decide (t < at_ + (k + 1)) = decide (t < at_ + k) := by congr 1; apply propext; omega
      rw [h2]; simp [h]
    · simp [h1, h]
theorem flip_skip {a b : List Nat} {at_ k : Nat} {v : BitVec 32} (h : Flip a b (eAt at_ v k)) (hv : v.getLsbD k = false) : Flip a b (eAt at_ v (k + 1)) :=
  ⟨h.1, fun i hi j hj => by rw [eAt_succ, hv, Bool.and_false, Bool.xor_false]; exact h.2 i hi j hj⟩
theorem getD_set (b : List Nat) (i j x : Nat) (hi : i < b.length) : (b.set i x).getD j 0 = if j = i then x else b.getD j 0 := by
  rw [List.getD_eq_getElem?_getD, List.getD_eq_getElem?_getD, List.getElem?_set]
  by_cases h : i = j
  · subst h; simp [hi]
  · simp [h, show ¬ j = i from fun e => h e.symm]
theorem pow_bit (s j : Nat) (hs : s < 8) (hj : j < 8) : (BitVec.ofNat 32 (2 ^ s)).getLsbD j = decide (j = s) := by
  have : ∀ s : Fin 8, ∀ j : Fin 8, (BitVec.ofNat 32 (2 ^ s.val)).getLsbD j.val = decide (j.val = s.val) := by decide
  exact this ⟨s, hs⟩ ⟨j, hj⟩
theorem ofNat_xor8 (c d : Nat) (hc : c < 256) (hd : d < 256) : BitVec.ofNat 32 (c ^^^ d) = BitVec.ofNat 32 c ^^^ BitVec.ofNat 32 d := by
  apply BitVec.eq_of_toNat_eq
  have : c ^^^ d < 2 ^ 8 := Nat.xor_lt_two_pow (by omega) (by omega)
  rw [BitVec.toNat_xor, BitVec.toNat_ofNat, BitVec.toNat_ofNat, BitVec.toNat_ofNat, Nat.mod_eq_of_lt (show c < 2 ^ 32 by omega), Nat.mod_eq_of_lt (show d < 2 ^ 32 by omega), Nat.mod_eq_of_lt (show c ^^^ d < 2 ^ 32 by omega)]
theorem xor8_lt (c d : Nat) (hc : c < 256) (hd : d < 256) : c ^^^ d < 256 := Nat.xor_lt_two_pow (n := 8) hc hd
theorem pow_lt8 (s : Nat) (hs : s < 8) : 2 ^ s < 256 := by
  have : ∀ s : Fin 8, 2 ^ s.val < 256 := by decide
  exact this ⟨s, hs⟩
theorem flip_set {a b : List Nat} {at_ k : Nat} {v : BitVec 32} (h : Flip a b (eAt at_ v k)) (hv : v.getLsbD k = true) (hb : ∀ z ∈ b, z < 256) (hi : (at_ + k) / 8 < b.length) :
    Flip a (b.set ((at_ + k) / 8) (b.getD ((at_ + k) / 8) 0 ^^^ 2 ^ ((at_ + k) % 8))) (eAt at_ v (k + 1)) := by
  refine ⟨by rw [List.length_set]; exact h.1, fun i hia j hj => ?_⟩
  have h0 := h.2 i hia j hj
  rw [eAt_succ, hv, Bool.and_true, h0, getD_set _ _ _ _ hi]
  have hs : (at_ + k) % 8 < 8 := Nat.mod_lt _ (by omega)
  by_cases he : i = (at_ + k) / 8
  · rw [if_pos he, he]
    have hbi : b.getD ((at_ + k) / 8) 0 < 256 := by
      rw [getD_in hi]
      exact hb _ (List.getElem_mem hi)
    have hd : decide (8 * ((at_ + k) / 8) + j = at_ + k) = decide (j = (at_ + k) % 8) := by
      congr 1; apply propext; omega
    rw [ofNat_xor8 _ _ hbi (pow_lt8 _ hs), BitVec.getLsbD_xor, BitVec.getLsbD_xor, BitVec.getLsbD_xor, pow_bit _ _ hs hj, hd, ← Bool.xor_assoc]
  · rw [if_neg he]
    have : ¬ 8 * i + j = at_ + k := by omega
    simp [this]
theorem set_lt {b : List Nat} {i x : Nat} (hb : ∀ z ∈ b, z < 256) (hx : x < 256) : ∀ z ∈ b.set i x, z < 256 := fun z hz => by
  rcases List.mem_or_eq_of_mem_set hz with h | rfl
  · exact hb z h
  · exact hx
/-- a burst of 32 bits is found -/
theorem finds_ne (p s : BitVec 32) (hp : p.getLsbD 31 = true) {a b : List Nat} {at_ : Nat} {v : BitVec 32} (h : Flip a b (eAt at_ v 32)) (hv : v ≠ 0#32) (ha : ∀ z ∈ a, z < 256) (hb : ∀ z ∈ b, z < 256) (hat : at_ + 32 ≤ 8 * a.length) :
    crcS p s a ≠ crcS p s b := by
  intro he
  unfold crcS at he
  have he' : crcF p (~~~ s) a = crcF p (~~~ s) b := by
    have := congrArg (fun x => ~~~ x) he
    simpa [BitVec.not_not] using this
  have h1 := crcF_dif p (eAt at_ v 32) a b 0 (~~~ s) (~~~ s) h.1 (by rw [BitVec.xor_self]; rfl) (fun i hi k hk => by rw [Nat.zero_add]; exact h.2 i hi k hk) ha hb
  rw [he', BitVec.xor_self, Nat.zero_add] at h1
  obtain ⟨k, hk⟩ : ∃ k, 8 * a.length = at_ + 32 + k := ⟨8 * a.length - (at_ + 32), by omega⟩
  rw [hk] at h1
  refine dif_ne p hp (eAt at_ v 32) at_ v hv (fun t ht => ?_) (fun m hm => ?_) (fun t ht => ?_) k h1.symm
  · unfold eAt; simp [show ¬ at_ ≤ t from by omega]
  · unfold eAt; simp [hm]
  · unfold eAt; simp [show ¬ t < at_ + 32 from by omega]
/-- one byte out of three -/
theorem odd_zero (a b c : Nat) (ha : a < 256) (hb : b < 256) (hc : c < 256) : BitVec.ofNat 32 a ^^^ BitVec.ofNat 32 b ^^^ BitVec.ofNat 32 c ^^^ BitVec.ofNat 32 (a ^^^ b ^^^ c) = 0#32 := by
  rw [ofNat_xor8 _ _ (xor8_lt _ _ ha hb) hc, ofNat_xor8 _ _ ha hb, BitVec.xor_self]
def odd3 (a b c : List Nat) (n : Nat) : List Nat := (List.range n).map (fun i => a.getD i 0 ^^^ b.getD i 0 ^^^ c.getD i 0)
theorem odd3_len (a b c : List Nat) (n : Nat) : (odd3 a b c n).length = n := by simp [odd3]
theorem getD_lt7 {a : List Nat} (ha : ∀ z ∈ a, z < 256) (i : Nat) : a.getD i 0 < 256 := by
  by_cases h : i < a.length
  · rw [getD_in h]; exact ha _ (List.getElem_mem h)
  · rw [getD_out h]; omega
theorem odd3_lt {a b c : List Nat} (n : Nat) (ha : ∀ z ∈ a, z < 256) (hb : ∀ z ∈ b, z < 256) (hc : ∀ z ∈ c, z < 256) : ∀ z ∈ odd3 a b c n, z < 256 := fun z hz => by
  obtain ⟨i, _, rfl⟩ := List.mem_map.1 hz
  exact xor8_lt _ _ (xor8_lt _ _ (getD_lt7 ha i) (getD_lt7 hb i)) (getD_lt7 hc i)
theorem getD_take7 (a : List Nat) (n i : Nat) (h : i < n) : (a.take n).getD i 0 = a.getD i 0 := by
  rw [List.getD_eq_getElem?_getD, List.getD_eq_getElem?_getD, List.getElem?_take, if_pos h]
theorem odd_sums (p s : BitVec 32) {a b c : List Nat} (n : Nat) (ha : ∀ z ∈ a, z < 256) (hb : ∀ z ∈ b, z < 256) (hc : ∀ z ∈ c, z < 256) (la : n ≤ a.length) (lb : n ≤ b.length) (lc : n ≤ c.length) :
    crcS p s (a.take n) ^^^ crcS p s (b.take n) ^^^ crcS p s (c.take n) ^^^ crcS p s (odd3 a b c n) = 0#32 := by
  refine crcS_xor4 p s n _ _ _ _ (by simp; omega) (by simp; omega) (by simp; omega) (odd3_len _ _ _ _) (fun i hi => ?_)
  rw [getD_take7 _ _ _ hi, getD_take7 _ _ _ hi, getD_take7 _ _ _ hi]
  have : (odd3 a b c n).getD i 0 = a.getD i 0 ^^^ b.getD i 0 ^^^ c.getD i 0 := by
    unfold odd3
    rw [getD_in (by simpa using hi)]; simp
  rw [this]
  exact odd_zero _ _ _ (getD_lt7 ha i) (getD_lt7 hb i) (getD_lt7 hc i)
theorem take_lt {a : List Nat} (n : Nat) (ha : ∀ z ∈ a, z < 256) : ∀ z ∈ a.take n, z < 256 := fun z hz => ha z (List.mem_of_mem_take hz)
theorem drop_lt {a : List Nat} (n : Nat) (ha : ∀ z ∈ a, z < 256) : ∀ z ∈ a.drop n, z < 256 := fun z hz => ha z (List.mem_of_mem_drop hz)
end Go.Proofs.YtijmkbhbpbkkoaaGreat
