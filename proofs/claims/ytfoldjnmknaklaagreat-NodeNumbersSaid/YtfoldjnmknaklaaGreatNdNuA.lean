/- Own lemmas of several kinds, put together: NdRs, NdNu0, NdNu3, NdNu1. -/
import Derived.Test.YtfoldjnmknaklaaGreatNdB
import Derived.Test.YtfoldjnmknaklaaGreatCrc7
import Derived.Test.YtfoldjnmknaklaaGreatNdNu2
import Derived.Test.YtfoldjnmknaklaaGreatCrc5
import Derived.Test.YtfoldjnmknaklaaGreatNdF
import Derived.Test.YtfoldjnmknaklaaGreatKitB
/- Rows that rise: one taken out, one put in twice; a page whose bits were turned. No step of the program. -/
namespace Go.Proofs.YtfoldjnmknaklaaGreat
open Go.RowKit

theorem lexc_trans : ∀ {a b c : List Nat}, lexc a b < 0 → lexc b c < 0 → lexc a c < 0
  | [], [], _, h, _ => by simp [lexc] at h
  | [], _ :: _, [], _, h => by simp [lexc] at h
  | [], _ :: _, _ :: _, _, _ => by simp [lexc]
  | _ :: _, [], _, h, _ => by simp [lexc] at h
  | _ :: _, _ :: _, [], _, h => by simp [lexc] at h
  | a :: l, b :: k, c :: m, h1, h2 => by
    rw [lexc_cons] at h1 h2 ⊢
    by_cases hab : a < b
    · by_cases hbc : b < c
      · rw [if_pos (by omega)]; decide
      · rw [if_neg hbc] at h2
        by_cases hcb : c < b
        · rw [if_pos hcb] at h2; omega
        · have : b = c := by omega
          subst this
          rw [if_pos hab]; decide
    · rw [if_neg hab] at h1
      by_cases hba : b < a
      · rw [if_pos hba] at h1; omega
      · have : a = b := by omega
        subst this
        rw [if_neg hba] at h1
        by_cases hbc : a < c
        · rw [if_pos hbc]; decide
        · rw [if_neg hbc] at h2 ⊢
          by_cases hcb : c < a
          · rw [if_pos hcb] at h2; omega
          · rw [if_neg hcb] at h2 ⊢
            exact lexc_trans h1 h2
theorem rise_lt {L : List (List Nat)} (h : riseB L = true) {i : Nat} : ∀ (d : Nat), i + d + 1 < L.length → lexc (L.getD i []) (L.getD (i + d + 1) []) < 0
  | 0, hi => (rise_iff L).1 h i hi
  | d + 1, hi => lexc_trans (rise_lt h d (by omega)) ((rise_iff L).1 h (i + d + 1) hi)
theorem getD_take_drop (L : List (List Nat)) (a i : Nat) (ha : a < L.length) : (L.take a ++ L.drop (a + 1)).getD i [] = if i < a then L.getD i [] else L.getD (i + 1) [] := by
  rw [List.getD_eq_getElem?_getD]
  split
  · next h => rw [List.getElem?_append_left (by rw [List.length_take]; omega), List.getElem?_take_of_lt h, ← List.getD_eq_getElem?_getD]
  · next h =>
    rw [List.getElem?_append_right (by rw [List.length_take]; omega), List.length_take, Nat.min_eq_left (by omega), List.getElem?_drop, show a + 1 + (i - a) = i + 1 from by omega, ← List.getD_eq_getElem?_getD]
theorem rise_less {L : List (List Nat)} (h : riseB L = true) {a : Nat} (ha : a < L.length) : riseB (L.take a ++ L.drop (a + 1)) = true := by
  rw [rise_iff]
  intro i hi
  have hl : (L.take a ++ L.drop (a + 1)).length = L.length - 1 := by rw [List.length_append, List.length_take, List.length_drop]; omega
  rw [hl] at hi
  rw [getD_take_drop L a i ha, getD_take_drop L a (i + 1) ha]
  by_cases h1 : i + 1 < a
  · rw [if_pos (by omega), if_pos h1]
    exact (rise_iff L).1 h i (by omega)
  · rw [if_neg h1]
    by_cases h2 : i < a
    · rw [if_pos h2]
      exact rise_lt h 1 (by omega)
    · rw [if_neg h2]
      exact (rise_iff L).1 h (i + 1) (by omega)
theorem rise_twice {L : List (List Nat)} {x : List Nat} {a : Nat} (ha : a < L.length) (hx : L.getD a [] = x) : riseB (L ++ [x]) = false := by
  cases hb : riseB (L ++ [x]) with
  | false => rfl
  | true =>
    have hl : (L ++ [x]).length = L.length + 1 := by simp
    have := rise_lt hb (i := a) (L.length - a - 1) (by omega)
    rw [show a + (L.length - a - 1) + 1 = L.length from by omega] at this
    have e1 : (L ++ [x]).getD a [] = x := by rw [List.getD_eq_getElem?_getD, List.getElem?_append_left ha, ← List.getD_eq_getElem?_getD, hx]
    have e2 : (L ++ [x]).getD L.length [] = x := by rw [List.getD_eq_getElem?_getD, List.getElem?_append_right (Nat.le_refl _), Nat.sub_self]; rfl
    rw [e1, e2, lexc_self] at this
    omega
/-- the part of a row that is looked at -/
theorem flip_take {a b : List Nat} {at_ n : Nat} {v : BitVec 32} {k : Nat} (h : Flip a b (eAt at_ v k)) (hn : n ≤ a.length) : Flip (a.take n) (b.take n) (eAt at_ v k) := by
  refine ⟨by rw [List.length_take, List.length_take, h.1], fun i hi j hj => ?_⟩
  rw [List.length_take] at hi
  rw [getD_take7 a n i (by omega), getD_take7 b n i (by omega)]
  exact h.2 i (by omega) j hj
theorem flip_same {a b : List Nat} {at_ : Nat} {v : BitVec 32} {k i : Nat} (h : Flip a b (eAt at_ v k)) (ha : ∀ z ∈ a, z < 256) (hb : ∀ z ∈ b, z < 256) (hi : i < a.length) (hat : at_ + k ≤ 8 * i) : a.getD i 0 = b.getD i 0 := by
  have hz : BitVec.ofNat 32 (a.getD i 0) ^^^ BitVec.ofNat 32 (b.getD i 0) = 0#32 := by
    apply BitVec.eq_of_getLsbD_eq
    intro j hj
    rw [BitVec.getLsbD_zero]
    rcases Nat.lt_or_ge j 8 with h8 | h8
    · rw [← h.2 i hi j h8]
      unfold eAt
      simp [show ¬ 8 * i + j < at_ + k from by omega]
    · have la := getD_lt7 ha i
      have lb := getD_lt7 hb i
      have hp : 2 ^ 8 ≤ 2 ^ j := Nat.pow_le_pow_right (by omega) h8
      have la' : a.getD i 0 < 2 ^ j := Nat.lt_of_lt_of_le (show a.getD i 0 < 2 ^ 8 from la) hp
      have lb' : b.getD i 0 < 2 ^ j := Nat.lt_of_lt_of_le (show b.getD i 0 < 2 ^ 8 from lb) hp
      rw [BitVec.getLsbD_xor, BitVec.getLsbD_ofNat, BitVec.getLsbD_ofNat, Nat.testBit_lt_two_pow la', Nat.testBit_lt_two_pow lb']
      simp
  have he : BitVec.ofNat 32 (a.getD i 0) = BitVec.ofNat 32 (b.getD i 0) := by
    have := congrArg (· ^^^ BitVec.ofNat 32 (b.getD i 0)) hz
    simpa [BitVec.xor_assoc] using this
  have := congrArg BitVec.toNat he
  have la := getD_lt7 ha i
  have lb := getD_lt7 hb i
  rwa [BitVec.toNat_ofNat, BitVec.toNat_ofNat, Nat.mod_eq_of_lt (by omega), Nat.mod_eq_of_lt (by omega)] at this
/-- a node's page of which a burst of bits was turned is none's -/
theorem page_burst {l m : List Nat} {at_ : Nat} {v : BitVec 32} (h : isNd l) (hz : ∀ z ∈ l, z < 256) (hmz : ∀ z ∈ m, z < 256) (hf : Flip l m (eAt at_ v 32)) (hv : v ≠ 0#32) (hat : at_ + 32 ≤ 8160) : ¬ isNd m := by
  have hl := h.1
  refine page_turned h hz hmz ?_ (Ne.symm (finds_ne 2197175160#32 0#32 (by decide) (flip_take hf (n := 1020) (by omega)) hv (take_lt 1020 hz) (take_lt 1020 hmz) (by rw [List.length_take]; omega)))
  apply List.ext_getElem?
  intro i
  rw [List.getElem?_drop, List.getElem?_drop]
  have hml : m.length = 1024 := by rw [← hf.1, hl]
  rcases Nat.lt_or_ge (1020 + i) 1024 with hi | hi
  · have := flip_same hf hz hmz (i := 1020 + i) (by omega) (by omega)
    rw [getD_in (by omega), getD_in (by omega)] at this
    rw [List.getElem?_eq_getElem (by omega), List.getElem?_eq_getElem (by omega), this]
  · rw [List.getElem?_eq_none (by omega), List.getElem?_eq_none (by omega)]
end Go.Proofs.YtfoldjnmknaklaaGreat

/- A node's page of which one byte was turned is none's. No step of the program. -/
namespace Go.Proofs.YtfoldjnmknaklaaGreat
open Go.RowKit

theorem byte_high {y : BitVec 32} (hy : y.toNat < 256) {j : Nat} (hj : 8 ≤ j) : y.getLsbD j = false := by
  have hp : 2 ^ 8 ≤ 2 ^ j := Nat.pow_le_pow_right (by omega) hj
  rw [BitVec.getLsbD]
  exact Nat.testBit_lt_two_pow (Nat.lt_of_lt_of_le (show y.toNat < 2 ^ 8 from hy) hp)
/-- one byte is a burst -/
theorem flip_byte {l : List Nat} {i x at_ : Nat} (hi : i < l.length) (ho : l.getD i 0 < 256) (hx : x < 256) (h1 : at_ ≤ 8 * i) (h2 : 8 * i + 8 ≤ at_ + 32) :
    Flip l (l.set i x) (eAt at_ ((BitVec.ofNat 32 (l.getD i 0) ^^^ BitVec.ofNat 32 x) <<< (8 * i - at_)) 32) := by
  have hy : (BitVec.ofNat 32 (l.getD i 0) ^^^ BitVec.ofNat 32 x).toNat < 256 := by
    rw [← ofNat_xor8 _ _ ho hx, BitVec.toNat_ofNat, Nat.mod_eq_of_lt (by have := xor8_lt _ _ ho hx; omega)]
    exact xor8_lt _ _ ho hx
  refine ⟨by rw [List.length_set], fun i' hi' j hj => ?_⟩
  rw [getD_set _ _ _ _ hi]
  unfold eAt
  rw [BitVec.getLsbD_shiftLeft]
  by_cases he : i' = i
  · subst he
    rw [if_pos rfl, decide_eq_true (show at_ ≤ 8 * i' + j from by omega), decide_eq_true (show 8 * i' + j < at_ + 32 from by omega), decide_eq_true (show 8 * i' + j - at_ < 32 from by omega), decide_eq_false (show ¬ 8 * i' + j - at_ < 8 * i' - at_ from by omega), show 8 * i' + j - at_ - (8 * i' - at_) = j from by omega]
    simp
  · rw [if_neg he, BitVec.xor_self, BitVec.getLsbD_zero]
    by_cases h3 : at_ ≤ 8 * i' + j
    · by_cases h4 : 8 * i' + j - at_ < 8 * i - at_
      · simp [h4]
      · rw [byte_high hy (show 8 ≤ 8 * i' + j - at_ - (8 * i - at_) from by omega)]
        simp
    · simp [h3]
theorem shl_ne {y : BitVec 32} (hy : y ≠ 0#32) (hlt : y.toNat < 256) {s : Nat} (hs : s ≤ 24) : y <<< s ≠ 0#32 := fun e => hy (by
  apply BitVec.eq_of_getLsbD_eq
  intro j hj
  rw [BitVec.getLsbD_zero]
  rcases Nat.lt_or_ge j 8 with h8 | h8
  · have := congrArg (fun z => z.getLsbD (j + s)) e
    simp only [BitVec.getLsbD_shiftLeft, BitVec.getLsbD_zero] at this
    rw [decide_eq_true (show j + s < 32 from by omega), decide_eq_false (show ¬ j + s < s from by omega), Nat.add_sub_cancel] at this
    simpa using this
  · exact byte_high hlt h8)
theorem xor_ne {a b : Nat} (ha : a < 256) (hb : b < 256) (h : a ≠ b) : BitVec.ofNat 32 a ^^^ BitVec.ofNat 32 b ≠ 0#32 := fun e => h (by
  have he : BitVec.ofNat 32 a = BitVec.ofNat 32 b := by
    have := congrArg (· ^^^ BitVec.ofNat 32 b) e
    simpa [BitVec.xor_assoc] using this
  have := congrArg BitVec.toNat he
  rwa [BitVec.toNat_ofNat, BitVec.toNat_ofNat, Nat.mod_eq_of_lt (by omega), Nat.mod_eq_of_lt (by omega)] at this)
/-- a byte set otherwise -/
theorem page_byte {l : List Nat} (h : isNd l) (hz : ∀ z ∈ l, z < 256) {i x : Nat} (hi : i < 1024) (hx : x < 256) (hne : x ≠ l.getD i 0) : ¬ isNd (l.set i x) := by
  have hl := h.1
  have ho : l.getD i 0 < 256 := getD_lt7 hz i
  rcases Nat.lt_or_ge i 1020 with h20 | h20
  · obtain ⟨at_, h1, h2, h3⟩ : ∃ at_, at_ ≤ 8 * i ∧ 8 * i + 8 ≤ at_ + 32 ∧ at_ + 32 ≤ 8160 := by
      rcases Nat.lt_or_ge (8 * i) 8128 with hh | hh
      · exact ⟨8 * i, by omega, by omega, by omega⟩
      · exact ⟨8128, by omega, by omega, by omega⟩
    refine page_burst h hz (set_lt hz hx) (flip_byte (by omega) ho hx h1 h2) (shl_ne (xor_ne ho hx (Ne.symm hne)) ?_ (by omega)) h3
    rw [← ofNat_xor8 _ _ ho hx, BitVec.toNat_ofNat, Nat.mod_eq_of_lt (by have := xor8_lt _ _ ho hx; omega)]
    exact xor8_lt _ _ ho hx
  · refine page_tail h hz (set_lt hz hx) ?_ (fun e => hne ?_)
    · rw [List.take_set, List.set_eq_of_length_le (by rw [List.length_take]; omega)]
    · have : (l.set i x).getD i 0 = l.getD i 0 := congrArg (fun m => m.getD i 0) e
      rwa [getD_set _ _ _ _ (by omega), if_pos rfl] at this
end Go.Proofs.YtfoldjnmknaklaaGreat

/- NodeNumbers' four nodes in plain words. -/
namespace Go.Proofs.YtfoldjnmknaklaaGreat
open Go.RowKit

def Nfl : Nd := ⟨true, entsF 12, [], []⟩
def Nif : Nd := ⟨false, [], keysF 20, kidsF 20⟩
theorem rows_dec {k : Nat} {L : List (List Nat)} (h : L.all (fun r => r.length == k && r.all (fun z => decide (z < 256))) = true) : Rows k L := fun r hr => by
  have := List.all_eq_true.1 h r hr
  simp only [Bool.and_eq_true, beq_iff_eq, List.all_eq_true, decide_eq_true_eq] at this
  exact this
theorem Nfl_ok : Nfl.ok := ⟨rows_dec (by decide +kernel), fun r hr => by cases hr⟩
theorem Nif_ok : Nif.ok := ⟨(fun r hr => by cases hr), rows_dec (by decide +kernel)⟩
theorem Nfl_right : Nfl.right = true := by decide +kernel
theorem Nif_right : Nif.right = true := by decide +kernel
theorem Nfl_len : Nfl.ents.length = 12 := by decide +kernel
theorem Nif_lens : Nif.keys.length = 19 ∧ Nif.kids.length = 20 := by decide +kernel
section
variable {w : World} {A K C : Option Addr}
theorem nfl_ndr (h : RdC w A 12 80 (bv (entsF 12).flatten)) : NdR w Nfl A 12 none 0 none 0 :=
  ⟨h, ⟨rfl, fun h => absurd h (by omega)⟩, Rd.nil _ _, Nfl_len, rfl, rfl, Nfl_ok, by omega, by omega, by omega⟩
theorem nif_ndr (hk : RdC w K 19 40 (bv (keysF 20).flatten)) (hc : Rd w C 20 ((kidsF 20).map (Value.int .i64))) : NdR w Nif none 0 K 19 C 20 :=
  ⟨⟨rfl, fun h => absurd h (by omega)⟩, hk, hc, rfl, Nif_lens.1, Nif_lens.2, Nif_ok, by omega, by omega, by omega⟩
end
/-- the four -/
def nodeF : Nat → Nd | 0 => Nfl | 1 => Nif | 2 => Nlf | _ => Nin
theorem nodeF_ok : ∀ i, (nodeF i).ok | 0 => Nfl_ok | 1 => Nif_ok | 2 => no_ok true | _ + 3 => Nin_ok
theorem nodeF_right : ∀ i, (nodeF i).right = true | 0 => Nfl_right | 1 => Nif_right | 2 => Nlf_right | _ + 3 => Nin_right
/-- their pages; a byte turned, none's -/
theorem nodeF_page (i : Nat) : isNd (nodeF i).bytes ∧ (nodeF i).bytes.length = 1024 ∧ (∀ z ∈ (nodeF i).bytes, z < 256) :=
  ⟨(nd_back (nodeF_ok i) (nodeF_right i)).1, bytes_ok (nodeF_ok i) (nodeF_right i)⟩
theorem nodeF_turned (i : Nat) {k : Nat} (hk : k < 1024) : ¬ isNd ((nodeF i).bytes.set k (((nodeF i).bytes.getD k 0 + 1) % 256)) := by
  obtain ⟨h1, -, h3⟩ := nodeF_page i
  exact page_byte h1 h3 hk (Nat.mod_lt _ (by omega)) (by have := getD_lt7 h3 k; omega)
end Go.Proofs.YtfoldjnmknaklaaGreat

/- peatbanklaw15.summed: a page's sum is made good. -/
namespace Go.Proofs.YtfoldjnmknaklaaGreat
open Go.RowKit

theorem set_four {m : List Nat} (h : m.length = 1024) (a b c d : Nat) : (((m.set 1020 a).set 1021 b).set 1022 c).set 1023 d = m.take 1020 ++ [a, b, c, d] := by
  obtain ⟨p, x0, x1, x2, x3, rfl, hp⟩ : ∃ p x0 x1 x2 x3, m = p ++ [x0, x1, x2, x3] ∧ p.length = 1020 := by
    refine ⟨m.take 1020, m[1020]'(by omega), m[1021]'(by omega), m[1022]'(by omega), m[1023]'(by omega), ?_, by rw [List.length_take]; omega⟩
    apply List.ext_getElem (by simp; omega)
    intro i h1 h2
    rcases Nat.lt_or_ge i 1020 with hi | hi
    · rw [List.getElem_append_left (by rw [List.length_take]; omega), List.getElem_take]
    · rw [List.getElem_append_right (by rw [List.length_take]; omega)]
      have hj : i = 1020 ∨ i = 1021 ∨ i = 1022 ∨ i = 1023 := by omega
      have ht : (m.take 1020).length = 1020 := by rw [List.length_take]; omega
      rcases hj with rfl | rfl | rfl | rfl <;> simp [ht]
  rw [List.set_append_right _ _ (by omega), List.set_append_right _ _ (by omega), List.set_append_right _ _ (by omega), List.set_append_right _ _ (by omega), hp, List.take_left' hp]
  rfl
section
variable {w : World} {base g c : Nat} {m : List Nat}
set_option maxRecDepth 100000 in
set_option maxHeartbeats 1600000 in
theorem summed_any (h : w.ownsRow base 5 1 (.slice (some ⟨g, 0, none⟩) 1024 c) 1024 (bv m)) (hm : m.length = 1024) (hz : ∀ z ∈ m, z < 256) (hc : 1024 ≤ c) :
    Calls Tryz.prog 11 #[.slice (some ⟨g, 0, none⟩) 1024 c] w fun e w' => e = .returned (.slice (some ⟨g, 0, none⟩) 1024 c) ∧ w'.ownsRow base 5 1 (.slice (some ⟨g, 0, none⟩) 1024 c) 1024 (bv (m.take 1020 ++ num (crcS cas 0#32 (m.take 1020)).toNat 4)) ∧ Mod (At g) w w' := by
  have hr : Rd w (some ⟨g, 0, none⟩) 1024 (bv m) := Rd.of_own h
  have hr1 := hr.pre (c := c) 1020 (by omega) hc
  rw [show (bv m).take 1020 = bv (m.take 1020) from by unfold bv; rw [List.map_take], subA_zero] at hr1
  have hlt : (crcS cas 0#32 (m.take 1020)).toNat < 4294967296 := (crcS cas 0#32 (m.take 1020)).isLt
  have HR := Lib.hid (And.intro hr1 (fun z (hz' : z ∈ m.take 1020) => hz z (List.mem_of_mem_take hz')))
  generalize hN : (crcS cas 0#32 (m.take 1020)).toNat = N at *
  obtain ⟨b0, h0⟩ : ∃ b, N / 2 ^ 24 % 256 = b := ⟨_, rfl⟩
  obtain ⟨b1, h1⟩ : ∃ b, N / 2 ^ 16 % 256 = b := ⟨_, rfl⟩
  obtain ⟨b2, h2⟩ : ∃ b, N / 2 ^ 8 % 256 = b := ⟨_, rfl⟩
  obtain ⟨b3, h3⟩ : ∃ b, N % 256 = b := ⟨_, rfl⟩
  have e0 : (N : Int) / 16777216 = (b0 : Int) := by omega
  have e1 : (N : Int) / 65536 % 256 = (b1 : Int) := by omega
  have e2 : (N : Int) / 256 % 256 = (b2 : Int) := by omega
  have e3 : (N : Int) % 256 = (b3 : Int) := by omega
  have hN4 := num4 N
  rw [h0, h1, h2, h3] at hN4
  have hs := set_four hm b0 b1 b2 b3
  have sz : ∀ {k : Nat} {l : List Nat}, l.length = 1024 → k < 1024 → ∀ {w' : World}, w'.ownsRow base 5 1 (.slice (some ⟨g, 0, none⟩) 1024 c) 1024 (bv l) → ∃ z, w'.cell? ⟨g, k, none⟩ = some (.int .u8 ((z : Nat) : Int)) := fun {k l} hl hk {w'} hb =>
    ⟨l[k]'(by omega), own_cell hb (by rw [bv_at, List.getElem?_eq_getElem (by omega)]; rfl)⟩
  have st : ∀ {k x : Nat} {l : List Nat} {w' : World}, w'.ownsRow base 5 1 (.slice (some ⟨g, 0, none⟩) 1024 c) 1024 (bv l) → (w'.setCell ⟨g, k, none⟩ (.int .u8 ((x : Nat) : Int))).ownsRow base 5 1 (.slice (some ⟨g, 0, none⟩) 1024 c) 1024 (bv (l.set k x)) := fun {k x l w'} hb => by
    have := own_set hb k (.int .u8 ((x : Nat) : Int))
    unfold bv at this ⊢
    rw [List.map_set]
    simpa using this
  have k1 := st (k := 1020) (x := b0) h
  have k2 := st (k := 1021) (x := b1) k1
  have k3 := st (k := 1022) (x := b2) k2
  have k4 := st (k := 1023) (x := b3) k3
  obtain ⟨z0, c0⟩ := sz (k := 1020) hm (by omega) h
  obtain ⟨z1, c1⟩ := sz (k := 1021) (by rw [List.length_set]; exact hm) (by omega) k1
  obtain ⟨z2, c2⟩ := sz (k := 1022) (by rw [List.length_set, List.length_set]; exact hm) (by omega) k2
  obtain ⟨z3, c3⟩ := sz (k := 1023) (by rw [List.length_set, List.length_set, List.length_set]; exact hm) (by omega) k3
  have m0 : Mod (At g) w ((((w.setCell ⟨g, 1020, none⟩ (.int .u8 b0)).setCell ⟨g, 1021, none⟩ (.int .u8 b1)).setCell ⟨g, 1022, none⟩ (.int .u8 b2)).setCell ⟨g, 1023, none⟩ (.int .u8 b3)) :=
    (((Mod.cellAt _ _ _ _).trans (Mod.cellAt _ _ _ _)).trans (Mod.cellAt _ _ _ _)).trans (Mod.cellAt _ _ _ _)
  have HO := Lib.hid (And.intro h (And.intro k1 (And.intro k2 (And.intro k3 (And.intro k4 m0)))))
  have HC := Lib.hid (And.intro c0 (And.intro c1 (And.intro c2 c3)))
  have HN := Lib.hid (And.intro hN (And.intro hN4 hs))
  have hcI : (1024 : Int) ≤ c := by omega
  clear h hr hr1 h0 h1 h2 h3 hN4 hs sz st k1 k2 k3 k4 c0 c1 c2 c3 m0 hz hN
  generalize m.take 1020 = p at *
  have hsum := fun w' (hx : Rd w' (some ⟨g, 0, none⟩) 1020 (bv p)) => ref_sum (c := c) hx HR.out.2 (by omega)
  rw [HN.out.1] at hsum
  have HS := Lib.hid hsum
  clear hsum
  go_enter Tryz.func11, Tryz.ntmps11
  go_wp2_with (first
    | (with_reducible change wpList _ _ _ (⟨some 5, _, _, _, _, _⟩ :: _) _ _
       go_must (refine wpList_sub_h 24 _ _ rfl rfl 5 1 Tryz.underlying24 size_u8n (A := some ⟨g, 0, none⟩) (n := 1024) (c := c) (h := 1020) rfl rfl (by omega) ?_)
       rw [subA_zero]))
  refine (HS.out w HR.out.1).mono ?_
  rintro r w1 ⟨rfl, rfl⟩
  go_wp2_with (first
    | (with_reducible change wpList _ _ _ (⟨none, Op.store _ (Operand.tmp 22) _, _, _, _, _⟩ :: _) _ _
       go_must (refine wpList_unit rfl (exec_store1 (P := Tryz.prog) (v := .int .u8 (b0 : Int)) 5 _ _ rfl rfl rfl HC.out.1 (own_free HO.out.1 _) rfl rfl rfl size_u8n) ?_))
    | (with_reducible change wpList _ _ _ (⟨none, Op.store _ (Operand.tmp 23) _, _, _, _, _⟩ :: _) _ _
       go_must (refine wpList_unit rfl (exec_store1 (P := Tryz.prog) (v := .int .u8 (b1 : Int)) 5 _ _ rfl rfl rfl HC.out.2.1 (own_free HO.out.2.1 _) rfl rfl rfl size_u8n) ?_))
    | (with_reducible change wpList _ _ _ (⟨none, Op.store _ (Operand.tmp 24) _, _, _, _, _⟩ :: _) _ _
       go_must (refine wpList_unit rfl (exec_store1 (P := Tryz.prog) (v := .int .u8 (b2 : Int)) 5 _ _ rfl rfl rfl HC.out.2.2.1 (own_free HO.out.2.2.1 _) rfl rfl rfl size_u8n) ?_))
    | (with_reducible change wpList _ _ _ (⟨none, Op.store _ (Operand.tmp 25) _, _, _, _, _⟩ :: _) _ _
       go_must (refine wpList_unit rfl (exec_store1 (P := Tryz.prog) (v := .int .u8 (b3 : Int)) 5 _ _ rfl rfl rfl HC.out.2.2.2 (own_free HO.out.2.2.2.1 _) rfl rfl rfl size_u8n) ?_)))
  go_ret
  refine ⟨rfl, ?_, HO.out.2.2.2.2.2⟩
  have hk := HO.out.2.2.2.2.1
  rw [HN.out.2.2] at hk
  rw [HN.out.2.1]
  exact hk
end
end Go.Proofs.YtfoldjnmknaklaaGreat
