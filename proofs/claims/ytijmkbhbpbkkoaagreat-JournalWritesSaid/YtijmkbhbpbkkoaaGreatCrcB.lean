/- Own lemmas of several kinds, put together: Crc0, Fr0. -/
import Derived.Laws.BitsLemmas
import Derived.Lib.Hide
/- CRC in plain words: steps on 32 bits. No program is named. -/
namespace Go.Proofs.YtijmkbhbpbkkoaaGreat

/-- one bit's step -/
def cst (p x : BitVec 32) : BitVec 32 := (x >>> 1) ^^^ (if x.getLsbD 0 then p else 0#32)
def cstN (p : BitVec 32) : Nat → BitVec 32 → BitVec 32
  | 0, x => x
  | n + 1, x => cstN p n (cst p x)
/-- one byte's step, as the document has it -/
def cby (p x : BitVec 32) (c : Nat) : BitVec 32 := cstN p 8 (x ^^^ BitVec.ofNat 32 c)
/-- many bytes' -/
def crcF (p x : BitVec 32) (l : List Nat) : BitVec 32 := l.foldl (cby p) x
/-- the sum -/
def crcS (p s : BitVec 32) (l : List Nat) : BitVec 32 := ~~~ crcF p (~~~ s) l

theorem xor4 (a b c d : BitVec 32) : (a ^^^ b) ^^^ (c ^^^ d) = (a ^^^ c) ^^^ (b ^^^ d) := by
  rw [BitVec.xor_assoc, BitVec.xor_assoc, ← BitVec.xor_assoc b c d, BitVec.xor_comm b c, BitVec.xor_assoc c b d]
theorem cst_xor (p x y : BitVec 32) : cst p (x ^^^ y) = cst p x ^^^ cst p y := by
  unfold cst
  rw [BitVec.ushiftRight_xor_distrib, BitVec.getLsbD_xor, xor4]
  congr 1
  cases x.getLsbD 0 <;> cases y.getLsbD 0 <;> simp
theorem cst_zero (p : BitVec 32) : cst p 0#32 = 0#32 := by simp [cst]
theorem cstN_xor (p : BitVec 32) : ∀ (n : Nat) (x y : BitVec 32), cstN p n (x ^^^ y) = cstN p n x ^^^ cstN p n y
  | 0, _, _ => rfl
  | n + 1, x, y => by
    show cstN p n (cst p (x ^^^ y)) = _
    rw [cst_xor, cstN_xor p n]; rfl
theorem cstN_zero (p : BitVec 32) : ∀ n, cstN p n 0#32 = 0#32
  | 0 => rfl
  | n + 1 => by show cstN p n (cst p 0#32) = _; rw [cst_zero, cstN_zero p n]
theorem cstN_succ (p : BitVec 32) : ∀ (n : Nat) (x : BitVec 32), cstN p (n + 1) x = cst p (cstN p n x)
  | 0, _ => rfl
  | n + 1, x => by show cstN p (n + 1) (cst p x) = cst p (cstN p n (cst p x)); rw [cstN_succ p n]
theorem cstN_shift (p : BitVec 32) : ∀ (n : Nat) (x : BitVec 32), (∀ i, i < n → x.getLsbD i = false) → cstN p n x = x >>> n
  | 0, x, _ => by simp [cstN]
  | n + 1, x, h => by
    have h1 : cst p x = x >>> 1 := by unfold cst; rw [h 0 (by omega)]; simp
    show cstN p n (cst p x) = _
    rw [h1, cstN_shift p n (x >>> 1) (fun i hi => by rw [BitVec.getLsbD_ushiftRight]; exact h (1 + i) (by omega)), ← BitVec.shiftRight_add, Nat.add_comm]

theorem lohi (y : BitVec 32) : y = (y &&& 255#32) ^^^ (y &&& (~~~ 255#32)) := by
  apply BitVec.eq_of_getLsbD_eq
  intro i hi
  simp only [BitVec.getLsbD_xor, BitVec.getLsbD_and, BitVec.getLsbD_not, hi, decide_true, Bool.true_and]
  cases y.getLsbD i <;> cases (255#32).getLsbD i <;> rfl
theorem low8 (i : Nat) (hi : i < 8) : (255#32).getLsbD i = true := by
  have : ∀ j : Fin 8, (255#32).getLsbD j.val = true := by decide
  exact this ⟨i, hi⟩
theorem high8 (i : Nat) (hi : 8 ≤ i) (h32 : i < 32) : (255#32).getLsbD i = false := by
  have : ∀ j : Fin 32, 8 ≤ j.val → (255#32).getLsbD j.val = false := by decide
  exact this ⟨i, h32⟩ hi
theorem hi_shift (y : BitVec 32) : (y &&& (~~~ 255#32)) >>> 8 = y >>> 8 := by
  apply BitVec.eq_of_getLsbD_eq
  intro i hi
  rw [BitVec.getLsbD_ushiftRight, BitVec.getLsbD_ushiftRight, BitVec.getLsbD_and, BitVec.getLsbD_not]
  by_cases h : 8 + i < 32
  · rw [high8 (8 + i) (by omega) h]; simp [h]
  · rw [BitVec.getLsbD_of_ge y (8 + i) (by omega)]; simp
theorem cstN_split (p y : BitVec 32) : cstN p 8 y = (y >>> 8) ^^^ cstN p 8 (y &&& 255#32) := by
  have h : cstN p 8 (y &&& (~~~ 255#32)) = y >>> 8 := by
    rw [cstN_shift p 8 _ (fun i hi => by rw [BitVec.getLsbD_and, BitVec.getLsbD_not, low8 i hi]; simp), hi_shift]
  have h2 : cstN p 8 y = cstN p 8 ((y &&& 255#32) ^^^ (y &&& (~~~ 255#32))) := congrArg _ (lohi y)
  rw [h2, cstN_xor, h, BitVec.xor_comm]
theorem byte_shift (c : Nat) (hc : c < 256) : (BitVec.ofNat 32 c) >>> 8 = 0#32 := by
  apply BitVec.eq_of_toNat_eq
  rw [BitVec.toNat_ushiftRight, BitVec.toNat_ofNat, Nat.mod_eq_of_lt (by omega), Nat.shiftRight_eq_div_pow]
  simp; omega
/-- by the table: the row of the low byte, and the rest -/
theorem cby_table (p x : BitVec 32) (c : Nat) (hc : c < 256) : cby p x c = (x >>> 8) ^^^ cstN p 8 ((x ^^^ BitVec.ofNat 32 c) &&& 255#32) := by
  unfold cby
  rw [cstN_split, BitVec.ushiftRight_xor_distrib, byte_shift c hc, BitVec.xor_zero]

/-! ### the theorems of the chapter -/
theorem crcF_append (p x : BitVec 32) (a b : List Nat) : crcF p x (a ++ b) = crcF p (crcF p x a) b := by unfold crcF; rw [List.foldl_append]
theorem crcS_append (p s : BitVec 32) (a b : List Nat) : crcS p s (a ++ b) = crcS p (crcS p s a) b := by
  unfold crcS
  rw [crcF_append, BitVec.not_not]
theorem cby_xor4 (p x y z u : BitVec 32) (a b c d : Nat) (hs : x ^^^ y ^^^ z ^^^ u = 0#32) (hb : BitVec.ofNat 32 a ^^^ BitVec.ofNat 32 b ^^^ BitVec.ofNat 32 c ^^^ BitVec.ofNat 32 d = 0#32) :
    cby p x a ^^^ cby p y b ^^^ cby p z c ^^^ cby p u d = 0#32 := by
  unfold cby
  rw [← cstN_xor, ← cstN_xor, ← cstN_xor, xor4 x _ y _, xor4 (x ^^^ y) _ z _, xor4 (x ^^^ y ^^^ z) _ u _, hs, hb, BitVec.xor_zero, cstN_zero]
theorem crcF_xor4 (p : BitVec 32) : ∀ (n : Nat) (x y z u : BitVec 32) (a b c d : List Nat), a.length = n → b.length = n → c.length = n → d.length = n → x ^^^ y ^^^ z ^^^ u = 0#32 →
    (∀ i : Nat, i < n → BitVec.ofNat 32 (a.getD i 0) ^^^ BitVec.ofNat 32 (b.getD i 0) ^^^ BitVec.ofNat 32 (c.getD i 0) ^^^ BitVec.ofNat 32 (d.getD i 0) = 0#32) →
    crcF p x a ^^^ crcF p y b ^^^ crcF p z c ^^^ crcF p u d = 0#32
  | 0, x, y, z, u, a, b, c, d, ha, hb, hc, hd, hs, _ => by
    rw [List.eq_nil_of_length_eq_zero ha, List.eq_nil_of_length_eq_zero hb, List.eq_nil_of_length_eq_zero hc, List.eq_nil_of_length_eq_zero hd]
    exact hs
  | n + 1, x, y, z, u, a0 :: a, b0 :: b, c0 :: c, d0 :: d, ha, hb, hc, hd, hs, h => by
    show crcF p (cby p x a0) a ^^^ crcF p (cby p y b0) b ^^^ crcF p (cby p z c0) c ^^^ crcF p (cby p u d0) d = 0#32
    exact crcF_xor4 p n _ _ _ _ a b c d (by simpa using ha) (by simpa using hb) (by simpa using hc) (by simpa using hd) (cby_xor4 p x y z u a0 b0 c0 d0 hs (h 0 (by omega)))
      (fun i hi => h (i + 1) (by omega))
  | n + 1, _, _, _, _, [], _, _, _, ha, _, _, _, _, _ => by cases ha
  | n + 1, _, _, _, _, _ :: _, [], _, _, _, hb, _, _, _, _ => by cases hb
  | n + 1, _, _, _, _, _ :: _, _ :: _, [], _, _, _, hc, _, _, _ => by cases hc
  | n + 1, _, _, _, _, _ :: _, _ :: _, _ :: _, [], _, _, _, hd, _, _ => by cases hd
theorem crcS_xor4 (p s : BitVec 32) (n : Nat) (a b c d : List Nat) (ha : a.length = n) (hb : b.length = n) (hc : c.length = n) (hd : d.length = n)
    (h : ∀ i : Nat, i < n → BitVec.ofNat 32 (a.getD i 0) ^^^ BitVec.ofNat 32 (b.getD i 0) ^^^ BitVec.ofNat 32 (c.getD i 0) ^^^ BitVec.ofNat 32 (d.getD i 0) = 0#32) :
    crcS p s a ^^^ crcS p s b ^^^ crcS p s c ^^^ crcS p s d = 0#32 := by
  have hz : ∀ x : BitVec 32, x ^^^ x ^^^ x ^^^ x = 0#32 := fun x => by rw [BitVec.xor_self, BitVec.zero_xor, BitVec.xor_self]
  have := crcF_xor4 p n (~~~ s) (~~~ s) (~~~ s) (~~~ s) a b c d ha hb hc hd (hz _) h
  unfold crcS
  have hn : ∀ x : BitVec 32, ~~~ x = x ^^^ BitVec.allOnes 32 := fun x => by rw [BitVec.xor_allOnes]
  rw [hn (crcF p _ a), hn (crcF p _ b), hn (crcF p _ c), hn (crcF p _ d), xor4 _ _ (crcF p _ b) _, xor4 _ _ (crcF p _ c) _, xor4 _ _ (crcF p _ d) _, this, hz, BitVec.xor_zero]

/-! ### a burst of 32 bits is found -/
theorem cst_inj (p : BitVec 32) (hp : p.getLsbD 31 = true) (d : BitVec 32) (h : cst p d = 0#32) : d = 0#32 := by
  have h31 : (cst p d).getLsbD 31 = d.getLsbD 0 := by
    unfold cst
    rw [BitVec.getLsbD_xor, BitVec.getLsbD_ushiftRight, BitVec.getLsbD_of_ge d (1 + 31) (by omega)]
    cases d.getLsbD 0 <;> simp [hp]
  have h0 : d.getLsbD 0 = false := by rw [← h31, h]; simp
  have h1 : d >>> 1 = 0#32 := by
    have h2 : cst p d = d >>> 1 := by unfold cst; rw [h0]; simp
    rw [← h2]; exact h
  apply BitVec.eq_of_getLsbD_eq
  intro i hi
  rw [BitVec.getLsbD_zero]
  cases i with
  | zero => exact h0
  | succ j =>
    have := congrArg (fun v : BitVec 32 => v.getLsbD j) h1
    simp only [BitVec.getLsbD_ushiftRight, BitVec.getLsbD_zero] at this
    rw [Nat.add_comm] at this; exact this
theorem cstN_inj (p : BitVec 32) (hp : p.getLsbD 31 = true) : ∀ (n : Nat) (d : BitVec 32), cstN p n d = 0#32 → d = 0#32
  | 0, _, h => h
  | n + 1, d, h => cst_inj p hp d (cstN_inj p hp n _ h)

/-- bit by bit: the difference behind t bits, of which e tells the turned ones -/
def dif (p : BitVec 32) (e : Nat → Bool) : Nat → BitVec 32
  | 0 => 0#32
  | t + 1 => cst p (dif p e t ^^^ (if e t then 1#32 else 0#32))
/-- the bits of v below m -/
def lowB (v : BitVec 32) (m : Nat) : BitVec 32 := BitVec.ofNat 32 (v.toNat % 2 ^ m)
theorem lowB_bit (v : BitVec 32) (m i : Nat) : (lowB v m).getLsbD i = (decide (i < m) && v.getLsbD i) := by
  unfold lowB
  rw [BitVec.getLsbD_ofNat]
  by_cases h : i < 32
  · simp [h, Nat.testBit_mod_two_pow, BitVec.testBit_toNat]
  · rw [BitVec.getLsbD_of_ge v i (by omega)]; simp [h]
theorem one_bit (i : Nat) : (1#32).getLsbD i = decide (i = 0) := by
  by_cases h : i < 32
  · have : ∀ j : Fin 32, (1#32).getLsbD j.val = decide (j.val = 0) := by decide
    exact this ⟨i, h⟩
  · rw [BitVec.getLsbD_of_ge _ i (by omega)]; simp; omega
/-- bit m of v, at its place -/
def bitAt (v : BitVec 32) (m : Nat) : BitVec 32 := if v.getLsbD m then 1#32 <<< m else 0#32
theorem lowB_succ (v : BitVec 32) (m : Nat) : lowB v (m + 1) = lowB v m ^^^ bitAt v m := by
  apply BitVec.eq_of_getLsbD_eq
  intro i hi
  rw [BitVec.getLsbD_xor, lowB_bit, lowB_bit]
  unfold bitAt
  by_cases hm : v.getLsbD m = true
  · rw [if_pos hm, BitVec.getLsbD_shiftLeft, one_bit]
    by_cases h1 : i < m
    · simp [h1, show i < m + 1 from by omega]
    · by_cases h2 : i = m
      · subst h2; simp [hi, hm]
      · simp [h1, show ¬ i < m + 1 from by omega, show ¬ i - m = 0 from by omega]
  · rw [if_neg hm]
    by_cases h1 : i < m
    · simp [h1, show i < m + 1 from by omega]
    · by_cases h2 : i = m
      · subst h2; simp [hm]
      · simp [h1, show ¬ i < m + 1 from by omega]
theorem bitAt_steps (p v : BitVec 32) (m : Nat) (hm : m < 32) : cstN p m (bitAt v m) = if v.getLsbD m then 1#32 else 0#32 := by
  unfold bitAt
  by_cases h : v.getLsbD m = true
  · rw [if_pos h, if_pos h, cstN_shift p m _ (fun i hi => by rw [BitVec.getLsbD_shiftLeft]; simp [hi])]
    apply BitVec.eq_of_getLsbD_eq
    intro i hi
    rw [BitVec.getLsbD_ushiftRight, BitVec.getLsbD_shiftLeft, one_bit, one_bit]
    by_cases h0 : i = 0
    · subst h0; simp [hm]
    · simp [h0, show ¬ m + i - m = 0 from by omega]
  · rw [if_neg h, if_neg h, cstN_zero]
theorem dif_before (p : BitVec 32) (e : Nat → Bool) (at_ : Nat) (h : ∀ t, t < at_ → e t = false) : ∀ t, t ≤ at_ → dif p e t = 0#32
  | 0, _ => rfl
  | t + 1, ht => by
    show cst p _ = _
    rw [dif_before p e at_ h t (by omega), h t (by omega)]
    simp [cst_zero]
theorem dif_in (p : BitVec 32) (e : Nat → Bool) (at_ : Nat) (v : BitVec 32) (h : ∀ t, t < at_ → e t = false) (hv : ∀ m, m < 32 → e (at_ + m) = v.getLsbD m) : ∀ m, m ≤ 32 → dif p e (at_ + m) = cstN p m (lowB v m)
  | 0, _ => by
    rw [Nat.add_zero, dif_before p e at_ h at_ (Nat.le_refl _)]
    show _ = lowB v 0
    simp [lowB, Nat.mod_one]
  | m + 1, hm => by
    show cst p (dif p e (at_ + m) ^^^ (if e (at_ + m) then 1#32 else 0#32)) = _
    rw [dif_in p e at_ v h hv m (by omega), hv m (by omega), lowB_succ, cstN_succ, cstN_xor, bitAt_steps p v m (by omega)]
theorem dif_after (p : BitVec 32) (e : Nat → Bool) (n : Nat) (h : ∀ t, n ≤ t → e t = false) : ∀ k, dif p e (n + k) = cstN p k (dif p e n)
  | 0 => rfl
  | k + 1 => by
    show cst p (dif p e (n + k) ^^^ (if e (n + k) then 1#32 else 0#32)) = _
    rw [h (n + k) (by omega), dif_after p e n h k, cstN_succ]; simp
theorem dif_ne (p : BitVec 32) (hp : p.getLsbD 31 = true) (e : Nat → Bool) (at_ : Nat) (v : BitVec 32) (h0 : v ≠ 0#32) (h : ∀ t, t < at_ → e t = false) (hv : ∀ m, m < 32 → e (at_ + m) = v.getLsbD m)
    (ha : ∀ t, at_ + 32 ≤ t → e t = false) (k : Nat) : dif p e (at_ + 32 + k) ≠ 0#32 := by
  intro hz
  rw [dif_after p e (at_ + 32) ha k] at hz
  have h1 := cstN_inj p hp k _ hz
  rw [dif_in p e at_ v h hv 32 (Nat.le_refl _)] at h1
  have h2 := cstN_inj p hp 32 _ h1
  apply h0
  rw [← h2]
  unfold lowB
  rw [Nat.mod_eq_of_lt v.isLt, BitVec.ofNat_toNat]; simp
/-- a byte's eight bits, one by one -/
theorem dif_byte (p : BitVec 32) (e : Nat → Bool) (t : Nat) (c : Nat) (hc : ∀ k, k < 8 → e (t + k) = (BitVec.ofNat 32 c).getLsbD k) : ∀ k, k ≤ 8 → dif p e (t + k) = cstN p k (dif p e t ^^^ lowB (BitVec.ofNat 32 c) k)
  | 0, _ => by
    show _ = dif p e t ^^^ lowB _ 0
    simp [lowB, Nat.mod_one]
  | k + 1, hk => by
    show cst p (dif p e (t + k) ^^^ (if e (t + k) then 1#32 else 0#32)) = _
    rw [dif_byte p e t c hc k (by omega), hc k (by omega), lowB_succ, ← BitVec.xor_assoc, cstN_succ, cstN_xor p k _ (bitAt _ _), bitAt_steps p _ k (by omega)]
theorem lowB_byte (c : Nat) (hc : c < 256) : lowB (BitVec.ofNat 32 c) 8 = BitVec.ofNat 32 c := by
  unfold lowB
  rw [BitVec.toNat_ofNat, Nat.mod_eq_of_lt (show c < 2 ^ 32 by omega), Nat.mod_eq_of_lt (show c < 2 ^ 8 by omega)]
/-- the sums' difference is 'dif' of the bits in which the bytes differ -/
theorem crcF_dif (p : BitVec 32) (e : Nat → Bool) : ∀ (a b : List Nat) (j : Nat) (x y : BitVec 32), a.length = b.length → x ^^^ y = dif p e (8 * j) → (∀ i, i < a.length → ∀ k, k < 8 → e (8 * (j + i) + k) = (BitVec.ofNat 32 (a.getD i 0) ^^^ BitVec.ofNat 32 (b.getD i 0)).getLsbD k) →
    (∀ z ∈ a, z < 256) → (∀ z ∈ b, z < 256) → crcF p x a ^^^ crcF p y b = dif p e (8 * (j + a.length))
  | [], b, j, x, y, hl, hx, _, _, _ => by
    rw [List.eq_nil_of_length_eq_zero (show b.length = 0 from hl.symm)]
    exact hx
  | c :: a, [], _, _, _, hl, _, _, _, _ => by cases hl
  | c :: a, d :: b, j, x, y, hl, hx, he, ha, hb => by
    show crcF p (cby p x c) a ^^^ crcF p (cby p y d) b = _
    have hcl : c < 256 := ha c (by simp)
    have hdl : d < 256 := hb d (by simp)
    have hcd : BitVec.ofNat 32 (c ^^^ d) = BitVec.ofNat 32 c ^^^ BitVec.ofNat 32 d := by
      apply BitVec.eq_of_toNat_eq
      have : c ^^^ d < 2 ^ 8 := Nat.xor_lt_two_pow (by omega) (by omega)
      rw [BitVec.toNat_xor, BitVec.toNat_ofNat, BitVec.toNat_ofNat, BitVec.toNat_ofNat, Nat.mod_eq_of_lt (show c < 2 ^ 32 by omega), Nat.mod_eq_of_lt (show d < 2 ^ 32 by omega), Nat.mod_eq_of_lt (show c ^^^ d < 2 ^ 32 by omega)]
    have hcdl : c ^^^ d < 256 := Nat.xor_lt_two_pow (n := 8) hcl hdl
    have h8 := dif_byte p e (8 * j) (c ^^^ d) (fun k hk => by rw [hcd]; exact he 0 (by simp) k hk) 8 (Nat.le_refl _)
    rw [lowB_byte _ hcdl, hcd] at h8
    have h := crcF_dif p e a b (j + 1) (cby p x c) (cby p y d) (by simpa using hl) (by
      unfold cby
      rw [← cstN_xor, xor4, hx, ← h8, show 8 * (j + 1) = 8 * j + 8 from by omega]) (fun i hi k hk => by
        have := he (i + 1) (by simp; omega) k hk
        rw [show j + 1 + i = j + (i + 1) from by omega]
        simpa using this) (fun z hz => ha z (List.mem_cons_of_mem _ hz)) (fun z hz => hb z (List.mem_cons_of_mem _ hz))
    rw [h, show j + 1 + a.length = j + (c :: a).length from by simp; omega]
end Go.Proofs.YtijmkbhbpbkkoaaGreat

/- Frames (layer 10) in plain words. No program is named. -/
namespace Go.Proofs.YtijmkbhbpbkkoaaGreat

/-- n in k bytes, the greatest first -/
def num (n : Nat) : Nat → List Nat
  | 0 => []
  | k + 1 => num (n / 256) k ++ [n % 256]
theorem num_len : ∀ (k n : Nat), (num n k).length = k
  | 0, _ => rfl
  | k + 1, n => by rw [num, List.length_append, num_len k]; rfl
theorem num_lt : ∀ (k n : Nat), ∀ z ∈ num n k, z < 256
  | 0, _, z, h => by cases h
  | k + 1, n, z, h => by
    rcases List.mem_append.1 h with h | h
    · exact num_lt k _ z h
    · rw [List.mem_singleton.1 h]; exact Nat.mod_lt _ (by omega)
/-- byte i of n in k bytes, as a loop from the greatest down writes it -/
theorem num_at : ∀ (k n i : Nat), i < k → (num n k)[i]? = some (n / 2 ^ (8 * (k - 1 - i)) % 256)
  | 0, _, _, h => by omega
  | k + 1, n, i, h => by
    rw [num]
    by_cases hi : i < k
    · rw [List.getElem?_append_left (by rw [num_len]; exact hi), num_at k _ i hi]
      congr 2
      rw [Nat.div_div_eq_div_mul, show k + 1 - 1 - i = (k - 1 - i) + 1 from by omega, show 8 * (k - 1 - i + 1) = 8 + 8 * (k - 1 - i) from by omega, Nat.pow_add]
    · rw [List.getElem?_append_right (by rw [num_len]; omega), num_len, show i - k = 0 from by omega, show k + 1 - 1 - i = 0 from by omega]
      simp
theorem num_take (n k j : Nat) (h : j < k) : (num n k).take (j + 1) = (num n k).take j ++ [n / 2 ^ (8 * (k - 1 - j)) % 256] := by
  rw [List.take_add_one, num_at k n j h]; rfl
/-- what bytes say as a number -/
def said (l : List Nat) : Nat := l.foldl (fun n c => 256 * n + c) 0
theorem said_snoc (l : List Nat) (c : Nat) : said (l ++ [c]) = 256 * said l + c := by unfold said; rw [List.foldl_append]; rfl
theorem said_num : ∀ (k n : Nat), said (num n k) = n % 256 ^ k
  | 0, n => by simp [num, said, Nat.mod_one]
  | k + 1, n => by
    rw [num, said_snoc, said_num k, Nat.pow_succ', Nat.mod_mul]
    omega
theorem said_num_lt (k n : Nat) (h : n < 256 ^ k) : said (num n k) = n := by rw [said_num, Nat.mod_eq_of_lt h]
theorem snoc_cases (l : List Nat) (h : 0 < l.length) : ∃ m c, l = m ++ [c] := ⟨l.dropLast, l.getLast (by intro e; rw [e] at h; cases h), (List.dropLast_concat_getLast _).symm⟩
theorem said_lt : ∀ (k : Nat) (l : List Nat), l.length = k → (∀ z ∈ l, z < 256) → said l < 256 ^ k
  | 0, l, h, _ => by rw [List.eq_nil_of_length_eq_zero h]; simp [said]
  | k + 1, l, h, hl => by
    obtain ⟨m, c, rfl⟩ := snoc_cases l (by omega)
    have hm := said_lt k m (by simpa using h) (fun z hz => hl z (List.mem_append_left _ hz))
    have hc := hl c (by simp)
    rw [said_snoc, Nat.pow_succ]
    omega
theorem num_said : ∀ (k : Nat) (l : List Nat), l.length = k → (∀ z ∈ l, z < 256) → num (said l) k = l
  | 0, l, h, _ => by rw [List.eq_nil_of_length_eq_zero h]; rfl
  | k + 1, l, h, hl => by
    obtain ⟨m, c, rfl⟩ := snoc_cases l (by omega)
    have hc := hl c (by simp)
    rw [num, said_snoc, show (256 * said m + c) / 256 = said m from by omega, show (256 * said m + c) % 256 = c from by omega, num_said k m (by simpa using h) (fun z hz => hl z (List.mem_append_left _ hz))]
/-- a frame's bytes -/
structure Fr where
  kind : Nat
  epoch : Nat
  seq : Nat
  data : List Nat
def Fr.body (f : Fr) : List Nat := [112, 101, 97, 116, f.kind % 256, 0, 0, 0] ++ num f.epoch 8 ++ num f.seq 8 ++ num f.data.length 4 ++ f.data
def fsec (n : Nat) : Nat := (28 + n + 4 + 511) / 512
def Fr.sum (f : Fr) : Nat := (crcS 2197175160#32 0#32 f.body).toNat
def Fr.bytes (f : Fr) : List Nat := f.body ++ num f.sum 4 ++ List.replicate (512 * fsec f.data.length - (32 + f.data.length)) 0
theorem Fr.body_len (f : Fr) : f.body.length = 28 + f.data.length := by simp [Fr.body, num_len]; omega
theorem fsec_le (n : Nat) : 32 + n ≤ 512 * fsec n ∧ 512 * fsec n < 32 + n + 512 := by unfold fsec; omega
theorem Fr.bytes_len (f : Fr) : f.bytes.length = 512 * fsec f.data.length := by
  have := fsec_le f.data.length
  rw [Fr.bytes, List.length_append, List.length_append, Fr.body_len, num_len, List.length_replicate]
  omega
theorem Fr.body_lt (f : Fr) (hd : ∀ z ∈ f.data, z < 256) : ∀ z ∈ f.body, z < 256 := fun z hz => by
  unfold Fr.body at hz
  rcases List.mem_append.1 hz with hz | hz
  · rcases List.mem_append.1 hz with hz | hz
    · rcases List.mem_append.1 hz with hz | hz
      · rcases List.mem_append.1 hz with hz | hz
        · simp at hz; omega
        · exact num_lt _ _ z hz
      · exact num_lt _ _ z hz
    · exact num_lt _ _ z hz
  · exact hd z hz
theorem Fr.bytes_lt (f : Fr) (hd : ∀ z ∈ f.data, z < 256) : ∀ z ∈ f.bytes, z < 256 := fun z hz => by
  unfold Fr.bytes at hz
  rcases List.mem_append.1 hz with hz | hz
  · rcases List.mem_append.1 hz with hz | hz
    · exact f.body_lt hd z hz
    · exact num_lt _ _ z hz
  · rw [(List.mem_replicate.1 hz).2]; omega
/-- is it one? the numbers' bounds -/
def Fr.ok (f : Fr) : Prop := f.kind ≤ 255 ∧ f.epoch ≤ 1099511627776 ∧ f.seq ≤ 1099511627776 ∧ f.data.length ≤ 32768
/-- the frame that bytes say, whether they hold it or not -/
def frOf (b : List Nat) : Fr := ⟨b.getD 4 0, said ((b.drop 8).take 8), said ((b.drop 16).take 8), (b.drop 28).take (said ((b.drop 24).take 4))⟩
def frLong (b : List Nat) : Nat := said ((b.drop 24).take 4)
/-- do bytes begin with a frame? -/
def Holds (b : List Nat) : Prop := 512 ≤ b.length ∧ (frOf b).epoch ≤ 1099511627776 ∧ (frOf b).seq ≤ 1099511627776 ∧ frLong b ≤ 32768 ∧ 512 * fsec (frLong b) ≤ b.length ∧ b.take (512 * fsec (frLong b)) = (frOf b).bytes
end Go.Proofs.YtijmkbhbpbkkoaaGreat
