/- Frames (layer 10) in plain words. No program is named. -/
import Derived.Test.YtjndcgpfikngaaaCrc0
namespace Go.Proofs.Ytjndcgpfikngaaa

/-- n in k bytes, the greatest first -/
def num (n : Nat) : Nat → List Nat
  | 0 => []
  | k + 1 => num (n / 256) k ++ [n % 256]
theorem num_len : ∀ (k n : Nat), (num n k).length = k
  | 0, _ => rfl
  | k + 1, n => by rw [num, List.length_append, num_len k]; rfl
theorem num_lt : ∀ (k n : Nat), ∀ z ∈ num n k, z < 256
  | 0, _, z, h => by cases h
  | k + 1, n, z, h => by
    rcases List.mem_append.1 h with h | h
    · exact num_lt k _ z h
    · rw [List.mem_singleton.1 h]; exact Nat.mod_lt _ (by omega)
/-- byte i of n in k bytes, as a loop from the greatest down writes it -/
theorem num_at : ∀ (k n i : Nat), i < k → (num n k)[i]? = some (n / 2 ^ (8 * (k - 1 - i)) % 256)
  | 0, _, _, h => by omega
  | k + 1, n, i, h => by
    rw [num]
    by_cases hi : i < k
    · rw [List.getElem?_append_left (by rw [num_len]; exact hi), num_at k _ i hi]
      congr 2
      rw [Nat.div_div_eq_div_mul, show k + 1 - 1 - i = (k - 1 - i) + 1 from by omega, show 8 * (k - 1 - i + 1) = 8 + 8 * (k - 1 - i) from by omega, Nat.pow_add]
    · rw [List.getElem?_append_right (by rw [num_len]; omega), num_len, show i - k = 0 from by omega, show k + 1 - 1 - i = 0 from by omega]
      simp
theorem num_take (n k j : Nat) (h : j < k) : (num n k).take (j + 1) = (num n k).take j ++ [n / 2 ^ (8 * (k - 1 - j)) % 256] := by
  rw [List.take_add_one, num_at k n j h]; rfl
/-- what bytes say as a number -/
def said (l : List Nat) : Nat := l.foldl (fun n c => 256 * n + c) 0
theorem said_snoc (l : List Nat) (c : Nat) : said (l ++ [c]) = 256 * said l + c := by unfold said; rw [List.foldl_append]; rfl
theorem said_num : ∀ (k n : Nat), said (num n k) = n % 256 ^ k
  | 0, n => by simp [num, said, Nat.mod_one]
  | k + 1, n => by
    rw [num, said_snoc, said_num k, Nat.pow_succ', Nat.mod_mul]
    omega
theorem said_num_lt (k n : Nat) (h : n < 256 ^ k) : said (num n k) = n := by rw [said_num, Nat.mod_eq_of_lt h]
theorem snoc_cases (l : List Nat) (h : 0 < l.length) : ∃ m c, l = m ++ [c] := ⟨l.dropLast, l.getLast (by intro e; rw [e] at h; cases h), (List.dropLast_concat_getLast _).symm⟩
theorem said_lt : ∀ (k : Nat) (l : List Nat), l.length = k → (∀ z ∈ l, z < 256) → said l < 256 ^ k
  | 0, l, h, _ => by rw [List.eq_nil_of_length_eq_zero h]; simp [said]
  | k + 1, l, h, hl => by
    obtain ⟨m, c, rfl⟩ := snoc_cases l (by omega)
    have hm := said_lt k m (by simpa using h) (fun z hz => hl z (List.mem_append_left _ hz))
    have hc := hl c (by simp)
    rw [said_snoc, Nat.pow_succ]
    omega
theorem num_said : ∀ (k : Nat) (l : List Nat), l.length = k → (∀ z ∈ l, z < 256) → num (said l) k = l
  | 0, l, h, _ => by rw [List.eq_nil_of_length_eq_zero h]; rfl
  | k + 1, l, h, hl => by
    obtain ⟨m, c, rfl⟩ := snoc_cases l (by omega)
    have hc := hl c (by simp)
    rw [num, said_snoc, show (256 * said m + c) / 256 = said m from by omega, show (256 * said m + c) % 256 = c from by omega, num_said k m (by simpa using h) (fun z hz => hl z (List.mem_append_left _ hz))]
/-- a frame's bytes -/
structure Fr where
  kind : Nat
  epoch : Nat
  seq : Nat
  data : List Nat
def Fr.body (f : Fr) : List Nat := [112, 101, 97, 116, f.kind % 256, 0, 0, 0] ++ num f.epoch 8 ++ num f.seq 8 ++ num f.data.length 4 ++ f.data
def fsec (n : Nat) : Nat := (28 + n + 4 + 511) / 512
def Fr.sum (f : Fr) : Nat := (crcS 2197175160#32 0#32 f.body).toNat
def Fr.bytes (f : Fr) : List Nat := f.body ++ num f.sum 4 ++ List.replicate (512 * fsec f.data.length - (32 + f.data.length)) 0
theorem Fr.body_len (f : Fr) : f.body.length = 28 + f.data.length := by simp [Fr.body, num_len]; omega
theorem fsec_le (n : Nat) : 32 + n ≤ 512 * fsec n ∧ 512 * fsec n < 32 + n + 512 := by unfold fsec; omega
theorem Fr.bytes_len (f : Fr) : f.bytes.length = 512 * fsec f.data.length := by
  have := fsec_le f.data.length
  rw [Fr.bytes, List.length_append, List.length_append, Fr.body_len, num_len, List.length_replicate]
  omega
theorem Fr.body_lt (f : Fr) (hd : ∀ z ∈ f.data, z < 256) : ∀ z ∈ f.body, z < 256 := fun z hz => by
  unfold Fr.body at hz
  rcases List.mem_append.1 hz with hz | hz
  · rcases List.mem_append.1 hz with hz | hz
    · rcases List.mem_append.1 hz with hz | hz
      · rcases List.mem_append.1 hz with hz | hz
        · simp at hz; omega
        · exact num_lt _ _ z hz
      · exact num_lt _ _ z hz
    · exact num_lt _ _ z hz
  · exact hd z hz
theorem Fr.bytes_lt (f : Fr) (hd : ∀ z ∈ f.data, z < 256) : ∀ z ∈ f.bytes, z < 256 := fun z hz => by
  unfold Fr.bytes at hz
  rcases List.mem_append.1 hz with hz | hz
  · rcases List.mem_append.1 hz with hz | hz
    · exact f.body_lt hd z hz
    · exact num_lt _ _ z hz
  · rw [(List.mem_replicate.1 hz).2]; omega
/-- is it one? the numbers' bounds -/
def Fr.ok (f : Fr) : Prop := f.kind ≤ 255 ∧ f.epoch ≤ 1099511627776 ∧ f.seq ≤ 1099511627776 ∧ f.data.length ≤ 32768
/-- the frame that bytes say, whether they hold it or not -/
def frOf (b : List Nat) : Fr := ⟨b.getD 4 0, said ((b.drop 8).take 8), said ((b.drop 16).take 8), (b.drop 28).take (said ((b.drop 24).take 4))⟩
def frLong (b : List Nat) : Nat := said ((b.drop 24).take 4)
/-- do bytes begin with a frame? -/
def Holds (b : List Nat) : Prop := 512 ≤ b.length ∧ (frOf b).epoch ≤ 1099511627776 ∧ (frOf b).seq ≤ 1099511627776 ∧ frLong b ≤ 32768 ∧ 512 * fsec (frLong b) ≤ b.length ∧ b.take (512 * fsec (frLong b)) = (frOf b).bytes
end Go.Proofs.Ytjndcgpfikngaaa
