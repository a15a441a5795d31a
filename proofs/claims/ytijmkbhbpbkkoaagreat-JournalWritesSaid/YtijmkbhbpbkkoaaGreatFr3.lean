/- Frames in plain words: what the two programs' loops reckon. No program is named. -/
import Derived.Test.YtijmkbhbpbkkoaaGreatFr1
namespace Go.Proofs.YtijmkbhbpbkkoaaGreat

/-- how many noughts stand behind the sum -/
def fz (n : Nat) : Nat := 512 * fsec n - (32 + n)
theorem fz_end (n : Nat) : (32 + n + fz n) % 512 = 0 := by unfold fz fsec; omega
theorem fz_min (n j : Nat) (h : j < fz n) : (32 + n + j) % 512 ≠ 0 := by unfold fz fsec at h; omega
theorem fz_lt (n : Nat) : fz n < 512 := by unfold fz fsec; omega
/-- the sectors, as the program reckons them -/
theorem fsec_go (n : Nat) : ((28 : Int) + n + 4 + 512 - 1) / 512 = (fsec n : Int) := by unfold fsec; omega
/-- one byte more, as the program reckons it: a shift and an or -/
theorem or_byte (a c : Nat) (hc : c < 256) : (256 * a) ||| c = 256 * a + c := by
  have := Nat.two_pow_add_eq_or_of_lt (i := 8) (show c < 2 ^ 8 from hc) a
  rw [show (2 : Nat) ^ 8 = 256 from rfl] at this
  exact this.symm
theorem said_take {l : List Nat} {j c : Nat} (h : l[j]? = some c) : said (l.take (j + 1)) = 256 * said (l.take j) + c := by
  rw [List.take_add_one, h]; exact said_snoc _ _
theorem said_take_lt (l : List Nat) (hl : ∀ z ∈ l, z < 256) (j : Nat) : said (l.take j) < 256 ^ (l.take j).length := said_lt _ _ rfl (fun z hz => hl z (List.mem_of_mem_take hz))
/-- eight bytes fit 64 bits -/
theorem said8 (l : List Nat) (hl : ∀ z ∈ l, z < 256) (h8 : l.length ≤ 8) (j : Nat) (hj : j < l.length) : 256 * said (l.take j) + 255 < 18446744073709551616 := by
  have h := said_take_lt l hl j
  have h2 : (l.take j).length ≤ 7 := by rw [List.length_take]; omega
  have h3 : (256 : Nat) ^ (l.take j).length ≤ 256 ^ 7 := Nat.pow_le_pow_right (by omega) h2
  have h4 : (256 : Nat) ^ 7 = 72057594037927936 := by decide
  omega
/-- the document's Get: too short for its own length, or put again it is another: nothing is held -/
theorem Holds.iff (b : List Nat) (hb : ∀ z ∈ b, z < 256) : Holds b ↔ 512 ≤ b.length ∧ (frOf b).epoch ≤ 1099511627776 ∧ (frOf b).seq ≤ 1099511627776 ∧ frLong b ≤ 32768 ∧ 32 + frLong b ≤ b.length ∧ (frOf b).bytes.length ≤ b.length ∧ b.take (frOf b).bytes.length = (frOf b).bytes := by
  have hs := fsec_le (frLong b)
  have hd : 32 + frLong b ≤ b.length → (frOf b).data.length = frLong b := fun h => by
    show ((b.drop 28).take (frLong b)).length = _
    rw [List.length_take, List.length_drop]; omega
  constructor
  · rintro ⟨h1, h2, h3, h4, h5, h6⟩
    have hl : (frOf b).bytes.length = 512 * fsec (frLong b) := by rw [Fr.bytes_len, hd (by omega)]
    exact ⟨h1, h2, h3, h4, by omega, by omega, by rw [hl]; exact h6⟩
  · rintro ⟨h1, h2, h3, h4, h5, h6, h7⟩
    have hl : (frOf b).bytes.length = 512 * fsec (frLong b) := by rw [Fr.bytes_len, hd h5]
    exact ⟨h1, h2, h3, h4, by omega, by rw [← hl]; exact h7⟩
end Go.Proofs.YtijmkbhbpbkkoaaGreat
