/- Frames in plain words: a bit turned, but of the length, is seen. No program is named. -/
import Derived.Test.YtodnhbiomooknaaGreatFr1
import Derived.Test.YtodnhbiomooknaaGreatCrc7
namespace Go.Proofs.YtodnhbiomooknaaGreat

/-- one bit -/
theorem flip_one (a : List Nat) (at_ j : Nat) (v : BitVec 32) (hv : ∀ k, k < 32 → v.getLsbD k = decide (k = j)) (ha : ∀ z ∈ a, z < 256) (hi : (at_ + j) / 8 < a.length) :
    ∀ k, k ≤ 32 → Flip a (if k ≤ j then a else a.set ((at_ + j) / 8) (a.getD ((at_ + j) / 8) 0 ^^^ 2 ^ ((at_ + j) % 8))) (eAt at_ v k)
  | 0, _ => by rw [if_pos (Nat.zero_le _)]; exact flip_zero a at_ v
  | k + 1, hk => by
    have ih := flip_one a at_ j v hv ha hi k (by omega)
    have hb := hv k (by omega)
    by_cases h1 : k < j
    · rw [if_pos (by omega)] at ih
      rw [if_pos (by omega)]
      exact flip_skip ih (by rw [hb]; simp; omega)
    · by_cases h2 : k = j
      · subst h2
        rw [if_pos (by omega)] at ih
        rw [if_neg (by omega)]
        exact flip_set ih (by rw [hb]; simp) ha hi
      · rw [if_neg (by omega)] at ih
        rw [if_neg (by omega)]
        exact flip_skip ih (by rw [hb]; simp [h2])
theorem sum_turned (a : List Nat) (ha : ∀ z ∈ a, z < 256) (h4 : 4 ≤ a.length) (i s : Nat) (hi : i < a.length) (hs : s < 8) :
    crcS 2197175160#32 0#32 (a.set i (a.getD i 0 ^^^ 2 ^ s)) ≠ crcS 2197175160#32 0#32 a := by
  obtain ⟨at_, j, h1, h2, h3⟩ : ∃ at_ j, at_ + j = 8 * i + s ∧ j < 32 ∧ at_ + 32 ≤ 8 * a.length := by
    by_cases h : 8 * i + s + 32 ≤ 8 * a.length
    · exact ⟨8 * i + s, 0, by omega, by omega, h⟩
    · exact ⟨8 * a.length - 32, 8 * i + s - (8 * a.length - 32), by omega, by omega, by omega⟩
  have hq : (at_ + j) / 8 = i := by omega
  have hr : (at_ + j) % 8 = s := by omega
  have hf := flip_one a at_ j (BitVec.twoPow 32 j) (fun k hk => by rw [BitVec.getLsbD_twoPow]; by_cases hkj : j = k <;> simp [hkj, hk, h2] <;> omega) ha (by rw [hq]; exact hi) 32 (Nat.le_refl _)
  rw [if_neg (by omega), hq, hr] at hf
  have hx : ∀ z ∈ a.set i (a.getD i 0 ^^^ 2 ^ s), z < 256 := set_lt ha (xor8_lt _ _ (getD_lt7 ha i) (pow_lt8 _ hs))
  have hv : BitVec.twoPow 32 j ≠ 0#32 := fun e => by
    have := congrArg (fun x => x.getLsbD j) e
    simp [BitVec.getLsbD_twoPow, h2] at this
  exact fun e => finds_ne _ _ (by decide) hf hv ha hx h3 e.symm
theorem Fr.body_at (f : Fr) : f.bytes.take (28 + f.data.length) = f.body := by
  rw [Fr.bytes, List.append_assoc, ← f.body_len, List.take_left']; rfl
theorem Fr.sum_at (f : Fr) : (f.bytes.drop (28 + f.data.length)).take 4 = num f.sum 4 := by
  rw [Fr.bytes, List.append_assoc]; exact mid _ _ _ f.body_len (num_len _ _)
theorem Fr.sum_lt (f : Fr) : f.sum < 256 ^ 4 := (crcS 2197175160#32 0#32 f.body).isLt
/-- a bit turned, but of the length -/
theorem Fr.turned (f : Fr) (h : f.ok) (hd : ∀ z ∈ f.data, z < 256) (i s : Nat) (hi : i < f.bytes.length) (hs : s < 8) (hout : i < 24 ∨ 28 ≤ i) :
    ¬ Holds (f.bytes.set i (f.bytes.getD i 0 ^^^ 2 ^ s)) := by
  intro hh
  have hbl := f.bytes_len
  have hbt := f.bytes_lt hd
  have hsec := fsec_le f.data.length
  obtain ⟨x, hx⟩ : ∃ x, f.bytes.getD i 0 ^^^ 2 ^ s = x := ⟨_, rfl⟩
  have hxlt : x < 256 := hx ▸ xor8_lt _ _ (getD_lt7 hbt i) (pow_lt8 _ hs)
  have hxne : x ≠ f.bytes.getD i 0 := by
    intro e
    rw [e] at hx
    have h2 : 2 ^ s = 0 := by
      have := congrArg (fun y => f.bytes.getD i 0 ^^^ y) hx
      simp [← Nat.xor_assoc, Nat.xor_self] at this
    have := Nat.two_pow_pos s
    omega
  rw [hx] at hh
  have hl : frLong (f.bytes.set i x) = f.data.length := by
    have := (f.got h []).1
    rw [List.append_nil] at this
    unfold frLong at this ⊢
    rw [← this]
    congr 1
    rcases hout with ho | ho
    · rw [List.drop_set, if_pos (by omega)]
    · rw [List.drop_set, if_neg (by omega), List.take_set_of_le (by omega)]
  obtain ⟨g, hg⟩ : ∃ g, frOf (f.bytes.set i x) = g := ⟨_, rfl⟩
  have hok := hh.ok (set_lt hbt hxlt)
  have heq := hh.2.2.2.2.2
  rw [hg, hl] at hok heq
  rw [List.take_of_length_le (by rw [List.length_set, hbl]; exact Nat.le_refl _)] at heq
  have hgl := hok.2
  have hgb := g.body_at
  have hgs := g.sum_at
  rw [hgl, ← heq] at hgb hgs
  by_cases hc : i < 28 + f.data.length
  · have hb : g.body = f.body.set i (f.body.getD i 0 ^^^ 2 ^ s) := by
      rw [← hgb, List.take_set, f.body_at, ← hx]
      congr 2
      rw [← f.body_at, getD_take7 _ _ _ hc]
    have hsum : num g.sum 4 = num f.sum 4 := by
      rw [← hgs, ← f.sum_at, List.drop_set, if_pos (by omega)]
    have hse : g.sum = f.sum := by
      have := congrArg said hsum
      rwa [said_num_lt _ _ g.sum_lt, said_num_lt _ _ f.sum_lt] at this
    have hcrc : crcS 2197175160#32 0#32 g.body = crcS 2197175160#32 0#32 f.body := BitVec.eq_of_toNat_eq hse
    rw [hb] at hcrc
    exact sum_turned f.body (f.body_lt hd) (by rw [f.body_len]; omega) i s (by rw [f.body_len]; omega) hs hcrc
  · have hb : g.body = f.body := by
      rw [← hgb, List.take_set_of_le (by omega), f.body_at]
    have hgf : g.bytes = f.bytes := by unfold Fr.bytes Fr.sum; rw [hb, hgl]
    rw [hgf] at heq
    have := congrArg (fun l => l.getD i 0) heq
    simp only [getD_set _ _ _ _ hi, if_pos] at this
    exact hxne this
end Go.Proofs.YtodnhbiomooknaaGreat
