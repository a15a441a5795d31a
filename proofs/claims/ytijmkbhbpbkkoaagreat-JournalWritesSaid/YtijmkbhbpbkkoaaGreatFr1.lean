/- Frames in plain words: what is put is got; cut anywhere, nothing is. No program is named. -/
import Derived.Test.YtijmkbhbpbkkoaaGreatCrcB
namespace Go.Proofs.YtijmkbhbpbkkoaaGreat

theorem mid {α : Type} (a b c : List α) {i n : Nat} (ha : a.length = i) (hb : b.length = n) : ((a ++ (b ++ c)).drop i).take n = b := by
  subst ha; subst hb; simp
def Fr.pre (f : Fr) : List Nat := [112, 101, 97, 116, f.kind % 256, 0, 0, 0]
def Fr.rest (f : Fr) (more : List Nat) : List Nat := num f.sum 4 ++ (List.replicate (512 * fsec f.data.length - (32 + f.data.length)) 0 ++ more)
theorem Fr.parts (f : Fr) (more : List Nat) : f.bytes ++ more = f.pre ++ (num f.epoch 8 ++ (num f.seq 8 ++ (num f.data.length 4 ++ (f.data ++ f.rest more)))) := by
  simp only [Fr.bytes, Fr.body, Fr.pre, Fr.rest, List.append_assoc]
theorem Fr.pre_len (f : Fr) : f.pre.length = 8 := rfl
theorem Fr.epoch_at (f : Fr) (more : List Nat) : ((f.bytes ++ more).drop 8).take 8 = num f.epoch 8 := by
  rw [f.parts]; exact mid _ _ _ f.pre_len (num_len _ _)
theorem Fr.seq_at (f : Fr) (more : List Nat) : ((f.bytes ++ more).drop 16).take 8 = num f.seq 8 := by
  rw [f.parts, ← List.append_assoc f.pre]
  exact mid _ _ _ (by rw [List.length_append, f.pre_len, num_len]) (num_len _ _)
theorem Fr.long_at (f : Fr) (more : List Nat) : ((f.bytes ++ more).drop 24).take 4 = num f.data.length 4 := by
  rw [f.parts, ← List.append_assoc f.pre, ← List.append_assoc (f.pre ++ _)]
  exact mid _ _ _ (by rw [List.length_append, List.length_append, f.pre_len, num_len, num_len]) (num_len _ _)
theorem Fr.data_at (f : Fr) (more : List Nat) : ((f.bytes ++ more).drop 28).take f.data.length = f.data := by
  rw [f.parts, ← List.append_assoc f.pre, ← List.append_assoc (f.pre ++ _), ← List.append_assoc (f.pre ++ _ ++ _)]
  exact mid _ _ _ (by rw [List.length_append, List.length_append, List.length_append, f.pre_len, num_len, num_len, num_len]) rfl
theorem Fr.kind_at (f : Fr) (more : List Nat) : (f.bytes ++ more).getD 4 0 = f.kind % 256 := by rw [f.parts]; rfl
theorem Fr.got (f : Fr) (h : f.ok) (more : List Nat) : frLong (f.bytes ++ more) = f.data.length ∧ frOf (f.bytes ++ more) = f := by
  obtain ⟨h1, h2, h3, h4⟩ := h
  have hl : frLong (f.bytes ++ more) = f.data.length := by
    unfold frLong
    rw [f.long_at, said_num_lt _ _ (Nat.lt_of_le_of_lt h4 (by decide))]
  refine ⟨hl, ?_⟩
  unfold frLong at hl
  unfold frOf
  rw [f.epoch_at, f.seq_at, hl, f.data_at, f.kind_at, said_num_lt _ _ (Nat.lt_of_le_of_lt h2 (by decide)), said_num_lt _ _ (Nat.lt_of_le_of_lt h3 (by decide)), Nat.mod_eq_of_lt (by omega)]
theorem Fr.holds (f : Fr) (h : f.ok) (more : List Nat) : Holds (f.bytes ++ more) := by
  obtain ⟨hl, hf⟩ := f.got h more
  obtain ⟨h1, h2, h3, h4⟩ := h
  have hs := fsec_le f.data.length
  have hb := f.bytes_len
  have hpos : 1 ≤ fsec f.data.length := by omega
  refine ⟨?_, by rw [hf]; exact h2, by rw [hf]; exact h3, by rw [hl]; exact h4, ?_, ?_⟩
  · rw [List.length_append, hb]; omega
  · rw [hl, List.length_append, hb]; omega
  · rw [hl, hf, ← hb, List.take_left']; rfl
/-- cut anywhere, nothing is got -/
theorem Fr.cut (f : Fr) (h : f.ok) (k : Nat) (hk : k < f.bytes.length) : ¬ Holds (f.bytes.take k) := by
  intro hh
  have h512 : 512 ≤ k := by have := hh.1; rw [List.length_take] at this; omega
  have hl : frLong (f.bytes.take k) = f.data.length := by
    have := (f.got h []).1
    rw [List.append_nil] at this
    unfold frLong at this ⊢
    rw [← this, List.drop_take, List.take_take, Nat.min_eq_left (by omega)]
  have := hh.2.2.2.2.1
  rw [hl, List.length_take, f.bytes_len] at this
  rw [f.bytes_len] at hk
  omega
/-- what holds a frame is a right frame -/
theorem Holds.ok {b : List Nat} (h : Holds b) (hb : ∀ z ∈ b, z < 256) : (frOf b).ok ∧ (frOf b).data.length = frLong b := by
  obtain ⟨h1, h2, h3, h4, h5, h6⟩ := h
  have hs := fsec_le (frLong b)
  have hd : (frOf b).data.length = frLong b := by
    show ((b.drop 28).take (frLong b)).length = _
    rw [List.length_take, List.length_drop]; omega
  refine ⟨⟨?_, h2, h3, by rw [hd]; exact h4⟩, hd⟩
  show b.getD 4 0 ≤ 255
  rw [List.getD_eq_getElem?_getD, List.getElem?_eq_getElem (by omega)]
  have := hb _ (List.getElem_mem (show 4 < b.length by omega))
  exact Nat.le_of_lt_succ this
end Go.Proofs.YtijmkbhbpbkkoaaGreat
