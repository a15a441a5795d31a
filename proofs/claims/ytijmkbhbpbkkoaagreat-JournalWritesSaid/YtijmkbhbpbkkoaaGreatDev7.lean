/- peatbanklaw08: full, awake. -/
import Derived.Test.YtijmkbhbpbkkoaaGreatDev6
import Derived.Test.YtijmkbhbpbkkoaaGreatBytes1
namespace Go.Proofs.YtijmkbhbpbkkoaaGreat
open Go.RowKit

def fullB (b : Int) (i : Nat) : Int := (b + ((i / 64 : Nat) : Int)) % 256
def fullL (b : Int) : List Int := (List.range 512).map (fullB b)
def fullP (b : Int) (k : Nat) : List Int := (List.range 512).map (fun i => if i < k then fullB b i else 0)
theorem fullL_len (b : Int) : (fullL b).length = 512 := by simp [fullL]
theorem fullP_len (b : Int) (k : Nat) : (fullP b k).length = 512 := by simp [fullP]
theorem fullP_all (b : Int) : fullP b 512 = fullL b := by
  unfold fullP fullL
  refine List.map_congr_left fun i hi => ?_
  rw [if_pos (List.mem_range.1 hi)]
theorem fullP_set (b : Int) (k : Nat) : (fullP b k).set k (fullB b k) = fullP b (k + 1) := by
  apply List.ext_getElem?
  intro i
  rw [List.getElem?_set]
  simp only [fullP, List.getElem?_map, List.length_map, List.length_range]
  by_cases hi : i < 512
  · rw [List.getElem?_range hi]
    by_cases h : k = i
    · subst h; simp [hi]
    · have h1 : (i < k) ↔ (i < k + 1) := by omega
      simp [h, h1]
  · rw [List.getElem?_eq_none (by simpa using hi)]
    by_cases h : k = i
    · subst h; simp [hi]
    · simp [h]
theorem fullP_zero (b : Int) : Array.replicate 512 (Value.int .u8 0) = ((fullP b 0).map (Value.int .u8)).toArray := by
  apply Array.ext_getElem?
  intro i
  simp only [fullP, Array.getElem?_replicate, List.getElem?_toArray, List.getElem?_map]
  by_cases hi : i < 512
  · rw [List.getElem?_range hi, if_pos hi]; simp
  · rw [List.getElem?_eq_none (by simpa using hi), if_neg hi]; rfl

theorem may_ok {D : Dk} {k : Int} (hd : D.down = false) (h0 : 0 ≤ k) (h1 : k < D.n) : D.may k = 0 := by
  simp [Dk.may, hd]; omega
theorem crash_off {D : Dk} (ha : D.armed = 0) : D.crash = D := by simp [Dk.crash, ha]
theorem write_up {D : Dk} {k : Int} {bs : List Int} (hd : D.down = false) (ha : D.armed = 0) (h0 : 0 ≤ k) (h1 : k < D.n) (hl : bs.length = 512) : D.write k bs = (0, D.put k bs) := by
  have hc : (D.put k bs).crash = D.put k bs := crash_off ha
  have hd' : (D.put k bs).down = false := hd
  unfold Dk.write
  rw [if_pos (may_ok hd h0 h1), if_pos hl, hc, hd']; simp
theorem sync_up {D : Dk} (hd : D.down = false) (ha : D.armed = 0) (h1 : 1 ≤ D.n) : D.sync = (0, D.flush) := by
  unfold Dk.sync
  rw [if_pos (may_ok hd (Int.le_refl 0) (by omega)), crash_off ha, hd]; simp
theorem own_rd {w : World} {base : Nat} {e : TypeId} {v : Value} {n : Nat} {xs : List Value} (h : w.ownsRow base e 1 v n xs) : ∃ A c, v = .slice A n c ∧ Rd w A n xs ∧ (∀ g, Of A g → base ≤ g ∧ g < w.heap.size) := by
  obtain ⟨A, c, rfl, _, hb⟩ := own_form h
  exact ⟨A, c, rfl, Rd.of_own h, hb⟩
end Go.Proofs.YtijmkbhbpbkkoaaGreat
