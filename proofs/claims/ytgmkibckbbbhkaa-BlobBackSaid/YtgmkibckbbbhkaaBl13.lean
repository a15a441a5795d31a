/- peatbanklaw20.BlobBack: the plain law. -/
import Derived.Test.YtgmkibckbbbhkaaBl5
import Derived.Test.YtgmkibckbbbhkaaDevB
namespace Go.Proofs.Ytgmkibckbbbhkaa
open Go.RowKit

def sector (xs : List Int) (i : Nat) : List Int := (xs.drop (512 * i)).take 512
theorem sector_left {a b : List Int} {k i : Nat} (ha : a.length = 512 * k) (hi : i < k) : sector (a ++ b) i = sector a i := by
  unfold sector
  rw [List.drop_append_of_le_length (by omega), List.take_append_of_le_length (by rw [List.length_drop]; omega)]
theorem sector_right {a b : List Int} {k i : Nat} (ha : a.length = 512 * k) (hi : k ≤ i) : sector (a ++ b) i = sector b (i - k) := by
  unfold sector
  have h : (a ++ b).drop (512 * i) = b.drop (512 * (i - k)) := by
    rw [show 512 * i = a.length + 512 * (i - k) from by omega, ← List.drop_drop, List.drop_left]
  rw [h]
theorem sector_take {a : List Int} {k i : Nat} (hi : i < k) : sector (a.take (512 * k)) i = sector a i := by
  unfold sector
  rw [List.drop_take, List.take_take, Nat.min_eq_left (by omega)]
theorem sector_drop {a : List Int} {k i : Nat} : sector (a.drop (512 * k)) i = sector a (k + i) := by
  unfold sector
  rw [List.drop_drop, show 512 * k + 512 * i = 512 * (k + i) from by omega]
theorem sector_len {a : List Int} {k i : Nat} (ha : a.length = 512 * k) (hi : i < k) : (sector a i).length = 512 := by
  unfold sector
  rw [List.length_take, List.length_drop]; omega
theorem bytesN_pre {D : Dk} {xs : List Int} : ∀ j, (∀ i : Nat, i < j → D.latest i = sector xs i) → bytesN D j = xs.take (512 * j)
  | 0, _ => rfl
  | j + 1, h => by
    rw [bytesN_succ, bytesN_pre j (fun i hi => h i (by omega)), h j (by omega), show 512 * (j + 1) = 512 * j + 512 from by omega, List.take_add]
    rfl
theorem bytesN_of {D : Dk} {xs : List Int} {j : Nat} (h : ∀ i : Nat, i < j → D.latest i = sector xs i) (hl : xs.length = 512 * j) : bytesN D j = xs := by
  rw [bytesN_pre j h, List.take_of_length_le (by omega)]
theorem rowsL_pre {D : Dk} {xs : List Int} {a : Nat} : ∀ j, (∀ i : Nat, i < j → D.latest ((a + i : Nat) : Int) = sector xs i) → rowsL D a j = xs.take (512 * j)
  | 0, _ => rfl
  | j + 1, h => by
    rw [rowsL_succ, rowsL_pre j (fun i hi => h i (by omega)), show (a : Int) + (j : Int) = ((a + j : Nat) : Int) from by omega, h j (by omega), show 512 * (j + 1) = 512 * j + 512 from by omega, List.take_add]
    rfl
theorem rowsL_of {D : Dk} {xs : List Int} {a j : Nat} (h : ∀ i : Nat, i < j → D.latest ((a + i : Nat) : Int) = sector xs i) (hl : xs.length = 512 * j) : rowsL D a j = xs := by
  rw [rowsL_pre j h, List.take_of_length_le (by omega)]

theorem crash_r {D : Dk} {r : Nat} (hd : D.down = false) (hr : D.armed = r) : D.crash.down = decide (r = 1) ∧ D.crash.armed = ((r - 1 : Nat) : Int) := by
  unfold Dk.crash
  by_cases h : 0 < D.armed
  · rw [if_pos h]
    refine ⟨?_, by show D.armed - 1 = _; omega⟩
    show (D.armed - 1 == 0) = decide (r = 1)
    rw [hr]
    by_cases h1 : r = 1
    · subst h1; rfl
    · rw [decide_eq_false h1, beq_eq_false_iff_ne]; omega
  · rw [if_neg h]
    refine ⟨?_, by omega⟩
    rw [hd, decide_eq_false (by omega)]
theorem write_r {D : Dk} {r a : Nat} {s : List Int} (hd : D.down = false) (hr : D.armed = r) (h1 : (a : Int) < D.n) (hl : s.length = 512) :
    ∃ D2, D.write a s = (if r = 1 then 9 else 0, D2) ∧ D2.n = D.n ∧ D2.down = decide (r = 1) ∧ D2.armed = ((r - 1 : Nat) : Int) ∧ ∀ j : Int, D2.latest j = if j = a then s else D.latest j := by
  have hc := crash_r (D := D.put a s) (r := r) hd hr
  refine ⟨(D.put a s).crash, ?_, crash_n _, hc.1, hc.2, fun j => by rw [crash_latest, put_latest]⟩
  unfold Dk.write
  rw [if_pos (may_ok hd (by omega) h1), if_pos hl, hc.1]
  by_cases h : r = 1
  · rw [if_pos h, decide_eq_true h]; rfl
  · rw [if_neg h, decide_eq_false h]; rfl
theorem bw_run : ∀ (m : Nat) (D : Dk) (a : Nat) (bs : List Int) (r : Nat), D.down = false → D.armed = r → ((a + m : Nat) : Int) ≤ D.n → bs.length = 512 * m →
    ∃ D', bw D a bs m = (if 1 ≤ r ∧ r ≤ m then 9 else 0, D') ∧ D'.n = D.n ∧ (¬ (1 ≤ r ∧ r ≤ m) → D'.down = false ∧ D'.armed = ((r - m : Nat) : Int)) ∧
      ∀ j : Nat, D'.latest j = if a ≤ j ∧ j < a + (if 1 ≤ r ∧ r ≤ m then r else m) then sector bs (j - a) else D.latest j
  | 0, D, a, bs, r, hd, hr, _, _ => ⟨D, by rw [if_neg (by omega)]; rfl, rfl, fun _ => ⟨hd, hr⟩, fun j => by rw [if_neg (show ¬ (1 ≤ r ∧ r ≤ 0) from by omega), if_neg (by omega)]⟩
  | m + 1, D, a, bs, r, hd, hr, hn, hl => by
    obtain ⟨D2, hw, n2, d2, a2, l2⟩ := write_r (a := a) (s := bs.take 512) hd hr (by omega) (by rw [List.length_take]; omega)
    by_cases h1 : r = 1
    · refine ⟨D2, ?_, n2, fun h => absurd ⟨by omega, by omega⟩ h, fun j => ?_⟩
      · unfold bw
        rw [hw, if_pos h1, if_neg (show ¬ ((9 : Int) = 0) from by decide), if_pos (show 1 ≤ r ∧ r ≤ m + 1 from by omega)]
      · rw [l2, if_pos (show 1 ≤ r ∧ r ≤ m + 1 from by omega)]
        by_cases hj : j = a
        · subst hj
          rw [if_pos rfl, if_pos (by omega)]
          unfold sector; rw [Nat.sub_self]; rfl
        · rw [if_neg (by omega), if_neg (by omega)]
    · obtain ⟨D', hb, n', x', l'⟩ := bw_run m D2 (a + 1) (bs.drop 512) (r - 1) (by rw [d2, decide_eq_false h1]) a2 (by rw [n2]; omega) (by rw [List.length_drop]; omega)
      have hc : (1 ≤ r - 1 ∧ r - 1 ≤ m) ↔ (1 ≤ r ∧ r ≤ m + 1) := by omega
      refine ⟨D', ?_, by rw [n', n2], fun h => ?_, fun j => ?_⟩
      · unfold bw
        rw [hw, if_neg h1, if_pos (show (0 : Int) = 0 from rfl), show (a : Int) + 1 = ((a + 1 : Nat) : Int) from by omega, hb]
        simp only [hc]
      · obtain ⟨e1, e2⟩ := x' (fun k => h (hc.1 k))
        exact ⟨e1, by rw [e2]; omega⟩
      · rw [l' j, l2]
        by_cases hj : j = a
        · subst hj
          rw [if_neg (by omega), if_pos rfl, if_pos (by split <;> omega)]
          unfold sector; rw [Nat.sub_self]; rfl
        · rw [if_neg (show ¬ ((j : Int) = (a : Int)) from by omega)]
          by_cases hk : 1 ≤ r ∧ r ≤ m + 1
          · rw [if_pos (hc.2 hk), if_pos hk]
            by_cases hin : a + 1 ≤ j ∧ j < a + 1 + (r - 1)
            · rw [if_pos hin, if_pos (by omega)]
              unfold sector
              rw [List.drop_drop, show 512 + 512 * (j - (a + 1)) = 512 * (j - a) from by omega]
            · rw [if_neg hin, if_neg (by omega)]
          · rw [if_neg (fun k => hk (hc.1 k)), if_neg hk]
            by_cases hin : a + 1 ≤ j ∧ j < a + 1 + m
            · rw [if_pos hin, if_pos (by omega)]
              unfold sector
              rw [List.drop_drop, show 512 + 512 * (j - (a + 1)) = 512 * (j - a) from by omega]
            · rw [if_neg hin, if_neg (by omega)]
theorem bwrite_run {m : Nat} {D : Dk} {a : Nat} {bs : List Int} (hn : ((a + m : Nat) : Int) ≤ D.n) (hl : bs.length = 512 * m) : bwrite D a bs = bw D a bs m := by
  unfold bwrite bmay
  rw [hl, if_neg (by omega), show 512 * m / 512 = m from by omega, if_neg (show ¬ ((if (a : Int) < 0 ∨ D.n < a ∨ D.n - a < (m : Int) then (6 : Int) else 0) ≠ 0) from by rw [if_neg (by omega)]; simp)]
theorem bread_run {D : Dk} {a n : Nat} (hd : D.down = false) (hn : ((a + n : Nat) : Int) ≤ D.n) (hm : n ≤ 1024) : bread D a n = (0, rowsL D a n) := by
  unfold bread bmay
  rw [if_neg (by omega), if_neg (show ¬ ((if (a : Int) < 0 ∨ D.n < a ∨ D.n - a < (n : Int) then (6 : Int) else 0) ≠ 0) from by rw [if_neg (by omega)]; simp), if_neg (by rw [hd]; simp)]
  rfl

/-- how many sectors were written -/
def doneN (r n : Nat) : Nat := if 1 ≤ r ∧ r ≤ n then r else n
theorem doneN_le (r n : Nat) : doneN r n ≤ n := by unfold doneN; split <;> omega
theorem back_law {at_ n cut r : Nat} (h1 : at_ + n ≤ 12) (hc : cut ≤ n) {was row : List Int} (hw : was.length = 6144) (hr : row.length = 512 * n) :
    ∃ D1 D2 D4, bwrite (Dk.new 12) 0 was = (0, D1) ∧ D1.sync = (0, D2) ∧ bwrite (D2.arm r) at_ row = (if 1 ≤ r ∧ r ≤ n then 9 else 0, D4) ∧ D4.n = 12 ∧
      bytesN D4 12 = was.take (512 * at_) ++ row.take (512 * doneN r n) ++ was.drop (512 * (at_ + doneN r n)) ∧
      (¬ (1 ≤ r ∧ r ≤ n) → bread D4 at_ n = (0, row) ∧ bread D4 at_ cut = (0, row.take (512 * cut)) ∧ bread D4 ((at_ : Int) + (cut : Int)) ((n : Int) - (cut : Int)) = (0, row.drop (512 * cut))) := by
  have e0 : (Dk.new 12).n = 12 := rfl
  obtain ⟨D1, b1, n1, x1, l1⟩ := bw_run 12 (Dk.new 12) 0 was 0 rfl rfl (by rw [e0]; decide) hw
  rw [if_neg (by omega)] at b1
  obtain ⟨d1, a1⟩ := x1 (by omega)
  rw [e0] at n1
  have hl1 : ∀ j : Nat, j < 12 → D1.latest j = sector was j := fun j hj => by
    rw [l1 j, if_neg (show ¬ (1 ≤ 0 ∧ 0 ≤ 12) from by omega), if_pos (by omega), Nat.sub_zero]
  have hs := sync_up d1 a1 (by omega)
  have hl2 : ∀ j : Nat, j < 12 → D1.flush.latest j = sector was j := fun j hj => by
    have := sync_latest D1 j
    rw [hs] at this
    exact this.trans (hl1 j hj)
  have n2 : D1.flush.n = 12 := by
    have := sync_n D1
    rw [hs] at this
    exact this.trans n1
  have d2 : D1.flush.down = false := d1
  have ha : D1.flush.arm r = { D1.flush with armed := (r : Int) } := by
    unfold Dk.arm
    rw [if_neg (by rw [d2]; simp), show max (r : Int) 0 = r from by omega]
  obtain ⟨D4, b4, n4, x4, l4⟩ := bw_run n (D1.flush.arm r) at_ row r (by rw [ha]; exact d2) (by rw [ha]) (by rw [ha]; show _ ≤ D1.flush.n; rw [n2]; omega) hr
  have n4' : D4.n = 12 := by rw [n4, ha]; exact n2
  have hl3 : ∀ j : Nat, j < 12 → (D1.flush.arm r).latest j = sector was j := fun j hj => by rw [ha]; exact hl2 j hj
  have hdn := doneN_le r n
  have hl4 : ∀ j : Nat, j < 12 → D4.latest j = if at_ ≤ j ∧ j < at_ + doneN r n then sector row (j - at_) else sector was j := fun j hj => by
    rw [l4 j, hl3 j hj]; rfl
  refine ⟨D1, D1.flush, D4, (bwrite_run (a := 0) (m := 12) (by rw [e0]; decide) hw).trans b1, hs, (bwrite_run (by rw [ha]; show _ ≤ D1.flush.n; rw [n2]; omega) hr).trans b4, n4', ?_, fun hno => ?_⟩
  · refine bytesN_of (fun i hi => ?_) (by rw [List.length_append, List.length_append, List.length_take, List.length_take, List.length_drop]; omega)
    rw [hl4 i hi, List.append_assoc]
    by_cases h2 : i < at_
    · rw [if_neg (by omega), sector_left (k := at_) (by rw [List.length_take]; omega) h2, sector_take h2]
    · rw [sector_right (k := at_) (by rw [List.length_take]; omega) (by omega)]
      by_cases h3 : i < at_ + doneN r n
      · rw [if_pos (by omega), sector_left (k := doneN r n) (by rw [List.length_take]; omega) (by omega), sector_take (by omega)]
      · rw [if_neg (by omega), sector_right (k := doneN r n) (by rw [List.length_take]; omega) (by omega), sector_drop]
        congr 1; omega
  · have hd : doneN r n = n := by unfold doneN; rw [if_neg hno]
    rw [hd] at hl4
    have d4 := (x4 hno).1
    refine ⟨?_, ?_, ?_⟩
    · rw [bread_run d4 (by rw [n4']; omega) (by omega), rowsL_of (xs := row) (a := at_) (j := n) (fun i hi => ?_) hr]
      rw [hl4 _ (by omega), if_pos (by omega)]; congr 1; omega
    · rw [bread_run d4 (by rw [n4']; omega) (by omega), rowsL_of (xs := row.take (512 * cut)) (a := at_) (j := cut) (fun i hi => ?_) (by rw [List.length_take]; omega)]
      rw [hl4 _ (by omega), if_pos (by omega), sector_take hi]; congr 1; omega
    · rw [show (at_ : Int) + (cut : Int) = ((at_ + cut : Nat) : Int) from by omega, show (n : Int) - (cut : Int) = ((n - cut : Nat) : Int) from by omega, bread_run d4 (by rw [n4']; omega) (by omega), rowsL_of (xs := row.drop (512 * cut)) (a := at_ + cut) (j := n - cut) (fun i hi => ?_) (by rw [List.length_drop]; omega)]
      rw [hl4 _ (by omega), if_pos (by omega), sector_drop]; congr 1; omega
end Go.Proofs.Ytgmkibckbbbhkaa
