/- Marks as rows of bytes (keys, entries), in plain words. -/
import Derived.Test.YtfoldjnmknaklaaGreatNdA
import Derived.Test.YtfoldjnmknaklaaGreatKitF
import Derived.Test.YtfoldjnmknaklaaGreatMark0
namespace Go.Proofs.YtfoldjnmknaklaaGreat
open Go.RowKit

def mkN (k i : Int) : Nat := (mk0 k i % 256).toNat
def mkRow (s : Nat) (k i : Int) : List Nat := mkN k i :: List.replicate (s - 1) 0
def mkRows (s : Nat) (k : Int) (m : Nat) : List (List Nat) := (List.range m).map (fun i : Nat => mkRow s k i)
theorem mkN_lt (k i : Int) : mkN k i < 256 := by unfold mkN; omega
theorem mkN_eq (k i : Int) : mk0 k i % 256 = ((mkN k i : Nat) : Int) := by unfold mkN; omega
theorem mkRow_ok {s : Nat} (hs : 0 < s) (k i : Int) : (mkRow s k i).length = s ∧ ∀ z ∈ mkRow s k i, z < 256 := by
  unfold mkRow
  refine ⟨by rw [List.length_cons, List.length_replicate]; omega, fun z hz => ?_⟩
  rcases List.mem_cons.1 hz with h | h
  · rw [h]; exact mkN_lt k i
  · rw [List.eq_of_mem_replicate h]; omega
theorem mkRows_ok {s : Nat} (hs : 0 < s) (k : Int) (m : Nat) : Rows s (mkRows s k m) := fun r hr => by
  obtain ⟨i, _, rfl⟩ := List.mem_map.1 hr
  exact mkRow_ok hs k i
theorem mkRows_len (s : Nat) (k : Int) (m : Nat) : (mkRows s k m).length = m := by simp [mkRows]
theorem mkRows_succ (s : Nat) (k : Int) (m : Nat) : mkRows s k (m + 1) = mkRows s k m ++ [mkRow s k m] := by unfold mkRows; rw [List.range_succ, List.map_append]; rfl
theorem mkRows_at (s : Nat) (k : Int) {i m : Nat} (h : i < m) : (mkRows s k m)[i]? = some (mkRow s k i) := by
  unfold mkRows
  rw [List.getElem?_map, List.getElem?_range h]; rfl
theorem Rows.append {s : Nat} {L M : List (List Nat)} (h : Rows s L) (k : Rows s M) : Rows s (L ++ M) := fun r hr => (List.mem_append.1 hr).elim (h r) (k r)
theorem flat_snoc (L : List (List Nat)) (r : List Nat) : bv (L ++ [r]).flatten = bv L.flatten ++ bv r := by simp [bv]
theorem flat_app (L M : List (List Nat)) : bv (L ++ M).flatten = bv L.flatten ++ bv M.flatten := by simp [bv]
theorem rdc_of_blk {w : World} {g n s : Nat} {t : TypeId} {L M : List (List Nat)} (h : Blk w g t (bv (L ++ M).flatten).toArray) (hL : Rows s L) (hn : L.length = n) : RdC w (some ⟨g, 0, none⟩) n s (bv L.flatten) := by
  refine ⟨by rw [bv_len, rows_len hL, hn], fun _ => ⟨g, 0, rfl, fun j v hv => ?_⟩⟩
  rw [Nat.zero_add, h.cell j, List.getElem?_toArray, flat_app, List.getElem?_append_left (List.getElem?_eq_some_iff.1 hv).1]
  exact hv
/-- row i of a block of rows -/
theorem blk_row {w : World} {g s : Nat} {t : TypeId} {L : List (List Nat)} (h : Blk w g t (bv L.flatten).toArray) (hL : Rows s L) {i : Nat} {r : List Nat} (hi : L[i]? = some r) : ∀ j v, (bv r)[j]? = some v → w.cell? ⟨g, i * s + j, none⟩ = some v := fun j v hv => by
  have hin : 0 < L.length := by have := (List.getElem?_eq_some_iff.1 hi).1; omega
  obtain ⟨g', off, e, hc⟩ := (RdC.row (⟨by rw [bv_len, rows_len hL], fun _ => ⟨g, 0, rfl, fun j v hv => by rw [Nat.zero_add, h.cell j, List.getElem?_toArray]; exact hv⟩⟩ : RdC w (some ⟨g, 0, none⟩) L.length s (bv L.flatten)) hL hi hin)
  injection e with e; injection e with e1 e2 _
  subst e1; subst e2
  have := hc j v hv
  rwa [Nat.zero_add] at this
theorem store_size {cs cells : Array Value} {off : Nat} (h : off + cells.size ≤ cs.size) : ((cs.toList.take off ++ cells.toList ++ cs.toList.drop (off + cells.size)).toArray).size = cs.size := by
  simp only [List.size_toArray, List.length_append, List.length_take, List.length_drop, Array.length_toList]
  omega
theorem two_app {s : Nat} (hs : s = 40) (b : Nat) : (b :: List.replicate 39 0) ++ List.replicate 40 0 = b :: List.replicate 79 0 := by simp
end Go.Proofs.YtfoldjnmknaklaaGreat
