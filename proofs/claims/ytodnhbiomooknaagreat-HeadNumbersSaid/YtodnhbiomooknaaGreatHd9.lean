/- heads, half read: plain words for head.Get's loops. -/
import Derived.Test.YtodnhbiomooknaaGreatHd5
namespace Go.Proofs.YtodnhbiomooknaaGreat
open Go.RowKit

/-- the first k numbers are there -/
def hpart (h : Hd) (k : Nat) : Hd := ⟨⟨if 0 < k then h.g.v else 0, if 1 < k then h.g.S else 0, if 2 < k then h.g.s else 0, if 3 < k then h.g.u else 0, if 4 < k then h.g.j else 0⟩, h.n, if 5 < k then h.p else 0, if 6 < k then h.r else 0, if 7 < k then h.k else 0⟩
theorem hpart_8 (h : Hd) : hpart h 8 = h := rfl
theorem hpart_0 (h : Hd) : ((Value.agg #[.int .i64 0, .int .i64 0, .int .i64 0, .int .i64 0, .int .i64 0, .int .i64 0, .int .i64 0, .int .i64 0, .int .i64 0]).cells).setIfInBounds 5 (.int .i64 h.n) = hC (hpart h 0) := by
  simp [hC, hpart, Value.cells]
/-- the k-th number is what four bytes say -/
def hnum (h : Hd) (k : Nat) : Int := h.nums.getD k 0
/-- the cells while the k-th number is read -/
def hcur (h : Hd) (k : Nat) (x : Int) : Array Value := (hC (hpart h k)).setIfInBounds (hpos k) (.int .i64 x)
theorem hcur_0 (h : Hd) : ∀ k, k < 8 → hcur h k 0 = hC (hpart h k)
  | 0, _ | 1, _ | 2, _ | 3, _ | 4, _ | 5, _ | 6, _ | 7, _ => by simp [hcur, hC, hpart, hpos]
  | k + 8, h => by omega
theorem hcur_1 (h : Hd) : ∀ k, k < 8 → hcur h k (hnum h k) = hC (hpart h (k + 1))
  | 0, _ | 1, _ | 2, _ | 3, _ | 4, _ | 5, _ | 6, _ | 7, _ => by simp [hcur, hC, hpart, hpos, hnum, Hd.nums]
  | k + 8, h => by omega
theorem hcur_at (h : Hd) (x : Int) : ∀ k, k < 8 → (hcur h k x)[hpos k]? = some (.int .i64 x)
  | 0, _ | 1, _ | 2, _ | 3, _ | 4, _ | 5, _ | 6, _ | 7, _ => by simp [hcur, hC, hpart, hpos]
  | k + 8, h => by omega
theorem hcur_set (h : Hd) (k : Nat) (x y : Int) : (hcur h k x).setIfInBounds (hpos k) (.int .i64 y) = hcur h k y := by
  unfold hcur
  rw [Array.setIfInBounds_setIfInBounds]
theorem hnum_of (l : List Nat) : ∀ k, k < 8 → hnum (hdOf l) k = w4 (frOf l).data k
  | 0, _ | 1, _ | 2, _ | 3, _ | 4, _ | 5, _ | 6, _ | 7, _ => by simp [hnum, hdOf, Hd.nums]
  | k + 8, h => by omega
/-- one byte more -/
theorem said_step (D : List Nat) (a j : Nat) (hj : j < 4) (ha : a + 4 ≤ D.length) : ∃ c, D[a + j]? = some c ∧ ((D.drop a).take 4)[j]? = some c ∧ said ((D.drop a).take (j + 1)) = 256 * said ((D.drop a).take j) + c := by
  have hc : D[a + j]? = some (D[a + j]'(by omega)) := List.getElem?_eq_getElem (by omega)
  refine ⟨_, hc, by rw [List.getElem?_take_of_lt hj, List.getElem?_drop]; exact hc, ?_⟩
  exact said_take (by rw [List.getElem?_drop]; exact hc)
theorem said_lt3 (D : List Nat) (hD : ∀ z ∈ D, z < 256) (a j : Nat) (hj : j < 4) : said ((D.drop a).take j) < 16777216 := by
  have h := said_take_lt (D.drop a) (fun z hz => hD z (List.mem_of_mem_drop hz)) j
  have h2 : ((D.drop a).take j).length ≤ 3 := by rw [List.length_take]; omega
  have h3 : (256 : Nat) ^ ((D.drop a).take j).length ≤ 256 ^ 3 := Nat.pow_le_pow_right (by omega) h2
  have h4 : (256 : Nat) ^ 3 = 16777216 := by decide
  omega
theorem or_goi (a c : Nat) (ha : a < 16777216) (hc : c < 256) : bits .or .i64 ((a : Int) * 256) (c : Int) = ((256 * a + c : Nat) : Int) := by
  rw [show (a : Int) * 256 = ((256 * a : Nat) : Int) by omega]
  show IntKind.i64.wrap ((BitVec.ofInt 64 ((256 * a : Nat) : Int) ||| BitVec.ofInt 64 (c : Int)).toNat : Int) = _
  rw [BitVec.ofInt_natCast, BitVec.ofInt_natCast, BitVec.toNat_or, BitVec.toNat_ofNat, BitVec.toNat_ofNat, Nat.mod_eq_of_lt (by omega), Nat.mod_eq_of_lt (by omega), or_byte a c hc, IntKind.wrap_i64]
  omega
/-- when is what bytes say no head? -/
theorem not_holdsH_of {l : List Nat} (h : ¬ Holds l ∨ l.length ≠ 512 * fsec (frLong l) ∨ frLong l ≠ 32) : ¬ HoldsH l := by
  rintro ⟨h1, h2, h3, _⟩
  rcases h with h | h | h
  · exact h h2
  · rw [h1, h3] at h; exact h (by decide)
  · exact h h3
end Go.Proofs.YtodnhbiomooknaaGreat
