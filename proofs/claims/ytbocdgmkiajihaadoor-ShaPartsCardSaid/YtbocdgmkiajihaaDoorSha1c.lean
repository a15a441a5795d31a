/- The eight words built into one value. -/
import Derived.Test.YtbocdgmkiajihaaDoorSha1b
import Derived.Laws.Tables
namespace Go.Proofs.YtbocdgmkiajihaaDoor
open Go.RowKit

set_option maxRecDepth 100000 in
theorem exec_build8 {o : Oper} {a : Act} {w : World} (x0 x1 x2 x3 x4 x5 x6 x7 : Operand) (ho : o.op = .build 58 #[(0, x0), (1, x1), (2, x2), (3, x3), (4, x4), (5, x5), (6, x6), (7, x7)]) {v0 v1 v2 v3 v4 v5 v6 v7 : W32}
    (h0 : a.eval x0 = wv v0) (h1 : a.eval x1 = wv v1) (h2 : a.eval x2 = wv v2) (h3 : a.eval x3 = wv v3) (h4 : a.eval x4 = wv v4) (h5 : a.eval x5 = wv v5) (h6 : a.eval x6 = wv v6) (h7 : a.eval x7 = wv v7) :
    (execOp a.eval o).run Tryd.prog w = .ok (.value (.agg (wvs [v0, v1, v2, v3, v4, v5, v6, v7]))) w := by
  have hb : Tryd.prog.built 58 (#[(0, wv v0), (1, wv v1), (2, wv v2), (3, wv v3), (4, wv v4), (5, wv v5), (6, wv v6), (7, wv v7)] : Array (Nat × Value)).toList = some (wvs [v0, v1, v2, v3, v4, v5, v6, v7]) := by kernel_rfl
  have hr := run_build (P := Tryd.prog) w 58 _ _ hb
  simp only [execOp, ho, List.map_toArray, List.map_cons, List.map_nil, h0, h1, h2, h3, h4, h5, h6, h7]
  simp [hr, Result.andThen]
/-- words added one by one -/
def upTo (a b : List W32) (k : Nat) : List W32 := (List.zipWith (· + ·) a b).take k ++ a.drop k
theorem upTo_len {a b : List W32} (h : a.length = b.length) {k : Nat} (hk : k ≤ a.length) : ((List.zipWith (· + ·) a b).take k).length = k := by
  rw [List.length_take, List.length_zipWith]; omega
theorem upTo_at {a b : List W32} (h : a.length = b.length) {k : Nat} (hk : k < a.length) : (upTo a b k)[k]? = a[k]? := by
  unfold upTo
  rw [List.getElem?_append_right (by rw [upTo_len h (by omega)]; exact Nat.le_refl _), upTo_len h (by omega), Nat.sub_self, List.getElem?_drop, Nat.add_zero]
theorem upTo_set {a b : List W32} (h : a.length = b.length) {k : Nat} {x y : W32} (hx : a[k]? = some x) (hy : b[k]? = some y) : (upTo a b k).set k (x + y) = upTo a b (k + 1) := by
  obtain ⟨hk, hx'⟩ := List.getElem?_eq_some_iff.1 hx
  unfold upTo
  have hl := upTo_len h (k := k) (by omega)
  have hd : a.drop k = x :: a.drop (k + 1) := by rw [List.drop_eq_getElem_cons hk, hx']
  have hz : (List.zipWith (· + ·) a b)[k]? = some (x + y) := by rw [List.getElem?_zipWith, hx, hy]
  rw [List.set_append_right _ _ (by omega), hl, Nat.sub_self, hd, List.set_cons_zero, List.take_add_one, hz, List.append_assoc]
  rfl
theorem upTo_zero (a b : List W32) : upTo a b 0 = a := rfl
theorem upTo_S8 (v u : S8) : upTo v.l u.l 8 = (v.add u).l := rfl
theorem S8_len (v : S8) : v.l.length = 8 := rfl
end Go.Proofs.YtbocdgmkiajihaaDoor
