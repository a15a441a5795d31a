/- An element of several cells stored into an own row; its cells; a fresh row of noughts. No program is named. -/
import Derived.Test.YtfoldjnmknaklaaGreatKitF
import Derived.Test.YtfoldjnmknaklaaGreatKitB
namespace Go.Proofs.YtfoldjnmknaklaaGreat
open Go.RowKit

section
variable {P : Program} {w w' : World} {o : Oper} {a : Act} {base g n cap s : Nat} {e : TypeId} {xs : List Value}
theorem own_elem (h : w.ownsRow base e s (.slice (some ⟨g, 0, none⟩) n cap) n xs) {i : Nat} {X : List Value} (hX : ∀ j v, X[j]? = some v → xs[i * s + j]? = some v) : ∀ j v, X[j]? = some v → w.cell? ⟨g, i * s + j, none⟩ = some v :=
  fun j v hv => own_cell h (hX j v hv)
theorem exec_store_own (T : TypeId) (x y : Operand) (ho : o.op = .store T x y) {i : Nat} {X : List Value} (hx : a.eval x = .pointer (some ⟨g, i * s, none⟩)) (hy : a.eval y = .agg X.toArray)
    (hown : w.ownsRow base e s (.slice (some ⟨g, 0, none⟩) n cap) n xs) (hi : i < n) (hX : X.length = s) (hs : (P.info? T).map (·.size) = some s) (h1 : X.toArray.all (·.oneCell') = true) :
    ∃ w', (execOp a.eval o).run P w = .ok .skip w' ∧ w'.ownsRow base e s (.slice (some ⟨g, 0, none⟩) n cap) n (xs.take (i * s) ++ X ++ xs.drop (i * s + s)) ∧ Mod (At g) w w' ∧ w'.heap.size = w.heap.size := by
  obtain ⟨cur, k1, k2, k3, k4, k5, k6⟩ := own_parts hown
  have hle : (i + 1) * s ≤ n * s := Nat.mul_le_mul_right _ hi
  have hle2 : n * s ≤ cap * s := Nat.mul_le_mul_right _ k3
  rw [Nat.add_mul, Nat.one_mul] at hle
  have hfit : i * s + X.toArray.size ≤ cur.size := by rw [List.size_toArray, hX, k5]; omega
  refine ⟨_, exec_store_at (P := P) T x y ho hx hy k2 (by rw [hs, List.size_toArray, hX]) hfit h1, ⟨?_, .inr ⟨g, cap, _, rfl, k1, k2.setRow_ _, k3, k4, ?_, ?_⟩⟩, Mod.rowAt _ _ _, by simp⟩
  · simp only [List.length_append, List.length_take, List.length_drop, hown.1, hX]
    omega
  · simp only [List.size_toArray, List.length_append, List.length_take, List.length_drop, Array.length_toList, hX, k5]
    omega
  · have hlen := hown.1
    show (cur.toList.take (i * s) ++ X ++ cur.toList.drop (i * s + X.length)).take (n * s) = xs.take (i * s) ++ X ++ xs.drop (i * s + s)
    have ht : cur.toList.take (i * s) = xs.take (i * s) := by rw [← k6, List.take_take, Nat.min_eq_left (by omega)]
    have hl1 : (cur.toList.take (i * s) ++ X).length = i * s + s := by rw [List.length_append, List.length_take, Array.length_toList, k5, hX, Nat.min_eq_left (by omega)]
    rw [List.take_append, hl1, List.take_of_length_le (by omega), ht, hX]
    congr 1
    rw [← k6, List.drop_take]
variable {ops : Array Oper} {Q : Exit → Act → World → Prop} {S : World → Prop} {k : Nat} {ps : List (Nat × Bool)}
theorem pc_store_own (T : TypeId) (x y : Operand) (hk : ops[k]? = some o) (hg : Region.wanted o (yielded ops a.tmps) = true) (ho : o.op = .store T x y) {i : Nat} {X : List Value} (hx : a.eval x = .pointer (some ⟨g, i * s, none⟩)) (hy : a.eval y = .agg X.toArray)
    (hown : w.ownsRow base e s (.slice (some ⟨g, 0, none⟩) n cap) n xs) (hi : i < n) (hX : X.length = s) (hs : (P.info? T).map (·.size) = some s) (h1 : X.toArray.all (·.oneCell') = true)
    (hK : ∀ w', w'.ownsRow base e s (.slice (some ⟨g, 0, none⟩) n cap) n (xs.take (i * s) ++ X ++ xs.drop (i * s + s)) → Mod (At g) w w' → w'.heap.size = w.heap.size →
      S w' ∧ ∀ K : Act → Prop, (∀ a', wpPlC P ops Q S ps a' w' → K a') → K (a.put o.dst undef)) : wpPlC P ops Q S ((k, false) :: ps) a w := by
  obtain ⟨w', hrun, h2, h3, h4⟩ := exec_store_own (P := P) T x y ho hx hy hown hi hX hs h1
  obtain ⟨h5, h6⟩ := hK w' h2 h3 h4
  exact pc_unit hk hg hrun h5 h6
theorem pc_append_two (t : TypeId) (sl x : Operand) (hk : ops[k]? = some o) (hg : Region.wanted o (yielded ops a.tmps) = true) (ho : o.op = .call { callee := .builtin .append, args := #[sl, x], argTypes := #[t, t] })
    (base : Nat) (e : TypeId) (z : Value) (size bytes : Nat) (ht : P.underlying t = some (.slice e))
    (hi : (P.info? e).map (fun i => (i.zero, i.size, i.bytes)) = some (some z, size, bytes)) (hzs : z.cells.size = size) (hsz : 0 < size)
    (v : Value) (n : Nat) (xs : List Value) (hs : a.eval sl = v) (hown : w.ownsRow base e size v n xs)
    (A : Option Addr) (m c : Nat) (news : List Value) (hx : a.eval x = .slice A m c) (hr : RdC w A m size news) (hm0 : 0 < m) (h1 : ∀ u ∈ news, u.oneCell' = true)
    (hbytes : (n + m) * bytes ≤ 140737488355328) (h63 : n + m ≤ 140737488355328) (hbase : base ≤ w.heap.size)
    (hK : ∀ v' w', w'.ownsRow base e size v' (n + m) (xs ++ news) → AppTwo w w' v n m v' → S w' ∧ ∀ K : Act → Prop, (∀ a', wpPlC P ops Q S ps a' w' → K a') → K (a.put o.dst v')) : wpPlC P ops Q S ((k, false) :: ps) a w := by
  obtain ⟨v', w', h2, h3, h4⟩ := run_append_two (P := P) w base t o.type e z size bytes ht hi hzs hsz v n xs hown A m c news hr hm0 h1 hbytes h63 hbase
  obtain ⟨h5, h6⟩ := hK v' w' h3 h4
  exact pc_val hk hg (by simp [execOp, ho, resolve, invoke, builtin, hs, hx, h2, Result.andThen]) h5 h6
end
theorem made_noughts {s : Nat} (hs : 0 < s) (n : Nat) : madeCells (bv (List.replicate s 0)).toArray n = (List.replicate n (Value.int .u8 0)).toArray := by
  apply Array.ext_getElem?
  intro i
  simp only [madeCells, Array.getElem?_map, Array.getElem?_range, List.getElem?_toArray, List.getElem?_replicate]
  by_cases h : i < n
  · have hm : i % s < s := Nat.mod_lt _ hs
    have hlen : (bv (List.replicate s 0)).length = s := by simp [bv]
    have : (bv (List.replicate s 0))[i % s]? = some (.int .u8 0) := by
      unfold bv
      rw [List.map_replicate, List.getElem?_replicate, if_pos hm]; rfl
    simp [h, getElem!_def, hlen, this]
  · simp [h]
/-- an element laid into a row of noughts -/
theorem nought_step {s q m : Nat} (M X : List Value) (hM : M.length = q * s) (hX : X.length = s) (hq : q < m) :
    (M ++ List.replicate ((m - q) * s) (Value.int .u8 0)).take (q * s) ++ X ++ (M ++ List.replicate ((m - q) * s) (Value.int .u8 0)).drop (q * s + s) = (M ++ X) ++ List.replicate ((m - (q + 1)) * s) (Value.int .u8 0) := by
  rw [List.take_left' hM, ← List.drop_drop, List.drop_left' hM, List.drop_replicate, show (m - q) * s - s = (m - (q + 1)) * s from by rw [show m - q = (m - (q + 1)) + 1 from by omega, Nat.add_mul]; omega]
end Go.Proofs.YtfoldjnmknaklaaGreat
