/- Parts of slices: what a part reads as; min of three. No program is named. -/
import Derived.Test.YtjndcgpfikngaaaKit5
namespace Go.Proofs.Ytjndcgpfikngaaa
open Go.RowKit

/-- where a part of a slice begins -/
def subA (A : Option Addr) (c l s : Nat) : Option Addr := if c = l then A else A.map (·.add (l * s))
theorem subA_zero (A : Option Addr) (c s : Nat) : subA A c 0 s = A := by
  unfold subA
  split
  · rfl
  · cases A with
    | none => rfl
    | some a => simp [Addr.add]
section
variable {P : Program} {w w' : World} {A : Option Addr} {n c : Nat} {xs : List Value} {S : Nat → Prop}
theorem of_sub {l s g : Nat} (h : Of (subA A c l s) g) : Of A g := by
  obtain ⟨a, ha, rfl⟩ := h
  unfold subA at ha
  split at ha
  · exact ⟨a, ha, rfl⟩
  · cases A with
    | none => cases ha
    | some b => injection ha with ha; exact ⟨b, rfl, by rw [← ha]; unfold Addr.add; split <;> rfl⟩
theorem Rd.sub (h : Rd w A n xs) (l k : Nat) (hk : l + k ≤ n) (hc : n ≤ c) : Rd w (subA A c l 1) k ((xs.drop l).take k) := by
  have hL : xs.length = n := h.1
  refine ⟨by simp; omega, fun hp => ?_⟩
  obtain ⟨g, off, hA, hcl⟩ := h.2 (by omega)
  refine ⟨g, off + l, ?_, fun j v hv => ?_⟩
  · unfold subA
    rw [if_neg (by omega), hA]
    simp [Addr.add]
  · rw [List.getElem?_take] at hv
    split at hv
    · rw [List.getElem?_drop] at hv
      rw [Nat.add_assoc]
      exact hcl (l + j) v hv
    · cases hv
theorem Rd.pre (h : Rd w A n xs) (k : Nat) (hk : k ≤ n) (hc : n ≤ c) : Rd w (subA A c 0 1) k (xs.take k) := by
  have := h.sub (c := c) 0 k (by omega) hc
  simpa using this
theorem Rd.post (h : Rd w A n xs) (l : Nat) (hk : l ≤ n) (hc : n ≤ c) : Rd w (subA A c l 1) (n - l) (xs.drop l) := by
  have := h.sub (c := c) l (n - l) (by omega) hc
  rwa [List.take_of_length_le (by simp [h.1])] at this

variable {ops : Array Oper} {rest : List Oper} {o : Oper} {a : Act} {Q : Exit → Act → World → Prop}
theorem exec_sub_lh (t : TypeId) (x lo hi : Operand) (ho : o.op = .slice t x (some lo) (some hi) none) (e : TypeId) (size : Nat) (ht : P.underlying t = some (.slice e)) (hi' : (P.info? e).map (·.size) = some size)
    {l h : Nat} (hx : a.eval x = .slice A n c) (hl : a.eval lo = .int .i64 (l : Int)) (hh : a.eval hi = .int .i64 (h : Int)) (h1 : l ≤ h) (h2 : h ≤ c) :
    (execOp a.eval o).run P w = .ok (.value (.slice (subA A c l size) (h - l) (c - l))) w := by
  have he : P.elem t = e := by simp [Program.elem, ht]
  have ht' : P.underlying t = some (.slice (P.elem t)) := by rw [he]; exact ht
  obtain ⟨i, hii, hs⟩ := Option.map_eq_some_iff.1 hi'
  simp only [execOp, ho, Option.map, hx, hl, hh]
  simp [run_sliceAt_slice w t _ _ _ _ ht', run_slice_lh w t A n c ht' .i64 .i64 (l : Int) (h : Int) (by omega) (by omega) (by omega), he, sizeOf, typeInfo, hii, hs, Result.andThen, sliced, subA]
theorem exec_sub_h (t : TypeId) (x hi : Operand) (ho : o.op = .slice t x none (some hi) none) (e : TypeId) (size : Nat) (ht : P.underlying t = some (.slice e)) (hi' : (P.info? e).map (·.size) = some size)
    {h : Nat} (hx : a.eval x = .slice A n c) (hh : a.eval hi = .int .i64 (h : Int)) (h2 : h ≤ c) :
    (execOp a.eval o).run P w = .ok (.value (.slice (subA A c 0 size) h c)) w := by
  have he : P.elem t = e := by simp [Program.elem, ht]
  have ht' : P.underlying t = some (.slice (P.elem t)) := by rw [he]; exact ht
  obtain ⟨i, hii, hs⟩ := Option.map_eq_some_iff.1 hi'
  simp only [execOp, ho, Option.map, hx, hh]
  simp [run_sliceAt_slice w t _ _ _ _ ht', run_slice_h w t A n c ht' .i64 (h : Int) (by omega) (by omega), he, sizeOf, typeInfo, hii, hs, Result.andThen, sliced, subA]
theorem exec_sub_l (t : TypeId) (x lo : Operand) (ho : o.op = .slice t x (some lo) none none) (e : TypeId) (size : Nat) (ht : P.underlying t = some (.slice e)) (hi' : (P.info? e).map (·.size) = some size)
    {l : Nat} (hx : a.eval x = .slice A n c) (hl : a.eval lo = .int .i64 (l : Int)) (h1 : l ≤ n) :
    (execOp a.eval o).run P w = .ok (.value (.slice (subA A c l size) (n - l) (c - l))) w := by
  have he : P.elem t = e := by simp [Program.elem, ht]
  have ht' : P.underlying t = some (.slice (P.elem t)) := by rw [he]; exact ht
  obtain ⟨i, hii, hs⟩ := Option.map_eq_some_iff.1 hi'
  simp only [execOp, ho, Option.map, hx, hl]
  simp [run_sliceAt_slice w t _ _ _ _ ht', run_slice_l w t A n c ht' .i64 (l : Int) (by omega) (by omega), he, sizeOf, typeInfo, hii, hs, Result.andThen, sliced, subA]
theorem wpList_sub_lh (t : TypeId) (x lo hi : Operand) (hg : Region.wanted o (yielded ops a.tmps) = true) (ho : o.op = .slice t x (some lo) (some hi) none) (e : TypeId) (size : Nat) (ht : P.underlying t = some (.slice e)) (hi' : (P.info? e).map (·.size) = some size)
    (l h : Nat) (hx : a.eval x = .slice A n c) (hl : a.eval lo = .int .i64 (l : Int)) (hh : a.eval hi = .int .i64 (h : Int)) (h1 : l ≤ h) (h2 : h ≤ c)
    (hK : wpList P ops Q rest (a.put o.dst (.slice (subA A c l size) (h - l) (c - l))) w) : wpList P ops Q (o :: rest) a w :=
  wpList_val hg (exec_sub_lh t x lo hi ho e size ht hi' hx hl hh h1 h2) hK
theorem wpList_sub_h (t : TypeId) (x hi : Operand) (hg : Region.wanted o (yielded ops a.tmps) = true) (ho : o.op = .slice t x none (some hi) none) (e : TypeId) (size : Nat) (ht : P.underlying t = some (.slice e)) (hi' : (P.info? e).map (·.size) = some size)
    (h : Nat) (hx : a.eval x = .slice A n c) (hh : a.eval hi = .int .i64 (h : Int)) (h2 : h ≤ c)
    (hK : wpList P ops Q rest (a.put o.dst (.slice (subA A c 0 size) h c)) w) : wpList P ops Q (o :: rest) a w :=
  wpList_val hg (exec_sub_h t x hi ho e size ht hi' hx hh h2) hK
theorem wpList_sub_l (t : TypeId) (x lo : Operand) (hg : Region.wanted o (yielded ops a.tmps) = true) (ho : o.op = .slice t x (some lo) none none) (e : TypeId) (size : Nat) (ht : P.underlying t = some (.slice e)) (hi' : (P.info? e).map (·.size) = some size)
    (l : Nat) (hx : a.eval x = .slice A n c) (hl : a.eval lo = .int .i64 (l : Int)) (h1 : l ≤ n)
    (hK : wpList P ops Q rest (a.put o.dst (.slice (subA A c l size) (n - l) (c - l))) w) : wpList P ops Q (o :: rest) a w :=
  wpList_val hg (exec_sub_l t x lo ho e size ht hi' hx hl h1) hK
theorem cell_far {w : World} {p q : Addr} {v : Value} (h : p.block ≠ q.block) : (w.setCell p v).cell? q = w.cell? q :=
  World.cell?_setCell_other _ _ _ _ (fun e => h (congrArg Addr.block e))
theorem exec_store1 (T : TypeId) (x y : Operand) (ho : o.op = .store T x y) {ad : Addr} {v u : Value} (hx : a.eval x = .pointer (some ad)) (hy : a.eval y = v) (hc : w.cell? ad = some u) (hf : w.frozen? ad = false) (hs0 : ad.spot = none) (hv : v.oneCell' = true) (hvc : v.cells = #[v])
    (hi : (P.info? T).map (·.size) = some 1) : (execOp a.eval o).run P w = .ok .skip (w.setCell ad v) := by
  obtain ⟨i, hii, hs⟩ := Option.map_eq_some_iff.1 hi
  have h0 : ad.add 0 = ad := by simp [Addr.add]
  simp [execOp, ho, hx, hy, Instr.storeAt, Instr.sureAddr, storeVar, sizeOf, typeInfo, hii, hs, hvc, storeCells, h0, Result.andThen]
  have := run_store P w ad v .plain (by simpa using hv)
  rw [this]
  simp [hc, hf]
theorem wpList_min3 (t : TypeId) (x y z : Operand) (hg : Region.wanted o (yielded ops a.tmps) = true) (ho : o.op = .call { callee := .builtin .min, args := #[x, y, z], argTypes := #[t, t, t] })
    (i j k q : Int) (hx : a.eval x = .int .i64 i) (hy : a.eval y = .int .i64 j) (hz : a.eval z = .int .i64 k) (hq : q = min i (min j k))
    (hK : wpList P ops Q rest (a.put o.dst (.int .i64 q)) w) : wpList P ops Q (o :: rest) a w := by
  have hr := run_min_int3 (P := P) (w := w) #[t, t, t] o.type .i64 .i64 .i64 i j k
  have he : (if k < (if j < i then j else i) then k else (if j < i then j else i)) = q := by rw [hq]; split <;> split <;> omega
  rw [he] at hr
  refine wpList_val hg (v := .int .i64 q) (w1 := w) ?_ hK
  simp [execOp, ho, resolve, invoke, builtin, hx, hy, hz, hr, Result.andThen]
end
end Go.Proofs.Ytjndcgpfikngaaa
