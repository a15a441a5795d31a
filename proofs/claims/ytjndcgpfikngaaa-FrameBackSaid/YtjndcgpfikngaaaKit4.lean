/- Laws at the operation, for the walk: whole variables, maps with int keys, range over such a map. No program is named. -/
import Derived.Test.YtjndcgpfikngaaaKit3
namespace Go.Proofs.Ytjndcgpfikngaaa
open Go.RowKit

section
variable {P : Program} {w w' : World} {ops : Array Oper} {rest : List Oper} {o : Oper} {a : Act} {Q : Exit → Act → World → Prop}

theorem wpList_val (hg : Region.wanted o (yielded ops a.tmps) = true) {v : Value} {w1 : World} (hrun : (execOp a.eval o).run P w = .ok (.value v) w1)
    (h : wpList P ops Q rest (a.put o.dst v) w1) : wpList P ops Q (o :: rest) a w :=
  wpList_step fun _ hK => by rw [if_pos hg]; unfold Oper.wp; rw [hrun]; exact hK _ _ h
theorem wpList_unit (hg : Region.wanted o (yielded ops a.tmps) = true) {w1 : World} (hrun : (execOp a.eval o).run P w = .ok .skip w1)
    (h : wpList P ops Q rest (a.put o.dst undef) w1) : wpList P ops Q (o :: rest) a w :=
  wpList_step fun _ hK => by rw [if_pos hg]; unfold Oper.wp; rw [hrun]; exact hK _ _ h
theorem wpStill_val {Q : Act → Prop} (hg : Region.wanted o (yielded ops a.tmps) = true) {v : Value} (hrun : (execOp a.eval o).run P w = .ok (.value v) w)
    (h : wpStill P ops w Q rest (a.put o.dst v)) : wpStill P ops w Q (o :: rest) a :=
  wpStill_step fun K hK => by
    rw [if_pos hg]
    unfold Oper.still
    rw [hrun, Oper.stillUpon_value]
    exact hK _ h

/-! ### run equations -/
theorem zero_of {T : TypeId} {z : Value} {n : Nat} (hi : (P.info? T).map (fun i => (i.zero, i.size)) = some (some z, n)) (w : World) : (zeroValue T).run P w = .ok z w := by
  cases hq : P.info? T with
  | none => simp [hq] at hi
  | some i => simp [hq] at hi; simp [zeroValue, typeInfo, hq, hi.1]
theorem size_of {T : TypeId} {z : Value} {n : Nat} (hi : (P.info? T).map (fun i => (i.zero, i.size)) = some (some z, n)) : (P.info? T).map (·.size) = some n := by
  cases hq : P.info? T with
  | none => simp [hq] at hi
  | some i => simp [hq] at hi; simp [hi.2]

theorem exec_alloc (T : TypeId) (ho : o.op = .alloc T) {z : Value} {n : Nat} (hi : (P.info? T).map (fun i => (i.zero, i.size)) = some (some z, n)) :
    (execOp a.eval o).run P w = .ok (.value (.pointer (some ⟨w.heap.size, 0, none⟩))) (w.alloc (.cells z.cells T)) := by
  simp [execOp, ho, Instr.alloc, zero_of hi, newVar, newRow, Result.andThen]
theorem exec_box (T : TypeId) (x : Operand) (ho : o.op = .box T x) :
    (execOp a.eval o).run P w = .ok (.value (.pointer (some ⟨w.heap.size, 0, none⟩))) (w.alloc (.cells (a.eval x).cells T)) := by
  simp [execOp, ho, Instr.box, newVar, newRow, Result.andThen]
theorem exec_store_row (T : TypeId) (x y : Operand) (ho : o.op = .store T x y) {g : Nat} {cells old : Array Value} {t : TypeId}
    (hx : a.eval x = .pointer (some ⟨g, 0, none⟩)) (hy : a.eval y = .agg cells) (hb : Blk w g t old) (hi : (P.info? T).map (·.size) = some cells.size)
    (hs : old.size = cells.size) (h1 : cells.all (·.oneCell') = true) :
    (execOp a.eval o).run P w = .ok .skip (w.setRow g cells) := by
  simp [execOp, ho, hx, hy, Instr.storeAt, Instr.sureAddr, run_storeVar_row w g t T old cells hb hi hs h1, Result.andThen]
theorem exec_load_row (T : TypeId) (x : Operand) (ho : o.op = .load T x) {g : Nat} {cs : Array Value} {t : TypeId} {d : TypeDesc}
    (hx : a.eval x = .pointer (some ⟨g, 0, none⟩)) (hb : Blk w g t cs) (hu : P.underlying T = some d)
    (hd : (match d with | .struct _ | .array _ _ => true | _ => false) = true) (hi : (P.info? T).map (·.size) = some cs.size) :
    (execOp a.eval o).run P w = .ok (.value (.agg cs)) w := by
  simp [execOp, ho, hx, Instr.loadAt, Instr.sureAddr, run_loadVar_row w g t T cs (0, 0) d hb hu hd hi, Result.andThen]
/-- a whole array or struct, from the middle of whatever block -/
theorem run_loadVar_cells (w : World) (T : TypeId) (b off : Nat) (cs : List Value) (d : TypeDesc) (hc : ∀ j v, cs[j]? = some v → w.cell? ⟨b, off + j, none⟩ = some v)
    (hu : P.underlying T = some d) (hd : (match d with | .struct _ | .array _ _ => true | _ => false) = true) (hi : (P.info? T).map (·.size) = some cs.length) :
    (loadVar T ⟨b, off, none⟩).run P w = .ok (.agg cs.toArray) w := by
  have hl : (loadCells ⟨b, off, none⟩ cs.length).run P w = .ok cs.toArray w :=
    run_loadCells_list (P := P) w ⟨b, off, none⟩ cs (fun j v hv => by
      have hadd : (⟨b, off, none⟩ : Addr).add j = ⟨b, off + j, none⟩ := by unfold Addr.add; split <;> simp_all
      rw [hadd]; exact hc j v hv)
  cases hq : P.info? T with
  | none => simp [hq] at hi
  | some i =>
    have hs : i.size = cs.length := by simpa [hq] using hi
    have hagg : (isAgg T).run P w = .ok true w := by
      unfold isAgg
      rw [Sem.run_bind, run_underlying hu w]
      cases d <;> simp_all
    simp [loadVar, Sem.run_bind, hagg, sizeOf, typeInfo, hq, hs, hl]
theorem exec_load_cells (T : TypeId) (x : Operand) (ho : o.op = .load T x) {b off : Nat} {cs : List Value} {d : TypeDesc}
    (hx : a.eval x = .pointer (some ⟨b, off, none⟩)) (hc : ∀ j v, cs[j]? = some v → w.cell? ⟨b, off + j, none⟩ = some v) (hu : P.underlying T = some d)
    (hd : (match d with | .struct _ | .array _ _ => true | _ => false) = true) (hi : (P.info? T).map (·.size) = some cs.length) :
    (execOp a.eval o).run P w = .ok (.value (.agg cs.toArray)) w := by
  simp [execOp, ho, hx, Instr.loadAt, Instr.sureAddr, run_loadVar_cells w T b off cs d hc hu hd hi, Result.andThen]

/-- one cell -/
theorem exec_load1 (T : TypeId) (x : Operand) (ho : o.op = .load T x) {ad : Addr} {v : Value} {d : TypeDesc} (hx : a.eval x = .pointer (some ad)) (hc : w.cell? ad = some v) (hu : P.underlying T = some d)
    (hd : (match d with | .struct _ | .array _ _ => true | _ => false) = false) : (execOp a.eval o).run P w = .ok (.value v) w := by
  have hagg : (isAgg T).run P w = .ok false w := by
    unfold isAgg
    rw [Sem.run_bind, run_underlying hu w]
    cases d <;> simp_all
  simp [execOp, ho, hx, Instr.loadAt, Instr.sureAddr, loadVar, hagg, load, Sem.run, hc, Result.andThen]
theorem exec_arrayAt (T : TypeId) (x : Operand) (ho : o.op = .sliceToArrayPointer T x) {A : Option Addr} {m c n : Nat} {e : TypeId} (hx : a.eval x = .slice A m c)
    (hu : P.underlying T = some (.array n e)) (hn : n ≤ m) : (execOp a.eval o).run P w = .ok (.value (.pointer A)) w := by
  have hn' : ¬ m < n := by omega
  simp [execOp, ho, hx, Instr.arrayAt, run_underlying hu, hn', Result.andThen]

section maps
variable {α : Type} {enc : α → Value} {g : Nat} {l : List (Int × α)} {t kt et : TypeId}
theorem exec_lookup (m x : Operand) (ok : Bool) (ho : o.op = .lookup t m x ok) (k : Int) (hm : a.eval m = .map (some g)) (hx : a.eval x = .int .i64 k) (h : MapE w g enc l)
    (ht : P.underlying t = some (.map kt et)) (hk : P.underlying kt = some (.int .i64)) {z : Value} {n : Nat} (hi : (P.info? et).map (fun i => (i.zero, i.size)) = some (some z, n)) :
    (execOp a.eval o).run P w = .ok (.value (if ok then .tuple #[((aget l k).map enc).getD z, .bool (aget l k).isSome] else ((aget l k).map enc).getD z)) w := by
  simp [execOp, ho, hm, hx, run_lookup h ht hk (zero_of hi w), Result.andThen]
theorem exec_mapUpdate (m x y : Operand) (ho : o.op = .mapUpdate t m x y) (k : Int) (v : α) (hm : a.eval m = .map (some g)) (hx : a.eval x = .int .i64 k) (hy : a.eval y = enc v) (h : MapE w g enc l)
    (ht : P.underlying t = some (.map kt et)) (hk : P.underlying kt = some (.int .i64)) :
    ∃ w1, (execOp a.eval o).run P w = .ok .skip w1 ∧ MapE w1 g enc (aset l k v) ∧ Mod (At g) w w1 ∧ w1.heap.size = w.heap.size := by
  obtain ⟨w1, h1, h2⟩ := run_mapUpdate (P := P) h ht hk k v
  exact ⟨w1, by simp [execOp, ho, hm, hx, hy, h1, Result.andThen], h2⟩
theorem exec_range (m : Operand) (ho : o.op = .range t m) (hm : a.eval m = .map (some g)) (h : MapE w g enc l) (ht : P.underlying t = some (.map kt et)) :
    ∃ ob, (execOp a.eval o).run P w = .ok (.value (.pointer (some ⟨w.heap.size, 0, none⟩))) (w.alloc ob) ∧ IterE (w.alloc ob) w.heap.size g enc l [] := by
  obtain ⟨ob, h1, h2⟩ := run_range_map (P := P) h ht
  exact ⟨ob, by simp [execOp, ho, hm, h1, Result.andThen], h2⟩
theorem exec_next (x : Operand) (ho : o.op = .next x false) {it : Nat} {done : List Int} (hx : a.eval x = .pointer (some ⟨it, 0, none⟩)) (h : IterE w it g enc l done) :
    ((∀ e ∈ l, e.1 ∈ done) ∧ (execOp a.eval o).run P w = .ok (.value (.tuple #[.bool false])) w) ∨
    (∃ k v w', aget l k = some v ∧ k ∉ done ∧ (execOp a.eval o).run P w = .ok (.value (.tuple #[.bool true, .int .i64 k, enc v])) w' ∧
      IterE w' it g enc l (k :: done) ∧ Mod (At it) w w' ∧ w'.heap.size = w.heap.size) := by
  rcases run_next_map (P := P) h with ⟨h1, h2⟩ | ⟨k, v, w1, h1, h2, h3, h4⟩
  · exact .inl ⟨h1, by simp [execOp, ho, hx, h2, Result.andThen]⟩
  · exact .inr ⟨k, v, w1, h1, h2, by simp [execOp, ho, hx, h3, Result.andThen], h4⟩

end maps

/-! ### the walk's laws -/
theorem wpList_alloc_var (T : TypeId) (hg : Region.wanted o (yielded ops a.tmps) = true) (ho : o.op = .alloc T) {z : Value} {n : Nat} (hi : (P.info? T).map (fun i => (i.zero, i.size)) = some (some z, n))
    (h : ∀ w1, Blk w1 w.heap.size T z.cells → Mod Nn w w1 → w1.heap.size = w.heap.size + 1 → wpList P ops Q rest (a.put o.dst (.pointer (some ⟨w.heap.size, 0, none⟩))) w1) :
    wpList P ops Q (o :: rest) a w :=
  wpList_val hg (exec_alloc T ho hi) (h _ (Blk.new _ _ _) ((Mod.refl _ _).alloc _) (by simp))
theorem wpList_store_var (T : TypeId) (x y : Operand) (hg : Region.wanted o (yielded ops a.tmps) = true) (ho : o.op = .store T x y) (g : Nat) (cells old : Array Value) (t : TypeId)
    (hx : a.eval x = .pointer (some ⟨g, 0, none⟩)) (hy : a.eval y = .agg cells) (hb : Blk w g t old) (hi : (P.info? T).map (·.size) = some cells.size)
    (hs : old.size = cells.size) (h1 : cells.all (·.oneCell') = true)
    (h : ∀ w1, Blk w1 g t cells → Mod (At g) w w1 → w1.heap.size = w.heap.size → wpList P ops Q rest (a.put o.dst undef) w1) :
    wpList P ops Q (o :: rest) a w :=
  wpList_unit hg (exec_store_row T x y ho hx hy hb hi hs h1) (h _ (hb.setRow_ _) (Mod.rowAt _ _ _) (by simp))
theorem wpList_load_var (T : TypeId) (x : Operand) (hg : Region.wanted o (yielded ops a.tmps) = true) (ho : o.op = .load T x) (g : Nat) (cs : Array Value) (t : TypeId) (d : TypeDesc)
    (hx : a.eval x = .pointer (some ⟨g, 0, none⟩)) (hb : Blk w g t cs) (hu : P.underlying T = some d)
    (hd : (match d with | .struct _ | .array _ _ => true | _ => false) = true) (hi : (P.info? T).map (·.size) = some cs.size)
    (h : wpList P ops Q rest (a.put o.dst (.agg cs)) w) : wpList P ops Q (o :: rest) a w :=
  wpList_val hg (exec_load_row T x ho hx hb hu hd hi) h
section maps2
variable {α : Type} {enc : α → Value} {g : Nat} {l : List (Int × α)} {t kt et : TypeId}
theorem wpList_lookup_E (t : TypeId) (m x : Operand) (ok : Bool) (hg : Region.wanted o (yielded ops a.tmps) = true) (ho : o.op = .lookup t m x ok) (g : Nat) (k : Int) (hm : a.eval m = .map (some g)) (hx : a.eval x = .int .i64 k) (h : MapE w g enc l)
    (ht : P.underlying t = some (.map kt et)) (hk : P.underlying kt = some (.int .i64)) {z : Value} {n : Nat} (hi : (P.info? et).map (fun i => (i.zero, i.size)) = some (some z, n)) (r : Value)
    (hr : (if ok then .tuple #[((aget l k).map enc).getD z, .bool (aget l k).isSome] else ((aget l k).map enc).getD z) = r)
    (hK : wpList P ops Q rest (a.put o.dst r) w) : wpList P ops Q (o :: rest) a w :=
  wpList_val hg (exec_lookup m x ok ho k hm hx h ht hk hi) (by rw [hr]; exact hK)
theorem wpList_mapUpdate_E (t : TypeId) (m x y : Operand) (hg : Region.wanted o (yielded ops a.tmps) = true) (ho : o.op = .mapUpdate t m x y) (g : Nat) (k : Int) (v : α) (hm : a.eval m = .map (some g)) (hx : a.eval x = .int .i64 k) (hy : a.eval y = enc v) (h : MapE w g enc l)
    (ht : P.underlying t = some (.map kt et)) (hk : P.underlying kt = some (.int .i64))
    (hK : ∀ w1, MapE w1 g enc (aset l k v) → Mod (At g) w w1 → w1.heap.size = w.heap.size → wpList P ops Q rest (a.put o.dst undef) w1) : wpList P ops Q (o :: rest) a w := by
  obtain ⟨w1, h1, h2, h3, h4⟩ := exec_mapUpdate (P := P) (o := o) (a := a) m x y ho k v hm hx hy h ht hk
  exact wpList_unit hg h1 (hK w1 h2 h3 h4)
theorem wpList_range_E (t : TypeId) (m : Operand) (hg : Region.wanted o (yielded ops a.tmps) = true) (ho : o.op = .range t m) (g : Nat) (hm : a.eval m = .map (some g)) (h : MapE w g enc l) (ht : P.underlying t = some (.map kt et))
    (hK : ∀ w1, IterE w1 w.heap.size g enc l [] → Mod Nn w w1 → w1.heap.size = w.heap.size + 1 → wpList P ops Q rest (a.put o.dst (.pointer (some ⟨w.heap.size, 0, none⟩))) w1) : wpList P ops Q (o :: rest) a w := by
  obtain ⟨ob, h1, h2⟩ := exec_range (P := P) (o := o) (a := a) m ho hm h ht
  exact wpList_val hg h1 (hK _ h2 ((Mod.refl _ _).alloc _) (by simp))
theorem wpList_next_E (x : Operand) (hg : Region.wanted o (yielded ops a.tmps) = true) (ho : o.op = .next x false) (it : Nat) (done : List Int) (hx : a.eval x = .pointer (some ⟨it, 0, none⟩)) (h : IterE w it g enc l done)
    (h0 : (∀ e ∈ l, e.1 ∈ done) → wpList P ops Q rest (a.put o.dst (.tuple #[.bool false])) w)
    (h1 : ∀ k v w1, aget l k = some v → k ∉ done → IterE w1 it g enc l (k :: done) → Mod (At it) w w1 → w1.heap.size = w.heap.size →
      wpList P ops Q rest (a.put o.dst (.tuple #[.bool true, .int .i64 k, enc v])) w1) : wpList P ops Q (o :: rest) a w := by
  rcases exec_next (P := P) (o := o) (a := a) x ho hx h with ⟨h2, h3⟩ | ⟨k, v, w1, h2, h3, h4, h5, h6, h7⟩
  · exact wpList_val hg h3 (h0 h2)
  · exact wpList_val hg h4 (h1 k v w1 h2 h3 h5 h6 h7)
theorem wpList_entry_E (x : Operand) (hg : Region.wanted o (yielded ops a.tmps) = true) (ho : o.op = .entry x) (it : Nat) (k : Int) (v : α) (done : List Int) (hx : a.eval x = .pointer (some ⟨it, 0, none⟩)) (h : IterE w it g enc l (k :: done)) (hv : aget l k = some v)
    (hK : wpList P ops Q rest (a.put o.dst (.tuple #[.int .i64 k, enc v])) w) : wpList P ops Q (o :: rest) a w := by
  refine wpList_val hg ?_ hK
  simp [execOp, ho, hx, run_entry_map (P := P) h hv, Result.andThen]
theorem wpList_clear_E (t : TypeId) (m : Operand) (hg : Region.wanted o (yielded ops a.tmps) = true) (ho : o.op = .call { callee := .builtin .clear, args := #[m], argTypes := #[t] }) (g : Nat) (hm : a.eval m = .map (some g)) (h : MapE w g enc l) (ht : P.underlying t = some (.map kt et))
    (hK : ∀ w1, MapE w1 g enc [] → Mod (At g) w w1 → w1.heap.size = w.heap.size → wpList P ops Q rest (a.put o.dst (.tuple #[])) w1) : wpList P ops Q (o :: rest) a w := by
  obtain ⟨w1, h1, h2, h3, h4⟩ := run_clear (P := P) h ht o.type
  refine wpList_val hg (w1 := w1) (v := .tuple #[]) ?_ (hK w1 h2 h3 h4)
  simp [execOp, ho, resolve, invoke, builtin, hm, h1, Result.andThen]
theorem wpList_delete_E (t u : TypeId) (m x : Operand) (hg : Region.wanted o (yielded ops a.tmps) = true) (ho : o.op = .call { callee := .builtin .delete, args := #[m, x], argTypes := #[t, u] }) (g : Nat) (k : Int) (hm : a.eval m = .map (some g)) (hx : a.eval x = .int .i64 k) (h : MapE w g enc l)
    (ht : P.underlying t = some (.map kt et)) (hk : P.underlying kt = some (.int .i64))
    (hK : ∀ w1, MapE w1 g enc (adel l k) → Mod (At g) w w1 → w1.heap.size = w.heap.size → wpList P ops Q rest (a.put o.dst (.tuple #[])) w1) : wpList P ops Q (o :: rest) a w := by
  obtain ⟨w1, h1, h2, h3, h4⟩ := run_delete (P := P) h ht hk u o.type k
  refine wpList_val hg (w1 := w1) (v := .tuple #[]) ?_ (hK w1 h2 h3 h4)
  simp [execOp, ho, resolve, invoke, builtin, hm, hx, h1, Result.andThen]
end maps2
end
end Go.Proofs.Ytjndcgpfikngaaa
