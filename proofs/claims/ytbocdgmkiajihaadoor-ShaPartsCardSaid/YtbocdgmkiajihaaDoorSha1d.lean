/- The program's words: its state built, its tables (package-level variables); an array's element. -/
import Derived.Test.YtbocdgmkiajihaaDoorSha1c
namespace Go.Proofs.YtbocdgmkiajihaaDoor
open Go.RowKit

section
variable {P : Program} {o : Oper} {a : Act} {w : World}
theorem exec_index_arr {T e : TypeId} {n i : Nat} {k : IntKind} {cs : Array Value} {v : Value} (x y : Operand) (ho : o.op = .index T x y) (hx : a.eval x = .agg cs) (hy : a.eval y = .int .i64 (i : Int))
    (hu : P.underlying T = some (.array n e)) (he : P.underlying e = some (.int k)) (hs : (P.info? e).map (·.size) = some 1) (hi : i < n) (hv : cs[i]? = some v) :
    (execOp a.eval o).run P w = .ok (.value v) w := by
  obtain ⟨ie, hie, hse⟩ := Option.map_eq_some_iff.1 hs
  have h1 : (0 : Int) ≤ (i : Int) ∧ (i : Int) < (n : Int) := ⟨by omega, by omega⟩
  simp [execOp, ho, hx, hy, Instr.index, asIntOf, run_underlying hu, h1, sizeOf, typeInfo, hie, hse, part, isAgg, run_underlying he, hv, Result.andThen]
  simp [hi, hv, hie, hse, run_underlying he, sizeOf, typeInfo, part, isAgg]
end
set_option maxRecDepth 100000 in
theorem exec_build8s {o : Oper} {a : Act} {w : World} (x0 x1 x2 x3 x4 x5 x6 x7 : Operand) (ho : o.op = .build 63 #[(0, x0), (1, x1), (2, x2), (3, x3), (4, x4), (5, x5), (6, x6), (7, x7)]) {v0 v1 v2 v3 v4 v5 v6 v7 : W32}
    (h0 : a.eval x0 = wv v0) (h1 : a.eval x1 = wv v1) (h2 : a.eval x2 = wv v2) (h3 : a.eval x3 = wv v3) (h4 : a.eval x4 = wv v4) (h5 : a.eval x5 = wv v5) (h6 : a.eval x6 = wv v6) (h7 : a.eval x7 = wv v7) :
    (execOp a.eval o).run Tryd.prog w = .ok (.value (.agg (wvs [v0, v1, v2, v3, v4, v5, v6, v7]))) w := by
  have hb : Tryd.prog.built 63 (#[(0, wv v0), (1, wv v1), (2, wv v2), (3, wv v3), (4, wv v4), (5, wv v5), (6, wv v6), (7, wv v7)] : Array (Nat × Value)).toList = some (wvs [v0, v1, v2, v3, v4, v5, v6, v7]) := by kernel_rfl
  have hr := run_build (P := Tryd.prog) w 63 _ _ hb
  simp only [execOp, ho, List.map_toArray, List.map_cons, List.map_nil, h0, h1, h2, h3, h4, h5, h6, h7]
  simp [hr, Result.andThen]
theorem size_st : (Tryd.prog.info? 63).map (·.size) = some 8 := by kernel_rfl
/-- the program's tables -/
structure Gl (w : World) : Prop where
  f : ∀ (i : Nat) (v : Value), (iV.l.map wv)[i]? = some v → w.cell? ⟨0, 0 + i, none⟩ = some v
  r : ∀ (i : Nat) (v : Value), (kK.map wv)[i]? = some v → w.cell? ⟨1, 0 + i, none⟩ = some v
theorem Gl.lt {w : World} (h : Gl w) : 1 < w.heap.size := World.block_lt_of_cell? w _ (h.r 0 (wv (kK.getD 0 0#32)) rfl)
theorem Gl.mod {w w' : World} {S : Nat → Prop} (h : Gl w) (hm : Mod S w w') (h0 : ¬ S 0) (h1 : ¬ S 1) : Gl w' := by
  have hl := h.lt
  exact ⟨fun i v hv => (hm.cell (p := ⟨0, 0 + i, none⟩) (by show 0 < _; omega) h0).trans (h.f i v hv), fun i v hv => (hm.cell (p := ⟨1, 0 + i, none⟩) hl h1).trans (h.r i v hv)⟩
theorem Gl.nn {w w' : World} (h : Gl w) (hm : Mod Nn w w') : Gl w' := h.mod hm (fun f => f) (fun f => f)
theorem Gl.drew {w : World} (h : Gl w) : Gl w.drew := h.nn (Mod.refl Nn w).drew
end Go.Proofs.YtbocdgmkiajihaaDoor
