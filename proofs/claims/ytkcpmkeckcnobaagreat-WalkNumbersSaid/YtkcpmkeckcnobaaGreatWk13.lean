/- peatbanklaw17.WalkNumbers. -/
import Derived.Test.YtkcpmkeckcnobaaGreatWk12
import Derived.Test.YtkcpmkeckcnobaaGreatWk8
namespace Go.Proofs.YtkcpmkeckcnobaaGreat
open Go.RowKit

theorem ze_ok : ze.length = 80 ∧ ∀ z ∈ ze, z < 256 := ⟨ze_len, fun z hz => by have := List.eq_of_mem_replicate hz; omega⟩
def dow (z : Int) (e : List Nat) (h : e.length = 80 ∧ ∀ z ∈ e, z < 256) : DoW := ⟨z, e, h⟩
def zD : Value := .agg (Value.int .i64 0 :: bv ze).toArray
theorem infoD : (Tryz.prog.info? 57).map (fun i => (i.zero, i.size, i.bytes)) = some (some zD, 81, 88) := by kernel_rfl
theorem infoD2 : (Tryz.prog.info? 57).map (fun i => (i.zero, i.size)) = some (some zD, 81) := by kernel_rfl
theorem zeroD : (Tryz.prog.info? 57).map (·.zero) = some (some zD) := by kernel_rfl
theorem zsD : zD.cells.size = 81 := by rw [zD, Value.cells, List.size_toArray, List.length_cons, bv_len, ze_len]
section
variable {w : World} {o : Oper} {a : Act}
theorem exec_do1 {x : Operand} {z : Int} (ho : o.op = .build 57 #[(0, x)]) (hx : a.eval x = .int .i64 z) : (execOp a.eval o).run Tryz.prog w = .ok (.value (.agg (doW (dow z ze ze_ok)).toArray)) w := by
  have hc : cellsOf [.int .i64 z] = [.int .i64 z] := rfl
  have := exec_build_seq (P := Tryz.prog) (w := w) (a := a) 57 _ [.int .i64 z] ho zeroD (zs := Value.int .i64 0 :: bv ze) rfl (by rw [hc]; simp) Tryz.underlying57 [(0, 1), (1, 80)] (by kernel_rfl)
    (fun i q hq => by
      have e : offs 0 [.int .i64 z] = [(0, 1)] := rfl
      rw [e] at hq
      match i, hq with
      | 0, hq => exact hq) (by simp [hx, List.zipIdx])
  exact this
theorem exec_do2 {x y : Operand} {z : Int} {e : List Nat} (he : e.length = 80 ∧ ∀ z ∈ e, z < 256) (ho : o.op = .build 57 #[(0, x), (1, y)]) (hx : a.eval x = .int .i64 z) (hy : a.eval y = .agg (bv e).toArray) : (execOp a.eval o).run Tryz.prog w = .ok (.value (.agg (doW (dow z e he)).toArray)) w := by
  have hc : cellsOf [.int .i64 z, .agg (bv e).toArray] = .int .i64 z :: bv e := by simp [cellsOf, Value.cells]
  have := exec_build_seq (P := Tryz.prog) (w := w) (a := a) 57 _ [.int .i64 z, .agg (bv e).toArray] ho zeroD (zs := Value.int .i64 0 :: bv ze) rfl (by rw [hc]; simp [bv_len, he.1, ze_len]) Tryz.underlying57 [(0, 1), (1, 80)] (by kernel_rfl)
    (fun i q hq => by
      have e : offs 0 [.int .i64 z, .agg (bv e).toArray] = [(0, 1), (1, 80)] := by simp [offs, Value.cells, bv_len, he.1]
      rwa [e] at hq) (by simp [hx, hy, List.zipIdx])
  rw [hc, List.drop_of_length_le (by simp [bv_len, he.1, ze_len])] at this
  simpa [doW, dow] using this
theorem exec_dos2 {x y : Operand} {p q : DoW} (ho : o.op = .buildSlice 55 2 #[(0, x), (1, y)]) (hx : a.eval x = .agg (doW p).toArray) (hy : a.eval y = .agg (doW q).toArray) :
    (execOp a.eval o).run Tryz.prog w = .ok (.value (.slice (some ⟨w.heap.size, 0, none⟩) 2 2)) (w.alloc (.cells (flat doW [p, q]).toArray 57)) := by
  have := exec_bsliceN (P := Tryz.prog) (w := w) (a := a) 55 57 2 _ [.agg (doW p).toArray, .agg (doW q).toArray] ho Tryz.underlying55 infoD2 (by omega) (by omega) (by simp [hx, hy, List.zipIdx]) rfl (by
    intro v hv
    simp only [List.mem_cons, List.not_mem_nil, or_false] at hv
    rcases hv with rfl | rfl <;> (rw [Value.cells, List.size_toArray, doW_len]))
  have e : ([Value.agg (doW p).toArray, .agg (doW q).toArray].flatMap (fun v => v.cells.toList)) = flat doW [p, q] := by simp [Value.cells, flat]
  rwa [e] at this
theorem exec_dos3 {x y z : Operand} {p q r : DoW} (ho : o.op = .buildSlice 55 3 #[(0, x), (1, y), (2, z)]) (hx : a.eval x = .agg (doW p).toArray) (hy : a.eval y = .agg (doW q).toArray) (hz : a.eval z = .agg (doW r).toArray) :
    (execOp a.eval o).run Tryz.prog w = .ok (.value (.slice (some ⟨w.heap.size, 0, none⟩) 3 3)) (w.alloc (.cells (flat doW [p, q, r]).toArray 57)) := by
  have := exec_bsliceN (P := Tryz.prog) (w := w) (a := a) 55 57 3 _ [.agg (doW p).toArray, .agg (doW q).toArray, .agg (doW r).toArray] ho Tryz.underlying55 infoD2 (by omega) (by omega) (by simp [hx, hy, hz, List.zipIdx]) rfl (by
    intro v hv
    simp only [List.mem_cons, List.not_mem_nil, or_false] at hv
    rcases hv with rfl | rfl | rfl <;> (rw [Value.cells, List.size_toArray, doW_len]))
  have e : ([Value.agg (doW p).toArray, .agg (doW q).toArray, .agg (doW r).toArray].flatMap (fun v => v.cells.toList)) = flat doW [p, q, r] := by simp [Value.cells, flat]
  rwa [e] at this
end
def OwnD (w : World) (base : Nat) (v : Value) (M : List DoW) : Prop := w.ownsRow base 57 81 v M.length (flat doW M)
theorem OwnD.nn {w w' : World} {base : Nat} {v : Value} {M : List DoW} (h : OwnD w base v M) (hm : Mod Nn w w') : OwnD w' base v M := own_mod h hm (fun _ _ f => f)
theorem OwnD.at_ {w : World} {base : Nat} {v : Value} {M : List DoW} (h : OwnD w base v M) : ∃ B c, v = .slice B M.length c ∧ DoAt w B M.length M := by
  obtain ⟨B, c, rfl, _, _⟩ := own_form h
  exact ⟨B, c, rfl, own_rdC h, rfl⟩
theorem do_one (p : DoW) : ∀ u ∈ doW p, u.oneCell' = true := fun u hu => by
  rcases List.mem_cons.1 hu with rfl | hu
  · rfl
  · exact bv_one _ u hu
theorem byte_of (x : Int) : ∃ k : Nat, k < 256 ∧ IntKind.u8.wrap x = (k : Int) := by
  rw [IntKind.wrap_u8]
  exact ⟨(x % 256).toNat, by omega, by omega⟩
end Go.Proofs.YtkcpmkeckcnobaaGreat
