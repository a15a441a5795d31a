/- peatbanklaw12.HeadNumbers: parts (printed by wip/gen/hdnum.py). -/
import Derived.Test.YtodnhbiomooknaaGreatHd20
import Derived.Test.YtodnhbiomooknaaGreatHd15
import Derived.Test.YtodnhbiomooknaaGreatHd16
import Derived.Test.YtodnhbiomooknaaGreatKit27
namespace Go.Proofs.YtodnhbiomooknaaGreat
open Go.RowKit

def wideHd : Hd := ⟨⟨64, 4, 32, 1, 8⟩, 7, 38, 37, 1⟩
def twoHd (i : Nat) : Hd := if i = 0 then sm else wideHd
theorem hbytes_z (h : Hd) : ∀ z ∈ hbytes h, z < 256 := by
  unfold hbytes
  split
  · exact h.fr.bytes_lt h.data_lt
  · intro z hz; cases hz
theorem info_headz : (Tryz.prog.info? 25).map (fun i => (i.zero, i.size)) = some (some (.agg #[.int .i64 0, .int .i64 0, .int .i64 0, .int .i64 0, .int .i64 0, .int .i64 0, .int .i64 0, .int .i64 0, .int .i64 0]), 9) := by kernel_rfl
theorem info_slz : (Tryz.prog.info? 26).map (fun i => (i.zero, i.size)) = some (some (.slice none 0 0), 1) := by kernel_rfl
section
variable {w : World} {o : Oper} {a' : Act}
theorem exec_bheads {x0 x1 : Operand} (ho : o.op = .buildSlice 37 2 #[(0, x0), (1, x1)]) (a b : Hd) (h0 : a'.eval x0 = .agg (hC a)) (h1 : a'.eval x1 = .agg (hC b)) :
    (execOp a'.eval o).run Tryz.prog w = .ok (.value (.slice (some ⟨w.heap.size, 0, none⟩) 2 2)) (w.alloc (.cells #[.int .i64 a.g.v, .int .i64 a.g.S, .int .i64 a.g.s, .int .i64 a.g.u, .int .i64 a.g.j, .int .i64 a.n, .int .i64 a.p, .int .i64 a.r, .int .i64 a.k, .int .i64 b.g.v, .int .i64 b.g.S, .int .i64 b.g.s, .int .i64 b.g.u, .int .i64 b.g.j, .int .i64 b.n, .int .i64 b.p, .int .i64 b.r, .int .i64 b.k] 25)) := by
  obtain ⟨ie, hie, h⟩ := Option.map_eq_some_iff.1 info_headz
  simp only [Prod.mk.injEq] at h
  obtain ⟨hz, hsz⟩ := h
  unfold hC at h0 h1
  have hf : Instr.fill (fun i => some (i * ie.size, ie.size)) ((Array.range (2 * ie.size)).map ((Value.agg #[.int .i64 0, .int .i64 0, .int .i64 0, .int .i64 0, .int .i64 0, .int .i64 0, .int .i64 0, .int .i64 0, .int .i64 0]).cells[· % (Value.agg #[.int .i64 0, .int .i64 0, .int .i64 0, .int .i64 0, .int .i64 0, .int .i64 0, .int .i64 0, .int .i64 0, .int .i64 0]).cells.size]!)) (#[(0, .agg #[.int .i64 a.g.v, .int .i64 a.g.S, .int .i64 a.g.s, .int .i64 a.g.u, .int .i64 a.g.j, .int .i64 a.n, .int .i64 a.p, .int .i64 a.r, .int .i64 a.k]), (1, .agg #[.int .i64 b.g.v, .int .i64 b.g.S, .int .i64 b.g.s, .int .i64 b.g.u, .int .i64 b.g.j, .int .i64 b.n, .int .i64 b.p, .int .i64 b.r, .int .i64 b.k])] : Array (Nat × Value)).toList = some #[.int .i64 a.g.v, .int .i64 a.g.S, .int .i64 a.g.s, .int .i64 a.g.u, .int .i64 a.g.j, .int .i64 a.n, .int .i64 a.p, .int .i64 a.r, .int .i64 a.k, .int .i64 b.g.v, .int .i64 b.g.S, .int .i64 b.g.s, .int .i64 b.g.u, .int .i64 b.g.j, .int .i64 b.n, .int .i64 b.p, .int .i64 b.r, .int .i64 b.k] := by
    rw [hsz]
    kernel_rfl
  have hr := run_buildSlice (P := Tryz.prog) w 37 25 2 _ _ ie _ Tryz.underlying37 hie hz (by rw [hsz]; omega) (by rw [hsz]; omega) hf
  simp only [execOp, ho, List.map_toArray, List.map_cons, List.map_nil, h0, h1]
  simp [hr, Result.andThen]
theorem exec_bslice8 {x0 x1 x2 x3 x4 x5 x6 x7 : Operand} (ho : o.op = .buildSlice 32 8 #[(0, x0), (1, x1), (2, x2), (3, x3), (4, x4), (5, x5), (6, x6), (7, x7)]) {A0 A1 A2 A3 A4 A5 A6 A7 : Option Addr} {n0 n1 n2 n3 n4 n5 n6 n7 c0 c1 c2 c3 c4 c5 c6 c7 : Nat}
    (h0 : a'.eval x0 = .slice A0 n0 c0) (h1 : a'.eval x1 = .slice A1 n1 c1) (h2 : a'.eval x2 = .slice A2 n2 c2) (h3 : a'.eval x3 = .slice A3 n3 c3) (h4 : a'.eval x4 = .slice A4 n4 c4) (h5 : a'.eval x5 = .slice A5 n5 c5) (h6 : a'.eval x6 = .slice A6 n6 c6) (h7 : a'.eval x7 = .slice A7 n7 c7) :
    (execOp a'.eval o).run Tryz.prog w = .ok (.value (.slice (some ⟨w.heap.size, 0, none⟩) 8 8)) (w.alloc (.cells #[.slice A0 n0 c0, .slice A1 n1 c1, .slice A2 n2 c2, .slice A3 n3 c3, .slice A4 n4 c4, .slice A5 n5 c5, .slice A6 n6 c6, .slice A7 n7 c7] 26)) := by
  obtain ⟨ie, hie, h⟩ := Option.map_eq_some_iff.1 info_slz
  simp only [Prod.mk.injEq] at h
  obtain ⟨hz, hsz⟩ := h
  have hf : Instr.fill (fun i => some (i * ie.size, ie.size)) ((Array.range (8 * ie.size)).map ((Value.slice none 0 0).cells[· % (Value.slice none 0 0).cells.size]!)) (#[(0, .slice A0 n0 c0), (1, .slice A1 n1 c1), (2, .slice A2 n2 c2), (3, .slice A3 n3 c3), (4, .slice A4 n4 c4), (5, .slice A5 n5 c5), (6, .slice A6 n6 c6), (7, .slice A7 n7 c7)] : Array (Nat × Value)).toList = some #[.slice A0 n0 c0, .slice A1 n1 c1, .slice A2 n2 c2, .slice A3 n3 c3, .slice A4 n4 c4, .slice A5 n5 c5, .slice A6 n6 c6, .slice A7 n7 c7] := by
    rw [hsz]
    kernel_rfl
  have hr := run_buildSlice (P := Tryz.prog) w 32 26 8 _ _ ie _ Tryz.underlying32 hie hz (by rw [hsz]; omega) (by rw [hsz]; omega) hf
  simp only [execOp, ho, List.map_toArray, List.map_cons, List.map_nil, h0, h1, h2, h3, h4, h5, h6, h7]
  simp [hr, Result.andThen]
theorem exec_bconsts {t e : TypeId} {n : Nat} {xs : Array (Nat × Operand)} (ho : o.op = .buildSlice t n xs) (vs : List Value) (hu : Tryz.prog.underlying t = some (.slice e)) (hi : (Tryz.prog.info? e).map (fun i => (i.zero, i.size)) = some (some (.int .u8 0), 1)) (hn : 0 < n ∧ n ≤ 4096)
    (hf : Instr.fill (fun i => some (i * 1, 1)) ((Array.range (n * 1)).map ((Value.int .u8 0).cells[· % (Value.int .u8 0).cells.size]!)) (xs.map fun p => (p.1, a'.eval p.2)).toList = some vs.toArray) :
    (execOp a'.eval o).run Tryz.prog w = .ok (.value (.slice (some ⟨w.heap.size, 0, none⟩) n n)) (w.alloc (.cells vs.toArray e)) := by
  obtain ⟨ie, hie, h⟩ := Option.map_eq_some_iff.1 hi
  simp only [Prod.mk.injEq] at h
  obtain ⟨hz, hsz⟩ := h
  have hr := run_buildSlice (P := Tryz.prog) w t e n (xs.map fun p => (p.1, a'.eval p.2)) vs.toArray ie _ hu hie hz (by rw [hsz]; omega) (by rw [hsz]; omega) (by rw [hsz]; exact hf)
  simp only [execOp, ho]
  simp [hr, Result.andThen]
theorem r12put_sm (w : World) : Calls Tryz.prog 6 #[.agg #[.int .i64 64, .int .i64 4, .int .i64 32, .int .i64 1, .int .i64 8, .int .i64 7, .int .i64 1, .int .i64 0, .int .i64 1]] w fun r w' => ∃ g c, r = .returned (.tuple #[.slice (some ⟨g, 0, none⟩) 512 c, .int .i64 0]) ∧ Rd w' (some ⟨g, 0, none⟩) 512 (bv smb) ∧ 512 ≤ c ∧ c ≤ maxLen ∧ g < w'.heap.size ∧ Mod Nn w w' := by
  refine (r12put_any sm w).mono ?_
  rintro r w' ⟨A, c, h1, h2, h3⟩
  rw [show herr sm = 0 from if_pos sm_right] at h1
  rw [show hbytes sm = sm.fr.bytes from if_pos sm_right, sm_len] at h1 h2
  obtain ⟨g, cap, cur, hv, _, hb, h4, h5, _, _⟩ := own_blk h2 (by omega)
  injection hv with e1 e2 e3
  subst e1; subst e3
  exact ⟨g, c, h1, Rd.of_own h2, h4, h5, hb.lt, h3⟩
end
end Go.Proofs.YtodnhbiomooknaaGreat
