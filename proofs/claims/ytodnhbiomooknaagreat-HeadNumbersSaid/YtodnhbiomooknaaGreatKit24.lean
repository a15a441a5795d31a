/- Arrays of bytes built of several parts. No program is named. -/
import Derived.Test.YtodnhbiomooknaaGreatKit22
namespace Go.Proofs.YtodnhbiomooknaaGreat
open Go.RowKit

/-- bytes put at places, one behind the other -/
def puts (l : List Nat) (ps : List (Nat × Nat)) : List Nat := ps.foldl (fun l p => l.set p.1 p.2) l
theorem puts_len : ∀ (ps : List (Nat × Nat)) (l : List Nat), (puts l ps).length = l.length
  | [], _ => rfl
  | p :: ps, l => (puts_len ps (l.set p.1 p.2)).trans (List.length_set ..)
theorem fill_bytes : ∀ (ps : List (Nat × Nat)) (l : List Nat), (∀ p ∈ ps, p.1 < l.length) →
    Instr.fill (fun i => some (i * 1, 1)) (bv l).toArray (ps.map fun p => (p.1, Value.int .u8 (p.2 : Int))) = some (bv (puts l ps)).toArray
  | [], l, _ => rfl
  | p :: ps, l, h => by
    have hp := h p List.mem_cons_self
    have ih := fill_bytes ps (l.set p.1 p.2) (fun q hq => by rw [List.length_set]; exact h q (List.mem_cons_of_mem _ hq))
    have hs : (bv l).toArray.setIfInBounds p.1 (Value.int .u8 (p.2 : Int)) = (bv (l.set p.1 p.2)).toArray := by
      unfold bv
      rw [List.map_set, List.setIfInBounds_toArray]
    have hb : ¬ (bv l).length < p.1 + 1 := by rw [bv_len]; omega
    rw [List.map_cons, Instr.fill]
    simp only [Nat.mul_one] at ih ⊢
    simp [Value.cells, hs, hb, ih, puts]
variable {P : Program} {w : World} {o : Oper} {a : Act}
theorem exec_build_bytes (t e : TypeId) (n : Nat) (fs : Array (Nat × Operand)) (ho : o.op = .build t fs) (hu : P.underlying t = some (.array n e)) (hi : (P.info? e).map (·.size) = some 1)
    (hz : (P.info? t).map (·.zero) = some (some (.agg (bv (List.replicate n 0)).toArray))) (ps : List (Nat × Nat)) (hp : fs.toList.map (fun p => (p.1, a.eval p.2)) = ps.map (fun p => (p.1, Value.int .u8 (p.2 : Int))))
    (hlt : ∀ p ∈ ps, p.1 < n) : (execOp a.eval o).run P w = .ok (.value (.agg (bv (puts (List.replicate n 0) ps)).toArray)) w := by
  obtain ⟨it, hit, hzz⟩ := Option.map_eq_some_iff.1 hz
  obtain ⟨ie, hie, hes⟩ := Option.map_eq_some_iff.1 hi
  have hb : P.built t ((fs.map fun p => (p.1, a.eval p.2)) : Array (Nat × Value)).toList = some (bv (puts (List.replicate n 0) ps)).toArray := by
    unfold Program.built
    rw [hit, hu]
    simp only [hzz, hie, hes]
    rw [Array.toList_map, hp]
    exact fill_bytes ps _ (fun p h => by rw [List.length_replicate]; exact hlt p h)
  have hr := run_build (P := P) w t _ _ hb
  simp only [execOp, ho]
  simp [hr, Result.andThen]
end Go.Proofs.YtodnhbiomooknaaGreat
