/- Keys compared; the two tables out of the listed data; peatbanklaw01.awake. -/
import Derived.Test.YtbocdgmkiajihaaDoorSha11
import Derived.Test.YtbocdgmkiajihaaDoorBytes2
import Derived.Stop.BytesEq
import Derived.Lib.SlBytesConst
import Derived.LaidMore
import Derived.OpenShut
namespace Go.Proofs.YtbocdgmkiajihaaDoor
open Go.RowKit

theorem keyL_lt (v : S8) : ∀ z ∈ keyL v, z < 256 := fun z hz => by
  unfold keyL at hz
  obtain ⟨i, _, rfl⟩ := List.mem_map.1 hz
  exact Nat.mod_lt _ (by omega)
theorem digL_lt (l : List Nat) : ∀ z ∈ digL l, z < 256 := keyL_lt _
theorem u8s_cells {l : List Nat} (hl : ∀ z ∈ l, z < 256) : u8s l = (l.map UInt8.ofNat).map Extern.Stop.cell := by
  unfold u8s
  rw [List.map_map]
  refine List.map_congr_left fun z hz => ?_
  show _ = Value.int .u8 (Int.ofNat (UInt8.ofNat z).toNat)
  rw [UInt8.toNat_ofNat_of_lt' (hl z hz)]; rfl
theorem equalK (w : World) {l : List Nat} (hl : l.length = 32) (h : ∀ z ∈ l, z < 256) : (Op.equalIn 10000 26 (.agg (u8s l).toArray) (.agg (u8s l).toArray)).run Tryd.prog w = .ok true w := by
  rw [u8s_cells h, run_equalIn_bytes w 9998 26 5 32 Tryd.underlying26 Tryd.underlying5 (fun w => by kernel_rfl) _ _ (by rw [List.length_map]; exact hl) (by rw [List.length_map]; exact hl)]
  simp
section
variable {w : World} {o : Oper} {a : Act} {l : List Nat}
theorem exec_eqK (x y : Operand) (ho : o.op = .binOp .eql 26 x y 26) (hx : a.eval x = .agg (u8s l).toArray) (hy : a.eval y = .agg (u8s l).toArray) (hl : l.length = 32) (h : ∀ z ∈ l, z < 256) :
    (execOp a.eval o).run Tryd.prog w = .ok (.value (.bool true)) w := by
  simp [execOp, ho, hx, hy, run_eqGuard_agg, Tryd.eqGuardType26, run_eql_struct, equalK w hl h, Result.andThen]
theorem exec_neK (x y : Operand) (ho : o.op = .binOp .neq 26 x y 26) (hx : a.eval x = .agg (u8s l).toArray) (hy : a.eval y = .agg (u8s l).toArray) (hl : l.length = 32) (h : ∀ z ∈ l, z < 256) :
    (execOp a.eval o).run Tryd.prog w = .ok (.value (.bool false)) w := by
  simp [execOp, ho, hx, hy, run_eqGuard_agg, Tryd.eqGuardType26, run_neq_struct, equalK w hl h, Result.andThen]
end

theorem cell_of_tab {H : Type} {enc : TypeId × Value → H} {W : World} {name : String} {g : Nat} {t e : TypeId} {n : Nat} {cs : Array Value} {fuel base : Nat} {sp : Nat → Bool} {held : Bool} {p : List MemPlace} {zs : List Int}
    (hg : Tryd.prog.globalNamed name = some g) (hv : W.var? Tryd.prog name = some cs) (hu : Tryd.prog.underlying t = some (.array n e)) (he : Tryd.prog.underlying e = some (.int .u32)) (hc : Tryd.prog.cellsOf e = 1)
    (hd : DataW.trod enc Tryd.prog W base sp held fuel t cs.toList = some (.agg (zs.map fun z => .lit (.int .u32 z)), p)) (i : Nat) (z : Int) (hz : zs[i]? = some z) : W.cell? ⟨g, i, none⟩ = some (.int .u32 z) := by
  obtain ⟨xs, m, _, ex, _, hl, hel⟩ := DataW.trod_array hu hd
  have e3 : (xs.map (·.1)) = zs.map fun n => .lit (.int .u32 n) := (DataW.agg.inj (Prod.mk.inj ex).1).symm
  have hi : i < zs.length := (List.getElem?_eq_some_iff.1 hz).1
  have hlen : xs.length = zs.length := by have := congrArg List.length e3; simpa using this
  have hE := hel i (by omega)
  rw [hc, Nat.mul_one, List.getElem?_eq_getElem (by omega)] at hE
  obtain ⟨y, e1, e2, _⟩ := DataW.trod_int he hE
  have e4 : (xs.map (·.1))[i]? = (zs.map fun n => (DataW.lit (.int .u32 n) : DataW H))[i]? := by rw [e3]
  rw [List.getElem?_map, List.getElem?_map, List.getElem?_eq_getElem (by omega : i < xs.length), hz, e2] at e4
  have hzy : y = z := by simpa using e4
  rw [World.var?_cell hg hv i, ← hzy]
  have : cs.toList[i]? = some (.int .u32 y) := by
    have h0 : ((cs.toList.drop i).take 1)[0]? = some (.int .u32 y) := by rw [e1]; rfl
    simpa using h0
  simpa using this
def ints (l : List W32) : List Int := l.map (fun x => (x.toNat : Int))
theorem ints_at {l : List W32} {i : Nat} {v : Value} (h : (l.map wv)[i]? = some v) : ∃ z, (ints l)[i]? = some z ∧ v = .int .u32 z := by
  rw [List.getElem?_map] at h
  obtain ⟨x, hx, rfl⟩ := Option.map_eq_some_iff.1 h
  exact ⟨_, by rw [ints, List.getElem?_map, hx]; rfl, rfl⟩
def laid : List (String × DataW Unit) := [("peatbank/sha.rounds", Rows.laid_peatbank_sha_rounds), ("peatbank/sha.first", Rows.laid_peatbank_sha_first)]
theorem laid_r : (Rows.laid_peatbank_sha_rounds : DataW Unit) = .agg ((ints kK).map fun z => .lit (.int .u32 z)) := by kernel_rfl
theorem laid_f : (Rows.laid_peatbank_sha_first : DataW Unit) = .agg ((ints iV.l).map fun z => .lit (.int .u32 z)) := by kernel_rfl
theorem Gl.of_laid {W : World} (h : laidMetH Tryd.prog laid W) : Gl W := by
  rw [MakeChecks.laidMetH_plain _ _ _ (by kernel_rfl)] at h
  obtain ⟨ps, ⟨g0, t0, cs0, f0, p0, q0, hg0, ht0, hv0, hd0, ⟨g1, t1, cs1, f1, p1, q1, hg1, ht1, hv1, hd1, _, _⟩, _⟩, _, _⟩ := h
  rw [laid_r] at hd0
  rw [laid_f] at hd1
  have k0 : Tryd.prog.globalNamed "peatbank/sha.rounds" = some 1 := by kernel_rfl
  have k1 : Tryd.prog.globalNamed "peatbank/sha.first" = some 0 := by kernel_rfl
  obtain rfl := Option.some.inj (k0.symm.trans hg0)
  obtain rfl := Option.some.inj (k1.symm.trans hg1)
  obtain rfl := Option.some.inj ((show (Tryd.prog.globals[1]?).map (·.type) = some 64 by kernel_rfl).symm.trans ht0)
  obtain rfl := Option.some.inj ((show (Tryd.prog.globals[0]?).map (·.type) = some 63 by kernel_rfl).symm.trans ht1)
  have hc : Tryd.prog.cellsOf 38 = 1 := by kernel_rfl
  refine ⟨fun i v hv => ?_, fun i v hv => ?_⟩
  · obtain ⟨z, hz, rfl⟩ := ints_at hv
    rw [Nat.zero_add]
    exact cell_of_tab k1 hv1 Tryd.underlying63 Tryd.underlying38 hc hd1 i z hz
  · obtain ⟨z, hz, rfl⟩ := ints_at hv
    rw [Nat.zero_add]
    exact cell_of_tab k0 hv0 Tryd.underlying64 Tryd.underlying38 hc hd0 i z hz
theorem dig_nil : digL [] = [227, 176, 196, 66, 152, 252, 28, 20, 154, 251, 244, 200, 153, 111, 185, 36, 39, 174, 65, 228, 100, 155, 147, 76, 164, 149, 153, 27, 120, 82, 184, 85] := by decide +kernel
theorem dig_abc : digL [97, 98, 99] = [186, 120, 22, 191, 143, 1, 207, 234, 65, 65, 64, 222, 93, 174, 34, 35, 176, 3, 97, 163, 150, 23, 122, 156, 180, 16, 255, 97, 242, 0, 21, 173] := by decide +kernel
end Go.Proofs.YtbocdgmkiajihaaDoor
