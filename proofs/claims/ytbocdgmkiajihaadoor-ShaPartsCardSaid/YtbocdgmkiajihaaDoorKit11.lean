/- Words of 32 bits as BitVec: the operations' laws. No program is named. -/
import Derived.Test.YtbocdgmkiajihaaDoorKit9
import Derived.Laws.BitsLemmas
namespace Go.Proofs.YtbocdgmkiajihaaDoor
open Go.RowKit

/-- a word as a value -/
def wv (x : BitVec 32) : Value := .int .u32 (x.toNat : Int)
theorem w_xor (x y : BitVec 32) : bits .xor .u32 (x.toNat : Int) (y.toNat : Int) = ((x ^^^ y).toNat : Int) := by
  show IntKind.u32.wrap ((BitVec.ofInt 32 (x.toNat : Int) ^^^ BitVec.ofInt 32 (y.toNat : Int)).toNat : Int) = _
  rw [BitVec.ofInt_natCast, BitVec.ofInt_natCast, BitVec.ofNat_toNat, BitVec.ofNat_toNat, BitVec.setWidth_eq, BitVec.setWidth_eq, IntKind.wrap_u32]
  have := (x ^^^ y).isLt
  omega
theorem w_and (x y : BitVec 32) : bits .and .u32 (x.toNat : Int) (y.toNat : Int) = ((x &&& y).toNat : Int) := by
  show IntKind.u32.wrap ((BitVec.ofInt 32 (x.toNat : Int) &&& BitVec.ofInt 32 (y.toNat : Int)).toNat : Int) = _
  rw [BitVec.ofInt_natCast, BitVec.ofInt_natCast, BitVec.ofNat_toNat, BitVec.ofNat_toNat, BitVec.setWidth_eq, BitVec.setWidth_eq, IntKind.wrap_u32]
  have := (x &&& y).isLt
  omega
theorem w_or (x y : BitVec 32) : bits .or .u32 (x.toNat : Int) (y.toNat : Int) = ((x ||| y).toNat : Int) := by
  show IntKind.u32.wrap ((BitVec.ofInt 32 (x.toNat : Int) ||| BitVec.ofInt 32 (y.toNat : Int)).toNat : Int) = _
  rw [BitVec.ofInt_natCast, BitVec.ofInt_natCast, BitVec.ofNat_toNat, BitVec.ofNat_toNat, BitVec.setWidth_eq, BitVec.setWidth_eq, IntKind.wrap_u32]
  have := (x ||| y).isLt
  omega
theorem w_add (x y : BitVec 32) : IntKind.u32.wrap ((x.toNat : Int) + (y.toNat : Int)) = ((x + y).toNat : Int) := by
  rw [IntKind.wrap_u32, BitVec.toNat_add]; omega
theorem w_shl (x : BitVec 32) (n : Nat) (hn : n ≤ 32) : IntKind.u32.wrap ((x.toNat : Int) * 2 ^ n) = ((x <<< n).toNat : Int) := by
  rw [IntKind.wrap_u32, BitVec.toNat_shiftLeft, Nat.shiftLeft_eq]
  simp
theorem w_shr (x : BitVec 32) (n : Nat) (hn : n ≤ 32) : (x.toNat : Int) / 2 ^ n = ((x >>> n).toNat : Int) := by
  rw [BitVec.toNat_ushiftRight, Nat.shiftRight_eq_div_pow]
  simp
theorem w_not (x : BitVec 32) : bits .xor .u32 (if IntKind.u32.signed = true then -1 else IntKind.u32.max) (x.toNat : Int) = ((~~~ x).toNat : Int) := by
  have h : (if IntKind.u32.signed = true then -1 else IntKind.u32.max : Int) = ((BitVec.allOnes 32).toNat : Int) := by decide
  rw [h, w_xor, BitVec.allOnes_xor]
section
variable {P : Program} {w : World} {o : Oper} {a : Act}
theorem exec_xor (t t' : TypeId) (x y : Operand) (ho : o.op = .binOp .xor t x y t') {u v : BitVec 32} (hx : a.eval x = wv u) (hy : a.eval y = wv v) : (execOp a.eval o).run P w = .ok (.value (wv (u ^^^ v))) w := by
  have h : (execOp a.eval o).run P w = .ok (.value (.int .u32 (bits .xor .u32 (u.toNat : Int) (v.toNat : Int)))) w := by
    simp only [execOp, ho, hx, hy, wv]; simp [go_sem]
  rw [h, w_xor]; rfl
theorem exec_and (t t' : TypeId) (x y : Operand) (ho : o.op = .binOp .and t x y t') {u v : BitVec 32} (hx : a.eval x = wv u) (hy : a.eval y = wv v) : (execOp a.eval o).run P w = .ok (.value (wv (u &&& v))) w := by
  have h : (execOp a.eval o).run P w = .ok (.value (.int .u32 (bits .and .u32 (u.toNat : Int) (v.toNat : Int)))) w := by
    simp only [execOp, ho, hx, hy, wv]; simp [go_sem]
  rw [h, w_and]; rfl
theorem exec_or (t t' : TypeId) (x y : Operand) (ho : o.op = .binOp .or t x y t') {u v : BitVec 32} (hx : a.eval x = wv u) (hy : a.eval y = wv v) : (execOp a.eval o).run P w = .ok (.value (wv (u ||| v))) w := by
  have h : (execOp a.eval o).run P w = .ok (.value (.int .u32 (bits .or .u32 (u.toNat : Int) (v.toNat : Int)))) w := by
    simp only [execOp, ho, hx, hy, wv]; simp [go_sem]
  rw [h, w_or]; rfl
theorem exec_add (t t' : TypeId) (x y : Operand) (ho : o.op = .binOp .add t x y t') {u v : BitVec 32} (hx : a.eval x = wv u) (hy : a.eval y = wv v) : (execOp a.eval o).run P w = .ok (.value (wv (u + v))) w := by
  have h : (execOp a.eval o).run P w = .ok (.value (.int .u32 (IntKind.u32.wrap ((u.toNat : Int) + (v.toNat : Int))))) w := by
    simp only [execOp, ho, hx, hy, wv]; simp [go_sem]
  rw [h, w_add]; rfl
theorem exec_shl (n : Nat) (t t' : TypeId) (x y : Operand) (ho : o.op = .binOp .shl t x y t') {u : BitVec 32} (hx : a.eval x = wv u) (hy : a.eval y = .int .u64 (n : Int)) (hn : n ≤ 32) : (execOp a.eval o).run P w = .ok (.value (wv (u <<< n))) w := by
  have h : (execOp a.eval o).run P w = .ok (.value (.int .u32 (IntKind.u32.wrap ((u.toNat : Int) * 2 ^ n)))) w := by
    simp only [execOp, ho, hx, hy, wv]; simp [go_sem]
  rw [h, w_shl _ _ hn]; rfl
theorem exec_shr (n : Nat) (t t' : TypeId) (x y : Operand) (ho : o.op = .binOp .shr t x y t') {u : BitVec 32} (hx : a.eval x = wv u) (hy : a.eval y = .int .u64 (n : Int)) (hn : n ≤ 32) : (execOp a.eval o).run P w = .ok (.value (wv (u >>> n))) w := by
  have h : (execOp a.eval o).run P w = .ok (.value (.int .u32 ((u.toNat : Int) / 2 ^ n))) w := by
    simp only [execOp, ho, hx, hy, wv]; simp [go_sem]
  rw [h, w_shr _ _ hn]; rfl
theorem exec_not (t : TypeId) (x : Operand) (ho : o.op = .unOp .xor t x) {u : BitVec 32} (hx : a.eval x = wv u) : (execOp a.eval o).run P w = .ok (.value (wv (~~~ u))) w := by
  have h : (execOp a.eval o).run P w = .ok (.value (.int .u32 (bits .xor .u32 (if IntKind.u32.signed = true then -1 else IntKind.u32.max) (u.toNat : Int)))) w := by
    simp only [execOp, ho, hx, wv]; simp [go_sem]
  rw [h, w_not]; rfl
/-- a byte as a word -/
theorem exec_conv8 (t t' : TypeId) (x : Operand) (ho : o.op = .convert t t' x) {c : Nat} (hx : a.eval x = .int .u8 (c : Int)) (hc : c < 256) (h1 : P.underlying t = some (.int .u8)) (h2 : P.underlying t' = some (.int .u32)) : (execOp a.eval o).run P w = .ok (.value (wv (BitVec.ofNat 32 c))) w := by
  have h : (execOp a.eval o).run P w = .ok (.value (.int .u32 (IntKind.u32.wrap (c : Int)))) w := by
    simp only [execOp, ho, hx]; simp [go_sem, h1, h2]
  rw [h, IntKind.wrap_u32]
  unfold wv
  rw [BitVec.toNat_ofNat, Nat.mod_eq_of_lt (show c < 2 ^ 32 by omega)]
  congr 3
  omega
theorem wv_one (x : BitVec 32) : (wv x).oneCell' = true := rfl
theorem wv_cells (x : BitVec 32) : (wv x).cells = #[wv x] := rfl
end
end Go.Proofs.YtbocdgmkiajihaaDoor
