/- Four bytes put together by shifts and ors. No program is named. -/
import Derived.Test.YtfoldjnmknaklaaGreatKitA
import Derived.Laws.BitsLemmas
namespace Go.Proofs.YtfoldjnmknaklaaGreat
open Go.RowKit

theorem or_i64 (x y : Nat) (hx : x < 2 ^ 62) (hy : y < 2 ^ 62) : bits .or .i64 (x : Int) (y : Int) = ((x ||| y : Nat) : Int) := by
  show IntKind.i64.wrap ((BitVec.ofInt 64 (x : Int) ||| BitVec.ofInt 64 (y : Int)).toNat : Int) = _
  rw [BitVec.ofInt_natCast, BitVec.ofInt_natCast, BitVec.toNat_or, BitVec.toNat_ofNat, BitVec.toNat_ofNat, Nat.mod_eq_of_lt (by omega), Nat.mod_eq_of_lt (by omega), IntKind.wrap_i64]
  have := Nat.or_lt_two_pow hx hy
  generalize x ||| y = z at *
  omega
theorem wrap_small (x : Nat) (hx : x < 2 ^ 62) : IntKind.i64.wrap (x : Int) = (x : Int) := by rw [IntKind.wrap_i64]; omega
theorem or4 (a b c d : Nat) (ha : a < 256) (hb : b < 256) (hc : c < 256) (hd : d < 256) :
    bits .or .i64 (bits .or .i64 (bits .or .i64 (IntKind.i64.wrap (IntKind.i64.wrap (a : Int) * 16777216)) (IntKind.i64.wrap (IntKind.i64.wrap (b : Int) * 65536))) (IntKind.i64.wrap (IntKind.i64.wrap (c : Int) * 256))) (IntKind.i64.wrap (d : Int)) = ((a * 16777216 + b * 65536 + c * 256 + d : Nat) : Int) := by
  rw [wrap_small a (by omega), wrap_small b (by omega), wrap_small c (by omega), wrap_small d (by omega)]
  rw [show (a : Int) * 16777216 = ((a * 16777216 : Nat) : Int) by omega, show (b : Int) * 65536 = ((b * 65536 : Nat) : Int) by omega, show (c : Int) * 256 = ((c * 256 : Nat) : Int) by omega]
  rw [wrap_small (a * 16777216) (by omega), wrap_small (b * 65536) (by omega), wrap_small (c * 256) (by omega)]
  have e1 : a * 16777216 ||| b * 65536 = a * 16777216 + b * 65536 := by
    have := Nat.two_pow_add_eq_or_of_lt (b := b * 65536) (i := 24) (by omega) a
    rw [show 2 ^ 24 * a = a * 16777216 by omega] at this
    exact this.symm
  have e2 : (a * 16777216 + b * 65536) ||| c * 256 = a * 16777216 + b * 65536 + c * 256 := by
    have := Nat.two_pow_add_eq_or_of_lt (b := c * 256) (i := 16) (by omega) (a * 256 + b)
    rw [show 2 ^ 16 * (a * 256 + b) = a * 16777216 + b * 65536 by omega] at this
    exact this.symm
  have e3 : (a * 16777216 + b * 65536 + c * 256) ||| d = a * 16777216 + b * 65536 + c * 256 + d := by
    have := Nat.two_pow_add_eq_or_of_lt (b := d) (i := 8) (by omega) (a * 65536 + b * 256 + c)
    rw [show 2 ^ 8 * (a * 65536 + b * 256 + c) = a * 16777216 + b * 65536 + c * 256 by omega] at this
    exact this.symm
  rw [or_i64 _ _ (by omega) (by omega), e1, or_i64 _ _ (by omega) (by omega), e2, or_i64 _ _ (by omega) (by omega), e3]
end Go.Proofs.YtfoldjnmknaklaaGreat
