/- Strings made of bytes, compared. -/
import Derived.Test.YtkcpmkeckcnobaaTr0
import Derived.Laws.BytesArg
import Derived.Lib.SliceRun
namespace Go.Proofs.Ytkcpmkeckcnobaa
open Go.RowKit

def bstrT (l : List Nat) : ByteArray := strOfNums (l.map (fun c : Nat => (c : Int)))
theorem bstrT_list (l : List Nat) : (bstrT l).toList = l.map UInt8.ofNat := by
  rw [ByteArray.toList_eq]
  unfold bstrT
  rw [strOfNums_data, List.map_map]
  rfl
theorem u8T_lt {a b : Nat} (ha : a < 256) (hb : b < 256) : (UInt8.ofNat a < UInt8.ofNat b) ↔ a < b := by
  rw [UInt8.lt_iff_toNat_lt, UInt8.toNat_ofNat', UInt8.toNat_ofNat', Nat.mod_eq_of_lt ha, Nat.mod_eq_of_lt hb]
theorem u8T_eq {a b : Nat} (ha : a < 256) (hb : b < 256) : (UInt8.ofNat a = UInt8.ofNat b) ↔ a = b := by
  constructor
  · intro h
    have := congrArg UInt8.toNat h
    rwa [UInt8.toNat_ofNat', UInt8.toNat_ofNat', Nat.mod_eq_of_lt ha, Nat.mod_eq_of_lt hb] at this
  · rintro rfl; rfl
theorem less_klt : ∀ {l k : List Nat}, (∀ z ∈ l, z < 256) → (∀ z ∈ k, z < 256) → Op.bytesLess (l.map UInt8.ofNat) (k.map UInt8.ofNat) = decide (klt l k)
  | [], [], _, _ => by rw [decide_eq_false (klt_irr [])]; rfl
  | _ :: _, [], _, _ => by
    rw [decide_eq_false (by unfold klt lexc; omega)]; rfl
  | [], _ :: _, _, _ => by
    rw [decide_eq_true (by unfold klt lexc; omega)]; rfl
  | a :: l, b :: k, hl, hk => by
    have ha := hl a List.mem_cons_self
    have hb := hk b List.mem_cons_self
    have ih := less_klt (l := l) (k := k) (fun z hz => hl z (List.mem_cons_of_mem _ hz)) (fun z hz => hk z (List.mem_cons_of_mem _ hz))
    have hk' : klt (a :: l) (b :: k) ↔ a < b ∨ (a = b ∧ klt l k) := by
      unfold klt
      rw [lexc_cons]
      by_cases h1 : a < b
      · rw [if_pos h1]; exact ⟨fun _ => .inl h1, fun _ => by omega⟩
      · rw [if_neg h1]
        by_cases h2 : b < a
        · rw [if_pos h2]; exact ⟨fun h => by omega, fun h => by omega⟩
        · rw [if_neg h2]; exact ⟨fun h => .inr ⟨by omega, h⟩, fun h => h.elim (fun h => absurd h h1) (fun h => h.2)⟩
    rw [decide_eq_decide.2 hk']
    simp only [List.map_cons, Op.bytesLess, ih]
    by_cases h1 : a < b
    · rw [decide_eq_true ((u8T_lt ha hb).2 h1), Bool.true_or]
      exact (decide_eq_true (Or.inl h1)).symm
    · rw [decide_eq_false (fun h => h1 ((u8T_lt ha hb).1 h)), Bool.false_or]
      by_cases h2 : a = b
      · have : (UInt8.ofNat a == UInt8.ofNat b) = true := by rw [beq_iff_eq]; exact (u8T_eq ha hb).2 h2
        rw [this, Bool.true_and]
        exact decide_eq_decide.2 ⟨fun h => .inr ⟨h2, h⟩, fun h => h.elim (fun h => absurd h h1) (fun h => h.2)⟩
      · have : (UInt8.ofNat a == UInt8.ofNat b) = false := by rw [beq_eq_false_iff_ne]; exact fun h => h2 ((u8T_eq ha hb).1 h)
        rw [this, Bool.false_and]
        exact (decide_eq_false (fun h => h.elim h1 (fun h => h2 h.1))).symm
section
variable {P : Program} {w : World} {A : Option Addr} {n c : Nat} {l k : List Nat} {o : Oper} {a : Act}
theorem conv_strT (src e dst : TypeId) (hs : P.underlying src = some (.slice e)) (he : P.underlying e = some (.int .u8)) (hd : P.underlying dst = some .string) (hr : Rd w A n (bv l)) : (convert src dst (.slice A n c)).run P w = .ok (.string (bstrT l)) w := by
  have hL : l.length = n := by have := hr.1; simpa [bv] using this
  rcases Nat.eq_zero_or_pos n with hn | hn
  · subst hn
    obtain rfl : l = [] := List.eq_nil_of_length_eq_zero hL
    rw [run_convert_bytes_string w src dst e _ 0 c hs he hd]
    cases A <;> simp [Conv.bytesToString, loadCells]
    all_goals rfl
  · obtain ⟨g, off, rfl, hc⟩ := hr.2 hn
    exact run_convert_bytes_arg (P := P) w src e hs he g off n c (l.map (fun c : Nat => (c : Int))) (by simpa using hL) (fun i hi => hc i _ (by
      unfold bv
      rw [List.getElem?_map, List.getElem?_eq_getElem (by omega)]
      simp [List.getD, List.getElem?_eq_getElem (show i < l.length by omega)])) dst hd
theorem exec_conv_str (src e dst : TypeId) (x : Operand) (ho : o.op = .convert src dst x) (hs : P.underlying src = some (.slice e)) (he : P.underlying e = some (.int .u8)) (hd : P.underlying dst = some .string) (hx : a.eval x = .slice A n c) (hr : Rd w A n (bv l)) :
    (execOp a.eval o).run P w = .ok (.value (.string (bstrT l))) w := by
  have hc := conv_strT (P := P) (c := c) src e dst hs he hd hr
  simp [execOp, ho, hx, hc, Result.andThen]
theorem exec_geq_str (T T' : TypeId) (x y : Operand) (ho : o.op = .binOp .geq T x y T') (hx : a.eval x = .string (bstrT l)) (hy : a.eval y = .string (bstrT k)) (hl : ∀ z ∈ l, z < 256) (hk : ∀ z ∈ k, z < 256) :
    (execOp a.eval o).run P w = .ok (.value (.bool (!decide (klt l k)))) w := by
  have h := less_klt hl hk
  simp [execOp, ho, hx, hy, binOp, Op.stringOp, bstrT_list, h, eqGuard, Result.andThen]
end
end Go.Proofs.Ytkcpmkeckcnobaa
