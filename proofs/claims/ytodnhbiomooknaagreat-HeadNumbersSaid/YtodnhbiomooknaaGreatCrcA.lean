/- Own lemmas of several kinds, put together: Once1, Crc0, Crc1, Crc2, Crc3, Crc4, Fr0. -/
import Derived.Test.YtodnhbiomooknaaGreatRows
import Derived.Test.YtodnhbiomooknaaGreatKitA
import Derived.Defers
import Derived.Laws.Pointers
import Derived.Laws.LoneSync
import Derived.RegionCalls
import Derived.Laws.BitsLemmas
import Derived.Lib.Hide
import Derived.Deep.LoopGhost
/- sync.Once, one goroutine: its parts (turned from the worked texts Lazy*). -/
namespace Go.Proofs.YtodnhbiomooknaaGreat
open Go.RowKit

theorem race_disable (w : World) : (callFunc 120 #[]).run Tryz.prog w = .ok (.value (.tuple #[])) w := run_call_mark0 Tryz.func120 (by kernel_rfl) (by kernel_rfl) (by kernel_rfl) .disable (by kernel_rfl) w
theorem race_enable (w : World) : (callFunc 122 #[]).run Tryz.prog w = .ok (.value (.tuple #[])) w := run_call_mark0 Tryz.func122 (by kernel_rfl) (by kernel_rfl) (by kernel_rfl) .enable (by kernel_rfl) w
theorem race_acquire (a : Addr) (w : World) : (callFunc 123 #[.pointer (some a)]).run Tryz.prog w = .ok (.value (.tuple #[])) w := run_call_marked Tryz.func123 (by kernel_rfl) (by kernel_rfl) (by kernel_rfl) .acquire (by kernel_rfl) a w
theorem race_releaseMerge (a : Addr) (w : World) : (callFunc 125 #[.pointer (some a)]).run Tryz.prog w = .ok (.value (.tuple #[])) w := run_call_marked Tryz.func125 (by kernel_rfl) (by kernel_rfl) (by kernel_rfl) .releaseMerge (by kernel_rfl) a w

set_option maxRecDepth 100000 in
theorem store_deferred (a : Addr) (x : Value) (u : FrameMode) (w : World) (hc : w.cell? a = some x) (hz : w.frozen? a = false) :
    CallsD Tryz.prog 115 #[.pointer (some a), .bool true] u w fun e u' w' => u' = u ∧ (e = .returned (.tuple #[]) ∧ w' = w.drew.setCell a (.int .u32 1)) := by
  have hc' : w.drew.cell? a = some x := by go_simp
  have hz' : w.drew.frozen? a = false := by go_simp
  have hst := run_call_store (P := Tryz.prog) Tryz.func118 (by kernel_rfl) (by kernel_rfl) (by kernel_rfl) (by kernel_rfl) (k := .u32) (y := 1) hc' hz'
  go_enter_d Tryz.func115, Tryz.ntmps115
  go_wp2
  go_region_calls
  all_goals (go_end0; exact ⟨rfl, rfl⟩)

set_option maxRecDepth 100000 in
theorem unlock_deferred (a : Addr) (u : FrameMode) (w : World) (hc : w.cell? a = some (.int .i32 1)) (hz : w.frozen? a = false) :
    CallsD Tryz.prog 114 #[.pointer (some a)] u w fun e u' w' => u' = u ∧ (e = .returned (.tuple #[]) ∧ w' = w.setCell a (.int .i32 0)) := by
  have hd := race_disable
  have he := race_enable
  have hr := race_releaseMerge
  have hadd := run_call_add (P := Tryz.prog) Tryz.func126 (by kernel_rfl) (by kernel_rfl) (by kernel_rfl) .i32 (by kernel_rfl) (y := -1) (s := 0) hc hz (by simp [go_sem]; rfl)
  have hcv := run_convert_to_unsafe (P := Tryz.prog) (src := 227) (dst := 231) Tryz.underlying227 Tryz.underlying231 (by kernel_rfl) hc
  go_enter_d Tryz.func114, Tryz.ntmps114
  go_wp2
  go_end0
  go_wp2
  go_end0
  exact ⟨rfl, rfl⟩

set_option maxRecDepth 100000 in
theorem lock_free (a : Addr) (w : World) (hc : w.cell? a = some (.int .i32 0)) (hz : w.frozen? a = false) :
    Calls Tryz.prog 113 #[.pointer (some a)] w fun e w' => e = .returned (.tuple #[]) ∧ w.setCell a (.int .i32 1) = w' := by
  have hd := race_disable
  have he := race_enable
  have ha := race_acquire
  have hcas := run_call_cas_hit (P := Tryz.prog) Tryz.func121 (by kernel_rfl) (by kernel_rfl) (by kernel_rfl) .i32 (by kernel_rfl) (y := 1) hc hz
  have hc' : (w.setCell a (.int .i32 1)).cell? a = some (.int .i32 1) := World.cell?_setCell_same w a _ hc
  have hcv := run_convert_to_unsafe (P := Tryz.prog) (src := 227) (dst := 231) Tryz.underlying227 Tryz.underlying231 (by kernel_rfl) hc'
  go_enter Tryz.func113, Tryz.ntmps113
  go_wp2
  first | go_end0 | (simp only [Exit.inBlock, Exit.then]; refine bodyPost_ret (results_none rfl _ _ _) rfl ?_) | refine bodyPost_ret (results_none rfl _ _ _) rfl ?_
  go_wp2
  go_end0
  exact ⟨rfl, rfl⟩
end Go.Proofs.YtodnhbiomooknaaGreat

/- CRC in plain words: steps on 32 bits. No program is named. -/
namespace Go.Proofs.YtodnhbiomooknaaGreat

/-- one bit's step -/
def cst (p x : BitVec 32) : BitVec 32 := (x >>> 1) ^^^ (if x.getLsbD 0 then p else 0#32)
def cstN (p : BitVec 32) : Nat → BitVec 32 → BitVec 32
  | 0, x => x
  | n + 1, x => cstN p n (cst p x)
/-- one byte's step, as the document has it -/
def cby (p x : BitVec 32) (c : Nat) : BitVec 32 := cstN p 8 (x ^^^ BitVec.ofNat 32 c)
/-- many bytes' -/
def crcF (p x : BitVec 32) (l : List Nat) : BitVec 32 := l.foldl (cby p) x
/-- the sum -/
def crcS (p s : BitVec 32) (l : List Nat) : BitVec 32 := ~~~ crcF p (~~~ s) l

theorem xor4 (a b c d : BitVec 32) : (a ^^^ b) ^^^ (c ^^^ d) = (a ^^^ c) ^^^ (b ^^^ d) := by
  rw [BitVec.xor_assoc, BitVec.xor_assoc, ← BitVec.xor_assoc b c d, BitVec.xor_comm b c, BitVec.xor_assoc c b d]
theorem cst_xor (p x y : BitVec 32) : cst p (x ^^^ y) = cst p x ^^^ cst p y := by
  unfold cst
  rw [BitVec.ushiftRight_xor_distrib, BitVec.getLsbD_xor, xor4]
  congr 1
  cases x.getLsbD 0 <;> cases y.getLsbD 0 <;> simp
theorem cst_zero (p : BitVec 32) : cst p 0#32 = 0#32 := by simp [cst]
theorem cstN_xor (p : BitVec 32) : ∀ (n : Nat) (x y : BitVec 32), cstN p n (x ^^^ y) = cstN p n x ^^^ cstN p n y
  | 0, _, _ => rfl
  | n + 1, x, y => by
    show cstN p n (cst p (x ^^^ y)) = _
    rw [cst_xor, cstN_xor p n]; rfl
theorem cstN_zero (p : BitVec 32) : ∀ n, cstN p n 0#32 = 0#32
  | 0 => rfl
  | n + 1 => by show cstN p n (cst p 0#32) = _; rw [cst_zero, cstN_zero p n]
theorem cstN_succ (p : BitVec 32) : ∀ (n : Nat) (x : BitVec 32), cstN p (n + 1) x = cst p (cstN p n x)
  | 0, _ => rfl
  | n + 1, x => by show cstN p (n + 1) (cst p x) = cst p (cstN p n (cst p x)); rw [cstN_succ p n]
theorem cstN_shift (p : BitVec 32) : ∀ (n : Nat) (x : BitVec 32), (∀ i, i < n → x.getLsbD i = false) → cstN p n x = x >>> n
  | 0, x, _ => by simp [cstN]
  | n + 1, x, h => by
    have h1 : cst p x = x >>> 1 := by unfold cst; rw [h 0 (by omega)]; simp
    show cstN p n (cst p x) = _
    rw [h1, cstN_shift p n (x >>> 1) (fun i hi => by rw [BitVec.getLsbD_ushiftRight]; exact h (1 + i) (by omega)), ← BitVec.shiftRight_add, Nat.add_comm]

theorem lohi (y : BitVec 32) : y = (y &&& 255#32) ^^^ (y &&& (~~~ 255#32)) := by
  apply BitVec.eq_of_getLsbD_eq
  intro i hi
  simp only [BitVec.getLsbD_xor, BitVec.getLsbD_and, BitVec.getLsbD_not, hi, decide_true, Bool.true_and]
  cases y.getLsbD i <;> cases (255#32).getLsbD i <;> rfl
theorem low8 (i : Nat) (hi : i < 8) : (255#32).getLsbD i = true := by
  have : ∀ j : Fin 8, (255#32).getLsbD j.val = true := by decide
  exact this ⟨i, hi⟩
theorem high8 (i : Nat) (hi : 8 ≤ i) (h32 : i < 32) : (255#32).getLsbD i = false := by
  have : ∀ j : Fin 32, 8 ≤ j.val → (255#32).getLsbD j.val = false := by decide
  exact this ⟨i, h32⟩ hi
theorem hi_shift (y : BitVec 32) : (y &&& (~~~ 255#32)) >>> 8 = y >>> 8 := by
  apply BitVec.eq_of_getLsbD_eq
  intro i hi
  rw [BitVec.getLsbD_ushiftRight, BitVec.getLsbD_ushiftRight, BitVec.getLsbD_and, BitVec.getLsbD_not]
  by_cases h : 8 + i < 32
  · rw [high8 (8 + i) (by omega) h]; simp [h]
  · rw [BitVec.getLsbD_of_ge y (8 + i) (by omega)]; simp
theorem cstN_split (p y : BitVec 32) : cstN p 8 y = (y >>> 8) ^^^ cstN p 8 (y &&& 255#32) := by
  have h : cstN p 8 (y &&& (~~~ 255#32)) = y >>> 8 := by
    rw [cstN_shift p 8 _ (fun i hi => by rw [BitVec.getLsbD_and, BitVec.getLsbD_not, low8 i hi]; simp), hi_shift]
  have h2 : cstN p 8 y = cstN p 8 ((y &&& 255#32) ^^^ (y &&& (~~~ 255#32))) := congrArg _ (lohi y)
  rw [h2, cstN_xor, h, BitVec.xor_comm]
theorem byte_shift (c : Nat) (hc : c < 256) : (BitVec.ofNat 32 c) >>> 8 = 0#32 := by
  apply BitVec.eq_of_toNat_eq
  rw [BitVec.toNat_ushiftRight, BitVec.toNat_ofNat, Nat.mod_eq_of_lt (by omega), Nat.shiftRight_eq_div_pow]
  simp; omega
/-- by the table: the row of the low byte, and the rest -/
theorem cby_table (p x : BitVec 32) (c : Nat) (hc : c < 256) : cby p x c = (x >>> 8) ^^^ cstN p 8 ((x ^^^ BitVec.ofNat 32 c) &&& 255#32) := by
  unfold cby
  rw [cstN_split, BitVec.ushiftRight_xor_distrib, byte_shift c hc, BitVec.xor_zero]

/-! ### the theorems of the chapter -/
theorem crcF_append (p x : BitVec 32) (a b : List Nat) : crcF p x (a ++ b) = crcF p (crcF p x a) b := by unfold crcF; rw [List.foldl_append]
theorem crcS_append (p s : BitVec 32) (a b : List Nat) : crcS p s (a ++ b) = crcS p (crcS p s a) b := by
  unfold crcS
  rw [crcF_append, BitVec.not_not]
theorem cby_xor4 (p x y z u : BitVec 32) (a b c d : Nat) (hs : x ^^^ y ^^^ z ^^^ u = 0#32) (hb : BitVec.ofNat 32 a ^^^ BitVec.ofNat 32 b ^^^ BitVec.ofNat 32 c ^^^ BitVec.ofNat 32 d = 0#32) :
    cby p x a ^^^ cby p y b ^^^ cby p z c ^^^ cby p u d = 0#32 := by
  unfold cby
  rw [← cstN_xor, ← cstN_xor, ← cstN_xor, xor4 x _ y _, xor4 (x ^^^ y) _ z _, xor4 (x ^^^ y ^^^ z) _ u _, hs, hb, BitVec.xor_zero, cstN_zero]
theorem crcF_xor4 (p : BitVec 32) : ∀ (n : Nat) (x y z u : BitVec 32) (a b c d : List Nat), a.length = n → b.length = n → c.length = n → d.length = n → x ^^^ y ^^^ z ^^^ u = 0#32 →
    (∀ i : Nat, i < n → BitVec.ofNat 32 (a.getD i 0) ^^^ BitVec.ofNat 32 (b.getD i 0) ^^^ BitVec.ofNat 32 (c.getD i 0) ^^^ BitVec.ofNat 32 (d.getD i 0) = 0#32) →
    crcF p x a ^^^ crcF p y b ^^^ crcF p z c ^^^ crcF p u d = 0#32
  | 0, x, y, z, u, a, b, c, d, ha, hb, hc, hd, hs, _ => by
    rw [List.eq_nil_of_length_eq_zero ha, List.eq_nil_of_length_eq_zero hb, List.eq_nil_of_length_eq_zero hc, List.eq_nil_of_length_eq_zero hd]
    exact hs
  | n + 1, x, y, z, u, a0 :: a, b0 :: b, c0 :: c, d0 :: d, ha, hb, hc, hd, hs, h => by
    show crcF p (cby p x a0) a ^^^ crcF p (cby p y b0) b ^^^ crcF p (cby p z c0) c ^^^ crcF p (cby p u d0) d = 0#32
    exact crcF_xor4 p n _ _ _ _ a b c d (by simpa using ha) (by simpa using hb) (by simpa using hc) (by simpa using hd) (cby_xor4 p x y z u a0 b0 c0 d0 hs (h 0 (by omega)))
      (fun i hi => h (i + 1) (by omega))
  | n + 1, _, _, _, _, [], _, _, _, ha, _, _, _, _, _ => by cases ha
  | n + 1, _, _, _, _, _ :: _, [], _, _, _, hb, _, _, _, _ => by cases hb
  | n + 1, _, _, _, _, _ :: _, _ :: _, [], _, _, _, hc, _, _, _ => by cases hc
  | n + 1, _, _, _, _, _ :: _, _ :: _, _ :: _, [], _, _, _, hd, _, _ => by cases hd
theorem crcS_xor4 (p s : BitVec 32) (n : Nat) (a b c d : List Nat) (ha : a.length = n) (hb : b.length = n) (hc : c.length = n) (hd : d.length = n)
    (h : ∀ i : Nat, i < n → BitVec.ofNat 32 (a.getD i 0) ^^^ BitVec.ofNat 32 (b.getD i 0) ^^^ BitVec.ofNat 32 (c.getD i 0) ^^^ BitVec.ofNat 32 (d.getD i 0) = 0#32) :
    crcS p s a ^^^ crcS p s b ^^^ crcS p s c ^^^ crcS p s d = 0#32 := by
  have hz : ∀ x : BitVec 32, x ^^^ x ^^^ x ^^^ x = 0#32 := fun x => by rw [BitVec.xor_self, BitVec.zero_xor, BitVec.xor_self]
  have := crcF_xor4 p n (~~~ s) (~~~ s) (~~~ s) (~~~ s) a b c d ha hb hc hd (hz _) h
  unfold crcS
  have hn : ∀ x : BitVec 32, ~~~ x = x ^^^ BitVec.allOnes 32 := fun x => by rw [BitVec.xor_allOnes]
  rw [hn (crcF p _ a), hn (crcF p _ b), hn (crcF p _ c), hn (crcF p _ d), xor4 _ _ (crcF p _ b) _, xor4 _ _ (crcF p _ c) _, xor4 _ _ (crcF p _ d) _, this, hz, BitVec.xor_zero]

/-! ### a burst of 32 bits is found -/
theorem cst_inj (p : BitVec 32) (hp : p.getLsbD 31 = true) (d : BitVec 32) (h : cst p d = 0#32) : d = 0#32 := by
  have h31 : (cst p d).getLsbD 31 = d.getLsbD 0 := by
    unfold cst
    rw [BitVec.getLsbD_xor, BitVec.getLsbD_ushiftRight, BitVec.getLsbD_of_ge d (1 + 31) (by omega)]
    cases d.getLsbD 0 <;> simp [hp]
  have h0 : d.getLsbD 0 = false := by rw [← h31, h]; simp
  have h1 : d >>> 1 = 0#32 := by
    have h2 : cst p d = d >>> 1 := by unfold cst; rw [h0]; simp
    rw [← h2]; exact h
  apply BitVec.eq_of_getLsbD_eq
  intro i hi
  rw [BitVec.getLsbD_zero]
  cases i with
  | zero => exact h0
  | succ j =>
    have := congrArg (fun v : BitVec 32 => v.getLsbD j) h1
    simp only [BitVec.getLsbD_ushiftRight, BitVec.getLsbD_zero] at this
    rw [Nat.add_comm] at this; exact this
theorem cstN_inj (p : BitVec 32) (hp : p.getLsbD 31 = true) : ∀ (n : Nat) (d : BitVec 32), cstN p n d = 0#32 → d = 0#32
  | 0, _, h => h
  | n + 1, d, h => cst_inj p hp d (cstN_inj p hp n _ h)

/-- bit by bit: the difference behind t bits, of which e tells the turned ones -/
def dif (p : BitVec 32) (e : Nat → Bool) : Nat → BitVec 32
  | 0 => 0#32
  | t + 1 => cst p (dif p e t ^^^ (if e t then 1#32 else 0#32))
/-- the bits of v below m -/
def lowB (v : BitVec 32) (m : Nat) : BitVec 32 := BitVec.ofNat 32 (v.toNat % 2 ^ m)
theorem lowB_bit (v : BitVec 32) (m i : Nat) : (lowB v m).getLsbD i = (decide (i < m) && v.getLsbD i) := by
  unfold lowB
  rw [BitVec.getLsbD_ofNat]
  by_cases h : i < 32
  · simp [h, Nat.testBit_mod_two_pow, BitVec.testBit_toNat]
  · rw [BitVec.getLsbD_of_ge v i (by omega)]; simp [h]
theorem one_bit (i : Nat) : (1#32).getLsbD i = decide (i = 0) := by
  by_cases h : i < 32
  · have : ∀ j : Fin 32, (1#32).getLsbD j.val = decide (j.val = 0) := by decide
    exact this ⟨i, h⟩
  · rw [BitVec.getLsbD_of_ge _ i (by omega)]; simp; omega
/-- bit m of v, at its place -/
def bitAt (v : BitVec 32) (m : Nat) : BitVec 32 := if v.getLsbD m then 1#32 <<< m else 0#32
theorem lowB_succ (v : BitVec 32) (m : Nat) : lowB v (m + 1) = lowB v m ^^^ bitAt v m := by
  apply BitVec.eq_of_getLsbD_eq
  intro i hi
  rw [BitVec.getLsbD_xor, lowB_bit, lowB_bit]
  unfold bitAt
  by_cases hm : v.getLsbD m = true
  · rw [if_pos hm, BitVec.getLsbD_shiftLeft, one_bit]
    by_cases h1 : i < m
    · simp [h1, show i < m + 1 from by omega]
    · by_cases h2 : i = m
      · subst h2; simp [hi, hm]
      · simp [h1, show ¬ i < m + 1 from by omega, show ¬ i - m = 0 from by omega]
  · rw [if_neg hm]
    by_cases h1 : i < m
    · simp [h1, show i < m + 1 from by omega]
    · by_cases h2 : i = m
      · subst h2; simp [hm]
      · simp [h1, show ¬ i < m + 1 from by omega]
theorem bitAt_steps (p v : BitVec 32) (m : Nat) (hm : m < 32) : cstN p m (bitAt v m) = if v.getLsbD m then 1#32 else 0#32 := by
  unfold bitAt
  by_cases h : v.getLsbD m = true
  · rw [if_pos h, if_pos h, cstN_shift p m _ (fun i hi => by rw [BitVec.getLsbD_shiftLeft]; simp [hi])]
    apply BitVec.eq_of_getLsbD_eq
    intro i hi
    rw [BitVec.getLsbD_ushiftRight, BitVec.getLsbD_shiftLeft, one_bit, one_bit]
    by_cases h0 : i = 0
    · subst h0; simp [hm]
    · simp [h0, show ¬ m + i - m = 0 from by omega]
  · rw [if_neg h, if_neg h, cstN_zero]
theorem dif_before (p : BitVec 32) (e : Nat → Bool) (at_ : Nat) (h : ∀ t, t < at_ → e t = false) : ∀ t, t ≤ at_ → dif p e t = 0#32
  | 0, _ => rfl
  | t + 1, ht => by
    show cst p _ = _
    rw [dif_before p e at_ h t (by omega), h t (by omega)]
    simp [cst_zero]
theorem dif_in (p : BitVec 32) (e : Nat → Bool) (at_ : Nat) (v : BitVec 32) (h : ∀ t, t < at_ → e t = false) (hv : ∀ m, m < 32 → e (at_ + m) = v.getLsbD m) : ∀ m, m ≤ 32 → dif p e (at_ + m) = cstN p m (lowB v m)
  | 0, _ => by
    rw [Nat.add_zero, dif_before p e at_ h at_ (Nat.le_refl _)]
    show _ = lowB v 0
    simp [lowB, Nat.mod_one]
  | m + 1, hm => by
    show cst p (dif p e (at_ + m) ^^^ (if e (at_ + m) then 1#32 else 0#32)) = _
    rw [dif_in p e at_ v h hv m (by omega), hv m (by omega), lowB_succ, cstN_succ, cstN_xor, bitAt_steps p v m (by omega)]
theorem dif_after (p : BitVec 32) (e : Nat → Bool) (n : Nat) (h : ∀ t, n ≤ t → e t = false) : ∀ k, dif p e (n + k) = cstN p k (dif p e n)
  | 0 => rfl
  | k + 1 => by
    show cst p (dif p e (n + k) ^^^ (if e (n + k) then 1#32 else 0#32)) = _
    rw [h (n + k) (by omega), dif_after p e n h k, cstN_succ]; simp
theorem dif_ne (p : BitVec 32) (hp : p.getLsbD 31 = true) (e : Nat → Bool) (at_ : Nat) (v : BitVec 32) (h0 : v ≠ 0#32) (h : ∀ t, t < at_ → e t = false) (hv : ∀ m, m < 32 → e (at_ + m) = v.getLsbD m)
    (ha : ∀ t, at_ + 32 ≤ t → e t = false) (k : Nat) : dif p e (at_ + 32 + k) ≠ 0#32 := by
  intro hz
  rw [dif_after p e (at_ + 32) ha k] at hz
  have h1 := cstN_inj p hp k _ hz
  rw [dif_in p e at_ v h hv 32 (Nat.le_refl _)] at h1
  have h2 := cstN_inj p hp 32 _ h1
  apply h0
  rw [← h2]
  unfold lowB
  rw [Nat.mod_eq_of_lt v.isLt, BitVec.ofNat_toNat]; simp
/-- a byte's eight bits, one by one -/
theorem dif_byte (p : BitVec 32) (e : Nat → Bool) (t : Nat) (c : Nat) (hc : ∀ k, k < 8 → e (t + k) = (BitVec.ofNat 32 c).getLsbD k) : ∀ k, k ≤ 8 → dif p e (t + k) = cstN p k (dif p e t ^^^ lowB (BitVec.ofNat 32 c) k)
  | 0, _ => by
    show _ = dif p e t ^^^ lowB _ 0
    simp [lowB, Nat.mod_one]
  | k + 1, hk => by
    show cst p (dif p e (t + k) ^^^ (if e (t + k) then 1#32 else 0#32)) = _
    rw [dif_byte p e t c hc k (by omega), hc k (by omega), lowB_succ, ← BitVec.xor_assoc, cstN_succ, cstN_xor p k _ (bitAt _ _), bitAt_steps p _ k (by omega)]
theorem lowB_byte (c : Nat) (hc : c < 256) : lowB (BitVec.ofNat 32 c) 8 = BitVec.ofNat 32 c := by
  unfold lowB
  rw [BitVec.toNat_ofNat, Nat.mod_eq_of_lt (show c < 2 ^ 32 by omega), Nat.mod_eq_of_lt (show c < 2 ^ 8 by omega)]
/-- the sums' difference is 'dif' of the bits in which the bytes differ -/
theorem crcF_dif (p : BitVec 32) (e : Nat → Bool) : ∀ (a b : List Nat) (j : Nat) (x y : BitVec 32), a.length = b.length → x ^^^ y = dif p e (8 * j) → (∀ i, i < a.length → ∀ k, k < 8 → e (8 * (j + i) + k) = (BitVec.ofNat 32 (a.getD i 0) ^^^ BitVec.ofNat 32 (b.getD i 0)).getLsbD k) →
    (∀ z ∈ a, z < 256) → (∀ z ∈ b, z < 256) → crcF p x a ^^^ crcF p y b = dif p e (8 * (j + a.length))
  | [], b, j, x, y, hl, hx, _, _, _ => by
    rw [List.eq_nil_of_length_eq_zero (show b.length = 0 from hl.symm)]
    exact hx
  | c :: a, [], _, _, _, hl, _, _, _, _ => by cases hl
  | c :: a, d :: b, j, x, y, hl, hx, he, ha, hb => by
    show crcF p (cby p x c) a ^^^ crcF p (cby p y d) b = _
    have hcl : c < 256 := ha c (by simp)
    have hdl : d < 256 := hb d (by simp)
    have hcd : BitVec.ofNat 32 (c ^^^ d) = BitVec.ofNat 32 c ^^^ BitVec.ofNat 32 d := by
      apply BitVec.eq_of_toNat_eq
      have : c ^^^ d < 2 ^ 8 := Nat.xor_lt_two_pow (by omega) (by omega)
      rw [BitVec.toNat_xor, BitVec.toNat_ofNat, BitVec.toNat_ofNat, BitVec.toNat_ofNat, Nat.mod_eq_of_lt (show c < 2 ^ 32 by omega), Nat.mod_eq_of_lt (show d < 2 ^ 32 by omega), Nat.mod_eq_of_lt (show c ^^^ d < 2 ^ 32 by omega)]
    have hcdl : c ^^^ d < 256 := Nat.xor_lt_two_pow (n := 8) hcl hdl
    have h8 := dif_byte p e (8 * j) (c ^^^ d) (fun k hk => by rw [hcd]; exact he 0 (by simp) k hk) 8 (Nat.le_refl _)
    rw [lowB_byte _ hcdl, hcd] at h8
    have h := crcF_dif p e a b (j + 1) (cby p x c) (cby p y d) (by simpa using hl) (by
      unfold cby
      rw [← cstN_xor, xor4, hx, ← h8, show 8 * (j + 1) = 8 * j + 8 from by omega]) (fun i hi k hk => by
        have := he (i + 1) (by simp; omega) k hk
        rw [show j + 1 + i = j + (i + 1) from by omega]
        simpa using this) (fun z hz => ha z (List.mem_cons_of_mem _ hz)) (fun z hz => hb z (List.mem_cons_of_mem _ hz))
    rw [h, show j + 1 + a.length = j + (c :: a).length from by simp; omega]
end Go.Proofs.YtodnhbiomooknaaGreat

/- crc.Table: its words in memory; fill. -/
namespace Go.Proofs.YtodnhbiomooknaaGreat
open Go.RowKit

def u32v (x : BitVec 32) : Value := .int .u32 (x.toNat : Int)
theorem b_xor (x y : BitVec 32) : bits .xor .u32 (x.toNat : Int) (y.toNat : Int) = ((x ^^^ y).toNat : Int) := by
  show IntKind.u32.wrap ((BitVec.ofInt 32 (x.toNat : Int) ^^^ BitVec.ofInt 32 (y.toNat : Int)).toNat : Int) = _
  rw [BitVec.ofInt_natCast, BitVec.ofInt_natCast, BitVec.ofNat_toNat, BitVec.ofNat_toNat, BitVec.setWidth_eq, BitVec.setWidth_eq, IntKind.wrap_u32]
  have := (x ^^^ y).isLt
  omega
theorem b_and (x y : BitVec 32) : bits .and .u32 (x.toNat : Int) (y.toNat : Int) = ((x &&& y).toNat : Int) := by
  show IntKind.u32.wrap ((BitVec.ofInt 32 (x.toNat : Int) &&& BitVec.ofInt 32 (y.toNat : Int)).toNat : Int) = _
  rw [BitVec.ofInt_natCast, BitVec.ofInt_natCast, BitVec.ofNat_toNat, BitVec.ofNat_toNat, BitVec.setWidth_eq, BitVec.setWidth_eq, IntKind.wrap_u32]
  have := (x &&& y).isLt
  omega
theorem b_shr (x : BitVec 32) (n : Nat) : (x.toNat : Int) / 2 ^ n = ((x >>> n).toNat : Int) := by
  rw [BitVec.toNat_ushiftRight, Nat.shiftRight_eq_div_pow]
  simp

theorem and_one (x : BitVec 32) : x &&& 1#32 = if x.getLsbD 0 then 1#32 else 0#32 := by
  apply BitVec.eq_of_getLsbD_eq
  intro i hi
  rw [BitVec.getLsbD_and, one_bit]
  by_cases h : i = 0
  · subst h
    by_cases hx : x.getLsbD 0 = true
    · rw [if_pos hx, hx, one_bit]; rfl
    · rw [if_neg hx, Bool.eq_false_iff.2 hx]; simp
  · by_cases hx : x.getLsbD 0 = true
    · rw [if_pos hx, one_bit]; simp [h]
    · rw [if_neg hx]; simp [h]
/-- the program's step -/
theorem cst_int (p x : BitVec 32) : bits .xor .u32 ((x.toNat : Int) / 2) (bits .and .u32 (p.toNat : Int) (-(bits .and .u32 (x.toNat : Int) 1) % 4294967296)) = ((cst p x).toNat : Int) := by
  have h1 : bits .and .u32 (x.toNat : Int) 1 = ((x &&& 1#32).toNat : Int) := b_and x 1#32
  have h2 : (x.toNat : Int) / (2 : Int) = ((x >>> 1).toNat : Int) := by have := b_shr x 1; rw [Int.pow_succ, Int.pow_zero, Int.one_mul] at this; exact this
  rw [h1, h2, and_one]
  unfold cst
  by_cases hx : x.getLsbD 0 = true
  · rw [if_pos hx, if_pos hx, show (-((1#32).toNat : Int) % 4294967296) = ((BitVec.allOnes 32).toNat : Int) from by decide, b_and, BitVec.and_allOnes, b_xor]
  · rw [if_neg hx, if_neg hx, show (-((0#32).toNat : Int) % 4294967296) = ((0#32).toNat : Int) from by decide, b_and, BitVec.and_zero, b_xor]
def tblC (m : Bool) (p : BitVec 32) (d s e : Int) (rows : List (BitVec 32)) : Array Value := ([.bool m, u32v p, .int .u32 d, .int .i32 s, .int .u32 e] ++ rows.map u32v).toArray
def rowsK (p : BitVec 32) (k : Nat) : List (BitVec 32) := (List.range 256).map (fun i => if i < k then cstN p 8 (BitVec.ofNat 32 i) else 0#32)
def rowsF (p : BitVec 32) : List (BitVec 32) := (List.range 256).map (fun i => cstN p 8 (BitVec.ofNat 32 i))
theorem rowsK_len (p : BitVec 32) (k : Nat) : (rowsK p k).length = 256 := by simp [rowsK]
theorem rowsF_len (p : BitVec 32) : (rowsF p).length = 256 := by simp [rowsF]
theorem rowsK_all (p : BitVec 32) : rowsK p 256 = rowsF p := by
  unfold rowsK rowsF
  refine List.map_congr_left fun i hi => ?_
  rw [if_pos (List.mem_range.1 hi)]
theorem rowsK_set (p : BitVec 32) (k : Nat) : (rowsK p k).set k (cstN p 8 (BitVec.ofNat 32 k)) = rowsK p (k + 1) := by
  apply List.ext_getElem?
  intro i
  rw [List.getElem?_set]
  simp only [rowsK, List.getElem?_map, List.length_map, List.length_range]
  by_cases hi : i < 256
  · rw [List.getElem?_range hi]
    by_cases h : k = i
    · subst h; simp [hi]
    · have h1 : (i < k) ↔ (i < k + 1) := by omega
      simp [h, h1]
  · rw [List.getElem?_eq_none (by simpa using hi)]
    by_cases h : k = i
    · subst h; simp [hi]
    · simp [h]
theorem rowsF_at (p : BitVec 32) (i : Nat) (hi : i < 256) : (rowsF p)[i]? = some (cstN p 8 (BitVec.ofNat 32 i)) := by
  unfold rowsF; rw [List.getElem?_map, List.getElem?_range hi]; rfl
section
variable (m : Bool) (p : BitVec 32) (d s e : Int) (rows : List (BitVec 32))
theorem tblC_0 : (tblC m p d s e rows)[0]? = some (.bool m) := by simp [tblC]
theorem tblC_1 : (tblC m p d s e rows)[1]? = some (.int .u32 p.toNat) := by simp [tblC, u32v]
theorem tblC_2 : (tblC m p d s e rows)[2]? = some (.int .u32 d) := by simp [tblC]
theorem tblC_3 : (tblC m p d s e rows)[3]? = some (.int .i32 s) := by simp [tblC]
theorem tblC_row (i : Nat) : (tblC m p d s e rows)[5 + i]? = (rows[i]?).map u32v := by
  unfold tblC
  rw [List.getElem?_toArray, List.getElem?_append_right (by simp), List.getElem?_map]
  simp
theorem tblC_set2 (x : Int) : (tblC m p d s e rows).setIfInBounds 2 (.int .u32 x) = tblC m p x s e rows := by simp [tblC]
theorem tblC_set3 (x : Int) : (tblC m p d s e rows).setIfInBounds 3 (.int .i32 x) = tblC m p d x e rows := by simp [tblC]
theorem tblC_setrow (i : Nat) (x : BitVec 32) : (tblC m p d s e rows).setIfInBounds (5 + i) (u32v x) = tblC m p d s e (rows.set i x) := by
  unfold tblC
  rw [List.setIfInBounds_toArray, List.set_append_right _ _ (by simp), List.map_set]
  simp
end

set_option maxRecDepth 100000 in
set_option maxHeartbeats 1600000 in
theorem fill_any (b : Nat) (m : Bool) (p : BitVec 32) (d s e : Int) (w : World) (hb : Blk w b 217 (tblC m p d s e (rowsK p 0))) :
    Calls Tryz.prog 109 #[.pointer (some ⟨b, 0, none⟩)] w fun r w' => r = .returned (.tuple #[]) ∧ Blk w' b 217 (tblC m p d s e (rowsF p)) ∧ Mod (At b) w w' ∧ w'.heap.size = w.heap.size := by
  go_enter Tryz.func109, Tryz.ntmps109
  go_wp2
  go_loopw [4] (fun i wr => ∃ k : Nat, k ≤ 256 ∧ i = .int .i64 k ∧ Blk wr b 217 (tblC m p d s e (rowsK p k)) ∧ Mod (At b) w wr ∧ wr.heap.size = w.heap.size) (fun i _ => 256 - (intOf i).toNat)
  case atStart => exact ⟨0, by omega, rfl, hb, Mod.refl _ _, rfl⟩
  case round =>
    obtain ⟨k, hk, rfl, hbr, hmr, hsz⟩ := hrel
    clear hb
    have HS := Lib.hid hsz; clear hsz
    by_cases hlt : k < 256
    · obtain ⟨wo, rfl⟩ : ∃ wo : World, wo = wr := ⟨_, rfl⟩
      have hlt' : (k : Int) < 256 := by omega
      have c1 : wo.cell? ⟨b, 1, none⟩ = some (.int .u32 p.toNat) := (hbr.cell 1).trans (tblC_1 _ _ _ _ _ _)
      have c5 : wo.cell? ⟨b, 5 + k, none⟩ = some (u32v 0#32) := by
        rw [hbr.cell (5 + k), tblC_row]
        simp [rowsK, hlt]
      have f5 := hbr.frozen (5 + k)
      go_wp2
      go_loop [3, 9] (fun x i => ∃ j : Nat, j ≤ 8 ∧ i = .int .i64 j ∧ x = .int .u32 ((cstN p j (BitVec.ofNat 32 k)).toNat)) (fun _ i => 8 - (intOf i).toNat)
      case atStart => exact ⟨0, by omega, rfl, by simp [cstN]; omega⟩
      case round =>
        obtain ⟨j, hj, rfl, rfl⟩ := hrel
        by_cases hj8 : j < 8
        · have hj8' : (j : Int) < 8 := by omega
          generalize hX : cstN p j (BitVec.ofNat 32 k) = X at *
          have HX := Lib.hid hX; clear hX
          go_wp2
          exact ⟨⟨j + 1, by omega, by go_num, by rw [cst_int, cstN_succ, HX.out]⟩, by simp [intOf]; omega⟩
        · have hj8' : ¬ (j : Int) < 8 := by omega
          have : j = 8 := by omega
          subst this
          generalize hX : cstN p 8 (BitVec.ofNat 32 k) = X at *
          have HX := Lib.hid hX; clear hX
          clear hj8
          go_wp2
          have hb2 := hbr.set_ (5 + k) (.int .u32 (X.toNat : Int))
          rw [show Value.int .u32 (X.toNat : Int) = u32v X from rfl, tblC_setrow, ← HX.out, rowsK_set] at hb2
          rw [HX.out] at hb2
          exact ⟨⟨k + 1, by omega, by go_num, hb2, hmr.setCell (p := ⟨b, 5 + k, none⟩) (.inr rfl) _, by simpa using HS.out⟩, by simp [intOf]; omega⟩
    · have hlt' : ¬ (k : Int) < 256 := by omega
      have hk' : k = 256 := by omega
      subst hk'
      rw [rowsK_all] at hbr
      go_wp2
      go_end0
      exact ⟨rfl, hbr, hmr, HS.out⟩
end Go.Proofs.YtodnhbiomooknaaGreat

/- crc.Table: once.Do(t.fill). -/
namespace Go.Proofs.YtodnhbiomooknaaGreat
open Go.RowKit

theorem load_any (a : Addr) (x : Int) (c : Bool) (w : World) (h0 : w.cell? a = some (.int .u32 x)) (hc : (x != 0) = c) :
    Calls Tryz.prog 110 #[.pointer (some a)] w fun e w' => e = .returned (.bool c) ∧ w = w' := by
  have hl := run_call_load (P := Tryz.prog) Tryz.func112 (by kernel_rfl) (by kernel_rfl) (by kernel_rfl) .u32 (by kernel_rfl) h0
  go_enter Tryz.func110, Tryz.ntmps110
  go_wp2
  go_ret
  exact ⟨rfl, rfl⟩

section
variable {b : Nat} {m : Bool} {p : BitVec 32} {e : Int} {w : World}
set_option maxRecDepth 100000 in
set_option maxHeartbeats 1600000 in
theorem slow_any (hb : Blk w b 217 (tblC m p 0 0 e (rowsK p 0))) :
    Calls Tryz.prog 111 #[.pointer (some ⟨b, 2, none⟩), .func (.func 109) #[.pointer (some ⟨b, 0, none⟩)] #[]] w fun r w' => r = .returned (.tuple #[]) ∧
      Blk w' b 217 (tblC m p 1 0 e (rowsF p)) ∧ Mod (At b) w w' ∧ w'.heap.size = w.heap.size := by
  have hnot : ∀ (x : Bool) (w : World), (Op.unary .not (.bool x)).run Tryz.prog w = .ok (.bool (!x)) w := fun _ _ => rfl
  have hl := (hb.cell 3).trans (tblC_3 _ _ _ _ _ _)
  have hlz := hb.frozen 3
  go_enter_defers Tryz.func111, Tryz.ntmps111
  go_wp2_with fail
  refine (lock_free ⟨b, 3, none⟩ _ hl hlz).mono ?_
  rintro r w1 ⟨rfl, hw⟩
  have hb1 : Blk w1 b 217 (tblC m p 0 1 e (rowsK p 0)) := by
    rw [← hw, ← tblC_set3]; exact hb.set_ 3 _
  have m1 : Mod (At b) w w1 := by rw [← hw]; exact Mod.cellAt _ _ _ _
  have z1 : w1.heap.size = w.heap.size := by rw [← hw]; simp
  have Z1 := Lib.hid z1
  clear hl hlz hb hw z1
  go_wp2_with fail
  refine (load_any ⟨b, 2, none⟩ 0 false _ ((hb1.cell 2).trans (tblC_2 _ _ _ _ _ _)) rfl).mono ?_
  rintro r w2 ⟨rfl, rfl⟩
  go_wp2_with fail
  refine (fill_any b m p 0 1 e _ hb1).mono ?_
  rintro r w3 ⟨rfl, hb3, m3, z3⟩
  have Z3 := Lib.hid z3
  clear hb1 z3
  go_wp2
  refine leaves_cons (f := 115) (args := #[.pointer (some ⟨b, 2, none⟩), .bool true]) (by simp) (by simp [go_sem]) ?_
  refine (store_deferred ⟨b, 2, none⟩ (.int .u32 0) .returning _ ((hb3.cell 2).trans (tblC_2 _ _ _ _ _ _)) (hb3.frozen 2)).mono ?_
  rintro r u' w4 ⟨rfl, rfl, hw⟩
  have hb4 : Blk w4 b 217 (tblC m p 1 1 e (rowsF p)) := by
    rw [hw, ← tblC_set2 m p 0 1 e (rowsF p) 1]; exact hb3.drew.set_ 2 _
  have m4 : Mod (At b) w3 w4 := by rw [hw]; exact ((Mod.refl (At b) w3).drew).setCell (p := ⟨b, 2, none⟩) (.inr rfl) _
  have z4 : w4.heap.size = w3.heap.size := by rw [hw]; simp
  refine leaves_cons (f := 114) (args := #[.pointer (some ⟨b, 3, none⟩)]) (by simp [settle]) (by simp [go_sem]) ?_
  refine (unlock_deferred ⟨b, 3, none⟩ _ _ ((hb4.cell 3).trans (tblC_3 _ _ _ _ _ _)) (hb4.frozen 3)).mono ?_
  rintro r u'' w5 ⟨rfl, rfl, hw5⟩
  have hb5 : Blk w5 b 217 (tblC m p 1 0 e (rowsF p)) := by
    rw [hw5, ← tblC_set3 m p 1 1 e (rowsF p) 0]; exact hb4.set_ 3 _
  have m5 : Mod (At b) w4 w5 := by rw [hw5]; exact Mod.cellAt _ _ _ _
  have z5 : w5.heap.size = w4.heap.size := by rw [hw5]; simp
  have hend : Blk w5 b 217 (tblC m p 1 0 e (rowsF p)) ∧ Mod (At b) w w5 ∧ w5.heap.size = w.heap.size := ⟨hb5, ((m1.trans m3).trans m4).trans m5, by have := Z1.out; have := Z3.out; omega⟩
  have HE := Lib.hid hend
  simp [Leaves, settle, results, Tryz.results111]
  exact HE.out

set_option maxRecDepth 100000 in
set_option maxHeartbeats 1600000 in
theorem do_first (hb : Blk w b 217 (tblC m p 0 0 e (rowsK p 0))) :
    Calls Tryz.prog 108 #[.pointer (some ⟨b, 2, none⟩), .func (.func 109) #[.pointer (some ⟨b, 0, none⟩)] #[]] w fun r w' => r = .returned (.tuple #[]) ∧
      Blk w' b 217 (tblC m p 1 0 e (rowsF p)) ∧ Mod (At b) w w' ∧ w'.heap.size = w.heap.size := by
  have hnot : ∀ (x : Bool) (w : World), (Op.unary .not (.bool x)).run Tryz.prog w = .ok (.bool (!x)) w := fun _ _ => rfl
  go_enter Tryz.func108, Tryz.ntmps108
  go_wp2_with fail
  refine (load_any ⟨b, 2, none⟩ 0 false _ ((hb.cell 2).trans (tblC_2 _ _ _ _ _ _)) rfl).mono ?_
  rintro r w2 ⟨rfl, rfl⟩
  go_wp2_with fail
  refine (slow_any hb).mono ?_
  rintro r w3 ⟨rfl, hb3, m3, z3⟩
  have Z3 := Lib.hid z3
  clear z3
  go_wp2
  go_end0
  exact ⟨rfl, hb3, m3, Z3.out⟩
set_option maxRecDepth 100000 in
set_option maxHeartbeats 1600000 in
theorem do_done {rows : List (BitVec 32)} (fv : Value) (hb : Blk w b 217 (tblC m p 1 0 e rows)) :
    Calls Tryz.prog 108 #[.pointer (some ⟨b, 2, none⟩), fv] w fun r w' => r = .returned (.tuple #[]) ∧ w = w' := by
  have hnot : ∀ (x : Bool) (w : World), (Op.unary .not (.bool x)).run Tryz.prog w = .ok (.bool (!x)) w := fun _ _ => rfl
  go_enter Tryz.func108, Tryz.ntmps108
  go_wp2_with fail
  refine (load_any ⟨b, 2, none⟩ 1 true _ ((hb.cell 2).trans (tblC_2 _ _ _ _ _ _)) rfl).mono ?_
  rintro r w2 ⟨rfl, rfl⟩
  go_wp2
  go_end0
  exact ⟨rfl, rfl⟩
end
end Go.Proofs.YtodnhbiomooknaaGreat

/- crc.Table.Add, New; crc.Add, Sum. -/
namespace Go.Proofs.YtodnhbiomooknaaGreat
open Go.RowKit

def bv (l : List Nat) : List Value := l.map (fun c : Nat => Value.int .u8 (c : Int))
def TblAt (w : World) (b : Nat) (p : BitVec 32) : Prop := ∃ e, Blk w b 217 (tblC true p 0 0 e (rowsK p 0)) ∨ Blk w b 217 (tblC true p 1 0 e (rowsF p))
theorem TblAt.lt {w : World} {b : Nat} {p : BitVec 32} (h : TblAt w b p) : b < w.heap.size := by
  obtain ⟨e, h | h⟩ := h <;> exact h.lt
theorem TblAt.mod {w w' : World} {b : Nat} {p : BitVec 32} {S : Nat → Prop} (h : TblAt w b p) (hm : Mod S w w') (hn : ¬ S b) : TblAt w' b p := by
  obtain ⟨e, h | h⟩ := h
  · exact ⟨e, .inl (h.mod hm hn)⟩
  · exact ⟨e, .inr (h.mod hm hn)⟩
theorem idx_int (x : BitVec 32) (c : Nat) (hc : c < 256) : bits .xor .u8 ((x.toNat : Int) % 256) (c : Int) = (((x ^^^ BitVec.ofNat 32 c) &&& 255#32).toNat : Int) := by
  have h1 : ((x.toNat : Int) % 256) = ((x.toNat % 256 : Nat) : Int) := by omega
  have h2 : (x.toNat % 256) ^^^ c < 2 ^ 8 := Nat.xor_lt_two_pow (by omega) (by omega)
  rw [h1]
  show IntKind.u8.wrap ((BitVec.ofInt 8 ((x.toNat % 256 : Nat) : Int) ^^^ BitVec.ofInt 8 (c : Int)).toNat : Int) = _
  rw [BitVec.ofInt_natCast, BitVec.ofInt_natCast, BitVec.toNat_xor, BitVec.toNat_ofNat, BitVec.toNat_ofNat, IntKind.wrap_u8, Nat.mod_eq_of_lt (show x.toNat % 256 < 2 ^ 8 by omega), Nat.mod_eq_of_lt (show c < 2 ^ 8 by omega),
    BitVec.toNat_and, BitVec.toNat_xor, BitVec.toNat_ofNat, Nat.mod_eq_of_lt (show c < 2 ^ 32 by omega), show (255#32).toNat = 2 ^ 8 - 1 from rfl, Nat.and_two_pow_sub_one_eq_mod, Nat.xor_mod_two_pow, Nat.mod_eq_of_lt (show c < 2 ^ 8 by omega)]
  have h3 : x.toNat % 256 = x.toNat % 2 ^ 8 := rfl
  rw [h3] at h2 ⊢
  omega
theorem idx_lt (x : BitVec 32) : (x &&& 255#32).toNat < 256 := by
  rw [BitVec.toNat_and, show (255#32).toNat = 2 ^ 8 - 1 from rfl, Nat.and_two_pow_sub_one_eq_mod]
  omega

theorem b_not (s : BitVec 32) : bits .xor .u32 IntKind.u32.max (s.toNat : Int) = ((~~~ s).toNat : Int) := by
  have h : (IntKind.u32.max : Int) = ((BitVec.allOnes 32).toNat : Int) := by decide
  rw [h, b_xor, BitVec.allOnes_xor]
theorem shr8 (x : BitVec 32) : (x.toNat : Int) / (256 : Int) = ((x >>> 8).toNat : Int) := b_shr x 8
theorem bv_at (l : List Nat) (k : Nat) : (bv l)[k]? = (l[k]?).map (fun c : Nat => Value.int .u8 (c : Int)) := List.getElem?_map ..
theorem crcF_snoc (p x : BitVec 32) (l : List Nat) (k : Nat) (z : Nat) (h : l[k]? = some z) : crcF p x (l.take (k + 1)) = cby p (crcF p x (l.take k)) z := by
  have hk : k < l.length := (List.getElem?_eq_some_iff.1 h).1
  rw [List.take_succ_eq_append_getElem hk, crcF_append, (List.getElem?_eq_some_iff.1 h).2]
  rfl
set_option maxRecDepth 100000 in
set_option maxHeartbeats 1600000 in
theorem add_of {w : World} {b : Nat} {p : BitVec 32} {e : Int} (c0 : w.cell? ⟨b, 0, none⟩ = some (.bool true))
    (hdo : Calls Tryz.prog 108 #[.pointer (some ⟨b, 2, none⟩), .func (.func 109) #[.pointer (some ⟨b, 0, none⟩)] #[]] w fun r w' => r = .returned (.tuple #[]) ∧ Blk w' b 217 (tblC true p 1 0 e (rowsF p)) ∧ Mod (At b) w w')
    (s : BitVec 32) {A : Option Addr} {n c : Nat} {l : List Nat} (hr0 : Rd w A n (bv l)) (hA : ∀ g, Of A g → 0 < n → g ≠ b) (hl : ∀ z ∈ l, z < 256) (hn : n ≤ 140737488355328) :
    Calls Tryz.prog 100 #[.pointer (some ⟨b, 0, none⟩), .int .u32 (s.toNat : Int), .slice A n c] w fun r w' => r = .returned (.int .u32 ((crcS p s l).toNat : Int)) ∧ Blk w' b 217 (tblC true p 1 0 e (rowsF p)) ∧ Mod (At b) w w' := by
  have hmf : ∀ (fn : Fn) (first cap : Array Value) (w : World), (Instr.makeFunc fn first cap).run Tryz.prog w = .ok (.func fn first cap) w := fun _ _ _ _ => rfl
  unfold crcS
  have hS := b_not s
  generalize ~~~ s = S at *
  generalize hR : ~~~ crcF p S l = R
  have HSS := Lib.hid hS; have HR := Lib.hid hR; clear hS hR
  go_enter Tryz.func100, Tryz.ntmps100
  go_wp2_with fail
  refine hdo.mono ?_
  rintro r w ⟨rfl, hb, m2⟩
  have hr := hr0.mod0 m2 (fun hp g hg => hA g hg hp)
  have hL : l.length = n := by have := hr.1; simpa [bv] using this
  have HL := Lib.hid hL; clear hL hdo c0 hr0
  have hS := HSS.out
  go_wp2
  clear hS
  go_loop [7, 29] (fun v i => ∃ k : Nat, k ≤ n ∧ i = .int .i64 k ∧ v = .int .u32 ((crcF p S (l.take k)).toNat : Int)) (fun _ i => n - (intOf i).toNat)
  case atStart => exact ⟨0, Nat.zero_le _, rfl, rfl⟩
  case round =>
    obtain ⟨k, hk, rfl, rfl⟩ := hrel
    by_cases hlt : k < n
    · have hlt' : (k : Int) < n := by omega
      obtain ⟨g, off, v, rfl, hv, hc⟩ := hr.at_ hlt
      rw [bv_at] at hv
      obtain ⟨z, hz, rfl⟩ := Option.map_eq_some_iff.1 hv
      have hz8 : z < 256 := hl z (List.mem_of_getElem? hz)
      have hnext := crcF_snoc p S l k z hz
      generalize crcF p S (l.take k) = X at *
      have HN := Lib.hid hnext
      have hI := idx_int X z hz8
      have hIl := idx_lt (X ^^^ BitVec.ofNat 32 z)
      have hstep := cby_table p X z hz8
      have HST := Lib.hid hstep
      have cR : w.cell? ⟨b, 5 + ((X ^^^ BitVec.ofNat 32 z) &&& 255#32).toNat, none⟩ = some (.int .u32 ((cstN p 8 ((X ^^^ BitVec.ofNat 32 z) &&& 255#32)).toNat : Int)) := by
        rw [hb.cell (5 + _), tblC_row, rowsF_at p _ hIl, BitVec.ofNat_toNat, BitVec.setWidth_eq]; rfl
      generalize hT : cstN p 8 ((X ^^^ BitVec.ofNat 32 z) &&& 255#32) = T at *
      have HT := Lib.hid hT
      generalize ((X ^^^ BitVec.ofNat 32 z) &&& 255#32).toNat = I at *
      have HXs := Lib.hid (shr8 X)
      clear hnext hstep hT hv hz hr hA
      have hIl' : (0 : Int) ≤ I ∧ (I : Int) < 256 := by omega
      go_wp2
      exact ⟨⟨k + 1, by omega, by go_num, by rw [HXs.out, b_xor, HN.out, HST.out]⟩, by simp [intOf]; omega⟩
    · have hlt' : ¬ (k : Int) < n := by omega
      have hk' : l.take k = l := List.take_of_length_le (by rw [HL.out]; omega)
      rw [hk']
      have hS := b_not (crcF p S l)
      rw [HR.out] at hS
      clear hk' hr
      go_wp2
      go_ret
      exact ⟨rfl, hb, m2⟩

theorem add_any0 {w : World} {b : Nat} {p : BitVec 32} (h : TblAt w b p) (s : BitVec 32) {A : Option Addr} {n c : Nat} {l : List Nat} (hr : Rd w A n (bv l)) (hA : ∀ g, Of A g → 0 < n → g ≠ b) (hl : ∀ z ∈ l, z < 256) (hn : n ≤ 140737488355328) :
    Calls Tryz.prog 100 #[.pointer (some ⟨b, 0, none⟩), .int .u32 (s.toNat : Int), .slice A n c] w fun r w' => r = .returned (.int .u32 ((crcS p s l).toNat : Int)) ∧ TblAt w' b p ∧ Mod (At b) w w' := by
  obtain ⟨e, h | h⟩ := h
  · exact (add_of (e := e) ((h.cell 0).trans (tblC_0 _ _ _ _ _ _)) ((do_first h).mono fun r w' ⟨h1, h2, h3, _⟩ => ⟨h1, h2, h3⟩) s hr hA hl hn).mono fun r w' ⟨h1, h2, h3⟩ => ⟨h1, ⟨e, .inr h2⟩, h3⟩
  · exact (add_of (e := e) ((h.cell 0).trans (tblC_0 _ _ _ _ _ _)) ((do_done _ h).mono fun r w' ⟨h1, h2⟩ => ⟨h1, h2 ▸ h, h2 ▸ Mod.refl _ _⟩) s hr hA hl hn).mono fun r w' ⟨h1, h2, h3⟩ => ⟨h1, ⟨e, .inr h2⟩, h3⟩
end Go.Proofs.YtodnhbiomooknaaGreat

/- crc.New, Add, Sum; a table that is not; the document's Of, Add, Sum. -/
namespace Go.Proofs.YtodnhbiomooknaaGreat
open Go.RowKit

theorem tbl_zero : (Tryz.prog.info? 217).map (fun i => (i.zero, i.size)) = some (some (.agg (tblC false 0#32 0 0 0 (rowsK 0#32 0))), 261) := by kernel_rfl
theorem rowsK_none (p q : BitVec 32) : rowsK p 0 = rowsK q 0 := by simp [rowsK]
theorem tblC_size (m : Bool) (p : BitVec 32) (d s e : Int) (rows : List (BitVec 32)) : (tblC m p d s e rows).size = 5 + rows.length := by simp [tblC]; omega
set_option maxRecDepth 100000 in
set_option maxHeartbeats 1600000 in
theorem new_any (p : BitVec 32) (w : World) : Calls Tryz.prog 99 #[.int .u32 (p.toNat : Int)] w fun r w' => ∃ b, r = .returned (.pointer (some ⟨b, 0, none⟩)) ∧ TblAt w' b p ∧ Mod Nn w w' ∧ w.heap.size ≤ b := by
  have hex : ∃ Z : Array Value, Z = tblC false 0#32 0 0 0 (rowsK 0#32 0) := ⟨_, rfl⟩
  obtain ⟨Z, hZ⟩ := hex
  have hz : ∀ w, (zeroValue 217).run Tryz.prog w = .ok (.agg Z) w := fun w => by rw [hZ]; exact zero_of tbl_zero w
  have hs : ¬ Z.size < 2 := by rw [hZ, tblC_size, rowsK_len]; omega
  have hne : ¬ Z = #[] := fun h => by rw [h] at hs; exact hs (by simp)
  have hfin : (Z.setIfInBounds 0 (.bool true)).setIfInBounds 1 (.int .u32 (p.toNat : Int)) = tblC true p 0 0 0 (rowsK p 0) := by
    rw [hZ, rowsK_none 0#32 p]; simp [tblC, u32v]
  have HF := Lib.hid hfin
  clear hZ hfin
  go_enter Tryz.func99, Tryz.ntmps99
  go_wp2
  go_ret
  refine ⟨_, rfl, ⟨0, .inl ?_⟩, (Mod.refl _ _).alloc _, Nat.le_refl _⟩
  rw [← HF.out]
  exact Blk.new _ _ _

def cas : BitVec 32 := 2197175160#32
section
variable {w : World} {A : Option Addr} {n c : Nat} {l : List Nat}
set_option maxHeartbeats 800000 in
theorem crc_add (s : BitVec 32) (hr : Rd w A n (bv l)) (hl : ∀ z ∈ l, z < 256) (hn : n ≤ 140737488355328) :
    Calls Tryz.prog 68 #[.int .u32 (s.toNat : Int), .slice A n c] w fun r w' => r = .returned (.int .u32 ((crcS cas s l).toNat : Int)) ∧ Mod Nn w w' := by
  generalize hR : (crcS cas s l).toNat = R
  have HR := Lib.hid hR; clear hR
  go_enter Tryz.func68, Tryz.ntmps68
  go_wp2_with fail
  refine (new_any cas w).mono ?_
  rintro r w1 ⟨b, rfl, ht, m1, hb⟩
  have hA : ∀ g, Of A g → 0 < n → g ≠ b := fun g hg hp e => by have := hr.in_ hp hg; omega
  have hr1 := hr.mod m1 (fun _ _ f => f)
  have HB := Lib.hid hb; clear hb
  go_wp2_with fail
  refine (add_any0 ht s hr1 hA hl hn).mono ?_
  rintro r w2 ⟨rfl, ht2, m2⟩
  rw [HR.out]
  have M2 : Mod Nn w w2 := m1.new_ m2 HB.out
  go_wp2
  go_ret
  exact ⟨rfl, M2⟩
set_option maxHeartbeats 800000 in
theorem crc_sum (hr : Rd w A n (bv l)) (hl : ∀ z ∈ l, z < 256) (hn : n ≤ 140737488355328) :
    Calls Tryz.prog 35 #[.slice A n c] w fun r w' => r = .returned (.int .u32 ((crcS cas 0#32 l).toNat : Int)) ∧ Mod Nn w w' := by
  generalize hR : (crcS cas 0#32 l).toNat = R
  have HR := Lib.hid hR; clear hR
  go_enter Tryz.func35, Tryz.ntmps35
  go_wp2_with fail
  refine (crc_add 0#32 hr hl hn).mono ?_
  rintro r w1 ⟨rfl, m1⟩
  rw [HR.out]
  go_wp2
  go_ret
  exact ⟨rfl, m1⟩
end
set_option maxHeartbeats 800000 in
theorem add_nil (s : Int) (v : Value) (w : World) : Calls Tryz.prog 100 #[.pointer none, .int .u32 s, v] w fun r w' => r = .returned (.int .u32 0) ∧ w = w' := by
  go_enter Tryz.func100, Tryz.ntmps100
  go_wp2
  go_ret
  exact ⟨rfl, rfl⟩
set_option maxHeartbeats 800000 in
theorem add_unmade (b : Nat) (s : Int) (v : Value) (w : World) (c0 : w.cell? ⟨b, 0, none⟩ = some (.bool false)) : Calls Tryz.prog 100 #[.pointer (some ⟨b, 0, none⟩), .int .u32 s, v] w fun r w' => r = .returned (.int .u32 0) ∧ w = w' := by
  go_enter Tryz.func100, Tryz.ntmps100
  go_wp2
  go_ret
  exact ⟨rfl, rfl⟩
end Go.Proofs.YtodnhbiomooknaaGreat

/- Frames (layer 10) in plain words. No program is named. -/
namespace Go.Proofs.YtodnhbiomooknaaGreat

/-- n in k bytes, the greatest first -/
def num (n : Nat) : Nat → List Nat
  | 0 => []
  | k + 1 => num (n / 256) k ++ [n % 256]
theorem num_len : ∀ (k n : Nat), (num n k).length = k
  | 0, _ => rfl
  | k + 1, n => by rw [num, List.length_append, num_len k]; rfl
theorem num_lt : ∀ (k n : Nat), ∀ z ∈ num n k, z < 256
  | 0, _, z, h => by cases h
  | k + 1, n, z, h => by
    rcases List.mem_append.1 h with h | h
    · exact num_lt k _ z h
    · rw [List.mem_singleton.1 h]; exact Nat.mod_lt _ (by omega)
/-- byte i of n in k bytes, as a loop from the greatest down writes it -/
theorem num_at : ∀ (k n i : Nat), i < k → (num n k)[i]? = some (n / 2 ^ (8 * (k - 1 - i)) % 256)
  | 0, _, _, h => by omega
  | k + 1, n, i, h => by
    rw [num]
    by_cases hi : i < k
    · rw [List.getElem?_append_left (by rw [num_len]; exact hi), num_at k _ i hi]
      congr 2
      rw [Nat.div_div_eq_div_mul, show k + 1 - 1 - i = (k - 1 - i) + 1 from by omega, show 8 * (k - 1 - i + 1) = 8 + 8 * (k - 1 - i) from by omega, Nat.pow_add]
    · rw [List.getElem?_append_right (by rw [num_len]; omega), num_len, show i - k = 0 from by omega, show k + 1 - 1 - i = 0 from by omega]
      simp
theorem num_take (n k j : Nat) (h : j < k) : (num n k).take (j + 1) = (num n k).take j ++ [n / 2 ^ (8 * (k - 1 - j)) % 256] := by
  rw [List.take_add_one, num_at k n j h]; rfl
/-- what bytes say as a number -/
def said (l : List Nat) : Nat := l.foldl (fun n c => 256 * n + c) 0
theorem said_snoc (l : List Nat) (c : Nat) : said (l ++ [c]) = 256 * said l + c := by unfold said; rw [List.foldl_append]; rfl
theorem said_num : ∀ (k n : Nat), said (num n k) = n % 256 ^ k
  | 0, n => by simp [num, said, Nat.mod_one]
  | k + 1, n => by
    rw [num, said_snoc, said_num k, Nat.pow_succ', Nat.mod_mul]
    omega
theorem said_num_lt (k n : Nat) (h : n < 256 ^ k) : said (num n k) = n := by rw [said_num, Nat.mod_eq_of_lt h]
theorem snoc_cases (l : List Nat) (h : 0 < l.length) : ∃ m c, l = m ++ [c] := ⟨l.dropLast, l.getLast (by intro e; rw [e] at h; cases h), (List.dropLast_concat_getLast _).symm⟩
theorem said_lt : ∀ (k : Nat) (l : List Nat), l.length = k → (∀ z ∈ l, z < 256) → said l < 256 ^ k
  | 0, l, h, _ => by rw [List.eq_nil_of_length_eq_zero h]; simp [said]
  | k + 1, l, h, hl => by
    obtain ⟨m, c, rfl⟩ := snoc_cases l (by omega)
    have hm := said_lt k m (by simpa using h) (fun z hz => hl z (List.mem_append_left _ hz))
    have hc := hl c (by simp)
    rw [said_snoc, Nat.pow_succ]
    omega
theorem num_said : ∀ (k : Nat) (l : List Nat), l.length = k → (∀ z ∈ l, z < 256) → num (said l) k = l
  | 0, l, h, _ => by rw [List.eq_nil_of_length_eq_zero h]; rfl
  | k + 1, l, h, hl => by
    obtain ⟨m, c, rfl⟩ := snoc_cases l (by omega)
    have hc := hl c (by simp)
    rw [num, said_snoc, show (256 * said m + c) / 256 = said m from by omega, show (256 * said m + c) % 256 = c from by omega, num_said k m (by simpa using h) (fun z hz => hl z (List.mem_append_left _ hz))]
/-- a frame's bytes -/
structure Fr where
  kind : Nat
  epoch : Nat
  seq : Nat
  data : List Nat
def Fr.body (f : Fr) : List Nat := [112, 101, 97, 116, f.kind % 256, 0, 0, 0] ++ num f.epoch 8 ++ num f.seq 8 ++ num f.data.length 4 ++ f.data
def fsec (n : Nat) : Nat := (28 + n + 4 + 511) / 512
def Fr.sum (f : Fr) : Nat := (crcS 2197175160#32 0#32 f.body).toNat
def Fr.bytes (f : Fr) : List Nat := f.body ++ num f.sum 4 ++ List.replicate (512 * fsec f.data.length - (32 + f.data.length)) 0
theorem Fr.body_len (f : Fr) : f.body.length = 28 + f.data.length := by simp [Fr.body, num_len]; omega
theorem fsec_le (n : Nat) : 32 + n ≤ 512 * fsec n ∧ 512 * fsec n < 32 + n + 512 := by unfold fsec; omega
theorem Fr.bytes_len (f : Fr) : f.bytes.length = 512 * fsec f.data.length := by
  have := fsec_le f.data.length
  rw [Fr.bytes, List.length_append, List.length_append, Fr.body_len, num_len, List.length_replicate]
  omega
theorem Fr.body_lt (f : Fr) (hd : ∀ z ∈ f.data, z < 256) : ∀ z ∈ f.body, z < 256 := fun z hz => by
  unfold Fr.body at hz
  rcases List.mem_append.1 hz with hz | hz
  · rcases List.mem_append.1 hz with hz | hz
    · rcases List.mem_append.1 hz with hz | hz
      · rcases List.mem_append.1 hz with hz | hz
        · simp at hz; omega
        · exact num_lt _ _ z hz
      · exact num_lt _ _ z hz
    · exact num_lt _ _ z hz
  · exact hd z hz
theorem Fr.bytes_lt (f : Fr) (hd : ∀ z ∈ f.data, z < 256) : ∀ z ∈ f.bytes, z < 256 := fun z hz => by
  unfold Fr.bytes at hz
  rcases List.mem_append.1 hz with hz | hz
  · rcases List.mem_append.1 hz with hz | hz
    · exact f.body_lt hd z hz
    · exact num_lt _ _ z hz
  · rw [(List.mem_replicate.1 hz).2]; omega
/-- is it one? the numbers' bounds -/
def Fr.ok (f : Fr) : Prop := f.kind ≤ 255 ∧ f.epoch ≤ 1099511627776 ∧ f.seq ≤ 1099511627776 ∧ f.data.length ≤ 32768
/-- the frame that bytes say, whether they hold it or not -/
def frOf (b : List Nat) : Fr := ⟨b.getD 4 0, said ((b.drop 8).take 8), said ((b.drop 16).take 8), (b.drop 28).take (said ((b.drop 24).take 4))⟩
def frLong (b : List Nat) : Nat := said ((b.drop 24).take 4)
/-- do bytes begin with a frame? -/
def Holds (b : List Nat) : Prop := 512 ≤ b.length ∧ (frOf b).epoch ≤ 1099511627776 ∧ (frOf b).seq ≤ 1099511627776 ∧ frLong b ≤ 32768 ∧ 512 * fsec (frLong b) ≤ b.length ∧ b.take (512 * fsec (frLong b)) = (frOf b).bytes
end Go.Proofs.YtodnhbiomooknaaGreat
