/- crc.Table: its words in memory; fill. -/
import Derived.Test.YtjndcgpfikngaaaOnce1
import Derived.Test.YtjndcgpfikngaaaCrc0
import Derived.Deep.LoopGhost
namespace Go.Proofs.Ytjndcgpfikngaaa
open Go.RowKit

def u32v (x : BitVec 32) : Value := .int .u32 (x.toNat : Int)
theorem b_xor (x y : BitVec 32) : bits .xor .u32 (x.toNat : Int) (y.toNat : Int) = ((x ^^^ y).toNat : Int) := by
  show IntKind.u32.wrap ((BitVec.ofInt 32 (x.toNat : Int) ^^^ BitVec.ofInt 32 (y.toNat : Int)).toNat : Int) = _
  rw [BitVec.ofInt_natCast, BitVec.ofInt_natCast, BitVec.ofNat_toNat, BitVec.ofNat_toNat, BitVec.setWidth_eq, BitVec.setWidth_eq, IntKind.wrap_u32]
  have := (x ^^^ y).isLt
  omega
theorem b_and (x y : BitVec 32) : bits .and .u32 (x.toNat : Int) (y.toNat : Int) = ((x &&& y).toNat : Int) := by
  show IntKind.u32.wrap ((BitVec.ofInt 32 (x.toNat : Int) &&& BitVec.ofInt 32 (y.toNat : Int)).toNat : Int) = _
  rw [BitVec.ofInt_natCast, BitVec.ofInt_natCast, BitVec.ofNat_toNat, BitVec.ofNat_toNat, BitVec.setWidth_eq, BitVec.setWidth_eq, IntKind.wrap_u32]
  have := (x &&& y).isLt
  omega
theorem b_shr (x : BitVec 32) (n : Nat) : (x.toNat : Int) / 2 ^ n = ((x >>> n).toNat : Int) := by
  rw [BitVec.toNat_ushiftRight, Nat.shiftRight_eq_div_pow]
  simp

theorem and_one (x : BitVec 32) : x &&& 1#32 = if x.getLsbD 0 then 1#32 else 0#32 := by
  apply BitVec.eq_of_getLsbD_eq
  intro i hi
  rw [BitVec.getLsbD_and, one_bit]
  by_cases h : i = 0
  · subst h
    by_cases hx : x.getLsbD 0 = true
    · rw [if_pos hx, hx, one_bit]; rfl
    · rw [if_neg hx, Bool.eq_false_iff.2 hx]; simp
  · by_cases hx : x.getLsbD 0 = true
    · rw [if_pos hx, one_bit]; simp [h]
    · rw [if_neg hx]; simp [h]
/-- the program's step -/
theorem cst_int (p x : BitVec 32) : bits .xor .u32 ((x.toNat : Int) / 2) (bits .and .u32 (p.toNat : Int) (-(bits .and .u32 (x.toNat : Int) 1) % 4294967296)) = ((cst p x).toNat : Int) := by
  have h1 : bits .and .u32 (x.toNat : Int) 1 = ((x &&& 1#32).toNat : Int) := b_and x 1#32
  have h2 : (x.toNat : Int) / (2 : Int) = ((x >>> 1).toNat : Int) := by have := b_shr x 1; rw [Int.pow_succ, Int.pow_zero, Int.one_mul] at this; exact this
  rw [h1, h2, and_one]
  unfold cst
  by_cases hx : x.getLsbD 0 = true
  · rw [if_pos hx, if_pos hx, show (-((1#32).toNat : Int) % 4294967296) = ((BitVec.allOnes 32).toNat : Int) from by decide, b_and, BitVec.and_allOnes, b_xor]
  · rw [if_neg hx, if_neg hx, show (-((0#32).toNat : Int) % 4294967296) = ((0#32).toNat : Int) from by decide, b_and, BitVec.and_zero, b_xor]
def tblC (m : Bool) (p : BitVec 32) (d s e : Int) (rows : List (BitVec 32)) : Array Value := ([.bool m, u32v p, .int .u32 d, .int .i32 s, .int .u32 e] ++ rows.map u32v).toArray
def rowsK (p : BitVec 32) (k : Nat) : List (BitVec 32) := (List.range 256).map (fun i => if i < k then cstN p 8 (BitVec.ofNat 32 i) else 0#32)
def rowsF (p : BitVec 32) : List (BitVec 32) := (List.range 256).map (fun i => cstN p 8 (BitVec.ofNat 32 i))
theorem rowsK_len (p : BitVec 32) (k : Nat) : (rowsK p k).length = 256 := by simp [rowsK]
theorem rowsF_len (p : BitVec 32) : (rowsF p).length = 256 := by simp [rowsF]
theorem rowsK_all (p : BitVec 32) : rowsK p 256 = rowsF p := by
  unfold rowsK rowsF
  refine List.map_congr_left fun i hi => ?_
  rw [if_pos (List.mem_range.1 hi)]
theorem rowsK_set (p : BitVec 32) (k : Nat) : (rowsK p k).set k (cstN p 8 (BitVec.ofNat 32 k)) = rowsK p (k + 1) := by
  apply List.ext_getElem?
  intro i
  rw [List.getElem?_set]
  simp only [rowsK, List.getElem?_map, List.length_map, List.length_range]
  by_cases hi : i < 256
  · rw [List.getElem?_range hi]
    by_cases h : k = i
    · subst h; simp [hi]
    · have h1 : (i < k) ↔ (i < k + 1) := by omega
      simp [h, h1]
  · rw [List.getElem?_eq_none (by simpa using hi)]
    by_cases h : k = i
    · subst h; simp [hi]
    · simp [h]
theorem rowsF_at (p : BitVec 32) (i : Nat) (hi : i < 256) : (rowsF p)[i]? = some (cstN p 8 (BitVec.ofNat 32 i)) := by
  unfold rowsF; rw [List.getElem?_map, List.getElem?_range hi]; rfl
section
variable (m : Bool) (p : BitVec 32) (d s e : Int) (rows : List (BitVec 32))
theorem tblC_0 : (tblC m p d s e rows)[0]? = some (.bool m) := by simp [tblC]
theorem tblC_1 : (tblC m p d s e rows)[1]? = some (.int .u32 p.toNat) := by simp [tblC, u32v]
theorem tblC_2 : (tblC m p d s e rows)[2]? = some (.int .u32 d) := by simp [tblC]
theorem tblC_3 : (tblC m p d s e rows)[3]? = some (.int .i32 s) := by simp [tblC]
theorem tblC_row (i : Nat) : (tblC m p d s e rows)[5 + i]? = (rows[i]?).map u32v := by
  unfold tblC
  rw [List.getElem?_toArray, List.getElem?_append_right (by simp), List.getElem?_map]
  simp
theorem tblC_set2 (x : Int) : (tblC m p d s e rows).setIfInBounds 2 (.int .u32 x) = tblC m p x s e rows := by simp [tblC]
theorem tblC_set3 (x : Int) : (tblC m p d s e rows).setIfInBounds 3 (.int .i32 x) = tblC m p d x e rows := by simp [tblC]
theorem tblC_setrow (i : Nat) (x : BitVec 32) : (tblC m p d s e rows).setIfInBounds (5 + i) (u32v x) = tblC m p d s e (rows.set i x) := by
  unfold tblC
  rw [List.setIfInBounds_toArray, List.set_append_right _ _ (by simp), List.map_set]
  simp
end

set_option maxRecDepth 100000 in
set_option maxHeartbeats 1600000 in
theorem fill_any (b : Nat) (m : Bool) (p : BitVec 32) (d s e : Int) (w : World) (hb : Blk w b 215 (tblC m p d s e (rowsK p 0))) :
    Calls Try.prog 110 #[.pointer (some ⟨b, 0, none⟩)] w fun r w' => r = .returned (.tuple #[]) ∧ Blk w' b 215 (tblC m p d s e (rowsF p)) ∧ Mod (At b) w w' ∧ w'.heap.size = w.heap.size := by
  go_enter Try.func110, Try.ntmps110
  go_wp2
  go_loopw [4] (fun i wr => ∃ k : Nat, k ≤ 256 ∧ i = .int .i64 k ∧ Blk wr b 215 (tblC m p d s e (rowsK p k)) ∧ Mod (At b) w wr ∧ wr.heap.size = w.heap.size) (fun i _ => 256 - (intOf i).toNat)
  case atStart => exact ⟨0, by omega, rfl, hb, Mod.refl _ _, rfl⟩
  case round =>
    obtain ⟨k, hk, rfl, hbr, hmr, hsz⟩ := hrel
    clear hb
    have HS := Lib.hid hsz; clear hsz
    by_cases hlt : k < 256
    · obtain ⟨wo, rfl⟩ : ∃ wo : World, wo = wr := ⟨_, rfl⟩
      have hlt' : (k : Int) < 256 := by omega
      have c1 : wo.cell? ⟨b, 1, none⟩ = some (.int .u32 p.toNat) := (hbr.cell 1).trans (tblC_1 _ _ _ _ _ _)
      have c5 : wo.cell? ⟨b, 5 + k, none⟩ = some (u32v 0#32) := by
        rw [hbr.cell (5 + k), tblC_row]
        simp [rowsK, hlt]
      have f5 := hbr.frozen (5 + k)
      go_wp2
      go_loop [3, 9] (fun x i => ∃ j : Nat, j ≤ 8 ∧ i = .int .i64 j ∧ x = .int .u32 ((cstN p j (BitVec.ofNat 32 k)).toNat)) (fun _ i => 8 - (intOf i).toNat)
      case atStart => exact ⟨0, by omega, rfl, by simp [cstN]; omega⟩
      case round =>
        obtain ⟨j, hj, rfl, rfl⟩ := hrel
        by_cases hj8 : j < 8
        · have hj8' : (j : Int) < 8 := by omega
          generalize hX : cstN p j (BitVec.ofNat 32 k) = X at *
          have HX := Lib.hid hX; clear hX
          go_wp2
          exact ⟨⟨j + 1, by omega, by go_num, by rw [cst_int, cstN_succ, HX.out]⟩, by simp [intOf]; omega⟩
        · have hj8' : ¬ (j : Int) < 8 := by omega
          have : j = 8 := by omega
          subst this
          generalize hX : cstN p 8 (BitVec.ofNat 32 k) = X at *
          have HX := Lib.hid hX; clear hX
          clear hj8
          go_wp2
          have hb2 := hbr.set_ (5 + k) (.int .u32 (X.toNat : Int))
          rw [show Value.int .u32 (X.toNat : Int) = u32v X from rfl, tblC_setrow, ← HX.out, rowsK_set] at hb2
          rw [HX.out] at hb2
          exact ⟨⟨k + 1, by omega, by go_num, hb2, hmr.setCell (p := ⟨b, 5 + k, none⟩) (.inr rfl) _, by simpa using HS.out⟩, by simp [intOf]; omega⟩
    · have hlt' : ¬ (k : Int) < 256 := by omega
      have hk' : k = 256 := by omega
      subst hk'
      rw [rowsK_all] at hbr
      go_wp2
      go_end0
      exact ⟨rfl, hbr, hmr, HS.out⟩
end Go.Proofs.Ytjndcgpfikngaaa
