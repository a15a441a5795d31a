/- Own lemmas of several kinds, put together: Once1, Crc1, Crc2, Crc3, Crc4. -/
import Derived.Test.YtijmkbhbpbkkoaaGreatRows
import Derived.Test.YtijmkbhbpbkkoaaGreatKitA
import Derived.Defers
import Derived.Laws.Pointers
import Derived.Laws.LoneSync
import Derived.RegionCalls
import Derived.Test.YtijmkbhbpbkkoaaGreatCrcB
import Derived.Deep.LoopGhost
/- sync.Once, one goroutine: its parts (turned from the worked texts Lazy*). -/
namespace Go.Proofs.YtijmkbhbpbkkoaaGreat
open Go.RowKit

theorem race_disable (w : World) : (callFunc 88 #[]).run Tryz.prog w = .ok (.value (.tuple #[])) w := run_call_mark0 Tryz.func88 (by kernel_rfl) (by kernel_rfl) (by kernel_rfl) .disable (by kernel_rfl) w
theorem race_enable (w : World) : (callFunc 90 #[]).run Tryz.prog w = .ok (.value (.tuple #[])) w := run_call_mark0 Tryz.func90 (by kernel_rfl) (by kernel_rfl) (by kernel_rfl) .enable (by kernel_rfl) w
theorem race_acquire (a : Addr) (w : World) : (callFunc 91 #[.pointer (some a)]).run Tryz.prog w = .ok (.value (.tuple #[])) w := run_call_marked Tryz.func91 (by kernel_rfl) (by kernel_rfl) (by kernel_rfl) .acquire (by kernel_rfl) a w
theorem race_releaseMerge (a : Addr) (w : World) : (callFunc 93 #[.pointer (some a)]).run Tryz.prog w = .ok (.value (.tuple #[])) w := run_call_marked Tryz.func93 (by kernel_rfl) (by kernel_rfl) (by kernel_rfl) .releaseMerge (by kernel_rfl) a w

set_option maxRecDepth 100000 in
theorem store_deferred (a : Addr) (x : Value) (u : FrameMode) (w : World) (hc : w.cell? a = some x) (hz : w.frozen? a = false) :
    CallsD Tryz.prog 83 #[.pointer (some a), .bool true] u w fun e u' w' => u' = u ∧ (e = .returned (.tuple #[]) ∧ w' = w.drew.setCell a (.int .u32 1)) := by
  have hc' : w.drew.cell? a = some x := by go_simp
  have hz' : w.drew.frozen? a = false := by go_simp
  have hst := run_call_store (P := Tryz.prog) Tryz.func86 (by kernel_rfl) (by kernel_rfl) (by kernel_rfl) (by kernel_rfl) (k := .u32) (y := 1) hc' hz'
  go_enter_d Tryz.func83, Tryz.ntmps83
  go_wp2
  go_region_calls
  all_goals (go_end0; exact ⟨rfl, rfl⟩)

set_option maxRecDepth 100000 in
theorem unlock_deferred (a : Addr) (u : FrameMode) (w : World) (hc : w.cell? a = some (.int .i32 1)) (hz : w.frozen? a = false) :
    CallsD Tryz.prog 82 #[.pointer (some a)] u w fun e u' w' => u' = u ∧ (e = .returned (.tuple #[]) ∧ w' = w.setCell a (.int .i32 0)) := by
  have hd := race_disable
  have he := race_enable
  have hr := race_releaseMerge
  have hadd := run_call_add (P := Tryz.prog) Tryz.func94 (by kernel_rfl) (by kernel_rfl) (by kernel_rfl) .i32 (by kernel_rfl) (y := -1) (s := 0) hc hz (by simp [go_sem]; rfl)
  have hcv := run_convert_to_unsafe (P := Tryz.prog) (src := 136) (dst := 140) Tryz.underlying136 Tryz.underlying140 (by kernel_rfl) hc
  go_enter_d Tryz.func82, Tryz.ntmps82
  go_wp2
  go_end0
  go_wp2
  go_end0
  exact ⟨rfl, rfl⟩

set_option maxRecDepth 100000 in
theorem lock_free (a : Addr) (w : World) (hc : w.cell? a = some (.int .i32 0)) (hz : w.frozen? a = false) :
    Calls Tryz.prog 81 #[.pointer (some a)] w fun e w' => e = .returned (.tuple #[]) ∧ w.setCell a (.int .i32 1) = w' := by
  have hd := race_disable
  have he := race_enable
  have ha := race_acquire
  have hcas := run_call_cas_hit (P := Tryz.prog) Tryz.func89 (by kernel_rfl) (by kernel_rfl) (by kernel_rfl) .i32 (by kernel_rfl) (y := 1) hc hz
  have hc' : (w.setCell a (.int .i32 1)).cell? a = some (.int .i32 1) := World.cell?_setCell_same w a _ hc
  have hcv := run_convert_to_unsafe (P := Tryz.prog) (src := 136) (dst := 140) Tryz.underlying136 Tryz.underlying140 (by kernel_rfl) hc'
  go_enter Tryz.func81, Tryz.ntmps81
  go_wp2
  first | go_end0 | (simp only [Exit.inBlock, Exit.then]; refine bodyPost_ret (results_none rfl _ _ _) rfl ?_) | refine bodyPost_ret (results_none rfl _ _ _) rfl ?_
  go_wp2
  go_end0
  exact ⟨rfl, rfl⟩
end Go.Proofs.YtijmkbhbpbkkoaaGreat

/- crc.Table: its words in memory; fill. -/
namespace Go.Proofs.YtijmkbhbpbkkoaaGreat
open Go.RowKit

def u32v (x : BitVec 32) : Value := .int .u32 (x.toNat : Int)
theorem b_xor (x y : BitVec 32) : bits .xor .u32 (x.toNat : Int) (y.toNat : Int) = ((x ^^^ y).toNat : Int) := by
  show IntKind.u32.wrap ((BitVec.ofInt 32 (x.toNat : Int) ^^^ BitVec.ofInt 32 (y.toNat : Int)).toNat : Int) = _
  rw [BitVec.ofInt_natCast, BitVec.ofInt_natCast, BitVec.ofNat_toNat, BitVec.ofNat_toNat, BitVec.setWidth_eq, BitVec.setWidth_eq, IntKind.wrap_u32]
  have := (x ^^^ y).isLt
  omega
theorem b_and (x y : BitVec 32) : bits .and .u32 (x.toNat : Int) (y.toNat : Int) = ((x &&& y).toNat : Int) := by
  show IntKind.u32.wrap ((BitVec.ofInt 32 (x.toNat : Int) &&& BitVec.ofInt 32 (y.toNat : Int)).toNat : Int) = _
  rw [BitVec.ofInt_natCast, BitVec.ofInt_natCast, BitVec.ofNat_toNat, BitVec.ofNat_toNat, BitVec.setWidth_eq, BitVec.setWidth_eq, IntKind.wrap_u32]
  have := (x &&& y).isLt
  omega
theorem b_shr (x : BitVec 32) (n : Nat) : (x.toNat : Int) / 2 ^ n = ((x >>> n).toNat : Int) := by
  rw [BitVec.toNat_ushiftRight, Nat.shiftRight_eq_div_pow]
  simp

theorem and_one (x : BitVec 32) : x &&& 1#32 = if x.getLsbD 0 then 1#32 else 0#32 := by
  apply BitVec.eq_of_getLsbD_eq
  intro i hi
  rw [BitVec.getLsbD_and, one_bit]
  by_cases h : i = 0
  · subst h
    by_cases hx : x.getLsbD 0 = true
    · rw [if_pos hx, hx, one_bit]; rfl
    · rw [if_neg hx, Bool.eq_false_iff.2 hx]; simp
  · by_cases hx : x.getLsbD 0 = true
    · rw [if_pos hx, one_bit]; simp [h]
    · rw [if_neg hx]; simp [h]
/-- the program's step -/
theorem cst_int (p x : BitVec 32) : bits .xor .u32 ((x.toNat : Int) / 2) (bits .and .u32 (p.toNat : Int) (-(bits .and .u32 (x.toNat : Int) 1) % 4294967296)) = ((cst p x).toNat : Int) := by
  have h1 : bits .and .u32 (x.toNat : Int) 1 = ((x &&& 1#32).toNat : Int) := b_and x 1#32
  have h2 : (x.toNat : Int) / (2 : Int) = ((x >>> 1).toNat : Int) := by have := b_shr x 1; rw [Int.pow_succ, Int.pow_zero, Int.one_mul] at this; exact this
  rw [h1, h2, and_one]
  unfold cst
  by_cases hx : x.getLsbD 0 = true
  · rw [if_pos hx, if_pos hx, show (-((1#32).toNat : Int) % 4294967296) = ((BitVec.allOnes 32).toNat : Int) from by decide, b_and, BitVec.and_allOnes, b_xor]
  · rw [if_neg hx, if_neg hx, show (-((0#32).toNat : Int) % 4294967296) = ((0#32).toNat : Int) from by decide, b_and, BitVec.and_zero, b_xor]
def tblC (m : Bool) (p : BitVec 32) (d s e : Int) (rows : List (BitVec 32)) : Array Value := ([.bool m, u32v p, .int .u32 d, .int .i32 s, .int .u32 e] ++ rows.map u32v).toArray
def rowsK (p : BitVec 32) (k : Nat) : List (BitVec 32) := (List.range 256).map (fun i => if i < k then cstN p 8 (BitVec.ofNat 32 i) else 0#32)
def rowsF (p : BitVec 32) : List (BitVec 32) := (List.range 256).map (fun i => cstN p 8 (BitVec.ofNat 32 i))
theorem rowsK_len (p : BitVec 32) (k : Nat) : (rowsK p k).length = 256 := by simp [rowsK]
theorem rowsF_len (p : BitVec 32) : (rowsF p).length = 256 := by simp [rowsF]
theorem rowsK_all (p : BitVec 32) : rowsK p 256 = rowsF p := by
  unfold rowsK rowsF
  refine List.map_congr_left fun i hi => ?_
  rw [if_pos (List.mem_range.1 hi)]
theorem rowsK_set (p : BitVec 32) (k : Nat) : (rowsK p k).set k (cstN p 8 (BitVec.ofNat 32 k)) = rowsK p (k + 1) := by
  apply List.ext_getElem?
  intro i
  rw [List.getElem?_set]
  simp only [rowsK, List.getElem?_map, List.length_map, List.length_range]
  by_cases hi : i < 256
  · rw [List.getElem?_range hi]
    by_cases h : k = i
    · subst h; simp [hi]
    · have h1 : (i < k) ↔ (i < k + 1) := by omega
      simp [h, h1]
  · rw [List.getElem?_eq_none (by simpa using hi)]
    by_cases h : k = i
    · subst h; simp [hi]
    · simp [h]
theorem rowsF_at (p : BitVec 32) (i : Nat) (hi : i < 256) : (rowsF p)[i]? = some (cstN p 8 (BitVec.ofNat 32 i)) := by
  unfold rowsF; rw [List.getElem?_map, List.getElem?_range hi]; rfl
section
variable (m : Bool) (p : BitVec 32) (d s e : Int) (rows : List (BitVec 32))
theorem tblC_0 : (tblC m p d s e rows)[0]? = some (.bool m) := by simp [tblC]
theorem tblC_1 : (tblC m p d s e rows)[1]? = some (.int .u32 p.toNat) := by simp [tblC, u32v]
theorem tblC_2 : (tblC m p d s e rows)[2]? = some (.int .u32 d) := by simp [tblC]
theorem tblC_3 : (tblC m p d s e rows)[3]? = some (.int .i32 s) := by simp [tblC]
theorem tblC_row (i : Nat) : (tblC m p d s e rows)[5 + i]? = (rows[i]?).map u32v := by
  unfold tblC
  rw [List.getElem?_toArray, List.getElem?_append_right (by simp), List.getElem?_map]
  simp
theorem tblC_set2 (x : Int) : (tblC m p d s e rows).setIfInBounds 2 (.int .u32 x) = tblC m p x s e rows := by simp [tblC]
theorem tblC_set3 (x : Int) : (tblC m p d s e rows).setIfInBounds 3 (.int .i32 x) = tblC m p d x e rows := by simp [tblC]
theorem tblC_setrow (i : Nat) (x : BitVec 32) : (tblC m p d s e rows).setIfInBounds (5 + i) (u32v x) = tblC m p d s e (rows.set i x) := by
  unfold tblC
  rw [List.setIfInBounds_toArray, List.set_append_right _ _ (by simp), List.map_set]
  simp
end

set_option maxRecDepth 100000 in
set_option maxHeartbeats 1600000 in
theorem fill_any (b : Nat) (m : Bool) (p : BitVec 32) (d s e : Int) (w : World) (hb : Blk w b 126 (tblC m p d s e (rowsK p 0))) :
    Calls Tryz.prog 77 #[.pointer (some ⟨b, 0, none⟩)] w fun r w' => r = .returned (.tuple #[]) ∧ Blk w' b 126 (tblC m p d s e (rowsF p)) ∧ Mod (At b) w w' ∧ w'.heap.size = w.heap.size := by
  go_enter Tryz.func77, Tryz.ntmps77
  go_wp2
  go_loopw [4] (fun i wr => ∃ k : Nat, k ≤ 256 ∧ i = .int .i64 k ∧ Blk wr b 126 (tblC m p d s e (rowsK p k)) ∧ Mod (At b) w wr ∧ wr.heap.size = w.heap.size) (fun i _ => 256 - (intOf i).toNat)
  case atStart => exact ⟨0, by omega, rfl, hb, Mod.refl _ _, rfl⟩
  case round =>
    obtain ⟨k, hk, rfl, hbr, hmr, hsz⟩ := hrel
    clear hb
    have HS := Lib.hid hsz; clear hsz
    by_cases hlt : k < 256
    · obtain ⟨wo, rfl⟩ : ∃ wo : World, wo = wr := ⟨_, rfl⟩
      have hlt' : (k : Int) < 256 := by omega
      have c1 : wo.cell? ⟨b, 1, none⟩ = some (.int .u32 p.toNat) := (hbr.cell 1).trans (tblC_1 _ _ _ _ _ _)
      have c5 : wo.cell? ⟨b, 5 + k, none⟩ = some (u32v 0#32) := by
        rw [hbr.cell (5 + k), tblC_row]
        simp [rowsK, hlt]
      have f5 := hbr.frozen (5 + k)
      go_wp2
      go_loop [3, 9] (fun x i => ∃ j : Nat, j ≤ 8 ∧ i = .int .i64 j ∧ x = .int .u32 ((cstN p j (BitVec.ofNat 32 k)).toNat)) (fun _ i => 8 - (intOf i).toNat)
      case atStart => exact ⟨0, by omega, rfl, by simp [cstN]; omega⟩
      case round =>
        obtain ⟨j, hj, rfl, rfl⟩ := hrel
        by_cases hj8 : j < 8
        · have hj8' : (j : Int) < 8 := by omega
          generalize hX : cstN p j (BitVec.ofNat 32 k) = X at *
          have HX := Lib.hid hX; clear hX
          go_wp2
          exact ⟨⟨j + 1, by omega, by go_num, by rw [cst_int, cstN_succ, HX.out]⟩, by simp [intOf]; omega⟩
        · have hj8' : ¬ (j : Int) < 8 := by omega
          have : j = 8 := by omega
          subst this
          generalize hX : cstN p 8 (BitVec.ofNat 32 k) = X at *
          have HX := Lib.hid hX; clear hX
          clear hj8
          go_wp2
          have hb2 := hbr.set_ (5 + k) (.int .u32 (X.toNat : Int))
          rw [show Value.int .u32 (X.toNat : Int) = u32v X from rfl, tblC_setrow, ← HX.out, rowsK_set] at hb2
          rw [HX.out] at hb2
          exact ⟨⟨k + 1, by omega, by go_num, hb2, hmr.setCell (p := ⟨b, 5 + k, none⟩) (.inr rfl) _, by simpa using HS.out⟩, by simp [intOf]; omega⟩
    · have hlt' : ¬ (k : Int) < 256 := by omega
      have hk' : k = 256 := by omega
      subst hk'
      rw [rowsK_all] at hbr
      go_wp2
      go_end0
      exact ⟨rfl, hbr, hmr, HS.out⟩
end Go.Proofs.YtijmkbhbpbkkoaaGreat

/- crc.Table: once.Do(t.fill). -/
namespace Go.Proofs.YtijmkbhbpbkkoaaGreat
open Go.RowKit

theorem load_any (a : Addr) (x : Int) (c : Bool) (w : World) (h0 : w.cell? a = some (.int .u32 x)) (hc : (x != 0) = c) :
    Calls Tryz.prog 78 #[.pointer (some a)] w fun e w' => e = .returned (.bool c) ∧ w = w' := by
  have hl := run_call_load (P := Tryz.prog) Tryz.func80 (by kernel_rfl) (by kernel_rfl) (by kernel_rfl) .u32 (by kernel_rfl) h0
  go_enter Tryz.func78, Tryz.ntmps78
  go_wp2
  go_ret
  exact ⟨rfl, rfl⟩

section
variable {b : Nat} {m : Bool} {p : BitVec 32} {e : Int} {w : World}
set_option maxRecDepth 100000 in
set_option maxHeartbeats 1600000 in
theorem slow_any (hb : Blk w b 126 (tblC m p 0 0 e (rowsK p 0))) :
    Calls Tryz.prog 79 #[.pointer (some ⟨b, 2, none⟩), .func (.func 77) #[.pointer (some ⟨b, 0, none⟩)] #[]] w fun r w' => r = .returned (.tuple #[]) ∧
      Blk w' b 126 (tblC m p 1 0 e (rowsF p)) ∧ Mod (At b) w w' ∧ w'.heap.size = w.heap.size := by
  have hnot : ∀ (x : Bool) (w : World), (Op.unary .not (.bool x)).run Tryz.prog w = .ok (.bool (!x)) w := fun _ _ => rfl
  have hl := (hb.cell 3).trans (tblC_3 _ _ _ _ _ _)
  have hlz := hb.frozen 3
  go_enter_defers Tryz.func79, Tryz.ntmps79
  go_wp2_with fail
  refine (lock_free ⟨b, 3, none⟩ _ hl hlz).mono ?_
  rintro r w1 ⟨rfl, hw⟩
  have hb1 : Blk w1 b 126 (tblC m p 0 1 e (rowsK p 0)) := by
    rw [← hw, ← tblC_set3]; exact hb.set_ 3 _
  have m1 : Mod (At b) w w1 := by rw [← hw]; exact Mod.cellAt _ _ _ _
  have z1 : w1.heap.size = w.heap.size := by rw [← hw]; simp
  have Z1 := Lib.hid z1
  clear hl hlz hb hw z1
  go_wp2_with fail
  refine (load_any ⟨b, 2, none⟩ 0 false _ ((hb1.cell 2).trans (tblC_2 _ _ _ _ _ _)) rfl).mono ?_
  rintro r w2 ⟨rfl, rfl⟩
  go_wp2_with fail
  refine (fill_any b m p 0 1 e _ hb1).mono ?_
  rintro r w3 ⟨rfl, hb3, m3, z3⟩
  have Z3 := Lib.hid z3
  clear hb1 z3
  go_wp2
  refine leaves_cons (f := 83) (args := #[.pointer (some ⟨b, 2, none⟩), .bool true]) (by simp) (by simp [go_sem]) ?_
  refine (store_deferred ⟨b, 2, none⟩ (.int .u32 0) .returning _ ((hb3.cell 2).trans (tblC_2 _ _ _ _ _ _)) (hb3.frozen 2)).mono ?_
  rintro r u' w4 ⟨rfl, rfl, hw⟩
  have hb4 : Blk w4 b 126 (tblC m p 1 1 e (rowsF p)) := by
    rw [hw, ← tblC_set2 m p 0 1 e (rowsF p) 1]; exact hb3.drew.set_ 2 _
  have m4 : Mod (At b) w3 w4 := by rw [hw]; exact ((Mod.refl (At b) w3).drew).setCell (p := ⟨b, 2, none⟩) (.inr rfl) _
  have z4 : w4.heap.size = w3.heap.size := by rw [hw]; simp
  refine leaves_cons (f := 82) (args := #[.pointer (some ⟨b, 3, none⟩)]) (by simp [settle]) (by simp [go_sem]) ?_
  refine (unlock_deferred ⟨b, 3, none⟩ _ _ ((hb4.cell 3).trans (tblC_3 _ _ _ _ _ _)) (hb4.frozen 3)).mono ?_
  rintro r u'' w5 ⟨rfl, rfl, hw5⟩
  have hb5 : Blk w5 b 126 (tblC m p 1 0 e (rowsF p)) := by
    rw [hw5, ← tblC_set3 m p 1 1 e (rowsF p) 0]; exact hb4.set_ 3 _
  have m5 : Mod (At b) w4 w5 := by rw [hw5]; exact Mod.cellAt _ _ _ _
  have z5 : w5.heap.size = w4.heap.size := by rw [hw5]; simp
  have hend : Blk w5 b 126 (tblC m p 1 0 e (rowsF p)) ∧ Mod (At b) w w5 ∧ w5.heap.size = w.heap.size := ⟨hb5, ((m1.trans m3).trans m4).trans m5, by have := Z1.out; have := Z3.out; omega⟩
  have HE := Lib.hid hend
  simp [Leaves, settle, results, Tryz.results79]
  exact HE.out

set_option maxRecDepth 100000 in
set_option maxHeartbeats 1600000 in
theorem do_first (hb : Blk w b 126 (tblC m p 0 0 e (rowsK p 0))) :
    Calls Tryz.prog 76 #[.pointer (some ⟨b, 2, none⟩), .func (.func 77) #[.pointer (some ⟨b, 0, none⟩)] #[]] w fun r w' => r = .returned (.tuple #[]) ∧
      Blk w' b 126 (tblC m p 1 0 e (rowsF p)) ∧ Mod (At b) w w' ∧ w'.heap.size = w.heap.size := by
  have hnot : ∀ (x : Bool) (w : World), (Op.unary .not (.bool x)).run Tryz.prog w = .ok (.bool (!x)) w := fun _ _ => rfl
  go_enter Tryz.func76, Tryz.ntmps76
  go_wp2_with fail
  refine (load_any ⟨b, 2, none⟩ 0 false _ ((hb.cell 2).trans (tblC_2 _ _ _ _ _ _)) rfl).mono ?_
  rintro r w2 ⟨rfl, rfl⟩
  go_wp2_with fail
  refine (slow_any hb).mono ?_
  rintro r w3 ⟨rfl, hb3, m3, z3⟩
  have Z3 := Lib.hid z3
  clear z3
  go_wp2
  go_end0
  exact ⟨rfl, hb3, m3, Z3.out⟩
set_option maxRecDepth 100000 in
set_option maxHeartbeats 1600000 in
theorem do_done {rows : List (BitVec 32)} (fv : Value) (hb : Blk w b 126 (tblC m p 1 0 e rows)) :
    Calls Tryz.prog 76 #[.pointer (some ⟨b, 2, none⟩), fv] w fun r w' => r = .returned (.tuple #[]) ∧ w = w' := by
  have hnot : ∀ (x : Bool) (w : World), (Op.unary .not (.bool x)).run Tryz.prog w = .ok (.bool (!x)) w := fun _ _ => rfl
  go_enter Tryz.func76, Tryz.ntmps76
  go_wp2_with fail
  refine (load_any ⟨b, 2, none⟩ 1 true _ ((hb.cell 2).trans (tblC_2 _ _ _ _ _ _)) rfl).mono ?_
  rintro r w2 ⟨rfl, rfl⟩
  go_wp2
  go_end0
  exact ⟨rfl, rfl⟩
end
end Go.Proofs.YtijmkbhbpbkkoaaGreat

/- crc.Table.Add, New; crc.Add, Sum. -/
namespace Go.Proofs.YtijmkbhbpbkkoaaGreat
open Go.RowKit

def TblAt (w : World) (b : Nat) (p : BitVec 32) : Prop := ∃ e, Blk w b 126 (tblC true p 0 0 e (rowsK p 0)) ∨ Blk w b 126 (tblC true p 1 0 e (rowsF p))
theorem TblAt.lt {w : World} {b : Nat} {p : BitVec 32} (h : TblAt w b p) : b < w.heap.size := by
  obtain ⟨e, h | h⟩ := h <;> exact h.lt
theorem TblAt.mod {w w' : World} {b : Nat} {p : BitVec 32} {S : Nat → Prop} (h : TblAt w b p) (hm : Mod S w w') (hn : ¬ S b) : TblAt w' b p := by
  obtain ⟨e, h | h⟩ := h
  · exact ⟨e, .inl (h.mod hm hn)⟩
  · exact ⟨e, .inr (h.mod hm hn)⟩
theorem idx_int (x : BitVec 32) (c : Nat) (hc : c < 256) : bits .xor .u8 ((x.toNat : Int) % 256) (c : Int) = (((x ^^^ BitVec.ofNat 32 c) &&& 255#32).toNat : Int) := by
  have h1 : ((x.toNat : Int) % 256) = ((x.toNat % 256 : Nat) : Int) := by omega
  have h2 : (x.toNat % 256) ^^^ c < 2 ^ 8 := Nat.xor_lt_two_pow (by omega) (by omega)
  rw [h1]
  show IntKind.u8.wrap ((BitVec.ofInt 8 ((x.toNat % 256 : Nat) : Int) ^^^ BitVec.ofInt 8 (c : Int)).toNat : Int) = _
  rw [BitVec.ofInt_natCast, BitVec.ofInt_natCast, BitVec.toNat_xor, BitVec.toNat_ofNat, BitVec.toNat_ofNat, IntKind.wrap_u8, Nat.mod_eq_of_lt (show x.toNat % 256 < 2 ^ 8 by omega), Nat.mod_eq_of_lt (show c < 2 ^ 8 by omega),
    BitVec.toNat_and, BitVec.toNat_xor, BitVec.toNat_ofNat, Nat.mod_eq_of_lt (show c < 2 ^ 32 by omega), show (255#32).toNat = 2 ^ 8 - 1 from rfl, Nat.and_two_pow_sub_one_eq_mod, Nat.xor_mod_two_pow, Nat.mod_eq_of_lt (show c < 2 ^ 8 by omega)]
  have h3 : x.toNat % 256 = x.toNat % 2 ^ 8 := rfl
  rw [h3] at h2 ⊢
  omega
theorem idx_lt (x : BitVec 32) : (x &&& 255#32).toNat < 256 := by
  rw [BitVec.toNat_and, show (255#32).toNat = 2 ^ 8 - 1 from rfl, Nat.and_two_pow_sub_one_eq_mod]
  omega

theorem b_not (s : BitVec 32) : bits .xor .u32 IntKind.u32.max (s.toNat : Int) = ((~~~ s).toNat : Int) := by
  have h : (IntKind.u32.max : Int) = ((BitVec.allOnes 32).toNat : Int) := by decide
  rw [h, b_xor, BitVec.allOnes_xor]
theorem shr8 (x : BitVec 32) : (x.toNat : Int) / (256 : Int) = ((x >>> 8).toNat : Int) := b_shr x 8
theorem crcF_snoc (p x : BitVec 32) (l : List Nat) (k : Nat) (z : Nat) (h : l[k]? = some z) : crcF p x (l.take (k + 1)) = cby p (crcF p x (l.take k)) z := by
  have hk : k < l.length := (List.getElem?_eq_some_iff.1 h).1
  rw [List.take_succ_eq_append_getElem hk, crcF_append, (List.getElem?_eq_some_iff.1 h).2]
  rfl
set_option maxRecDepth 100000 in
set_option maxHeartbeats 1600000 in
theorem add_of {w : World} {b : Nat} {p : BitVec 32} {e : Int} (c0 : w.cell? ⟨b, 0, none⟩ = some (.bool true))
    (hdo : Calls Tryz.prog 76 #[.pointer (some ⟨b, 2, none⟩), .func (.func 77) #[.pointer (some ⟨b, 0, none⟩)] #[]] w fun r w' => r = .returned (.tuple #[]) ∧ Blk w' b 126 (tblC true p 1 0 e (rowsF p)) ∧ Mod (At b) w w')
    (s : BitVec 32) {A : Option Addr} {n c : Nat} {l : List Nat} (hr0 : Rd w A n (bv l)) (hA : ∀ g, Of A g → 0 < n → g ≠ b) (hl : ∀ z ∈ l, z < 256) (hn : n ≤ 140737488355328) :
    Calls Tryz.prog 74 #[.pointer (some ⟨b, 0, none⟩), .int .u32 (s.toNat : Int), .slice A n c] w fun r w' => r = .returned (.int .u32 ((crcS p s l).toNat : Int)) ∧ Blk w' b 126 (tblC true p 1 0 e (rowsF p)) ∧ Mod (At b) w w' := by
  have hmf : ∀ (fn : Fn) (first cap : Array Value) (w : World), (Instr.makeFunc fn first cap).run Tryz.prog w = .ok (.func fn first cap) w := fun _ _ _ _ => rfl
  unfold crcS
  have hS := b_not s
  generalize ~~~ s = S at *
  generalize hR : ~~~ crcF p S l = R
  have HSS := Lib.hid hS; have HR := Lib.hid hR; clear hS hR
  go_enter Tryz.func74, Tryz.ntmps74
  go_wp2_with fail
  refine hdo.mono ?_
  rintro r w ⟨rfl, hb, m2⟩
  have hr := hr0.mod0 m2 (fun hp g hg => hA g hg hp)
  have hL : l.length = n := by have := hr.1; simpa [bv] using this
  have HL := Lib.hid hL; clear hL hdo c0 hr0
  have hS := HSS.out
  go_wp2
  clear hS
  go_loop [7, 29] (fun v i => ∃ k : Nat, k ≤ n ∧ i = .int .i64 k ∧ v = .int .u32 ((crcF p S (l.take k)).toNat : Int)) (fun _ i => n - (intOf i).toNat)
  case atStart => exact ⟨0, Nat.zero_le _, rfl, rfl⟩
  case round =>
    obtain ⟨k, hk, rfl, rfl⟩ := hrel
    by_cases hlt : k < n
    · have hlt' : (k : Int) < n := by omega
      obtain ⟨g, off, v, rfl, hv, hc⟩ := hr.at_ hlt
      rw [bv_at] at hv
      obtain ⟨z, hz, rfl⟩ := Option.map_eq_some_iff.1 hv
      have hz8 : z < 256 := hl z (List.mem_of_getElem? hz)
      have hnext := crcF_snoc p S l k z hz
      generalize crcF p S (l.take k) = X at *
      have HN := Lib.hid hnext
      have hI := idx_int X z hz8
      have hIl := idx_lt (X ^^^ BitVec.ofNat 32 z)
      have hstep := cby_table p X z hz8
      have HST := Lib.hid hstep
      have cR : w.cell? ⟨b, 5 + ((X ^^^ BitVec.ofNat 32 z) &&& 255#32).toNat, none⟩ = some (.int .u32 ((cstN p 8 ((X ^^^ BitVec.ofNat 32 z) &&& 255#32)).toNat : Int)) := by
        rw [hb.cell (5 + _), tblC_row, rowsF_at p _ hIl, BitVec.ofNat_toNat, BitVec.setWidth_eq]; rfl
      generalize hT : cstN p 8 ((X ^^^ BitVec.ofNat 32 z) &&& 255#32) = T at *
      have HT := Lib.hid hT
      generalize ((X ^^^ BitVec.ofNat 32 z) &&& 255#32).toNat = I at *
      have HXs := Lib.hid (shr8 X)
      clear hnext hstep hT hv hz hr hA
      have hIl' : (0 : Int) ≤ I ∧ (I : Int) < 256 := by omega
      go_wp2
      exact ⟨⟨k + 1, by omega, by go_num, by rw [HXs.out, b_xor, HN.out, HST.out]⟩, by simp [intOf]; omega⟩
    · have hlt' : ¬ (k : Int) < n := by omega
      have hk' : l.take k = l := List.take_of_length_le (by rw [HL.out]; omega)
      rw [hk']
      have hS := b_not (crcF p S l)
      rw [HR.out] at hS
      clear hk' hr
      go_wp2
      go_ret
      exact ⟨rfl, hb, m2⟩

theorem add_any0 {w : World} {b : Nat} {p : BitVec 32} (h : TblAt w b p) (s : BitVec 32) {A : Option Addr} {n c : Nat} {l : List Nat} (hr : Rd w A n (bv l)) (hA : ∀ g, Of A g → 0 < n → g ≠ b) (hl : ∀ z ∈ l, z < 256) (hn : n ≤ 140737488355328) :
    Calls Tryz.prog 74 #[.pointer (some ⟨b, 0, none⟩), .int .u32 (s.toNat : Int), .slice A n c] w fun r w' => r = .returned (.int .u32 ((crcS p s l).toNat : Int)) ∧ TblAt w' b p ∧ Mod (At b) w w' := by
  obtain ⟨e, h | h⟩ := h
  · exact (add_of (e := e) ((h.cell 0).trans (tblC_0 _ _ _ _ _ _)) ((do_first h).mono fun r w' ⟨h1, h2, h3, _⟩ => ⟨h1, h2, h3⟩) s hr hA hl hn).mono fun r w' ⟨h1, h2, h3⟩ => ⟨h1, ⟨e, .inr h2⟩, h3⟩
  · exact (add_of (e := e) ((h.cell 0).trans (tblC_0 _ _ _ _ _ _)) ((do_done _ h).mono fun r w' ⟨h1, h2⟩ => ⟨h1, h2 ▸ h, h2 ▸ Mod.refl _ _⟩) s hr hA hl hn).mono fun r w' ⟨h1, h2, h3⟩ => ⟨h1, ⟨e, .inr h2⟩, h3⟩
end Go.Proofs.YtijmkbhbpbkkoaaGreat

/- crc.New, Add, Sum; a table that is not; the document's Of, Add, Sum. -/
namespace Go.Proofs.YtijmkbhbpbkkoaaGreat
open Go.RowKit

theorem tbl_zero : (Tryz.prog.info? 126).map (fun i => (i.zero, i.size)) = some (some (.agg (tblC false 0#32 0 0 0 (rowsK 0#32 0))), 261) := by kernel_rfl
theorem rowsK_none (p q : BitVec 32) : rowsK p 0 = rowsK q 0 := by simp [rowsK]
theorem tblC_size (m : Bool) (p : BitVec 32) (d s e : Int) (rows : List (BitVec 32)) : (tblC m p d s e rows).size = 5 + rows.length := by simp [tblC]; omega
set_option maxRecDepth 100000 in
set_option maxHeartbeats 1600000 in
theorem crcnew_any (p : BitVec 32) (w : World) : Calls Tryz.prog 73 #[.int .u32 (p.toNat : Int)] w fun r w' => ∃ b, r = .returned (.pointer (some ⟨b, 0, none⟩)) ∧ TblAt w' b p ∧ Mod Nn w w' ∧ w.heap.size ≤ b := by
  have hex : ∃ Z : Array Value, Z = tblC false 0#32 0 0 0 (rowsK 0#32 0) := ⟨_, rfl⟩
  obtain ⟨Z, hZ⟩ := hex
  have hz : ∀ w, (zeroValue 126).run Tryz.prog w = .ok (.agg Z) w := fun w => by rw [hZ]; exact zero_of tbl_zero w
  have hs : ¬ Z.size < 2 := by rw [hZ, tblC_size, rowsK_len]; omega
  have hne : ¬ Z = #[] := fun h => by rw [h] at hs; exact hs (by simp)
  have hfin : (Z.setIfInBounds 0 (.bool true)).setIfInBounds 1 (.int .u32 (p.toNat : Int)) = tblC true p 0 0 0 (rowsK p 0) := by
    rw [hZ, rowsK_none 0#32 p]; simp [tblC, u32v]
  have HF := Lib.hid hfin
  clear hZ hfin
  go_enter Tryz.func73, Tryz.ntmps73
  go_wp2
  go_ret
  refine ⟨_, rfl, ⟨0, .inl ?_⟩, (Mod.refl _ _).alloc _, Nat.le_refl _⟩
  rw [← HF.out]
  exact Blk.new _ _ _

def cas : BitVec 32 := 2197175160#32
section
variable {w : World} {A : Option Addr} {n c : Nat} {l : List Nat}
set_option maxHeartbeats 800000 in
theorem crc_add (s : BitVec 32) (hr : Rd w A n (bv l)) (hl : ∀ z ∈ l, z < 256) (hn : n ≤ 140737488355328) :
    Calls Tryz.prog 67 #[.int .u32 (s.toNat : Int), .slice A n c] w fun r w' => r = .returned (.int .u32 ((crcS cas s l).toNat : Int)) ∧ Mod Nn w w' := by
  generalize hR : (crcS cas s l).toNat = R
  have HR := Lib.hid hR; clear hR
  go_enter Tryz.func67, Tryz.ntmps67
  go_wp2_with fail
  refine (crcnew_any cas w).mono ?_
  rintro r w1 ⟨b, rfl, ht, m1, hb⟩
  have hA : ∀ g, Of A g → 0 < n → g ≠ b := fun g hg hp e => by have := hr.in_ hp hg; omega
  have hr1 := hr.mod m1 (fun _ _ f => f)
  have HB := Lib.hid hb; clear hb
  go_wp2_with fail
  refine (add_any0 ht s hr1 hA hl hn).mono ?_
  rintro r w2 ⟨rfl, ht2, m2⟩
  rw [HR.out]
  have M2 : Mod Nn w w2 := m1.new_ m2 HB.out
  go_wp2
  go_ret
  exact ⟨rfl, M2⟩
set_option maxHeartbeats 800000 in
theorem crc_sum (hr : Rd w A n (bv l)) (hl : ∀ z ∈ l, z < 256) (hn : n ≤ 140737488355328) :
    Calls Tryz.prog 53 #[.slice A n c] w fun r w' => r = .returned (.int .u32 ((crcS cas 0#32 l).toNat : Int)) ∧ Mod Nn w w' := by
  generalize hR : (crcS cas 0#32 l).toNat = R
  have HR := Lib.hid hR; clear hR
  go_enter Tryz.func53, Tryz.ntmps53
  go_wp2_with fail
  refine (crc_add 0#32 hr hl hn).mono ?_
  rintro r w1 ⟨rfl, m1⟩
  rw [HR.out]
  go_wp2
  go_ret
  exact ⟨rfl, m1⟩
end
set_option maxHeartbeats 800000 in
theorem add_nil (s : Int) (v : Value) (w : World) : Calls Tryz.prog 74 #[.pointer none, .int .u32 s, v] w fun r w' => r = .returned (.int .u32 0) ∧ w = w' := by
  go_enter Tryz.func74, Tryz.ntmps74
  go_wp2
  go_ret
  exact ⟨rfl, rfl⟩
set_option maxHeartbeats 800000 in
theorem add_unmade (b : Nat) (s : Int) (v : Value) (w : World) (c0 : w.cell? ⟨b, 0, none⟩ = some (.bool false)) : Calls Tryz.prog 74 #[.pointer (some ⟨b, 0, none⟩), .int .u32 s, v] w fun r w' => r = .returned (.int .u32 0) ∧ w = w' := by
  go_enter Tryz.func74, Tryz.ntmps74
  go_wp2
  go_ret
  exact ⟨rfl, rfl⟩
end Go.Proofs.YtijmkbhbpbkkoaaGreat
