/- crc.Table: once.Do(t.fill). -/
import Derived.Test.YtjndcgpfikngaaaCrc1
namespace Go.Proofs.Ytjndcgpfikngaaa
open Go.RowKit

theorem load_any (a : Addr) (x : Int) (c : Bool) (w : World) (h0 : w.cell? a = some (.int .u32 x)) (hc : (x != 0) = c) :
    Calls Try.prog 114 #[.pointer (some a)] w fun e w' => e = .returned (.bool c) ∧ w = w' := by
  have hl := run_call_load (P := Try.prog) Try.func116 (by kernel_rfl) (by kernel_rfl) (by kernel_rfl) .u32 (by kernel_rfl) h0
  go_enter Try.func114, Try.ntmps114
  go_wp2
  go_ret
  exact ⟨rfl, rfl⟩

section
variable {b : Nat} {m : Bool} {p : BitVec 32} {e : Int} {w : World}
set_option maxRecDepth 100000 in
set_option maxHeartbeats 1600000 in
theorem slow_any (hb : Blk w b 215 (tblC m p 0 0 e (rowsK p 0))) :
    Calls Try.prog 115 #[.pointer (some ⟨b, 2, none⟩), .func (.func 110) #[.pointer (some ⟨b, 0, none⟩)] #[]] w fun r w' => r = .returned (.tuple #[]) ∧
      Blk w' b 215 (tblC m p 1 0 e (rowsF p)) ∧ Mod (At b) w w' ∧ w'.heap.size = w.heap.size := by
  have hnot : ∀ (x : Bool) (w : World), (Op.unary .not (.bool x)).run Try.prog w = .ok (.bool (!x)) w := fun _ _ => rfl
  have hl := (hb.cell 3).trans (tblC_3 _ _ _ _ _ _)
  have hlz := hb.frozen 3
  go_enter_defers Try.func115, Try.ntmps115
  go_wp2_with fail
  refine (lock_free ⟨b, 3, none⟩ _ hl hlz).mono ?_
  rintro r w1 ⟨rfl, hw⟩
  have hb1 : Blk w1 b 215 (tblC m p 0 1 e (rowsK p 0)) := by
    rw [← hw, ← tblC_set3]; exact hb.set_ 3 _
  have m1 : Mod (At b) w w1 := by rw [← hw]; exact Mod.cellAt _ _ _ _
  have z1 : w1.heap.size = w.heap.size := by rw [← hw]; simp
  have Z1 := Lib.hid z1
  clear hl hlz hb hw z1
  go_wp2_with fail
  refine (load_any ⟨b, 2, none⟩ 0 false _ ((hb1.cell 2).trans (tblC_2 _ _ _ _ _ _)) rfl).mono ?_
  rintro r w2 ⟨rfl, rfl⟩
  go_wp2_with fail
  refine (fill_any b m p 0 1 e _ hb1).mono ?_
  rintro r w3 ⟨rfl, hb3, m3, z3⟩
  have Z3 := Lib.hid z3
  clear hb1 z3
  go_wp2
  refine leaves_cons (f := 119) (args := #[.pointer (some ⟨b, 2, none⟩), .bool true]) (by simp) (by simp [go_sem]) ?_
  refine (store_deferred ⟨b, 2, none⟩ (.int .u32 0) .returning _ ((hb3.cell 2).trans (tblC_2 _ _ _ _ _ _)) (hb3.frozen 2)).mono ?_
  rintro r u' w4 ⟨rfl, rfl, hw⟩
  have hb4 : Blk w4 b 215 (tblC m p 1 1 e (rowsF p)) := by
    rw [hw, ← tblC_set2 m p 0 1 e (rowsF p) 1]; exact hb3.drew.set_ 2 _
  have m4 : Mod (At b) w3 w4 := by rw [hw]; exact ((Mod.refl (At b) w3).drew).setCell (p := ⟨b, 2, none⟩) (.inr rfl) _
  have z4 : w4.heap.size = w3.heap.size := by rw [hw]; simp
  refine leaves_cons (f := 118) (args := #[.pointer (some ⟨b, 3, none⟩)]) (by simp [settle]) (by simp [go_sem]) ?_
  refine (unlock_deferred ⟨b, 3, none⟩ _ _ ((hb4.cell 3).trans (tblC_3 _ _ _ _ _ _)) (hb4.frozen 3)).mono ?_
  rintro r u'' w5 ⟨rfl, rfl, hw5⟩
  have hb5 : Blk w5 b 215 (tblC m p 1 0 e (rowsF p)) := by
    rw [hw5, ← tblC_set3 m p 1 1 e (rowsF p) 0]; exact hb4.set_ 3 _
  have m5 : Mod (At b) w4 w5 := by rw [hw5]; exact Mod.cellAt _ _ _ _
  have z5 : w5.heap.size = w4.heap.size := by rw [hw5]; simp
  have hend : Blk w5 b 215 (tblC m p 1 0 e (rowsF p)) ∧ Mod (At b) w w5 ∧ w5.heap.size = w.heap.size := ⟨hb5, ((m1.trans m3).trans m4).trans m5, by have := Z1.out; have := Z3.out; omega⟩
  have HE := Lib.hid hend
  simp [Leaves, settle, results, Try.results115]
  exact HE.out

set_option maxRecDepth 100000 in
set_option maxHeartbeats 1600000 in
theorem do_first (hb : Blk w b 215 (tblC m p 0 0 e (rowsK p 0))) :
    Calls Try.prog 109 #[.pointer (some ⟨b, 2, none⟩), .func (.func 110) #[.pointer (some ⟨b, 0, none⟩)] #[]] w fun r w' => r = .returned (.tuple #[]) ∧
      Blk w' b 215 (tblC m p 1 0 e (rowsF p)) ∧ Mod (At b) w w' ∧ w'.heap.size = w.heap.size := by
  have hnot : ∀ (x : Bool) (w : World), (Op.unary .not (.bool x)).run Try.prog w = .ok (.bool (!x)) w := fun _ _ => rfl
  go_enter Try.func109, Try.ntmps109
  go_wp2_with fail
  refine (load_any ⟨b, 2, none⟩ 0 false _ ((hb.cell 2).trans (tblC_2 _ _ _ _ _ _)) rfl).mono ?_
  rintro r w2 ⟨rfl, rfl⟩
  go_wp2_with fail
  refine (slow_any hb).mono ?_
  rintro r w3 ⟨rfl, hb3, m3, z3⟩
  have Z3 := Lib.hid z3
  clear z3
  go_wp2
  go_end0
  exact ⟨rfl, hb3, m3, Z3.out⟩
set_option maxRecDepth 100000 in
set_option maxHeartbeats 1600000 in
theorem do_done {rows : List (BitVec 32)} (fv : Value) (hb : Blk w b 215 (tblC m p 1 0 e rows)) :
    Calls Try.prog 109 #[.pointer (some ⟨b, 2, none⟩), fv] w fun r w' => r = .returned (.tuple #[]) ∧ w = w' := by
  have hnot : ∀ (x : Bool) (w : World), (Op.unary .not (.bool x)).run Try.prog w = .ok (.bool (!x)) w := fun _ _ => rfl
  go_enter Try.func109, Try.ntmps109
  go_wp2_with fail
  refine (load_any ⟨b, 2, none⟩ 1 true _ ((hb.cell 2).trans (tblC_2 _ _ _ _ _ _)) rfl).mono ?_
  rintro r w2 ⟨rfl, rfl⟩
  go_wp2
  go_end0
  exact ⟨rfl, rfl⟩
end
end Go.Proofs.Ytjndcgpfikngaaa
