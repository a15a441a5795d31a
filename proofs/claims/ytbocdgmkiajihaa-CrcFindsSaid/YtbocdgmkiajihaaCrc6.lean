/- peatbanklaw02.awake. -/
import Derived.Test.YtbocdgmkiajihaaCrc5
import Derived.Lib.SlBytesConst
namespace Go.Proofs.Ytbocdgmkiajihaa
open Go.RowKit

def dig9 : List Nat := [49, 50, 51, 52, 53, 54, 55, 56, 57]
theorem awk1 : (crcS cas 0#32 dig9).toNat = 3808858755 := by decide +kernel
theorem awk2 : (crcS cas 0#32 []).toNat = 0 := by decide +kernel
theorem awk3 : (crcS cas 0#32 [0]).toNat = 1383945041 := by decide +kernel
theorem awk4 : (crcS 3988292384#32 0#32 dig9).toNat = 3421780262 := by decide +kernel
theorem dig9_lt : ∀ z ∈ dig9, z < 256 := by decide

theorem Rd.of_row {w : World} {g : Nat} {t : TypeId} {C : Array Value} {fr : Nat × Nat} (h : w.heap[g]? = some (.cells C t fr)) : Rd w (some ⟨g, 0, none⟩) C.size C.toList :=
  ⟨by simp, fun _ => ⟨g, 0, rfl, fun j v hv => by
    rw [cell_of_row w g (0 + j) C t fr h, Nat.zero_add]; simpa using hv⟩⟩
set_option maxRecDepth 100000 in
set_option maxHeartbeats 1600000 in
theorem crc_awake (w : World) : Calls Try.prog 9 #[] w fun r w' => r = .returned (.bool true) ∧ Mod Nn w w' := by
  have kc := fun (w : World) (C : Array Value) (n c : Nat) => Lib.run_convert_bytes_const (P := Try.prog) w 23 5 C n c Try.underlying23 Try.underlying5
  go_enter Try.func9, Try.ntmps9
  go_wp2_with fail
  clear kc
  have m0 : Mod Nn w (w.alloc (.cells #[.int .u8 49, .int .u8 50, .int .u8 51, .int .u8 52, .int .u8 53, .int .u8 54, .int .u8 55, .int .u8 56, .int .u8 57] 5 (9, 10))) := (Mod.refl _ _).alloc _
  have hr0 : Rd (w.alloc (.cells #[.int .u8 49, .int .u8 50, .int .u8 51, .int .u8 52, .int .u8 53, .int .u8 54, .int .u8 55, .int .u8 56, .int .u8 57] 5 (9, 10))) (some ⟨w.heap.size, 0, none⟩) 9 (bv dig9) := Rd.of_row (heap_alloc_new w _)
  generalize w.alloc (.cells #[.int .u8 49, .int .u8 50, .int .u8 51, .int .u8 52, .int .u8 53, .int .u8 54, .int .u8 55, .int .u8 56, .int .u8 57] 5 (9, 10)) = w0 at *
  refine (crc_sum hr0 dig9_lt (by omega)).mono ?_
  rintro r w1 ⟨rfl, m1⟩
  rw [awk1]
  have hr1 := hr0.mod m1 (fun _ _ f => f)
  have M1 := m0.nn_ m1
  clear m0 hr0 m1
  go_wp2_with fail
  refine (crc_sum (Rd.nil _ _) (l := []) (by simp) (by omega)).mono ?_
  rintro r w2 ⟨rfl, m2⟩
  rw [awk2]
  have hr2 := hr1.mod m2 (fun _ _ f => f)
  have M2 := M1.nn_ m2
  clear hr1 m2 M1
  go_wp2_with fail
  have hb3 : Blk (w2.alloc (.cells #[.int .u8 0] 5)) w2.heap.size 5 (bv [0]).toArray := Blk.new _ _ _
  have m3 : Mod Nn w2 (w2.alloc (.cells #[.int .u8 0] 5)) := (Mod.refl _ _).alloc _
  refine (crc_sum (Rd.of_blk0 hb3 (n := 1) rfl) (by simp) (by omega)).mono ?_
  rintro r w4 ⟨rfl, m4⟩
  rw [awk3]
  have hr4 := (hr2.mod m3 (fun _ _ f => f)).mod m4 (fun _ _ f => f)
  have M4 := (M2.nn_ m3).nn_ m4
  clear hb3 m3 m4 hr2 M2
  go_wp2_with fail
  refine (new_any 3988292384#32 _).mono ?_
  rintro r w5 ⟨b, rfl, ht, m5, hbn⟩
  have HBN := Lib.hid hbn; clear hbn
  have hr5 := hr4.mod m5 (fun _ _ f => f)
  have hA : ∀ g, Of (some ⟨w.heap.size, 0, none⟩) g → 0 < 9 → g ≠ b := fun g hg _ e => by
    have := hr4.in_ (by omega) hg
    have := HBN.out; omega
  have HA := Lib.hid hA
  have M5 := M4.nn_ m5
  have HZ := Lib.hid (show w.heap.size ≤ b from by have := HBN.out; have := M4.size; omega)
  clear hA hr4 M4 m5
  go_wp2_with fail
  refine (add_any0 ht 0#32 hr5 HA.out dig9_lt (by omega)).mono ?_
  rintro r w6 ⟨rfl, ht6, m6⟩
  rw [awk4]
  have M6 := M5.new_ m6 HZ.out
  clear hr5 ht ht6 m6 M5
  go_wp2
  go_ret
  exact ⟨rfl, M6⟩
end Go.Proofs.Ytbocdgmkiajihaa
