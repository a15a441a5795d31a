/- The device: no disk, and one that nobody made; peatbanklaw08.none. -/
import Derived.Test.YtgmkibckbbbhkaaDevB
import Derived.Test.YtgmkibckbbbhkaaDev8
namespace Go.Proofs.Ytgmkibckbbbhkaa
open Go.RowKit

/-- a disk that nobody made -/
structure ZAt (w : World) (b : Nat) : Prop where
  c0 : w.cell? ⟨b, 0, none⟩ = some (.int .i64 0)
  c4 : w.cell? ⟨b, 4, none⟩ = some (.bool false)
  blk : ∃ cs, Blk w b 65 cs ∧ cs.size = 5
theorem ZAt.mod {w w' : World} {b : Nat} {S : Nat → Prop} (h : ZAt w b) (hm : Mod S w w') (hn : ¬ S b) : ZAt w' b := by
  obtain ⟨cs, hb, hs⟩ := h.blk
  exact ⟨(hm.cell (p := ⟨b, 0, none⟩) hb.lt hn).trans h.c0, (hm.cell (p := ⟨b, 4, none⟩) hb.lt hn).trans h.c4, cs, hb.mod hm hn, hs⟩
section
variable {w : World} {b : Nat}
set_option maxHeartbeats 400000 in
theorem read_nil' (w : World) (k : Int) : Calls Try.prog 25 #[.pointer none, .int .i64 k] w fun e w' => e = .returned (.tuple #[.slice none 0 0, .int .i64 1]) ∧ w = w' := by
  go_enter Try.func25, Try.ntmps25
  go_wp2_with fail
  refine (may_nil _ _).mono ?_
  rintro r w1 ⟨rfl, rfl⟩
  go_wp2
  go_ret2
  exact ⟨rfl, rfl⟩
set_option maxHeartbeats 400000 in
theorem read_zero' (h : ZAt w b) (k : Int) : Calls Try.prog 25 #[.pointer (some ⟨b, 0, none⟩), .int .i64 k] w fun e w' => e = .returned (.tuple #[.slice none 0 0, .int .i64 1]) ∧ w = w' := by
  have c0 := h.c0
  have c4 := h.c4
  have HZ := Lib.hid h; clear h
  go_enter Try.func25, Try.ntmps25
  go_wp2_with fail
  refine (may_zero b _ _ HZ.out.c0).mono ?_
  rintro r w1 ⟨rfl, rfl⟩
  go_wp2
  go_ret2
  exact ⟨rfl, rfl⟩
set_option maxHeartbeats 400000 in
theorem write_nil' (w : World) (k : Int) (v : Value) : Calls Try.prog 22 #[.pointer none, .int .i64 k, v] w fun e w' => e = .returned (.int .i64 1) ∧ w = w' := by
  go_enter Try.func22, Try.ntmps22
  go_wp2_with fail
  refine (may_nil _ _).mono ?_
  rintro r w1 ⟨rfl, rfl⟩
  go_wp2
  go_ret
  exact ⟨rfl, rfl⟩
set_option maxHeartbeats 400000 in
theorem write_zero' (h : ZAt w b) (k : Int) (v : Value) : Calls Try.prog 22 #[.pointer (some ⟨b, 0, none⟩), .int .i64 k, v] w fun e w' => e = .returned (.int .i64 1) ∧ w = w' := by
  have c0 := h.c0
  have c4 := h.c4
  have HZ := Lib.hid h; clear h
  go_enter Try.func22, Try.ntmps22
  go_wp2_with fail
  refine (may_zero b _ _ HZ.out.c0).mono ?_
  rintro r w1 ⟨rfl, rfl⟩
  go_wp2
  go_ret
  exact ⟨rfl, rfl⟩
set_option maxHeartbeats 400000 in
theorem sync_nil' (w : World)  : Calls Try.prog 21 #[.pointer none] w fun e w' => e = .returned (.int .i64 1) ∧ w = w' := by
  go_enter Try.func21, Try.ntmps21
  go_wp2_with fail
  refine (may_nil _ _).mono ?_
  rintro r w1 ⟨rfl, rfl⟩
  go_wp2
  go_ret
  exact ⟨rfl, rfl⟩
set_option maxHeartbeats 400000 in
theorem sync_zero' (h : ZAt w b)  : Calls Try.prog 21 #[.pointer (some ⟨b, 0, none⟩)] w fun e w' => e = .returned (.int .i64 1) ∧ w = w' := by
  have c0 := h.c0
  have c4 := h.c4
  have HZ := Lib.hid h; clear h
  go_enter Try.func21, Try.ntmps21
  go_wp2_with fail
  refine (may_zero b _ _ HZ.out.c0).mono ?_
  rintro r w1 ⟨rfl, rfl⟩
  go_wp2
  go_ret
  exact ⟨rfl, rfl⟩
set_option maxHeartbeats 400000 in
theorem wake_nil' (w : World) (v : Value) : Calls Try.prog 24 #[.pointer none, v] w fun e w' => e = .returned (.tuple #[]) ∧ w = w' := by
  go_enter Try.func24, Try.ntmps24
  go_wp2
  exact bodyPost_ret (v := .tuple #[]) (by simp [results, Try.results24, go_sem]) rfl ⟨rfl, rfl⟩
set_option maxHeartbeats 400000 in
theorem wake_zero' (h : ZAt w b) (v : Value) : Calls Try.prog 24 #[.pointer (some ⟨b, 0, none⟩), v] w fun e w' => e = .returned (.tuple #[]) ∧ w = w' := by
  have c0 := h.c0
  have c4 := h.c4
  have HZ := Lib.hid h; clear h
  go_enter Try.func24, Try.ntmps24
  go_wp2
  exact bodyPost_ret (v := .tuple #[]) (by simp [results, Try.results24, go_sem]) rfl ⟨rfl, rfl⟩
set_option maxHeartbeats 400000 in
theorem bytes_nil' (w : World)  : Calls Try.prog 41 #[.pointer none] w fun e w' => e = .returned (.slice none 0 0) ∧ w = w' := by
  go_enter Try.func41, Try.ntmps41
  go_wp2
  go_ret
  exact ⟨rfl, rfl⟩
set_option maxHeartbeats 400000 in
theorem bytes_zero' (h : ZAt w b)  : Calls Try.prog 41 #[.pointer (some ⟨b, 0, none⟩)] w fun e w' => e = .returned (.slice none 0 0) ∧ w = w' := by
  have c0 := h.c0
  have c4 := h.c4
  have HZ := Lib.hid h; clear h
  go_enter Try.func41, Try.ntmps41
  go_wp2
  go_ret
  exact ⟨rfl, rfl⟩
set_option maxHeartbeats 400000 in
theorem copy_nil' (w : World)  : Calls Try.prog 45 #[.pointer none] w fun e w' => e = .returned (.pointer none) ∧ w = w' := by
  go_enter Try.func45, Try.ntmps45
  go_wp2
  go_ret
  exact ⟨rfl, rfl⟩
set_option maxHeartbeats 400000 in
theorem copy_zero' (h : ZAt w b)  : Calls Try.prog 45 #[.pointer (some ⟨b, 0, none⟩)] w fun e w' => e = .returned (.pointer none) ∧ w = w' := by
  have c0 := h.c0
  have c4 := h.c4
  have HZ := Lib.hid h; clear h
  go_enter Try.func45, Try.ntmps45
  go_wp2
  go_ret
  exact ⟨rfl, rfl⟩
set_option maxHeartbeats 400000 in
theorem arm_nil' (w : World) (n : Int) : Calls Try.prog 27 #[.pointer none, .int .i64 n] w fun e w' => e = .returned (.tuple #[]) ∧ w = w' := by
  go_enter Try.func27, Try.ntmps27
  go_wp2
  go_end0
  exact ⟨rfl, rfl⟩
set_option maxHeartbeats 800000 in
theorem arm_zero' (h : ZAt w b) (n : Int) : Calls Try.prog 27 #[.pointer (some ⟨b, 0, none⟩), .int .i64 n] w fun e w' => e = .returned (.tuple #[]) ∧ ZAt w' b ∧ Mod (At b) w w' := by
  have HF : Hid (∀ x : Value, ZAt (w.setCell ⟨b, 3, none⟩ x) b ∧ Mod (At b) w (w.setCell ⟨b, 3, none⟩ x)) := Lib.hid (fun x => by
    obtain ⟨cs, hb, hs⟩ := h.blk
    have hm : Mod (At b) w (w.setCell ⟨b, 3, none⟩ x) := (Mod.refl (At b) w).setCell (p := ⟨b, 3, none⟩) (.inr rfl) x
    refine ⟨⟨?_, ?_, _, hb.set_ 3 x, by rw [Array.size_setIfInBounds]; exact hs⟩, hm⟩
    · rw [World.cell?_setCell_other _ _ _ _ (fun e => by injection e with _ e _; omega)]; exact h.c0
    · rw [World.cell?_setCell_other _ _ _ _ (fun e => by injection e with _ e _; omega)]; exact h.c4)
  obtain ⟨cs, hb, hs⟩ := h.blk
  have c3 : w.cell? ⟨b, 3, none⟩ = some (cs[3]'(by omega)) := by rw [hb.cell 3]; exact Array.getElem?_eq_getElem _
  generalize cs[3]'(by omega) = u at *
  have f3 := hb.frozen 3
  have c4 := h.c4
  clear h hb hs
  go_enter Try.func27, Try.ntmps27
  go_wp2
  all_goals
    go_end0
    exact ⟨rfl, HF.out _⟩
set_option maxHeartbeats 400000 in
theorem down_zero' (h : ZAt w b) : Calls Try.prog 29 #[.pointer (some ⟨b, 0, none⟩)] w fun e w' => e = .returned (.bool false) ∧ w = w' := by
  have c4 := h.c4
  clear h
  go_enter Try.func29, Try.ntmps29
  go_wp2
  go_ret
  exact ⟨rfl, rfl⟩
set_option maxHeartbeats 400000 in
theorem sectors_zero' (h : ZAt w b) : Calls Try.prog 26 #[.pointer (some ⟨b, 0, none⟩)] w fun e w' => e = .returned (.int .i64 0) ∧ w = w' := by
  have c0 := h.c0
  clear h
  go_enter Try.func26, Try.ntmps26
  go_wp2
  go_ret
  exact ⟨rfl, rfl⟩
end
set_option maxRecDepth 100000 in
set_option maxHeartbeats 1600000 in
theorem none_nil (w : World) (n : Int) : Calls Try.prog 47 #[.pointer none, .int .i64 n] w fun e w' => e = .returned (.bool true) ∧ Mod Nn w w' := by
  go_enter Try.func47, Try.ntmps47
  go_wp2_with fail
  refine (read_nil' _ n).mono ?_
  rintro r w1 ⟨rfl, rfl⟩
  go_wp2_with fail
  refine (arm_nil' _ n).mono ?_
  rintro r w1 ⟨rfl, rfl⟩
  go_wp2_with fail
  refine (wake_nil' _ _).mono ?_
  rintro r w1 ⟨rfl, rfl⟩
  go_wp2_with fail
  refine (full_any 1 _ (by omega) (by omega)).mono ?_
  rintro r w3 ⟨g, rfl, -, -, m3⟩
  go_wp2_with fail
  refine (write_nil' _ _ _).mono ?_
  rintro r w1 ⟨rfl, rfl⟩
  go_wp2_with fail
  refine (sync_nil' _).mono ?_
  rintro r w1 ⟨rfl, rfl⟩
  go_wp2_with fail
  refine (down_nil _).mono ?_
  rintro r w1 ⟨rfl, rfl⟩
  go_wp2_with fail
  refine (sectors_nil _).mono ?_
  rintro r w1 ⟨rfl, rfl⟩
  go_wp2_with fail
  refine (bytes_nil' _).mono ?_
  rintro r w1 ⟨rfl, rfl⟩
  go_wp2_with fail
  refine (copy_nil' _).mono ?_
  rintro r w1 ⟨rfl, rfl⟩
  go_wp2
  go_ret
  exact ⟨rfl, m3⟩
set_option maxRecDepth 100000 in
set_option maxHeartbeats 1600000 in
theorem none_zero {w : World} {b : Nat} (h : ZAt w b) (n : Int) : Calls Try.prog 47 #[.pointer (some ⟨b, 0, none⟩), .int .i64 n] w fun e w' => e = .returned (.bool true) ∧ Mod (At b) w w' := by
  have H := Lib.hid h; clear h
  go_enter Try.func47, Try.ntmps47
  go_wp2_with fail
  refine (read_zero' H.out n).mono ?_
  rintro r w1 ⟨rfl, rfl⟩
  go_wp2_with fail
  refine (arm_zero' H.out n).mono ?_
  rintro r w2 ⟨rfl, h2, m2⟩
  have H := Lib.hid h2; clear h2
  go_wp2_with fail
  refine (wake_zero' H.out _).mono ?_
  rintro r w1 ⟨rfl, rfl⟩
  go_wp2_with fail
  refine (full_any 1 _ (by omega) (by omega)).mono ?_
  rintro r w3 ⟨g, rfl, -, -, m3⟩
  have H := Lib.hid (H.out.mod m3 (fun f => f))
  have M := m2.nn_ m3; clear m2 m3
  go_wp2_with fail
  refine (write_zero' H.out _ _).mono ?_
  rintro r w1 ⟨rfl, rfl⟩
  go_wp2_with fail
  refine (sync_zero' H.out).mono ?_
  rintro r w1 ⟨rfl, rfl⟩
  go_wp2_with fail
  refine (down_zero' H.out).mono ?_
  rintro r w1 ⟨rfl, rfl⟩
  go_wp2_with fail
  refine (sectors_zero' H.out).mono ?_
  rintro r w1 ⟨rfl, rfl⟩
  go_wp2_with fail
  refine (bytes_zero' H.out).mono ?_
  rintro r w1 ⟨rfl, rfl⟩
  go_wp2_with fail
  refine (copy_zero' H.out).mono ?_
  rintro r w1 ⟨rfl, rfl⟩
  go_wp2
  go_ret
  exact ⟨rfl, M⟩
theorem disk_zero : (Try.prog.info? 65).map (fun i => (i.zero, i.size)) = some (some (.agg #[.int .i64 0, .map none, .map none, .int .i64 0, .bool false]), 5) := by kernel_rfl
set_option maxRecDepth 100000 in
set_option maxHeartbeats 800000 in
theorem devnil_any (n : Int) (w : World) : Calls Try.prog 9 #[.int .i64 n] w fun e w' => e = .returned (.bool true) ∧ Mod Nn w w' := by
  go_enter Try.func9, Try.ntmps9
  go_wp2_with fail
  refine (awake_any _).mono ?_
  rintro r w1 ⟨rfl, m1⟩
  go_wp2_with fail
  refine (none_nil _ n).mono ?_
  rintro r w2 ⟨rfl, m2⟩
  go_wp2_with fail
  have hz : ZAt (w2.alloc (.cells #[.int .i64 0, .map none, .map none, .int .i64 0, .bool false] 65)) w2.heap.size :=
    ⟨(Blk.new w2 65 #[.int .i64 0, .map none, .map none, .int .i64 0, .bool false]).cell 0, (Blk.new w2 65 #[.int .i64 0, .map none, .map none, .int .i64 0, .bool false]).cell 4, _, Blk.new _ _ _, rfl⟩
  refine (none_zero hz n).mono ?_
  rintro r w3 ⟨rfl, m3⟩
  have M3 : Mod Nn w w3 := ((m1.nn_ m2).alloc _).new_ m3 (by have := (m1.nn_ m2).size; omega)
  go_wp2
  go_ret
  exact ⟨rfl, M3⟩
end Go.Proofs.Ytgmkibckbbbhkaa
