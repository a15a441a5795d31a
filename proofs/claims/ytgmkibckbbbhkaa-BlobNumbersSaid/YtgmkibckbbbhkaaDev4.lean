/- The device (dev.Disk): Read, Sectors, Down, Arm, New. -/
import Derived.Test.YtgmkibckbbbhkaaDev3
namespace Go.Proofs.Ytgmkibckbbbhkaa
open Go.RowKit

def Dk.read (D : Dk) (k : Int) : List Int := if D.may k = 0 then D.latest k else []

set_option maxRecDepth 100000 in
set_option maxHeartbeats 800000 in
theorem read_any {w : World} {b ms mo : Nat} {D : Dk} (h : DiskAt w b ms mo D) (k : Int) :
    Calls Try.prog 25 #[.pointer (some ⟨b, 0, none⟩), .int .i64 k] w fun e w' => ∃ v,
      e = .returned (.tuple #[v, .int .i64 (D.may k)]) ∧ w'.ownsRow w.heap.size 5 1 v (D.read k).length ((D.read k).map (Value.int .u8)) ∧ Mod Nn w w' := by
  by_cases hm : D.may k = 0
  · have hl := h.ok.latest_len k
    have hr : D.read k = D.latest k := by simp [Dk.read, hm]
    have HR := Lib.hid hr; have HM := Lib.hid hm; have HL := Lib.hid hl; clear hm hr hl
    go_enter Try.func25, Try.ntmps25
    go_wp2_with fail
    refine (may_any h k).mono ?_
    rintro e w' ⟨rfl, rfl⟩
    rw [HM.out]
    go_wp2_with fail
    refine (latest_any h k).mono ?_
    rintro e w1 ⟨rfl, m1⟩
    go_wp2_with (first
      | (with_reducible change wpList _ _ _ (⟨some 7, Op.alloc _, _, _, _, _⟩ :: _) _ _
         go_must (refine wpList_alloc_var 101 rfl rfl info_sec ?_)
         intro w2 b2 m2 z2)
      | (with_reducible change wpList _ _ _ (⟨none, Op.store 101 (Operand.tmp 7) _, _, _, _, _⟩ :: _) _ _
         go_must (refine wpList_store_var 101 _ _ rfl rfl _ ((D.latest k).map (Value.int .u8)).toArray _ _ rfl rfl b2 (by rw [size_sec]; simp [HL.out]) (by rw [zsecV, secV_size, zsec_len]; simp [HL.out]) (ints_one _ _) ?_)
         intro w3 b3 m3 z3)
      | (at_builtin
         have hown : (w3.alloc (.cells #[] 5)).ownsRow w.heap.size 5 1 (.slice (some ⟨w1.heap.size + 1, 0, none⟩) 0 0) 0 [] := by
           have hs := World.ownsRow_made (base := w.heap.size) (e := 5) (size := 1) w3 #[] 0 (by rw [z3, z2]; have := m1.size; omega) (by simp) rfl
           rw [z3, z2] at hs; exact hs
         go_must (refine wpList_append_rd 35 _ _ rfl rfl w.heap.size 5 (.int .u8 0) 1 1 Try.underlying35 info_byte rfl (by omega) _ 0 [] rfl hown _ 512 512 ((D.latest k).map (Value.int .u8)) rfl (Rd.of_blk0 (b3.alloc _) (by simp [HL.out])).toC (ints_oneCell _ _) (by omega) (by omega) (by simp; rw [z3, z2]; have := m1.size; omega) ?_)
         intro v w4 hv hg hbl))
    go_ret2
    refine ⟨v, by rw [HM.out]; rfl, ?_, ?_⟩
    · rw [HR.out, HL.out]; simpa using hv
    · refine Mod.grown ((((m1.nn_ m2).new_ m3 m1.size)).alloc _) hg (fun g h => .inl ?_)
      have h' : some (w1.heap.size + 1) = some g := h
      injection h' with h'
      have := m1.size; omega
  · have hr : D.read k = [] := by simp [Dk.read, hm]
    rw [hr]
    have hm' : (D.may k != 0) = true := by rw [bne_iff_ne]; exact hm
    clear hr hm
    generalize hq : D.may k = q at *
    have HQ := Lib.hid hq; clear hq
    go_enter Try.func25, Try.ntmps25
    go_wp2_with fail
    refine (may_any h k).mono ?_
    rintro e w' ⟨rfl, rfl⟩
    rw [HQ.out]
    go_wp2
    go_ret2
    exact ⟨_, rfl, World.ownsRow_nil _ _ _ _, Mod.refl _ _⟩

set_option maxHeartbeats 400000 in
theorem sectors_any {w : World} {b ms mo : Nat} {D : Dk} (h : DiskAt w b ms mo D) :
    Calls Try.prog 26 #[.pointer (some ⟨b, 0, none⟩)] w fun e w' => e = .returned (.int .i64 D.n) ∧ w = w' := by
  have c0 := h.c0
  go_enter Try.func26, Try.ntmps26
  go_wp2
  go_ret
  exact ⟨rfl, rfl⟩
set_option maxHeartbeats 400000 in
theorem sectors_nil (w : World) : Calls Try.prog 26 #[.pointer none] w fun e w' => e = .returned (.int .i64 0) ∧ w = w' := by
  go_enter Try.func26, Try.ntmps26
  go_wp2
  go_ret
  exact ⟨rfl, rfl⟩
set_option maxHeartbeats 400000 in
theorem down_any {w : World} {b ms mo : Nat} {D : Dk} (h : DiskAt w b ms mo D) :
    Calls Try.prog 29 #[.pointer (some ⟨b, 0, none⟩)] w fun e w' => e = .returned (.bool D.down) ∧ w = w' := by
  have c4 := h.c4
  go_enter Try.func29, Try.ntmps29
  go_wp2
  go_ret
  exact ⟨rfl, rfl⟩
set_option maxHeartbeats 400000 in
theorem down_nil (w : World) : Calls Try.prog 29 #[.pointer none] w fun e w' => e = .returned (.bool false) ∧ w = w' := by
  go_enter Try.func29, Try.ntmps29
  go_wp2
  go_ret
  exact ⟨rfl, rfl⟩

def Dk.arm (D : Dk) (n : Int) : Dk := if D.down then D else { D with armed := max n 0 }
theorem arm_at {w : World} {b ms mo : Nat} {D : Dk} (h : DiskAt w b ms mo D) (n : Int) (h0 : 0 ≤ n) (h1 : n ≤ 9223372036854775807) :
    DiskAt (w.setCell ⟨b, 3, none⟩ (.int .i64 n)) b ms mo { D with armed := n } := by
  have hm : Mod (At b) w (w.setCell ⟨b, 3, none⟩ (.int .i64 n)) := Mod.cellAt w b 3 _
  have hb := h.blk.set_ 3 (.int .i64 n)
  refine ⟨hb, ?_, ?_, h.ne, ⟨h.ok.n1, h.ok.n2, h0, h1, h.ok.sl, h.ok.ol⟩⟩
  · obtain ⟨l, hl, hk⟩ := h.smap; exact ⟨l, hl.mod hm h.nb1, hk⟩
  · obtain ⟨l, hl, hk⟩ := h.omap; exact ⟨l, hl.mod hm h.nb2, hk⟩
set_option maxHeartbeats 400000 in
theorem arm_any {w : World} {b ms mo : Nat} {D : Dk} (h : DiskAt w b ms mo D) (n : Int) (hn : n ≤ 9223372036854775807) :
    Calls Try.prog 27 #[.pointer (some ⟨b, 0, none⟩), .int .i64 n] w fun e w' => e = .returned (.tuple #[]) ∧ DiskAt w' b ms mo (D.arm n) ∧ Mod (At b) w w' ∧ w'.heap.size = w.heap.size := by
  have c4 := h.c4
  have c3 := h.c3
  have f3 := h.blk.frozen 3
  cases hd : D.down with
  | true =>
    rw [hd] at c4
    have HA := Lib.hid (show D.arm n = D by simp [Dk.arm, hd])
    clear hd
    go_enter Try.func27, Try.ntmps27
    go_wp2
    go_end0
    rw [HA.out]
    exact ⟨rfl, h, Mod.refl _ _, rfl⟩
  | false =>
    rw [hd] at c4
    have HA := Lib.hid (show D.arm n = { D with armed := max n 0 } by simp [Dk.arm, hd])
    clear hd
    have hh := h; clear h
    go_enter Try.func27, Try.ntmps27
    go_wp2
    all_goals go_end0; rw [HA.out]
    · rw [show max n 0 = 0 by omega]
      exact ⟨rfl, arm_at hh _ (by omega) (by omega), Mod.cellAt _ _ _ _, by simp⟩
    · rw [show max n 0 = n by omega]
      exact ⟨rfl, arm_at hh _ (by omega) (by omega), Mod.cellAt _ _ _ _, by simp⟩

def Dk.new (n : Int) : Dk := ⟨n, fun _ => none, fun _ => none, 0, false⟩
set_option maxHeartbeats 400000 in
theorem new_any (n : Int) (w : World) (h1 : 1 ≤ n) (h2 : n ≤ 262144) :
    Calls Try.prog 19 #[.int .i64 n] w fun e w' => ∃ b ms mo, e = .returned (.pointer (some ⟨b, 0, none⟩)) ∧ DiskAt w' b ms mo (Dk.new n) ∧ Mod Nn w w' ∧
      (∀ k, In3 b ms mo k → w.heap.size ≤ k) := by
  have hmm := @run_makeMap Try.prog
  go_enter Try.func19, Try.ntmps19
  go_wp2
  go_ret
  refine ⟨w.heap.size + 2, w.heap.size, w.heap.size + 1, rfl, ⟨?_, ⟨[], ?_, fun _ => rfl⟩, ⟨[], ?_, fun _ => rfl⟩, by omega, ⟨h1, h2, Int.le_refl 0, by show (0 : Int) ≤ _; omega, (fun _ _ h => nomatch h), (fun _ _ h => nomatch h)⟩⟩, (((Mod.refl _ _).alloc _).alloc _).alloc _, ?_⟩
  · have := Blk.new ((w.alloc (.map #[] 0)).alloc (.map #[] 0)) 65 #[.int .i64 n, .map (some w.heap.size), .map (some (w.heap.size + 1)), .int .i64 0, .bool false]
    simpa [Dk.new] using this
  · exact ((MapE.new w secV).alloc _).alloc _
  · have := (MapE.new (w.alloc (.map #[] 0)) secV).alloc (.cells #[.int .i64 n, .map (some w.heap.size), .map (some (w.heap.size + 1)), .int .i64 0, .bool false] 65)
    simpa [Dk.new] using this
  · rintro k (rfl | rfl | rfl) <;> omega
set_option maxHeartbeats 400000 in
theorem new_none (n : Int) (w : World) (h : n < 1 ∨ 262144 < n) :
    Calls Try.prog 19 #[.int .i64 n] w fun e w' => e = .returned (.pointer none) ∧ w = w' := by
  rcases h with h | h
  · go_enter Try.func19, Try.ntmps19
    go_wp2
    go_ret
    exact ⟨rfl, rfl⟩
  · have h' : ¬ n < 1 := by omega
    go_enter Try.func19, Try.ntmps19
    go_wp2
    go_ret
    exact ⟨rfl, rfl⟩
end Go.Proofs.Ytgmkibckbbbhkaa
