/- The device (dev.Disk): what each of its functions does to its words in memory. -/
import Derived.Test.YtgmkibckbbbhkaaDev1
import Derived.Test.YtgmkibckbbbhkaaKitA
namespace Go.Proofs.Ytgmkibckbbbhkaa
open Go.RowKit

def zsecV : Value := secV zsec
theorem zsec_len : zsec.length = 512 := List.length_replicate
theorem secV_size (bs : List Int) : (secV bs).cells.size = bs.length := by simp [secV, Value.cells]
theorem info_sec : (Try.prog.info? 101).map (fun i => (i.zero, i.size)) = some (some zsecV, 512) := by kernel_rfl
theorem info_byte : (Try.prog.info? 5).map (fun i => (i.zero, i.size, i.bytes)) = some (some (.int .u8 0), 1, 1) := by kernel_rfl
theorem size_sec : (Try.prog.info? 101).map (·.size) = some 512 := size_of info_sec
theorem secV_cells (bs : List Int) : (secV bs) = .agg (bs.map (Value.int .u8)).toArray := rfl
theorem ints_one (k : IntKind) (xs : List Int) : ((xs.map (Value.int k)).toArray.all (·.oneCell')) = true := by
  rw [Array.all_eq_true_iff_forall_mem]
  intro v hv
  simp only [List.mem_toArray, List.mem_map] at hv
  obtain ⟨x, _, rfl⟩ := hv; rfl

theorem crash_any {w : World} {b ms mo : Nat} {D : Dk} (h : DiskAt w b ms mo D) :
    Calls Try.prog 66 #[.pointer (some ⟨b, 0, none⟩)] w fun e w' => e = .returned (.bool D.crash.down) ∧ DiskAt w' b ms mo D.crash ∧ Mod (At b) w w' ∧ w'.heap.size = w.heap.size := by
  by_cases ha : 0 < D.armed
  · refine (crash_pos b D.armed D.down w h.c3 h.c4 (h.blk.frozen 3) (h.blk.frozen 4) ha h.ok.a2).mono ?_
    rintro e w' ⟨rfl, rfl⟩
    have hm : Mod (At b) w ((w.setCell ⟨b, 3, none⟩ (.int .i64 (D.armed - 1))).setCell ⟨b, 4, none⟩ (.bool (D.armed - 1 == 0))) := (Mod.cellAt w b 3 _).trans (Mod.cellAt _ b 4 _)
    have hb := (h.blk.set_ 3 (.int .i64 (D.armed - 1))).set_ 4 (.bool (D.armed - 1 == 0))
    refine ⟨by simp [Dk.crash, ha], ?_, hm, by simp⟩
    have h1 : D.crash = { D with armed := D.armed - 1, down := D.armed - 1 == 0 } := by simp [Dk.crash, ha]
    rw [h1]
    refine ⟨hb, ?_, ?_, h.ne, ⟨h.ok.n1, h.ok.n2, by show 0 ≤ D.armed - 1; omega, by have := h.ok.a2; show D.armed - 1 ≤ _; omega, h.ok.sl, h.ok.ol⟩⟩
    · obtain ⟨l, hl, hk⟩ := h.smap; exact ⟨l, hl.mod hm h.nb1, hk⟩
    · obtain ⟨l, hl, hk⟩ := h.omap; exact ⟨l, hl.mod hm h.nb2, hk⟩
  · refine (crash_zero b D.armed D.down w h.c3 h.c4 ha).mono ?_
    rintro e w' ⟨rfl, rfl⟩
    have h1 : D.crash = D := by simp [Dk.crash, ha]
    rw [h1]
    exact ⟨rfl, h, Mod.refl _ _, rfl⟩

set_option maxHeartbeats 400000 in
theorem may_up (b : Nat) (n k : Int) (w : World) (h0 : w.cell? ⟨b, 0, none⟩ = some (.int .i64 n)) (h4 : w.cell? ⟨b, 4, none⟩ = some (.bool false)) (hn : (n == 0) = false) :
    Calls Try.prog 65 #[.pointer (some ⟨b, 0, none⟩), .int .i64 k] w fun e w' => e = .returned (.int .i64 (if k < 0 ∨ n ≤ k then 6 else 0)) ∧ w = w' := by
  by_cases h1 : k < 0
  · rw [if_pos (.inl h1)]
    go_enter Try.func65, Try.ntmps65
    go_wp2
    go_ret
    exact ⟨rfl, rfl⟩
  · by_cases h2 : n ≤ k
    · rw [if_pos (.inr h2)]
      go_enter Try.func65, Try.ntmps65
      go_wp2
      go_ret
      exact ⟨rfl, rfl⟩
    · rw [if_neg (by omega)]
      go_enter Try.func65, Try.ntmps65
      go_wp2
      go_ret
      exact ⟨rfl, rfl⟩
theorem may_any {w : World} {b ms mo : Nat} {D : Dk} (h : DiskAt w b ms mo D) (k : Int) :
    Calls Try.prog 65 #[.pointer (some ⟨b, 0, none⟩), .int .i64 k] w fun e w' => e = .returned (.int .i64 (D.may k)) ∧ w = w' := by
  have hn : (D.n == 0) = false := by have := h.ok.n1; rw [beq_eq_false_iff_ne]; omega
  cases hd : D.down with
  | true =>
    have h4 := h.c4; rw [hd] at h4
    rw [show D.may k = 9 by simp [Dk.may, hd]]
    exact may_down b D.n k w h.c0 h4 hn
  | false =>
    have h4 := h.c4; rw [hd] at h4
    rw [show D.may k = if k < 0 ∨ D.n ≤ k then 6 else 0 by simp [Dk.may, hd]]
    exact may_up b D.n k w h.c0 h4 hn
set_option maxHeartbeats 400000 in
theorem may_nil (k : Int) (w : World) : Calls Try.prog 65 #[.pointer none, .int .i64 k] w fun e w' => e = .returned (.int .i64 1) ∧ w = w' := by
  go_enter Try.func65, Try.ntmps65
  go_wp2
  go_ret
  exact ⟨rfl, rfl⟩
set_option maxHeartbeats 400000 in
theorem may_zero (b : Nat) (k : Int) (w : World) (h0 : w.cell? ⟨b, 0, none⟩ = some (.int .i64 0)) :
    Calls Try.prog 65 #[.pointer (some ⟨b, 0, none⟩), .int .i64 k] w fun e w' => e = .returned (.int .i64 1) ∧ w = w' := by
  go_enter Try.func65, Try.ntmps65
  go_wp2
  go_ret
  exact ⟨rfl, rfl⟩

def Dk.latest (D : Dk) (k : Int) : List Int := ((D.opn k).or (D.safe k)).getD zsec
theorem Dk.ok.latest_len {D : Dk} (h : D.ok) (k : Int) : (D.latest k).length = 512 := by
  unfold Dk.latest
  cases h1 : D.opn k with
  | some v => simpa using h.ol k v h1
  | none =>
    cases h2 : D.safe k with
    | some v => simpa using h.sl k v h2
    | none => exact zsec_len

set_option maxHeartbeats 800000 in
theorem latest_any {w : World} {b ms mo : Nat} {D : Dk} (h : DiskAt w b ms mo D) (k : Int) :
    Calls Try.prog 67 #[.pointer (some ⟨b, 0, none⟩), .int .i64 k] w fun e w' => e = .returned (secV (D.latest k)) ∧ Mod Nn w w' := by
  obtain ⟨lo, hlo, hko⟩ := h.omap
  obtain ⟨ls, hls, hks⟩ := h.smap
  have hlen := h.ok.latest_len k
  cases ho : D.opn k with
  | some v =>
    have hv : v.length = 512 := h.ok.ol k v ho
    have hlat : D.latest k = v := by simp [Dk.latest, ho]
    rw [hlat]
    have HK := Lib.hid (show aget lo k = some v by rw [hko, ho]); clear hlen hlat ho
    have HV := Lib.hid hv; clear hv
    go_enter Try.func67, Try.ntmps67
    have c2 := h.c2
    go_wp2_with (first
      | (with_reducible change wpList _ _ _ (⟨some 4, Op.alloc _, _, _, _, _⟩ :: _) _ _
         go_must (refine wpList_alloc_var 101 rfl rfl info_sec ?_)
         intro w1 b1 m1 z1
         have c21 := (h.mod m1 (fun _ _ f => f)).c2)
      | (at_lookup
         go_must (refine wpList_lookup_E 63 _ _ true rfl rfl mo k rfl rfl (hlo.mod m1 (fun f => f)) Try.underlying63 Try.underlying3 info_sec (.tuple #[secV v, .bool true]) (by rw [HK.out]; rfl) ?_))
      | (with_reducible change wpList _ _ _ (⟨some 5, Op.alloc _, _, _, _, _⟩ :: _) _ _
         go_must (refine wpList_alloc_var 101 rfl rfl info_sec ?_)
         intro w2 b2 m2 z2)
      | (with_reducible change wpList _ _ _ (⟨none, Op.store 101 (Operand.tmp 5) _, _, _, _, _⟩ :: _) _ _
         go_must (refine wpList_store_var 101 _ _ rfl rfl _ (v.map (Value.int .u8)).toArray _ _ rfl rfl b2 (by rw [size_sec]; simp [HV.out]) (by rw [zsecV, secV_size, zsec_len]; simp [HV.out]) (ints_one _ _) ?_)
         intro w3 b3 m3 z3
         rw [z1] at b3 m3)
      | (with_reducible change wpList _ _ _ (⟨_, Op.load 101 (Operand.tmp 5), _, _, _, _⟩ :: _) _ _
         go_must (refine wpList_load_var 101 _ rfl rfl _ _ _ _ rfl b3 Try.underlying101 rfl (by rw [size_sec]; simp [HV.out]) ?_))
      | (with_reducible change wpList _ _ _ (⟨none, Op.store 101 (Operand.tmp 4) _, _, _, _, _⟩ :: _) _ _
         go_must (refine wpList_store_var 101 _ _ rfl rfl _ (v.map (Value.int .u8)).toArray _ _ rfl rfl ((b1.mod m2 (fun f => f)).mod m3 (by unfold At; omega)) (by rw [size_sec]; simp [HV.out]) (by rw [zsecV, secV_size, zsec_len]; simp [HV.out]) (ints_one _ _) ?_)
         intro w4 b4 m4 z4))
    have hm : Mod Nn w w4 := ((m1.nn_ m2).new_ m3 (by omega)).new_ m4 (Nat.le_refl _)
    refine bodyPost_ret (results_cell_row (P := Try.prog) rfl _ w4 _ _ _ (0, 0) _ rfl b4 Try.underlying101 rfl (by rw [size_sec]; simp [HV.out])) rfl ⟨rfl, hm⟩
  | none =>
    have hlat : D.latest k = (D.safe k).getD zsec := by simp [Dk.latest, ho]
    have HK := Lib.hid (show aget lo k = none by rw [hko, ho])
    have HS := Lib.hid (show ((aget ls k).map secV).getD zsecV = secV (D.latest k) by rw [hks, hlat, zsecV]; cases D.safe k <;> rfl)
    have HV := Lib.hid hlen; clear hlen hlat ho hko hks
    generalize D.latest k = v at *
    go_enter Try.func67, Try.ntmps67
    have c2 := h.c2
    go_wp2_with (first
      | (with_reducible change wpList _ _ _ (⟨some 4, Op.alloc _, _, _, _, _⟩ :: _) _ _
         go_must (refine wpList_alloc_var 101 rfl rfl info_sec ?_)
         intro w1 b1 m1 z1
         have c21 := (h.mod m1 (fun _ _ f => f)).c2)
      | (with_reducible change wpList _ _ _ (⟨_, Op.lookup _ _ _ true, _, _, _, _⟩ :: _) _ _
         go_must (refine wpList_lookup_E 63 _ _ true rfl rfl mo k rfl rfl (hlo.mod m1 (fun f => f)) Try.underlying63 Try.underlying3 info_sec (.tuple #[zsecV, .bool false]) (by rw [HK.out]; rfl) ?_))
      | (with_reducible change wpList _ _ _ (⟨some 5, Op.alloc _, _, _, _, _⟩ :: _) _ _
         go_must (refine wpList_alloc_var 101 rfl rfl info_sec ?_)
         intro w2 b2 m2 z2)
      | (with_reducible change wpList _ _ _ (⟨none, Op.store 101 (Operand.tmp 5) _, _, _, _, _⟩ :: _) _ _
         go_must (refine wpList_store_var 101 _ _ rfl rfl _ (zsec.map (Value.int .u8)).toArray _ _ rfl rfl b2 (by rw [size_sec, ← zsec_len]; simp) (by rw [zsecV, secV_size]; simp) (ints_one _ _) ?_)
         intro w3 b3 m3 z3
         rw [z1] at m3
         have hm3 := (m1.nn_ m2).new_ m3 (by omega)
         have c13 := (h.mod hm3 (fun _ _ f => f)).c1)
      | (with_reducible change wpList _ _ _ (⟨_, Op.lookup _ _ _ false, _, _, _, _⟩ :: _) _ _
         go_must (refine wpList_lookup_E 63 _ _ false rfl rfl ms k rfl rfl (hls.mod hm3 (fun f => f)) Try.underlying63 Try.underlying3 info_sec (secV v) HS.out ?_))
      | (with_reducible change wpList _ _ _ (⟨none, Op.store 101 (Operand.tmp 4) _, _, _, _, _⟩ :: _) _ _
         go_must (refine wpList_store_var 101 _ _ rfl rfl _ (v.map (Value.int .u8)).toArray _ _ rfl rfl ((b1.mod m2 (fun f => f)).mod m3 (by unfold At; omega)) (by rw [size_sec]; simp [HV.out]) (by rw [zsecV, secV_size, zsec_len]; simp [HV.out]) (ints_one _ _) ?_)
         intro w4 b4 m4 z4))
    have hm : Mod Nn w w4 := hm3.new_ m4 (Nat.le_refl _)
    refine bodyPost_ret (results_cell_row (P := Try.prog) rfl _ w4 _ _ _ (0, 0) _ rfl b4 Try.underlying101 rfl (by rw [size_sec]; simp [HV.out])) rfl ⟨rfl, hm⟩
end Go.Proofs.Ytgmkibckbbbhkaa
