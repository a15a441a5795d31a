/- Own lemmas of several kinds, put together: Dev1, Dev2, Dev3, Dev4. -/
import Derived.Test.YtijmkbhbpbkkoaaGreatRows
import Derived.Test.YtijmkbhbpbkkoaaGreatKitA
/- The device (dev.Disk): its words in memory; may, crash. -/
namespace Go.Proofs.YtijmkbhbpbkkoaaGreat
open Go.RowKit

def secV (bs : List Int) : Value := .agg (bs.map (Value.int .u8)).toArray
def zsec : List Int := List.replicate 512 0

structure Dk where
  n : Int
  safe : Int → Option (List Int)
  opn : Int → Option (List Int)
  armed : Int
  down : Bool

structure Dk.ok (D : Dk) : Prop where
  n1 : 1 ≤ D.n
  n2 : D.n ≤ 262144
  a1 : 0 ≤ D.armed
  a2 : D.armed ≤ 9223372036854775807
  sl : ∀ k v, D.safe k = some v → v.length = 512
  ol : ∀ k v, D.opn k = some v → v.length = 512

def Dk.crash (D : Dk) : Dk := if 0 < D.armed then { D with armed := D.armed - 1, down := D.armed - 1 == 0 } else D
def Dk.may (D : Dk) (k : Int) : Int := if D.down then 9 else if k < 0 ∨ D.n ≤ k then 6 else 0

structure DiskAt (w : World) (b ms mo : Nat) (D : Dk) : Prop where
  blk : Blk w b 56 #[.int .i64 D.n, .map (some ms), .map (some mo), .int .i64 D.armed, .bool D.down]
  smap : ∃ l, MapE w ms secV l ∧ ∀ k, aget l k = D.safe k
  omap : ∃ l, MapE w mo secV l ∧ ∀ k, aget l k = D.opn k
  ne : ms ≠ mo
  ok : D.ok

def In3 (b ms mo : Nat) : Nat → Prop := fun k => k = b ∨ k = ms ∨ k = mo

section
variable {w w' : World} {b ms mo : Nat} {D : Dk} {S : Nat → Prop}
theorem DiskAt.nb1 (h : DiskAt w b ms mo D) : ms ≠ b := by obtain ⟨l, hl, _⟩ := h.smap; exact hl.ne_blk h.blk
theorem DiskAt.nb2 (h : DiskAt w b ms mo D) : mo ≠ b := by obtain ⟨l, hl, _⟩ := h.omap; exact hl.ne_blk h.blk
theorem DiskAt.lt (h : DiskAt w b ms mo D) : ∀ k, In3 b ms mo k → k < w.heap.size := by
  rintro k (rfl | rfl | rfl)
  · exact h.blk.lt
  · obtain ⟨l, hl, _⟩ := h.smap; exact hl.lt
  · obtain ⟨l, hl, _⟩ := h.omap; exact hl.lt
theorem DiskAt.mod (h : DiskAt w b ms mo D) (hm : Mod S w w') (hn : ∀ k, In3 b ms mo k → ¬ S k) : DiskAt w' b ms mo D :=
  ⟨h.blk.mod hm (hn _ (.inl rfl)), let ⟨l, a, c⟩ := h.smap; ⟨l, a.mod hm (hn _ (.inr (.inl rfl))), c⟩, let ⟨l, a, c⟩ := h.omap; ⟨l, a.mod hm (hn _ (.inr (.inr rfl))), c⟩, h.ne, h.ok⟩
theorem DiskAt.alloc (h : DiskAt w b ms mo D) (o : Obj) : DiskAt (w.alloc o) b ms mo D := h.mod ((Mod.refl Nn _).alloc o) (fun _ _ f => f)
theorem DiskAt.drew (h : DiskAt w b ms mo D) : DiskAt w.drew b ms mo D := ⟨h.blk, h.smap, h.omap, h.ne, h.ok⟩
theorem DiskAt.drewN (h : DiskAt w b ms mo D) (n : Nat) : DiskAt (w.drewN n) b ms mo D := ⟨h.blk, h.smap, h.omap, h.ne, h.ok⟩
theorem DiskAt.c0 (h : DiskAt w b ms mo D) : w.cell? ⟨b, 0, none⟩ = some (.int .i64 D.n) := h.blk.cell 0
theorem DiskAt.c1 (h : DiskAt w b ms mo D) : w.cell? ⟨b, 1, none⟩ = some (.map (some ms)) := h.blk.cell 1
theorem DiskAt.c2 (h : DiskAt w b ms mo D) : w.cell? ⟨b, 2, none⟩ = some (.map (some mo)) := h.blk.cell 2
theorem DiskAt.c3 (h : DiskAt w b ms mo D) : w.cell? ⟨b, 3, none⟩ = some (.int .i64 D.armed) := h.blk.cell 3
theorem DiskAt.c4 (h : DiskAt w b ms mo D) : w.cell? ⟨b, 4, none⟩ = some (.bool D.down) := h.blk.cell 4
end

set_option maxHeartbeats 400000 in
theorem crash_pos (b : Nat) (a : Int) (dn : Bool) (w : World) (h3 : w.cell? ⟨b, 3, none⟩ = some (.int .i64 a)) (h4 : w.cell? ⟨b, 4, none⟩ = some (.bool dn))
    (f3 : w.frozen? ⟨b, 3, none⟩ = false) (f4 : w.frozen? ⟨b, 4, none⟩ = false) (ha : 0 < a) (ha' : a ≤ 9223372036854775807) :
    Calls Tryz.prog 70 #[.pointer (some ⟨b, 0, none⟩)] w fun e w' =>
      e = .returned (.bool (a - 1 == 0)) ∧ (w.setCell ⟨b, 3, none⟩ (.int .i64 (a - 1))).setCell ⟨b, 4, none⟩ (.bool (a - 1 == 0)) = w' := by
  go_enter Tryz.func70, Tryz.ntmps70
  go_wp2
  go_ret
  exact ⟨rfl, rfl⟩
set_option maxHeartbeats 400000 in
theorem crash_zero (b : Nat) (a : Int) (dn : Bool) (w : World) (h3 : w.cell? ⟨b, 3, none⟩ = some (.int .i64 a)) (h4 : w.cell? ⟨b, 4, none⟩ = some (.bool dn)) (ha : ¬ 0 < a) :
    Calls Tryz.prog 70 #[.pointer (some ⟨b, 0, none⟩)] w fun e w' => e = .returned (.bool dn) ∧ w = w' := by
  go_enter Tryz.func70, Tryz.ntmps70
  go_wp2
  go_ret
  exact ⟨rfl, rfl⟩
set_option maxHeartbeats 400000 in
theorem may_down (b : Nat) (n k : Int) (w : World) (h0 : w.cell? ⟨b, 0, none⟩ = some (.int .i64 n)) (h4 : w.cell? ⟨b, 4, none⟩ = some (.bool true)) (hn : (n == 0) = false) :
    Calls Tryz.prog 36 #[.pointer (some ⟨b, 0, none⟩), .int .i64 k] w fun e w' => e = .returned (.int .i64 9) ∧ w = w' := by
  go_enter Tryz.func36, Tryz.ntmps36
  go_wp2
  go_ret
  exact ⟨rfl, rfl⟩
end Go.Proofs.YtijmkbhbpbkkoaaGreat

/- The device (dev.Disk): what each of its functions does to its words in memory. -/
namespace Go.Proofs.YtijmkbhbpbkkoaaGreat
open Go.RowKit

def zsecV : Value := secV zsec
theorem zsec_len : zsec.length = 512 := List.length_replicate
theorem secV_size (bs : List Int) : (secV bs).cells.size = bs.length := by simp [secV, Value.cells]
theorem info_sec : (Tryz.prog.info? 58).map (fun i => (i.zero, i.size)) = some (some zsecV, 512) := by kernel_rfl
theorem info_byte : (Tryz.prog.info? 5).map (fun i => (i.zero, i.size, i.bytes)) = some (some (.int .u8 0), 1, 1) := by kernel_rfl
theorem size_sec : (Tryz.prog.info? 58).map (·.size) = some 512 := size_of info_sec
theorem secV_cells (bs : List Int) : (secV bs) = .agg (bs.map (Value.int .u8)).toArray := rfl
theorem ints_one (k : IntKind) (xs : List Int) : ((xs.map (Value.int k)).toArray.all (·.oneCell')) = true := by
  rw [Array.all_eq_true_iff_forall_mem]
  intro v hv
  simp only [List.mem_toArray, List.mem_map] at hv
  obtain ⟨x, _, rfl⟩ := hv; rfl

theorem crash_any {w : World} {b ms mo : Nat} {D : Dk} (h : DiskAt w b ms mo D) :
    Calls Tryz.prog 70 #[.pointer (some ⟨b, 0, none⟩)] w fun e w' => e = .returned (.bool D.crash.down) ∧ DiskAt w' b ms mo D.crash ∧ Mod (At b) w w' ∧ w'.heap.size = w.heap.size := by
  by_cases ha : 0 < D.armed
  · refine (crash_pos b D.armed D.down w h.c3 h.c4 (h.blk.frozen 3) (h.blk.frozen 4) ha h.ok.a2).mono ?_
    rintro e w' ⟨rfl, rfl⟩
    have hm : Mod (At b) w ((w.setCell ⟨b, 3, none⟩ (.int .i64 (D.armed - 1))).setCell ⟨b, 4, none⟩ (.bool (D.armed - 1 == 0))) := (Mod.cellAt w b 3 _).trans (Mod.cellAt _ b 4 _)
    have hb := (h.blk.set_ 3 (.int .i64 (D.armed - 1))).set_ 4 (.bool (D.armed - 1 == 0))
    refine ⟨by simp [Dk.crash, ha], ?_, hm, by simp⟩
    have h1 : D.crash = { D with armed := D.armed - 1, down := D.armed - 1 == 0 } := by simp [Dk.crash, ha]
    rw [h1]
    refine ⟨hb, ?_, ?_, h.ne, ⟨h.ok.n1, h.ok.n2, by show 0 ≤ D.armed - 1; omega, by have := h.ok.a2; show D.armed - 1 ≤ _; omega, h.ok.sl, h.ok.ol⟩⟩
    · obtain ⟨l, hl, hk⟩ := h.smap; exact ⟨l, hl.mod hm h.nb1, hk⟩
    · obtain ⟨l, hl, hk⟩ := h.omap; exact ⟨l, hl.mod hm h.nb2, hk⟩
  · refine (crash_zero b D.armed D.down w h.c3 h.c4 ha).mono ?_
    rintro e w' ⟨rfl, rfl⟩
    have h1 : D.crash = D := by simp [Dk.crash, ha]
    rw [h1]
    exact ⟨rfl, h, Mod.refl _ _, rfl⟩

set_option maxHeartbeats 400000 in
theorem may_up (b : Nat) (n k : Int) (w : World) (h0 : w.cell? ⟨b, 0, none⟩ = some (.int .i64 n)) (h4 : w.cell? ⟨b, 4, none⟩ = some (.bool false)) (hn : (n == 0) = false) :
    Calls Tryz.prog 36 #[.pointer (some ⟨b, 0, none⟩), .int .i64 k] w fun e w' => e = .returned (.int .i64 (if k < 0 ∨ n ≤ k then 6 else 0)) ∧ w = w' := by
  by_cases h1 : k < 0
  · rw [if_pos (.inl h1)]
    go_enter Tryz.func36, Tryz.ntmps36
    go_wp2
    go_ret
    exact ⟨rfl, rfl⟩
  · by_cases h2 : n ≤ k
    · rw [if_pos (.inr h2)]
      go_enter Tryz.func36, Tryz.ntmps36
      go_wp2
      go_ret
      exact ⟨rfl, rfl⟩
    · rw [if_neg (by omega)]
      go_enter Tryz.func36, Tryz.ntmps36
      go_wp2
      go_ret
      exact ⟨rfl, rfl⟩
theorem may_any {w : World} {b ms mo : Nat} {D : Dk} (h : DiskAt w b ms mo D) (k : Int) :
    Calls Tryz.prog 36 #[.pointer (some ⟨b, 0, none⟩), .int .i64 k] w fun e w' => e = .returned (.int .i64 (D.may k)) ∧ w = w' := by
  have hn : (D.n == 0) = false := by have := h.ok.n1; rw [beq_eq_false_iff_ne]; omega
  cases hd : D.down with
  | true =>
    have h4 := h.c4; rw [hd] at h4
    rw [show D.may k = 9 by simp [Dk.may, hd]]
    exact may_down b D.n k w h.c0 h4 hn
  | false =>
    have h4 := h.c4; rw [hd] at h4
    rw [show D.may k = if k < 0 ∨ D.n ≤ k then 6 else 0 by simp [Dk.may, hd]]
    exact may_up b D.n k w h.c0 h4 hn
set_option maxHeartbeats 400000 in
theorem may_nil (k : Int) (w : World) : Calls Tryz.prog 36 #[.pointer none, .int .i64 k] w fun e w' => e = .returned (.int .i64 1) ∧ w = w' := by
  go_enter Tryz.func36, Tryz.ntmps36
  go_wp2
  go_ret
  exact ⟨rfl, rfl⟩
set_option maxHeartbeats 400000 in
theorem may_zero (b : Nat) (k : Int) (w : World) (h0 : w.cell? ⟨b, 0, none⟩ = some (.int .i64 0)) :
    Calls Tryz.prog 36 #[.pointer (some ⟨b, 0, none⟩), .int .i64 k] w fun e w' => e = .returned (.int .i64 1) ∧ w = w' := by
  go_enter Tryz.func36, Tryz.ntmps36
  go_wp2
  go_ret
  exact ⟨rfl, rfl⟩

def Dk.latest (D : Dk) (k : Int) : List Int := ((D.opn k).or (D.safe k)).getD zsec
theorem Dk.ok.latest_len {D : Dk} (h : D.ok) (k : Int) : (D.latest k).length = 512 := by
  unfold Dk.latest
  cases h1 : D.opn k with
  | some v => simpa using h.ol k v h1
  | none =>
    cases h2 : D.safe k with
    | some v => simpa using h.sl k v h2
    | none => exact zsec_len

set_option maxHeartbeats 800000 in
theorem latest_any {w : World} {b ms mo : Nat} {D : Dk} (h : DiskAt w b ms mo D) (k : Int) :
    Calls Tryz.prog 35 #[.pointer (some ⟨b, 0, none⟩), .int .i64 k] w fun e w' => e = .returned (secV (D.latest k)) ∧ Mod Nn w w' := by
  obtain ⟨lo, hlo, hko⟩ := h.omap
  obtain ⟨ls, hls, hks⟩ := h.smap
  have hlen := h.ok.latest_len k
  cases ho : D.opn k with
  | some v =>
    have hv : v.length = 512 := h.ok.ol k v ho
    have hlat : D.latest k = v := by simp [Dk.latest, ho]
    rw [hlat]
    have HK := Lib.hid (show aget lo k = some v by rw [hko, ho]); clear hlen hlat ho
    have HV := Lib.hid hv; clear hv
    go_enter Tryz.func35, Tryz.ntmps35
    have c2 := h.c2
    go_wp2_with (first
      | (with_reducible change wpList _ _ _ (⟨some 4, Op.alloc _, _, _, _, _⟩ :: _) _ _
         go_must (refine wpList_alloc_var 58 rfl rfl info_sec ?_)
         intro w1 b1 m1 z1
         have c21 := (h.mod m1 (fun _ _ f => f)).c2)
      | (at_lookup
         go_must (refine wpList_lookup_E 54 _ _ true rfl rfl mo k rfl rfl (hlo.mod m1 (fun f => f)) Tryz.underlying54 Tryz.underlying3 info_sec (.tuple #[secV v, .bool true]) (by rw [HK.out]; rfl) ?_))
      | (with_reducible change wpList _ _ _ (⟨some 5, Op.alloc _, _, _, _, _⟩ :: _) _ _
         go_must (refine wpList_alloc_var 58 rfl rfl info_sec ?_)
         intro w2 b2 m2 z2)
      | (with_reducible change wpList _ _ _ (⟨none, Op.store 58 (Operand.tmp 5) _, _, _, _, _⟩ :: _) _ _
         go_must (refine wpList_store_var 58 _ _ rfl rfl _ (v.map (Value.int .u8)).toArray _ _ rfl rfl b2 (by rw [size_sec]; simp [HV.out]) (by rw [zsecV, secV_size, zsec_len]; simp [HV.out]) (ints_one _ _) ?_)
         intro w3 b3 m3 z3
         rw [z1] at b3 m3)
      | (with_reducible change wpList _ _ _ (⟨_, Op.load 58 (Operand.tmp 5), _, _, _, _⟩ :: _) _ _
         go_must (refine wpList_load_var 58 _ rfl rfl _ _ _ _ rfl b3 Tryz.underlying58 rfl (by rw [size_sec]; simp [HV.out]) ?_))
      | (with_reducible change wpList _ _ _ (⟨none, Op.store 58 (Operand.tmp 4) _, _, _, _, _⟩ :: _) _ _
         go_must (refine wpList_store_var 58 _ _ rfl rfl _ (v.map (Value.int .u8)).toArray _ _ rfl rfl ((b1.mod m2 (fun f => f)).mod m3 (by unfold At; omega)) (by rw [size_sec]; simp [HV.out]) (by rw [zsecV, secV_size, zsec_len]; simp [HV.out]) (ints_one _ _) ?_)
         intro w4 b4 m4 z4))
    have hm : Mod Nn w w4 := ((m1.nn_ m2).new_ m3 (by omega)).new_ m4 (Nat.le_refl _)
    refine bodyPost_ret (results_cell_row (P := Tryz.prog) rfl _ w4 _ _ _ (0, 0) _ rfl b4 Tryz.underlying58 rfl (by rw [size_sec]; simp [HV.out])) rfl ⟨rfl, hm⟩
  | none =>
    have hlat : D.latest k = (D.safe k).getD zsec := by simp [Dk.latest, ho]
    have HK := Lib.hid (show aget lo k = none by rw [hko, ho])
    have HS := Lib.hid (show ((aget ls k).map secV).getD zsecV = secV (D.latest k) by rw [hks, hlat, zsecV]; cases D.safe k <;> rfl)
    have HV := Lib.hid hlen; clear hlen hlat ho hko hks
    generalize D.latest k = v at *
    go_enter Tryz.func35, Tryz.ntmps35
    have c2 := h.c2
    go_wp2_with (first
      | (with_reducible change wpList _ _ _ (⟨some 4, Op.alloc _, _, _, _, _⟩ :: _) _ _
         go_must (refine wpList_alloc_var 58 rfl rfl info_sec ?_)
         intro w1 b1 m1 z1
         have c21 := (h.mod m1 (fun _ _ f => f)).c2)
      | (with_reducible change wpList _ _ _ (⟨_, Op.lookup _ _ _ true, _, _, _, _⟩ :: _) _ _
         go_must (refine wpList_lookup_E 54 _ _ true rfl rfl mo k rfl rfl (hlo.mod m1 (fun f => f)) Tryz.underlying54 Tryz.underlying3 info_sec (.tuple #[zsecV, .bool false]) (by rw [HK.out]; rfl) ?_))
      | (with_reducible change wpList _ _ _ (⟨some 5, Op.alloc _, _, _, _, _⟩ :: _) _ _
         go_must (refine wpList_alloc_var 58 rfl rfl info_sec ?_)
         intro w2 b2 m2 z2)
      | (with_reducible change wpList _ _ _ (⟨none, Op.store 58 (Operand.tmp 5) _, _, _, _, _⟩ :: _) _ _
         go_must (refine wpList_store_var 58 _ _ rfl rfl _ (zsec.map (Value.int .u8)).toArray _ _ rfl rfl b2 (by rw [size_sec, ← zsec_len]; simp) (by rw [zsecV, secV_size]; simp) (ints_one _ _) ?_)
         intro w3 b3 m3 z3
         rw [z1] at m3
         have hm3 := (m1.nn_ m2).new_ m3 (by omega)
         have c13 := (h.mod hm3 (fun _ _ f => f)).c1)
      | (with_reducible change wpList _ _ _ (⟨_, Op.lookup _ _ _ false, _, _, _, _⟩ :: _) _ _
         go_must (refine wpList_lookup_E 54 _ _ false rfl rfl ms k rfl rfl (hls.mod hm3 (fun f => f)) Tryz.underlying54 Tryz.underlying3 info_sec (secV v) HS.out ?_))
      | (with_reducible change wpList _ _ _ (⟨none, Op.store 58 (Operand.tmp 4) _, _, _, _, _⟩ :: _) _ _
         go_must (refine wpList_store_var 58 _ _ rfl rfl _ (v.map (Value.int .u8)).toArray _ _ rfl rfl ((b1.mod m2 (fun f => f)).mod m3 (by unfold At; omega)) (by rw [size_sec]; simp [HV.out]) (by rw [zsecV, secV_size, zsec_len]; simp [HV.out]) (ints_one _ _) ?_)
         intro w4 b4 m4 z4))
    have hm : Mod Nn w w4 := hm3.new_ m4 (Nat.le_refl _)
    refine bodyPost_ret (results_cell_row (P := Tryz.prog) rfl _ w4 _ _ _ (0, 0) _ rfl b4 Tryz.underlying58 rfl (by rw [size_sec]; simp [HV.out])) rfl ⟨rfl, hm⟩
end Go.Proofs.YtijmkbhbpbkkoaaGreat

/- The device (dev.Disk): Write. -/
namespace Go.Proofs.YtijmkbhbpbkkoaaGreat
open Go.RowKit

def Dk.put (D : Dk) (k : Int) (bs : List Int) : Dk := { D with opn := fun j => if j = k then some bs else D.opn j }
def Dk.write (D : Dk) (k : Int) (bs : List Int) : Int × Dk :=
  if D.may k = 0 then (if bs.length = 512 then (if (D.put k bs).crash.down then 9 else 0, (D.put k bs).crash) else (2, D)) else (D.may k, D)

theorem put_at {w w' : World} {b ms mo : Nat} {D : Dk} (h : DiskAt w b ms mo D) {l l' : List (Int × List Int)} (hk : ∀ k, aget l k = D.opn k) {k : Int} {bs : List Int} (hb : bs.length = 512)
    (hl : l' = aset l k bs) (h1 : MapE w' mo secV l') (hm : Mod (At mo) w w') : DiskAt w' b ms mo (D.put k bs) := by
  subst hl
  refine ⟨h.blk.mod hm (fun e => h.nb2 (e : b = mo).symm), ?_, ⟨_, h1, fun j => ?_⟩, h.ne, ⟨h.ok.n1, h.ok.n2, h.ok.a1, h.ok.a2, h.ok.sl, fun j v hv => ?_⟩⟩
  · obtain ⟨ls, a, c⟩ := h.smap; exact ⟨ls, a.mod hm h.ne, c⟩
  · rw [aget_aset, hk]; rfl
  · simp only [Dk.put] at hv
    split at hv
    · injection hv with hv; subst hv; exact hb
    · exact h.ok.ol j v hv

set_option maxRecDepth 100000 in
set_option maxHeartbeats 800000 in
theorem write_any {w : World} {b ms mo : Nat} {D : Dk} (h : DiskAt w b ms mo D) (k : Int) {A : Option Addr} {n c : Nat} {bs : List Int} (hr : Rd w A n (bs.map (Value.int .u8))) :
    Calls Tryz.prog 60 #[.pointer (some ⟨b, 0, none⟩), .int .i64 k, .slice A n c] w fun e w' =>
      e = .returned (.int .i64 (D.write k bs).1) ∧ DiskAt w' b ms mo (D.write k bs).2 ∧ Mod (In3 b ms mo) w w' ∧ w'.heap.size = w.heap.size := by
  have hlen : bs.length = n := by simpa using hr.1
  by_cases hm : D.may k = 0
  · by_cases hn : n = 512
    · subst hn
      have hW : D.write k bs = (if (D.put k bs).crash.down then 9 else 0, (D.put k bs).crash) := by simp [Dk.write, hm, hlen]
      have HW := Lib.hid hW
      obtain ⟨g, off, rfl, hc⟩ := hr.2 (by omega)
      obtain ⟨lo, hlo, hko⟩ := h.omap
      have HM := Lib.hid hm; have HL := Lib.hid hlen; have HC := Lib.hid hc; have HO := Lib.hid hko; clear hm hlen hW hc hr hko
      go_enter Tryz.func60, Tryz.ntmps60
      go_wp2_with fail
      refine (may_any h k).mono ?_
      rintro e w' ⟨rfl, rfl⟩
      rw [HM.out]
      go_wp2_with fail
      have c2 := h.c2
      refine wp_region_still_tail 8 (by kernel_rfl) (by kernel_rfl) ?_
      simp only [List.take_succ_cons, List.take_zero, List.drop_succ_cons, List.drop_zero]
      still_step
      still_step
      still_step
      still_step
      still_step
      still_step
      refine wpStill_val rfl (exec_arrayAt (P := Tryz.prog) 58 _ rfl rfl Tryz.underlying58 (Nat.le_refl _)) ?_
      refine wpStill_val rfl (exec_load_cells (P := Tryz.prog) 58 _ rfl rfl (cs := bs.map (Value.int .u8)) HC.out Tryz.underlying58 rfl (by rw [size_sec]; simp [HL.out])) ?_
      refine wpStill_nil ?_
      refine wpList_mapUpdate_E 54 _ _ _ rfl rfl mo k bs rfl rfl rfl hlo.drew Tryz.underlying54 Tryz.underlying3 ?_
      intro w1 h1 m1 z1
      have hd1 := put_at h HO.out HL.out rfl h1 m1.of_drew
      go_wp2_with fail
      refine (crash_any hd1).mono ?_
      rintro e w2 ⟨rfl, hd2, m2, z2⟩
      have hms : Mod (In3 b ms mo) w w2 := (m1.of_drew.mono (fun g _ e => .inr (.inr e))).then_ m2 (fun g _ e => .inl e)
      cases hcr : (D.put k bs).crash.down with
      | true =>
        go_wp2
        go_ret
        rw [HW.out, hcr]
        exact ⟨rfl, hd2, hms, z2.trans z1⟩
      | false =>
        go_wp2
        go_ret
        rw [HW.out, hcr]
        exact ⟨rfl, hd2, hms, z2.trans z1⟩
    · have hW : D.write k bs = (2, D) := by simp [Dk.write, hm, hlen, hn]
      rw [hW]
      have HM := Lib.hid hm; clear hm hlen hW hr
      have hn' : ((n : Int) == 512) = false := by rw [beq_eq_false_iff_ne]; omega
      have hn'' : ((n : Int) != 512) = true := by rw [bne_iff_ne]; omega
      go_enter Tryz.func60, Tryz.ntmps60
      go_wp2_with fail
      refine (may_any h k).mono ?_
      rintro e w' ⟨rfl, rfl⟩
      rw [HM.out]
      go_wp2
      go_ret
      exact ⟨rfl, h, Mod.refl _ _, rfl⟩
  · have hW : D.write k bs = (D.may k, D) := by simp [Dk.write, hm]
    rw [hW]
    clear hW hr hlen
    have hm' : (D.may k != 0) = true := by rw [bne_iff_ne]; exact hm
    generalize hq : D.may k = q at *
    have HQ := Lib.hid hq; clear hq
    go_enter Tryz.func60, Tryz.ntmps60
    go_wp2_with fail
    refine (may_any h k).mono ?_
    rintro e w' ⟨rfl, rfl⟩
    rw [HQ.out]
    go_wp2
    go_ret
    exact ⟨rfl, h, Mod.refl _ _, rfl⟩
end Go.Proofs.YtijmkbhbpbkkoaaGreat

/- The device (dev.Disk): Read, Sectors, Down, Arm, New. -/
namespace Go.Proofs.YtijmkbhbpbkkoaaGreat
open Go.RowKit

def Dk.read (D : Dk) (k : Int) : List Int := if D.may k = 0 then D.latest k else []

set_option maxRecDepth 100000 in
set_option maxHeartbeats 800000 in
theorem read_any {w : World} {b ms mo : Nat} {D : Dk} (h : DiskAt w b ms mo D) (k : Int) :
    Calls Tryz.prog 22 #[.pointer (some ⟨b, 0, none⟩), .int .i64 k] w fun e w' => ∃ v,
      e = .returned (.tuple #[v, .int .i64 (D.may k)]) ∧ w'.ownsRow w.heap.size 5 1 v (D.read k).length ((D.read k).map (Value.int .u8)) ∧ Mod Nn w w' := by
  by_cases hm : D.may k = 0
  · have hl := h.ok.latest_len k
    have hr : D.read k = D.latest k := by simp [Dk.read, hm]
    have HR := Lib.hid hr; have HM := Lib.hid hm; have HL := Lib.hid hl; clear hm hr hl
    go_enter Tryz.func22, Tryz.ntmps22
    go_wp2_with fail
    refine (may_any h k).mono ?_
    rintro e w' ⟨rfl, rfl⟩
    rw [HM.out]
    go_wp2_with fail
    refine (latest_any h k).mono ?_
    rintro e w1 ⟨rfl, m1⟩
    go_wp2_with (first
      | (with_reducible change wpList _ _ _ (⟨some 7, Op.alloc _, _, _, _, _⟩ :: _) _ _
         go_must (refine wpList_alloc_var 58 rfl rfl info_sec ?_)
         intro w2 b2 m2 z2)
      | (with_reducible change wpList _ _ _ (⟨none, Op.store 58 (Operand.tmp 7) _, _, _, _, _⟩ :: _) _ _
         go_must (refine wpList_store_var 58 _ _ rfl rfl _ ((D.latest k).map (Value.int .u8)).toArray _ _ rfl rfl b2 (by rw [size_sec]; simp [HL.out]) (by rw [zsecV, secV_size, zsec_len]; simp [HL.out]) (ints_one _ _) ?_)
         intro w3 b3 m3 z3)
      | (at_builtin
         have hown : (w3.alloc (.cells #[] 5)).ownsRow w.heap.size 5 1 (.slice (some ⟨w1.heap.size + 1, 0, none⟩) 0 0) 0 [] := by
           have hs := World.ownsRow_made (base := w.heap.size) (e := 5) (size := 1) w3 #[] 0 (by rw [z3, z2]; have := m1.size; omega) (by simp) rfl
           rw [z3, z2] at hs; exact hs
         go_must (refine wpList_append_rd 29 _ _ rfl rfl w.heap.size 5 (.int .u8 0) 1 1 Tryz.underlying29 info_byte rfl (by omega) _ 0 [] rfl hown _ 512 512 ((D.latest k).map (Value.int .u8)) rfl (Rd.of_blk0 (b3.alloc _) (by simp [HL.out])).toC (ints_oneCell _ _) (by omega) (by omega) (by simp; rw [z3, z2]; have := m1.size; omega) ?_)
         intro v w4 hv hg hbl))
    go_ret2
    refine ⟨v, by rw [HM.out]; rfl, ?_, ?_⟩
    · rw [HR.out, HL.out]; simpa using hv
    · refine Mod.grown ((((m1.nn_ m2).new_ m3 m1.size)).alloc _) hg (fun g h => .inl ?_)
      have h' : some (w1.heap.size + 1) = some g := h
      injection h' with h'
      have := m1.size; omega
  · have hr : D.read k = [] := by simp [Dk.read, hm]
    rw [hr]
    have hm' : (D.may k != 0) = true := by rw [bne_iff_ne]; exact hm
    clear hr hm
    generalize hq : D.may k = q at *
    have HQ := Lib.hid hq; clear hq
    go_enter Tryz.func22, Tryz.ntmps22
    go_wp2_with fail
    refine (may_any h k).mono ?_
    rintro e w' ⟨rfl, rfl⟩
    rw [HQ.out]
    go_wp2
    go_ret2
    exact ⟨_, rfl, World.ownsRow_nil _ _ _ _, Mod.refl _ _⟩

set_option maxHeartbeats 400000 in
theorem sectors_any {w : World} {b ms mo : Nat} {D : Dk} (h : DiskAt w b ms mo D) :
    Calls Tryz.prog 26 #[.pointer (some ⟨b, 0, none⟩)] w fun e w' => e = .returned (.int .i64 D.n) ∧ w = w' := by
  have c0 := h.c0
  go_enter Tryz.func26, Tryz.ntmps26
  go_wp2
  go_ret
  exact ⟨rfl, rfl⟩
set_option maxHeartbeats 400000 in
theorem sectors_nil (w : World) : Calls Tryz.prog 26 #[.pointer none] w fun e w' => e = .returned (.int .i64 0) ∧ w = w' := by
  go_enter Tryz.func26, Tryz.ntmps26
  go_wp2
  go_ret
  exact ⟨rfl, rfl⟩
set_option maxHeartbeats 400000 in
theorem down_any {w : World} {b ms mo : Nat} {D : Dk} (h : DiskAt w b ms mo D) :
    Calls Tryz.prog 62 #[.pointer (some ⟨b, 0, none⟩)] w fun e w' => e = .returned (.bool D.down) ∧ w = w' := by
  have c4 := h.c4
  go_enter Tryz.func62, Tryz.ntmps62
  go_wp2
  go_ret
  exact ⟨rfl, rfl⟩
set_option maxHeartbeats 400000 in
theorem down_nil (w : World) : Calls Tryz.prog 62 #[.pointer none] w fun e w' => e = .returned (.bool false) ∧ w = w' := by
  go_enter Tryz.func62, Tryz.ntmps62
  go_wp2
  go_ret
  exact ⟨rfl, rfl⟩

def Dk.arm (D : Dk) (n : Int) : Dk := if D.down then D else { D with armed := max n 0 }
theorem arm_at {w : World} {b ms mo : Nat} {D : Dk} (h : DiskAt w b ms mo D) (n : Int) (h0 : 0 ≤ n) (h1 : n ≤ 9223372036854775807) :
    DiskAt (w.setCell ⟨b, 3, none⟩ (.int .i64 n)) b ms mo { D with armed := n } := by
  have hm : Mod (At b) w (w.setCell ⟨b, 3, none⟩ (.int .i64 n)) := Mod.cellAt w b 3 _
  have hb := h.blk.set_ 3 (.int .i64 n)
  refine ⟨hb, ?_, ?_, h.ne, ⟨h.ok.n1, h.ok.n2, h0, h1, h.ok.sl, h.ok.ol⟩⟩
  · obtain ⟨l, hl, hk⟩ := h.smap; exact ⟨l, hl.mod hm h.nb1, hk⟩
  · obtain ⟨l, hl, hk⟩ := h.omap; exact ⟨l, hl.mod hm h.nb2, hk⟩
def Dk.new (n : Int) : Dk := ⟨n, fun _ => none, fun _ => none, 0, false⟩
set_option maxHeartbeats 400000 in
theorem new_any (n : Int) (w : World) (h1 : 1 ≤ n) (h2 : n ≤ 262144) :
    Calls Tryz.prog 25 #[.int .i64 n] w fun e w' => ∃ b ms mo, e = .returned (.pointer (some ⟨b, 0, none⟩)) ∧ DiskAt w' b ms mo (Dk.new n) ∧ Mod Nn w w' ∧
      (∀ k, In3 b ms mo k → w.heap.size ≤ k) := by
  have hmm := @run_makeMap Tryz.prog
  go_enter Tryz.func25, Tryz.ntmps25
  go_wp2
  go_ret
  refine ⟨w.heap.size + 2, w.heap.size, w.heap.size + 1, rfl, ⟨?_, ⟨[], ?_, fun _ => rfl⟩, ⟨[], ?_, fun _ => rfl⟩, by omega, ⟨h1, h2, Int.le_refl 0, by show (0 : Int) ≤ _; omega, (fun _ _ h => nomatch h), (fun _ _ h => nomatch h)⟩⟩, (((Mod.refl _ _).alloc _).alloc _).alloc _, ?_⟩
  · have := Blk.new ((w.alloc (.map #[] 0)).alloc (.map #[] 0)) 56 #[.int .i64 n, .map (some w.heap.size), .map (some (w.heap.size + 1)), .int .i64 0, .bool false]
    simpa [Dk.new] using this
  · exact ((MapE.new w secV).alloc _).alloc _
  · have := (MapE.new (w.alloc (.map #[] 0)) secV).alloc (.cells #[.int .i64 n, .map (some w.heap.size), .map (some (w.heap.size + 1)), .int .i64 0, .bool false] 56)
    simpa [Dk.new] using this
  · rintro k (rfl | rfl | rfl) <;> omega
set_option maxHeartbeats 400000 in
theorem new_none (n : Int) (w : World) (h : n < 1 ∨ 262144 < n) :
    Calls Tryz.prog 25 #[.int .i64 n] w fun e w' => e = .returned (.pointer none) ∧ w = w' := by
  rcases h with h | h
  · go_enter Tryz.func25, Tryz.ntmps25
    go_wp2
    go_ret
    exact ⟨rfl, rfl⟩
  · have h' : ¬ n < 1 := by omega
    go_enter Tryz.func25, Tryz.ntmps25
    go_wp2
    go_ret
    exact ⟨rfl, rfl⟩
end Go.Proofs.YtijmkbhbpbkkoaaGreat
