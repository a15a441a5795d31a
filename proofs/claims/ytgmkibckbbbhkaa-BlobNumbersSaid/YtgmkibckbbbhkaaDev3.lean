/- The device (dev.Disk): Write. -/
import Derived.Test.YtgmkibckbbbhkaaDev2
namespace Go.Proofs.Ytgmkibckbbbhkaa
open Go.RowKit

def Dk.put (D : Dk) (k : Int) (bs : List Int) : Dk := { D with opn := fun j => if j = k then some bs else D.opn j }
def Dk.write (D : Dk) (k : Int) (bs : List Int) : Int × Dk :=
  if D.may k = 0 then (if bs.length = 512 then (if (D.put k bs).crash.down then 9 else 0, (D.put k bs).crash) else (2, D)) else (D.may k, D)

theorem put_at {w w' : World} {b ms mo : Nat} {D : Dk} (h : DiskAt w b ms mo D) {l l' : List (Int × List Int)} (hk : ∀ k, aget l k = D.opn k) {k : Int} {bs : List Int} (hb : bs.length = 512)
    (hl : l' = aset l k bs) (h1 : MapE w' mo secV l') (hm : Mod (At mo) w w') : DiskAt w' b ms mo (D.put k bs) := by
  subst hl
  refine ⟨h.blk.mod hm (fun e => h.nb2 (e : b = mo).symm), ?_, ⟨_, h1, fun j => ?_⟩, h.ne, ⟨h.ok.n1, h.ok.n2, h.ok.a1, h.ok.a2, h.ok.sl, fun j v hv => ?_⟩⟩
  · obtain ⟨ls, a, c⟩ := h.smap; exact ⟨ls, a.mod hm h.ne, c⟩
  · rw [aget_aset, hk]; rfl
  · simp only [Dk.put] at hv
    split at hv
    · injection hv with hv; subst hv; exact hb
    · exact h.ok.ol j v hv

set_option maxRecDepth 100000 in
set_option maxHeartbeats 800000 in
theorem write_any {w : World} {b ms mo : Nat} {D : Dk} (h : DiskAt w b ms mo D) (k : Int) {A : Option Addr} {n c : Nat} {bs : List Int} (hr : Rd w A n (bs.map (Value.int .u8))) :
    Calls Try.prog 22 #[.pointer (some ⟨b, 0, none⟩), .int .i64 k, .slice A n c] w fun e w' =>
      e = .returned (.int .i64 (D.write k bs).1) ∧ DiskAt w' b ms mo (D.write k bs).2 ∧ Mod (In3 b ms mo) w w' ∧ w'.heap.size = w.heap.size := by
  have hlen : bs.length = n := by simpa using hr.1
  by_cases hm : D.may k = 0
  · by_cases hn : n = 512
    · subst hn
      have hW : D.write k bs = (if (D.put k bs).crash.down then 9 else 0, (D.put k bs).crash) := by simp [Dk.write, hm, hlen]
      have HW := Lib.hid hW
      obtain ⟨g, off, rfl, hc⟩ := hr.2 (by omega)
      obtain ⟨lo, hlo, hko⟩ := h.omap
      have HM := Lib.hid hm; have HL := Lib.hid hlen; have HC := Lib.hid hc; have HO := Lib.hid hko; clear hm hlen hW hc hr hko
      go_enter Try.func22, Try.ntmps22
      go_wp2_with fail
      refine (may_any h k).mono ?_
      rintro e w' ⟨rfl, rfl⟩
      rw [HM.out]
      go_wp2_with fail
      have c2 := h.c2
      refine wp_region_still_tail 8 (by kernel_rfl) (by kernel_rfl) ?_
      simp only [List.take_succ_cons, List.take_zero, List.drop_succ_cons, List.drop_zero]
      still_step
      still_step
      still_step
      still_step
      still_step
      still_step
      refine wpStill_val rfl (exec_arrayAt (P := Try.prog) 101 _ rfl rfl Try.underlying101 (Nat.le_refl _)) ?_
      refine wpStill_val rfl (exec_load_cells (P := Try.prog) 101 _ rfl rfl (cs := bs.map (Value.int .u8)) HC.out Try.underlying101 rfl (by rw [size_sec]; simp [HL.out])) ?_
      refine wpStill_nil ?_
      refine wpList_mapUpdate_E 63 _ _ _ rfl rfl mo k bs rfl rfl rfl hlo.drew Try.underlying63 Try.underlying3 ?_
      intro w1 h1 m1 z1
      have hd1 := put_at h HO.out HL.out rfl h1 m1.of_drew
      go_wp2_with fail
      refine (crash_any hd1).mono ?_
      rintro e w2 ⟨rfl, hd2, m2, z2⟩
      have hms : Mod (In3 b ms mo) w w2 := (m1.of_drew.mono (fun g _ e => .inr (.inr e))).then_ m2 (fun g _ e => .inl e)
      cases hcr : (D.put k bs).crash.down with
      | true =>
        go_wp2
        go_ret
        rw [HW.out, hcr]
        exact ⟨rfl, hd2, hms, z2.trans z1⟩
      | false =>
        go_wp2
        go_ret
        rw [HW.out, hcr]
        exact ⟨rfl, hd2, hms, z2.trans z1⟩
    · have hW : D.write k bs = (2, D) := by simp [Dk.write, hm, hlen, hn]
      rw [hW]
      have HM := Lib.hid hm; clear hm hlen hW hr
      have hn' : ((n : Int) == 512) = false := by rw [beq_eq_false_iff_ne]; omega
      have hn'' : ((n : Int) != 512) = true := by rw [bne_iff_ne]; omega
      go_enter Try.func22, Try.ntmps22
      go_wp2_with fail
      refine (may_any h k).mono ?_
      rintro e w' ⟨rfl, rfl⟩
      rw [HM.out]
      go_wp2
      go_ret
      exact ⟨rfl, h, Mod.refl _ _, rfl⟩
  · have hW : D.write k bs = (D.may k, D) := by simp [Dk.write, hm]
    rw [hW]
    clear hW hr hlen
    have hm' : (D.may k != 0) = true := by rw [bne_iff_ne]; exact hm
    generalize hq : D.may k = q at *
    have HQ := Lib.hid hq; clear hq
    go_enter Try.func22, Try.ntmps22
    go_wp2_with fail
    refine (may_any h k).mono ?_
    rintro e w' ⟨rfl, rfl⟩
    rw [HQ.out]
    go_wp2
    go_ret
    exact ⟨rfl, h, Mod.refl _ _, rfl⟩
end Go.Proofs.Ytgmkibckbbbhkaa
