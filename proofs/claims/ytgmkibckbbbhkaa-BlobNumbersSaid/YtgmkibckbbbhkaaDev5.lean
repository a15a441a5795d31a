/- The device (dev.Disk): Sync. -/
import Derived.Test.YtgmkibckbbbhkaaDev4
import Derived.Deep.LoopGhost
namespace Go.Proofs.Ytgmkibckbbbhkaa
open Go.RowKit

def Dk.flush (D : Dk) : Dk := { D with safe := fun j => (D.opn j).or (D.safe j), opn := fun _ => none }
def Dk.sync (D : Dk) : Int × Dk := if D.may 0 = 0 then (if D.crash.down then (9, D.crash) else (0, D.crash.flush)) else (D.may 0, D)
def Dk.mid (D : Dk) (done : List Int) : Dk := { D with safe := fun j => if j ∈ done then (D.opn j).or (D.safe j) else D.safe j }

theorem mid_step {w w' : World} {b ms mo : Nat} {D : Dk} {done : List Int} (h : DiskAt w b ms mo (D.mid done)) {l l' : List (Int × List Int)} (hk : ∀ k, aget l k = (D.mid done).safe k) {k : Int} {bs : List Int}
    (ho : D.opn k = some bs) (hl : l' = aset l k bs) (h1 : MapE w' ms secV l') (hm : Mod (At ms) w w') : DiskAt w' b ms mo (D.mid (k :: done)) := by
  subst hl
  refine ⟨h.blk.mod hm (fun e => h.nb1 (e : b = ms).symm), ⟨_, h1, fun j => ?_⟩, ?_, h.ne, ⟨h.ok.n1, h.ok.n2, h.ok.a1, h.ok.a2, fun j v hv => ?_, h.ok.ol⟩⟩
  · rw [aget_aset, hk]
    simp only [Dk.mid, List.mem_cons]
    by_cases hj : j = k
    · subst hj; simp [ho]
    · simp [hj]
  · obtain ⟨lo, a, c⟩ := h.omap; exact ⟨lo, a.mod hm (fun e => h.ne (e : mo = ms).symm), c⟩
  · simp only [Dk.mid, List.mem_cons] at hv
    by_cases hj : j = k
    · subst hj; simp [ho] at hv; subst hv; exact h.ok.ol j _ ho
    · simp only [hj, false_or] at hv; exact h.ok.sl j v hv

theorem mid_nil (D : Dk) : D.mid [] = D := by simp [Dk.mid]
theorem mid_all {D : Dk} {l : List (Int × List Int)} {done : List Int} (hk : ∀ k, aget l k = D.opn k) (ha : ∀ e ∈ l, e.1 ∈ done) (j : Int) : (D.mid done).safe j = (D.opn j).or (D.safe j) := by
  simp only [Dk.mid]
  by_cases hj : j ∈ done
  · rw [if_pos hj]
  · rw [if_neg hj]
    have : D.opn j = none := by
      rw [← hk]; cases h : aget l j with
      | none => rfl
      | some v => exact absurd (ha _ (aget_mem h)) hj
    rw [this]; rfl

theorem clear_at {w w' : World} {b ms mo : Nat} {D D' : Dk} (h : DiskAt w b ms mo D) (h1 : MapE w' mo secV ([] : List (Int × List Int))) (hm : Mod (At mo) w w')
    (e1 : D'.n = D.n) (e2 : D'.armed = D.armed) (e3 : D'.down = D.down) (e4 : ∀ j, D'.safe j = D.safe j) (e5 : ∀ j, D'.opn j = none) : DiskAt w' b ms mo D' := by
  refine ⟨?_, ?_, ⟨_, h1, fun j => by rw [e5]; rfl⟩, h.ne, ⟨by rw [e1]; exact h.ok.n1, by rw [e1]; exact h.ok.n2, by rw [e2]; exact h.ok.a1, by rw [e2]; exact h.ok.a2, fun j v hv => h.ok.sl j v (by rw [← e4]; exact hv), fun j v hv => by rw [e5] at hv; cases hv⟩⟩
  · rw [e1, e2, e3]; exact h.blk.mod hm (fun e => h.nb2 (e : b = mo).symm)
  · obtain ⟨ls, a, c⟩ := h.smap; exact ⟨ls, a.mod hm h.ne, fun k => by rw [e4]; exact c k⟩

set_option maxRecDepth 100000 in
set_option maxHeartbeats 1600000 in
theorem sync_any {w : World} {b ms mo : Nat} {D : Dk} (h : DiskAt w b ms mo D) :
    Calls Try.prog 21 #[.pointer (some ⟨b, 0, none⟩)] w fun e w' =>
      e = .returned (.int .i64 D.sync.1) ∧ DiskAt w' b ms mo D.sync.2 ∧ Mod (In3 b ms mo) w w' := by
  by_cases hm : D.may 0 = 0
  · cases hcr : D.crash.down with
    | true =>
      have HW := Lib.hid (show D.sync = (9, D.crash) by simp [Dk.sync, hm, hcr])
      have HM := Lib.hid hm; have HC := Lib.hid hcr; clear hm hcr
      go_enter Try.func21, Try.ntmps21
      go_wp2_with fail
      refine (may_any h 0).mono ?_
      rintro e w' ⟨rfl, rfl⟩
      rw [HM.out]
      go_wp2_with fail
      refine (crash_any h).mono ?_
      rintro e w2 ⟨rfl, hd2, m2, z2⟩
      rw [HC.out]
      go_wp2
      go_ret
      rw [HW.out]
      exact ⟨rfl, hd2, m2.mono (fun g _ e => .inl e)⟩
    | false =>
      have HW := Lib.hid (show D.sync = (0, D.crash.flush) by simp [Dk.sync, hm, hcr])
      have HM := Lib.hid hm; have HC := Lib.hid hcr; clear hm hcr
      go_enter Try.func21, Try.ntmps21
      go_wp2_with fail
      refine (may_any h 0).mono ?_
      rintro e w' ⟨rfl, rfl⟩
      rw [HM.out]
      go_wp2_with fail
      refine (crash_any h).mono ?_
      rintro e w2 ⟨rfl, hd2, m2, z2⟩
      rw [HC.out]
      clear z2
      generalize D.crash = D1 at *
      obtain ⟨lo, hlo, hko⟩ := hd2.omap
      have HO := Lib.hid hko; clear hko
      have c2 := hd2.c2
      go_wp2_with (first
        | (with_reducible change wpList _ _ _ (⟨_, Op.range _ _, _, _, _, _⟩ :: _) _ _
           go_must (refine wpList_range_E 63 _ rfl rfl mo rfl hlo Try.underlying63 ?_)
           intro w3 i3 m3 z3
           clear z3))
      have hd3 := hd2.mod m3 (fun _ _ f => f)
      go_frame
      go_loopg [] lo.length (fun k wr => ∃ done : List Int, k + done.length = lo.length ∧ done.Nodup ∧ (∀ x ∈ done, x ∈ lo.map (·.1)) ∧ DiskAt wr b ms mo (D1.mid done) ∧ IterE wr w2.heap.size mo secV lo done ∧ Mod (In3 b ms mo) w2 wr)
      case atStart => exact ⟨[], rfl, List.nodup_nil, by simp, by rw [mid_nil]; exact hd3, i3, m3.nn⟩
      case round =>
        obtain ⟨done, hk, hnd, hsub, hdr, hir, hmr⟩ := hrel
        have H1 := Lib.hid hk; have H2 := Lib.hid hsub; clear hk hsub
        rcases run_next_map (P := Try.prog) hir with ⟨hall, hrun⟩ | ⟨k, v, w4, hkv, hnk, hrun, hi4, hm4, hz4⟩
        · have HA := Lib.hid hall; clear hall
          have c2r := hdr.c2
          obtain ⟨lo', hlo', hko'⟩ := hdr.omap
          have HO' := Lib.hid hko'; clear hko'
          go_wp2_with (first
            | (with_reducible change wpList _ _ _ (⟨_, Op.call { callee := Callee.builtin Builtin.clear, args := _, argTypes := _ }, _, _, _, _⟩ :: _) _ _
               go_must (refine wpList_clear_E 63 _ rfl rfl mo rfl hlo' Try.underlying63 ?_)
               intro w5 h5 m5 z5))
          go_ret
          rw [HW.out]
          refine ⟨rfl, clear_at hdr h5 m5 rfl rfl rfl (fun j => (mid_all HO.out HA.out j).symm) (fun j => rfl), ?_⟩
          exact ((m2.mono (fun g _ e => .inl e)).then_ hmr (fun _ _ e => e)).at_ m5 (.inr (.inr rfl))
        · have hdr4 := hdr.mod hm4 (fun x hx e => by have := hd2.lt x hx; have : x = w2.heap.size := e; omega)
          have HZ := Lib.hid hz4; clear hz4
          have hkv' : D1.opn k = some v := by rw [← HO.out]; exact hkv
          have HV := Lib.hid (hd2.ok.ol k v hkv'); have HK := Lib.hid hkv'; clear hkv'
          obtain ⟨ls, hls, hks⟩ := hdr4.smap
          have HS := Lib.hid hks; clear hks
          have hgt : w2.heap.size < wr.heap.size := hir.lt
          go_wp2_with (first
            | (with_reducible change wpList _ _ _ (⟨_, Op.entry _, _, _, _, _⟩ :: _) _ _
               go_must (refine wpList_entry_E _ rfl rfl _ k v done rfl hi4 hkv ?_))
            | (with_reducible change wpList _ _ _ (⟨some 5, Op.alloc _, _, _, _, _⟩ :: _) _ _
               go_must (refine wpList_alloc_var 101 rfl rfl info_sec ?_)
               intro w5 b5 m5 z5
               have Z5 := Lib.hid z5; clear z5)
            | (with_reducible change wpList _ _ _ (⟨none, Op.store 101 (Operand.tmp 5) _, _, _, _, _⟩ :: _) _ _
               go_must (refine wpList_store_var 101 _ _ rfl rfl _ (v.map (Value.int .u8)).toArray _ _ rfl rfl b5 (by rw [size_sec]; simp [HV.out]) (by rw [zsecV, secV_size, zsec_len]; simp [HV.out]) (ints_one _ _) ?_)
               intro w6 b6 m6 z6
               have hdr6 := (hdr4.mod m5 (fun _ _ f => f)).mod m6 (fun x hx e => by have := hdr4.lt x hx; have : x = w4.heap.size := e; omega)
               have Z6 := Lib.hid z6; clear z6))
          go_frame
          have c16 := hdr6.c1
          refine wp_region_still_tail 6 (by kernel_rfl) (by kernel_rfl) ?_
          simp only [List.take_succ_cons, List.take_zero, List.drop_succ_cons, List.drop_zero]
          still_step
          still_step
          still_step
          still_step
          still_step
          refine wpStill_val rfl (exec_load_row (P := Try.prog) 101 _ rfl rfl b6.drew Try.underlying101 rfl (by rw [size_sec]; simp [HV.out])) ?_
          refine wpStill_nil ?_
          have hls6 := ((hls.mod m5 (fun f => f)).mod m6 (fun e => by have := hls.lt; have : ms = w4.heap.size := e; omega))
          refine wpList_mapUpdate_E 63 _ _ _ rfl rfl ms k v rfl rfl rfl hls6.drew Try.underlying63 Try.underlying3 ?_
          intro w7 h7 m7 z7
          have hd7 := mid_step hdr6 HS.out HK.out rfl h7 m7.of_drew
          have hi7 : IterE w7 w2.heap.size mo secV lo (k :: done) :=
            ((hi4.mod m5 (fun f => f) (fun f => f)).mod m6 (fun e => by have : w2.heap.size = w4.heap.size := e; have := HZ.out; omega) (fun e => by have := hi4.map.lt; have : mo = w4.heap.size := e; omega)).mod m7.of_drew
              (fun e => by have := hd2.lt ms (.inr (.inl rfl)); have : w2.heap.size = ms := e; omega) (fun e => h.ne (e : mo = ms).symm)
          clear z7
          have hkeys : k ∈ lo.map (·.1) := List.mem_map_of_mem (f := (·.1)) (aget_mem hkv)
          have hsub2 : ∀ x ∈ k :: done, x ∈ lo.map (·.1) := by
            intro x hx
            rcases List.mem_cons.1 hx with rfl | hx
            · exact hkeys
            · exact H2.out x hx
          have hnd2 : (k :: done).Nodup := List.nodup_cons.2 ⟨hnk, hnd⟩
          have hle := nodup_sub_len _ _ hnd2 hsub2
          simp only [List.length_cons, List.length_map] at hle
          have hm7 : Mod (In3 b ms mo) w2 w7 := (((hmr.new_ hm4 (Nat.le_refl _)).nn_ m5).new_ m6 (by have := HZ.out; omega)).at_ m7.of_drew (.inr (.inl rfl))
          go_wp2_with fail
          go_roundg (gk - 1)
          case measure => have := H1.out; omega
          case rel => exact ⟨k :: done, by have := H1.out; simp only [List.length_cons]; omega, hnd2, hsub2, hd7, hi7, hm7⟩
  · have hm' : (D.may 0 != 0) = true := by rw [bne_iff_ne]; exact hm
    have HW := Lib.hid (show D.sync = (D.may 0, D) by simp [Dk.sync, hm])
    clear hm
    generalize hq : D.may 0 = q at *
    have HQ := Lib.hid hq; clear hq
    go_enter Try.func21, Try.ntmps21
    go_wp2_with fail
    refine (may_any h 0).mono ?_
    rintro e w' ⟨rfl, rfl⟩
    rw [HQ.out]
    go_wp2
    go_ret
    rw [HW.out]
    exact ⟨rfl, h, Mod.refl _ _⟩
end Go.Proofs.Ytgmkibckbbbhkaa
