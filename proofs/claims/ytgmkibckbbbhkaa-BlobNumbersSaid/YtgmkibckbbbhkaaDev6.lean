/- The device (dev.Disk): Wake. -/
import Derived.Test.YtgmkibckbbbhkaaDev5
import Derived.Test.YtgmkibckbbbhkaaKitB
namespace Go.Proofs.Ytgmkibckbbbhkaa
open Go.RowKit

def Dk.up (D : Dk) : Dk := { D with armed := 0, down := false }
def Dk.wake (D : Dk) (fs : List Int) : Dk := ⟨D.n, fun j => if j ∈ fs then (D.opn j).or (D.safe j) else D.safe j, fun _ => none, 0, false⟩
theorem mid_skip {D : Dk} {done : List Int} {k : Int} (h : D.opn k = none) : D.mid (k :: done) = D.mid done := by
  unfold Dk.mid
  congr 1
  funext j
  by_cases hj : j = k
  · subst hj; simp [h]
  · simp [hj]

theorem up_at {w : World} {b ms mo : Nat} {D : Dk} (h : DiskAt w b ms mo D) :
    DiskAt ((w.setCell ⟨b, 4, none⟩ (.bool false)).setCell ⟨b, 3, none⟩ (.int .i64 0)) b ms mo D.up := by
  have hm : Mod (At b) w ((w.setCell ⟨b, 4, none⟩ (.bool false)).setCell ⟨b, 3, none⟩ (.int .i64 0)) := (Mod.cellAt w b 4 _).trans (Mod.cellAt _ b 3 _)
  have hb := (h.blk.set_ 4 (.bool false)).set_ 3 (.int .i64 0)
  refine ⟨hb, ?_, ?_, h.ne, ⟨h.ok.n1, h.ok.n2, Int.le_refl 0, (by decide : (0 : Int) ≤ 9223372036854775807), h.ok.sl, h.ok.ol⟩⟩
  · obtain ⟨l, hl, hk⟩ := h.smap; exact ⟨l, hl.mod hm h.nb1, hk⟩
  · obtain ⟨l, hl, hk⟩ := h.omap; exact ⟨l, hl.mod hm h.nb2, hk⟩

set_option maxRecDepth 100000 in
set_option maxHeartbeats 1600000 in
theorem wake_any {w : World} {b ms mo : Nat} {D : Dk} (h : DiskAt w b ms mo D) {A : Option Addr} {n c : Nat} {fs : List Int} (hr : Rd w A n (fs.map (Value.int .i64))) (hA : 0 < n → ∀ g, Of A g → ¬ In3 b ms mo g) (hn : n ≤ 140737488355328) :
    Calls Try.prog 24 #[.pointer (some ⟨b, 0, none⟩), .slice A n c] w fun e w' =>
      e = .returned (.tuple #[]) ∧ DiskAt w' b ms mo (D.wake fs) ∧ Mod (In3 b ms mo) w w' := by
  have hlen : fs.length = n := by simpa using hr.1
  have hn0 : (D.n == 0) = false := by have := h.ok.n1; rw [beq_eq_false_iff_ne]; omega
  have c0 := h.c0
  have c3 := h.c3
  have c4 := h.c4
  have f3 := h.blk.frozen 3
  have f4 := h.blk.frozen 4
  have HL := Lib.hid hlen; have HA := Lib.hid hA; clear hlen hA
  go_enter Try.func24, Try.ntmps24
  go_wp2
  have hd1 := up_at h
  have hm1 : Mod (In3 b ms mo) w ((w.setCell ⟨b, 4, none⟩ (.bool false)).setCell ⟨b, 3, none⟩ (.int .i64 0)) :=
    ((Mod.cellAt w b 4 _).trans (Mod.cellAt _ b 3 _)).mono (fun g _ e => .inl e)
  generalize ((w.setCell ⟨b, 4, none⟩ (.bool false)).setCell ⟨b, 3, none⟩ (.int .i64 0)) = w1 at *
  go_loopw [25] (fun i wr => ∃ (k : Nat) (done : List Int), k ≤ n ∧ i = .int .i64 k ∧ Hid (∀ x, x ∈ done ↔ x ∈ fs.take k) ∧ DiskAt wr b ms mo (D.up.mid done) ∧ Mod (In3 b ms mo) w wr) (fun i _ => n - (intOf i).toNat)
  case atStart => exact ⟨0, [], Nat.zero_le _, rfl, Lib.hid (by simp), by rw [mid_nil]; exact hd1, hm1⟩
  case round =>
    obtain ⟨k, done, hk, rfl, hdone, hdr, hmr⟩ := hrel
    clear c0 c3 c4 f3 f4 hn0
    by_cases hlt : k < n
    · obtain ⟨g, off, v, hAe, hv, hc⟩ := (hr.mod0 hmr HA.out).at_ hlt
      subst hAe
      rw [List.getElem?_map] at hv
      obtain ⟨f, hf, rfl⟩ := Option.map_eq_some_iff.1 hv
      have hlt' : (k : Int) < n := by omega
      have HF := Lib.hid hf
      clear hv hr hf
      go_wp2
      have hd2 : DiskAt (wr.alloc (.cells #[.int .i64 f] 39)) b ms mo (D.up.mid done) := hdr.alloc _
      have hb2 : Blk (wr.alloc (.cells #[.int .i64 f] 39)) wr.heap.size 39 #[.int .i64 f] := Blk.new _ _ _
      have hm2 : Mod (In3 b ms mo) w (wr.alloc (.cells #[.int .i64 f] 39)) := hmr.alloc _
      have hz := hmr.size
      have hb3 : b < wr.heap.size ∧ ms < wr.heap.size ∧ mo < wr.heap.size := ⟨hdr.lt _ (.inl rfl), hdr.lt _ (.inr (.inl rfl)), hdr.lt _ (.inr (.inr rfl))⟩
      clear hdr hmr hc
      generalize hwq : wr.alloc (.cells #[.int .i64 f] 39) = wq at *
      clear hwq
      generalize wr.heap.size = G at *
      have HZ := Lib.hid hz; have HB := Lib.hid hb3; clear hz hb3
      refine wp_region_plan (fun w' => DiskAt w' b ms mo (D.up.mid done) ∧ Blk w' G 39 #[.int .i64 f] ∧ Mod (In3 b ms mo) w w')
        [true, true, true, true, true, true, true, true, true, true, false, false, true] (by kernel_rfl) (by kernel_rfl) ⟨hd2.drew, hb2.drew, hm2.drew⟩ ?_
      refine plan_pure rfl (fun K hK => ?_); go_simp; refine hK _ ?_; clear hK K
      refine plan_pure rfl (fun K hK => ?_); go_simp; refine hK _ ?_; clear hK K
      refine plan_pure rfl (fun K hK => ?_); go_simp; refine hK _ ?_; clear hK K
      refine plan_take _ rfl (fun w' hS => exec_load1 (P := Try.prog) 63 _ rfl rfl hS.1.c2 Try.underlying63 rfl) ?_
      refine plan_pure rfl (fun K hK => ?_); go_simp; refine hK _ ?_; clear hK K
      refine plan_take _ rfl (fun w' hS => exec_load1 (P := Try.prog) 3 _ rfl rfl (hS.2.1.cell 0) Try.underlying3 rfl) ?_
      refine plan_take (.tuple #[(((D.opn f).map secV).getD zsecV), .bool (D.opn f).isSome]) rfl (fun w' hS => ?_) ?_
      · obtain ⟨l, hl, hk⟩ := hS.1.omap
        have hk' : aget l f = D.opn f := hk f
        rw [exec_lookup (P := Try.prog) (t := 63) _ _ true rfl f rfl rfl hl Try.underlying63 Try.underlying3 info_sec, hk']
        rfl
      have hsec : ∃ v, (((D.opn f).map secV).getD zsecV) = secV v ∧ v.length = 512 ∧ ∀ u, D.opn f = some u → u = v := by
        cases ho : D.opn f with
        | some v => exact ⟨v, rfl, h.ok.ol f v ho, fun u hu => by injection hu with hu; exact hu.symm⟩
        | none => exact ⟨zsec, rfl, zsec_len, fun u hu => by cases hu⟩
      obtain ⟨v, hv1, hv2, hv3⟩ := hsec
      rw [hv1]
      have HV := Lib.hid hv2; have HV3 := Lib.hid hv3; clear hv1 hv2 hv3
      generalize hq : (D.opn f).isSome = q
      have HQ := Lib.hid hq; clear hq
      refine plan_pure rfl (fun K hK => ?_); go_simp; refine hK _ ?_; clear hK K
      refine plan_pure rfl (fun K hK => ?_); go_simp; refine hK _ ?_; clear hK K
      refine plan_pure rfl (fun K hK => ?_); go_simp; refine hK _ ?_; clear hK K
      refine plan_val rfl (exec_alloc (P := Try.prog) 101 rfl info_sec) ⟨hd2.drew.alloc _, hb2.drew.alloc _, hm2.drew.alloc _⟩ ?_
      have hbn : Blk (wq.drew.alloc (.cells zsecV.cells 101)) wq.drew.heap.size 101 zsecV.cells := Blk.new _ _ _
      have hS2 : ∀ x, In3 b ms mo x → x ≠ wq.drew.heap.size := fun x hx => Nat.ne_of_lt (hd2.lt x hx)
      have hS3 : G ≠ wq.drew.heap.size := Nat.ne_of_lt hb2.lt
      have hS4 : w.heap.size ≤ wq.drew.heap.size := hm2.size
      have hw3 : ∃ w3, ((wq.drew.alloc (.cells zsecV.cells 101)).setRow wq.drew.heap.size (v.map (Value.int .u8)).toArray) = w3 := ⟨_, rfl⟩
      obtain ⟨w3, hw3⟩ := hw3
      have hm3 : Mod (At wq.drew.heap.size) (wq.drew.alloc (.cells zsecV.cells 101)) w3 := by rw [← hw3]; exact Mod.rowAt _ _ _
      have hb3 : Blk w3 wq.drew.heap.size 101 (v.map (Value.int .u8)).toArray := by rw [← hw3]; exact hbn.setRow_ _
      have hd3 : DiskAt w3 b ms mo (D.up.mid done) := (hd2.drew.alloc _).mod hm3 hS2
      have hbG : Blk w3 G 39 #[.int .i64 f] := (hb2.drew.alloc _).mod hm3 hS3
      have hmw : Mod (In3 b ms mo) w w3 := (hm2.drew.alloc _).new_ hm3 hS4
      refine plan_unit rfl (exec_store_row (P := Try.prog) 101 _ _ rfl rfl rfl hbn (by rw [size_sec]; simp [HV.out]) (by rw [zsecV, secV_size, zsec_len]; simp [HV.out]) (ints_one _ _)) ?_ ?_
      · rw [hw3]; exact ⟨hd3, hbG, hmw⟩
      rw [hw3]
      refine plan_pure rfl (fun K hK => ?_); go_simp; refine hK _ ?_; clear hK K
      refine plan_nil ?_
      clear hw3 hS2 hS3 hS4 hm3 hbn hd2 hb2 hm2
      have hb6 : Blk w3 wq.heap.size 101 (v.map (Value.int .u8)).toArray := hb3
      clear hb3
      have hrel : ∀ w4, DiskAt w4 b ms mo (D.up.mid (f :: done)) → Mod (In3 b ms mo) w w4 →
          ∃ (k_1 : Nat) (done : List Int), k_1 ≤ n ∧ Value.int .i64 ((k : Int) + 1) = .int .i64 k_1 ∧ Hid (∀ x, x ∈ done ↔ x ∈ fs.take k_1) ∧ DiskAt w4 b ms mo (D.up.mid done) ∧ Mod (In3 b ms mo) w w4 := by
        intro w4 h1 h2
        refine ⟨k + 1, f :: done, by omega, by go_num, Lib.hid (fun x => ?_), h1, h2⟩
        rw [List.mem_cons, hdone.out x, List.take_succ_eq_append_getElem (by rw [HL.out]; exact hlt), List.mem_append, List.mem_singleton]
        have := HF.out
        rw [List.getElem?_eq_getElem (by rw [HL.out]; exact hlt)] at this
        injection this with this
        rw [this]; exact Or.comm
      have HR := Lib.hid hrel; clear hrel
      cases q with
      | false =>
        have ho : D.up.opn f = none := by
          have := HQ.out; rw [Option.isSome_eq_false_iff] at this
          exact Option.isNone_iff_eq_none.1 this
        have hd4 : DiskAt w3 b ms mo (D.up.mid (f :: done)) := by rw [mid_skip ho]; exact hd3
        clear ho
        go_wp2
        go_roundw
        case rel => exact HR.out _ hd4 hmw
        case measure => simp [intOf]; omega
      | true =>
        obtain ⟨u, hu⟩ := Option.isSome_iff_exists.1 HQ.out
        have hvu : D.up.opn f = some v := by rw [← HV3.out u hu]; exact hu
        have HK := Lib.hid hvu; clear hvu hu
        go_wp2
        have c1 := hd3.c1
        have cg := hbG.cell 0
        obtain ⟨ls, hls, hks⟩ := hd3.smap
        have HS := Lib.hid hks; clear hks
        refine wp_region_still_tail 7 (by kernel_rfl) (by kernel_rfl) ?_
        simp only [List.take_succ_cons, List.take_zero, List.drop_succ_cons, List.drop_zero]
        still_step
        still_step
        still_step
        still_step
        still_step
        refine wpStill_val rfl (exec_load1 (P := Try.prog) 3 _ rfl rfl (hbG.drew.cell 0) Try.underlying3 rfl) ?_
        refine wpStill_val rfl (exec_load_row (P := Try.prog) 101 _ rfl rfl hb6.drew Try.underlying101 rfl (by rw [size_sec]; simp [HV.out])) ?_
        refine wpStill_nil ?_
        refine wpList_mapUpdate_E 63 _ _ _ rfl rfl ms f v rfl rfl rfl hls.drew Try.underlying63 Try.underlying3 ?_
        intro w7 h7 m7 z7
        have hd7 := mid_step hd3 HS.out HK.out rfl h7 m7.of_drew
        have hmw7 : Mod (In3 b ms mo) w w7 := hmw.at_ m7.of_drew (.inr (.inl rfl))
        clear z7
        go_wp2
        go_roundw
        case rel => exact HR.out _ hd7 hmw7
        case measure => simp [intOf]; omega
    · have hkn : k = n := by omega
      have hlt' : ¬ (k : Int) < n := by omega
      have HD := Lib.hid (show ∀ x, x ∈ done ↔ x ∈ fs from fun x => by rw [hdone.out x, List.take_of_length_le (by rw [HL.out]; omega)])
      clear hkn hr
      have c2r := hdr.c2
      obtain ⟨lo, hlo, hko⟩ := hdr.omap
      clear hko
      go_wp2_with (first
        | (with_reducible change wpList _ _ _ (⟨_, Op.call { callee := Callee.builtin Builtin.clear, args := _, argTypes := _ }, _, _, _, _⟩ :: _) _ _
           go_must (refine wpList_clear_E 63 _ rfl rfl mo rfl hlo Try.underlying63 ?_)
           intro w5 h5 m5 z5
           clear z5))
      go_end0
      refine ⟨rfl, clear_at hdr h5 m5 rfl rfl rfl (fun j => ?_) (fun j => rfl), hmr.at_ m5 (.inr (.inr rfl))⟩
      simp only [Dk.wake, Dk.mid, Dk.up]
      by_cases hj : j ∈ fs
      · rw [if_pos hj, if_pos ((HD.out j).2 hj)]
      · rw [if_neg hj, if_neg (fun x => hj ((HD.out j).1 x))]
end Go.Proofs.Ytgmkibckbbbhkaa
