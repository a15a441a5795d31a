/- Own lemmas of several kinds, put together: Ca2, Ca3, Ca4, Ca5. -/
import Derived.Test.YtijmkbhbpbkkoaaGreatCa1
import Derived.Test.YtijmkbhbpbkkoaaGreatDev7
import Derived.Test.YtijmkbhbpbkkoaaGreatKitC
import Derived.Test.YtijmkbhbpbkkoaaGreatDev6
/- The cache (cache.Cache): keep. -/
namespace Go.Proofs.YtijmkbhbpbkkoaaGreat
open Go.RowKit

def KeepP (w : World) (c b mk : Nat) (most now hits misses : Int) (l : KL) (k : Int) (bs : List Int) (e : Ending) (w' : World) : Prop :=
  ∃ l' x, e = .returned (.tuple #[]) ∧ Kept (aset l k x) most l' ∧ x.bs = bs ∧ x.t = now + 1 ∧ CMem w' c b mk most (now + 1) hits misses l' ∧ (∀ g, Of x.A g → w.heap.size ≤ g) ∧ Mod (InCM c mk) w w'

theorem info_kept : (Tryz.prog.info? 103).map (fun i => (i.zero, i.size)) = some (some (.agg #[.slice none 0 0, .int .i64 0]), 2) := by kernel_rfl
theorem size_kept : (Tryz.prog.info? 103).map (·.size) = some 2 := size_of info_kept
theorem field_kept1 (w : World) (A : Option Addr) (n c : Nat) (t : Int) : (Instr.field 103 (.agg #[.slice A n c, .int .i64 t]) 1).run Tryz.prog w = .ok (.int .i64 t) w := by kernel_rfl

set_option maxRecDepth 100000 in
set_option maxHeartbeats 3200000 in
theorem keep_any {w : World} {c b mk : Nat} {most now hits misses : Int} {l : KL} (h : CMem w c b mk most now hits misses l) (k : Int) {A : Option Addr} {cc : Nat} {bs : List Int}
    (hr : Rd w A 512 (bs.map (Value.int .u8))) (hA : ∀ g, Of A g → g ≠ c) (h0 : 0 ≤ now) (h1 : now ≤ 1152921504606846976) :
    Calls Tryz.prog 61 #[.pointer (some ⟨c, 0, none⟩), .int .i64 k, .slice A 512 cc] w (KeepP w c b mk most now hits misses l k bs) := by
  have c2 : w.cell? ⟨c, 2, none⟩ = some (.int .i64 now) := h.blk.cell 2
  have f2 := h.blk.frozen 2
  have m1 : Mod (At c) w (w.setCell ⟨c, 2, none⟩ (.int .i64 (now + 1))) := Mod.cellAt _ _ _ _
  have hC1 : CMem (w.setCell ⟨c, 2, none⟩ (.int .i64 (now + 1))) c b mk most (now + 1) hits misses l := h.cellc m1 (h.blk.set_ 2 (.int .i64 (now + 1)))
  have hr1 := hr.mod m1 (fun g hg e => hA g hg e)
  have HI := Lib.hid (And.intro m1 (And.intro hC1 hr1))
  have HS := Lib.hid (show (w.setCell ⟨c, 2, none⟩ (.int .i64 (now + 1))).heap.size = w.heap.size by simp)
  clear hr hA m1 hC1 hr1 h
  go_enter Tryz.func61, Tryz.ntmps61
  go_wp2_with fail
  clear c2 f2
  obtain ⟨m1, hC1, hr1⟩ := HI.out
  clear HI
  generalize w.setCell ⟨c, 2, none⟩ (.int .i64 (now + 1)) = w1 at *
  generalize hno : now + 1 = no at *
  have HNO := Lib.hid hno; clear hno
  refine wp_region_planT (fun w' => CMem w' c b mk most no hits misses l) 12 [(0, 0), (1, 0), (2, 0), (3, 1), (4, 0), (5, 0), (7, 0), (8, 0), (9, 0), (10, 1), (6, 2), (11, 0), (12, 2)] (by kernel_rfl) (by kernel_rfl) hC1.drew ?_
  iterate 3 (refine pt_pure rfl rfl (fun K hK => ?_); go_simp; refine hK _ ?_; clear hK K)
  refine pt_take _ rfl rfl (fun w' hS => exec_load1 (P := Tryz.prog) 59 _ rfl rfl (hS.blk.cell 3) Tryz.underlying59 rfl) (fun K hK => ?_); go_simp; refine hK _ ?_; clear hK K
  iterate 5 (refine pt_pure rfl rfl (fun K hK => ?_); go_simp; refine hK _ ?_; clear hK K)
  refine pt_take _ rfl rfl (fun w' hS => exec_load1 (P := Tryz.prog) 3 _ rfl rfl (hS.blk.cell 2) Tryz.underlying3 rfl) (fun K hK => ?_); go_simp; refine hK _ ?_; clear hK K
  refine pt_call rfl rfl (fun K hK => ?_); go_simp; refine ⟨_, _, ⟨rfl, rfl⟩, hK _ _ _ ?_⟩; clear hK K
  refine (clone_any hr1.drew (by omega)).mono ?_
  rintro r w2 ⟨v, rfl, o2, m2⟩
  have m2' : Mod Nn w1 w2 := m2.of_drew
  have hC2 := hC1.mod m2' (fun _ _ f => f)
  refine ⟨_, rfl, fun _ => hC2, ?_⟩
  obtain ⟨A2, cap2, rfl, hr2, hA2⟩ := own_rd o2
  have hF2 : ∀ g, Of A2 g → w.heap.size ≤ g ∧ g < w2.heap.size := fun g hg => by
    have h1 := hA2 g hg
    have h2 := HS.out
    exact ⟨by have := h1.1; simp at this; omega, h1.2⟩
  have HF := Lib.hid hF2; clear hF2 hA2
  iterate 1 (refine pt_pure rfl rfl (fun K hK => ?_); go_simp; refine hK _ ?_; clear hK K)
  refine pt_mapUpdate 59 _ _ _ rfl rfl rfl k (⟨A2, cap2, bs, no⟩ : Kp) rfl rfl rfl hC2.map Tryz.underlying59 Tryz.underlying3 ?_
  intro w3 h3 m3 z3
  refine ⟨fun h => (by simp at h), fun K hK => ?_⟩; go_simp; refine hK _ ?_; clear hK K
  refine pt_nil ?_
  have hC3 : CMem w3 c b mk most no hits misses (aset l k ⟨A2, cap2, bs, no⟩) := by
    refine ⟨hC2.blk.mod m3 (fun e => hC2.ne (e : c = mk).symm), h3, fun e he => ?_, fun e he g hg => ?_⟩
    · rcases (mem_aset hC2.map.nd).1 he with ⟨h1, -⟩ | rfl
      · exact (hC2.rd e h1).mod m3 (fun g hg => (hC2.ap e h1 g hg).2.2)
      · exact hr2.mod m3 (fun g hg e => by
          have e : g = mk := e
          have h1 := hC1.lt mk (.inr (.inl rfl))
          have h2 := (HF.out g hg).1
          have h3 := HS.out
          omega)
    · rcases (mem_aset hC2.map.nd).1 he with ⟨h1, -⟩ | rfl
      · have := hC2.ap e h1 g hg
        exact ⟨by omega, this.2⟩
      · have h1 := hC1.lt mk (.inr (.inl rfl))
        have h1' := hC1.lt c (.inl rfl)
        have h2 := HF.out g hg
        have h3 := HS.out
        exact ⟨by omega, by omega, by omega⟩
  have M3 : Mod (InCM c mk) w w3 := (((m1.mono (fun _ _ e => .inl e)).nn_ m2').at_ m3 (.inr rfl))
  have hA3 : ∀ g, Of A2 g → w.heap.size ≤ g := fun g hg => (HF.out g hg).1
  have hk3 : aget (aset l k (⟨A2, cap2, bs, no⟩ : Kp)) k = some ⟨A2, cap2, bs, no⟩ := by rw [aget_aset, if_pos rfl]
  have HX : Hid (∀ l' e w', e = .returned (.tuple #[]) → Kept (aset l k (⟨A2, cap2, bs, no⟩ : Kp)) most l' → CMem w' c b mk most no hits misses l' → Mod (InCM c mk) w w' → KeepP w c b mk most now hits misses l k bs e w') := Lib.hid (fun l' e w' h1 h2 h3 h4 =>
    ⟨l', ⟨A2, cap2, bs, no⟩, h1, h2, rfl, HNO.out.symm, by rw [HNO.out]; exact h3, hA3, h4⟩)
  clear hA3 HF hr2 o2 m1 m2 m2' hC1 hC2 hr1 z3 h3 m3
  generalize (⟨A2, cap2, bs, no⟩ : Kp) = x at *
  generalize aset l k x = l1 at *
  have HK3 := Lib.hid hk3; clear hk3
  by_cases hle : (l1.length : Int) ≤ most
  · have HL := Lib.hid hle
    go_wp2_with fail
    refine wp_region_planC (fun w' => CMem w' c b mk most no hits misses l1) [(0, true), (1, true), (2, true), (3, true), (4, true), (5, true), (6, true), (7, true), (8, true), (9, true)] (by kernel_rfl) (by kernel_rfl) hC3.drew ?_
    iterate 3 (refine pc_pure rfl rfl (fun K hK => ?_); go_simp; refine hK _ ?_; clear hK K)
    refine pc_take _ rfl rfl (fun w' hS => exec_load1 (P := Tryz.prog) 59 _ rfl rfl (hS.blk.cell 3) Tryz.underlying59 rfl) (fun K hK => ?_); go_simp; refine hK _ ?_; clear hK K
    refine pc_take _ rfl rfl (fun w' hS => exec_len_map (P := Tryz.prog) _ rfl rfl hS.map Tryz.underlying59) (fun K hK => ?_); go_simp; refine hK _ ?_; clear hK K
    iterate 3 (refine pc_pure rfl rfl (fun K hK => ?_); go_simp; refine hK _ ?_; clear hK K)
    refine pc_take _ rfl rfl (fun w' hS => exec_load1 (P := Tryz.prog) 3 _ rfl rfl (hS.blk.cell 1) Tryz.underlying3 rfl) (fun K hK => ?_); go_simp; refine hK _ ?_; clear hK K
    iterate 1 (refine pc_pure rfl rfl (fun K hK => ?_); go_simp; refine hK _ ?_; clear hK K)
    refine pc_nil ?_
    go_wp2
    refine bodyPost_ret (v := .tuple #[]) (by simp [results, Tryz.results61, go_sem]) rfl ?_
    exact HX.out l1 _ _ rfl (.inl ⟨HL.out, rfl⟩) hC3.drew M3.drew
  · have HL := Lib.hid (show most < (l1.length : Int) by omega)
    have hle' : decide ((l1.length : Int) ≤ most) = false := by simpa using hle
    go_wp2_with fail
    refine wp_region_planC (fun w' => CMem w' c b mk most no hits misses l1) [(0, true), (1, true), (2, true), (3, true), (4, true), (5, true), (6, true), (7, true), (8, true), (9, true)] (by kernel_rfl) (by kernel_rfl) hC3.drew ?_
    iterate 3 (refine pc_pure rfl rfl (fun K hK => ?_); go_simp; refine hK _ ?_; clear hK K)
    refine pc_take _ rfl rfl (fun w' hS => exec_load1 (P := Tryz.prog) 59 _ rfl rfl (hS.blk.cell 3) Tryz.underlying59 rfl) (fun K hK => ?_); go_simp; refine hK _ ?_; clear hK K
    refine pc_take _ rfl rfl (fun w' hS => exec_len_map (P := Tryz.prog) _ rfl rfl hS.map Tryz.underlying59) (fun K hK => ?_); go_simp; refine hK _ ?_; clear hK K
    iterate 3 (refine pc_pure rfl rfl (fun K hK => ?_); go_simp; refine hK _ ?_; clear hK K)
    refine pc_take _ rfl rfl (fun w' hS => exec_load1 (P := Tryz.prog) 3 _ rfl rfl (hS.blk.cell 1) Tryz.underlying3 rfl) (fun K hK => ?_); go_simp; refine hK _ ?_; clear hK K
    iterate 1 (refine pc_pure rfl rfl (fun K hK => ?_); go_simp; refine hK _ ?_; clear hK K)
    refine pc_nil ?_
    clear hle hle'
    have hC4 := hC3.drew
    have M4 := M3.drew
    clear hC3 M3
    generalize w3.drew = w4 at *
    have c3 : w4.cell? ⟨c, 3, none⟩ = some (.map (some mk)) := hC4.blk.cell 3
    go_wp2_with (first
      | (with_reducible change wpList _ _ _ (⟨_, Op.range _ _, _, _, _, _⟩ :: _) _ _
         go_must (refine wpList_range_E 59 _ rfl rfl mk rfl hC4.map Tryz.underlying59 ?_)
         intro w5 i5 m5 z5
         clear z5))
    have hC5 := hC4.mod m5 (fun _ _ f => f)
    have M5 := M4.nn_ m5
    have HLT := Lib.hid (show ∀ j, InM c mk l1 j → j ≠ w4.heap.size from fun j hj => by have := hC4.lt j hj; omega)
    have HW4 := Lib.hid (show w.heap.size ≤ w4.heap.size from M4.size)
    clear c3 m5 hC4 M4
    generalize w4.heap.size = it at *
    go_frame
    go_loopg [6] l1.length (fun q v6 wr => ∃ (e : Int) (y : Kp) (done : List Int), v6 = .int .i64 e ∧ aget l1 e = some y ∧ (∀ j ∈ done, ∀ z, aget l1 j = some z → y.t ≤ z.t) ∧ q + done.length = l1.length ∧ done.Nodup ∧ (∀ z ∈ done, z ∈ l1.map (·.1)) ∧ CMem wr c b mk most no hits misses l1 ∧ IterE wr it mk Kp.enc l1 done ∧ Mod (InCM c mk) w wr)
    case atStart => exact ⟨k, x, [], rfl, HK3.out, (fun j hj => by cases hj), rfl, List.nodup_nil, (fun j hj => by cases hj), hC5, i5, M5⟩
    case round =>
      clear hC5 i5 M5
      obtain ⟨e, y, done, rfl, hey, hmin, hq, hnd, hsub, hCr, hir, hmr⟩ := hrel
      have H1 := Lib.hid hq; have H2 := Lib.hid hsub; have H3 := Lib.hid hey; have H4 := Lib.hid hmin; clear hq hsub hey hmin
      rcases run_next_map (P := Tryz.prog) hir with ⟨hall, hrun⟩ | ⟨j, v, w5, hjv, hnj, hrun, hi5, hm5, hz5⟩
      · have HA := Lib.hid hall; clear hall
        have c3 : wr.cell? ⟨c, 3, none⟩ = some (.map (some mk)) := hCr.blk.cell 3
        go_wp2_with (first
          | (with_reducible change wpList _ _ _ (⟨_, Op.call { callee := Callee.builtin Builtin.delete, args := _, argTypes := _ }, _, _, _, _⟩ :: _) _ _
             go_must (refine wpList_delete_E 59 _ _ _ rfl rfl mk e rfl rfl hCr.map Tryz.underlying59 Tryz.underlying3 ?_)
             intro w6 h6 m6 z6))
        have hC6 : CMem w6 c b mk most no hits misses (adel l1 e) :=
          ⟨hCr.blk.mod m6 (fun e => hCr.ne (e : c = mk).symm), h6, fun z hz => (hCr.rd z (mem_adel.1 hz).1).mod m6 (fun g hg => (hCr.ap z (mem_adel.1 hz).1 g hg).2.2), fun z hz g hg => by
            have := hCr.ap z (mem_adel.1 hz).1 g hg
            exact ⟨by omega, this.2⟩⟩
        have HP := HX.out (adel l1 e) (.returned (.tuple #[])) w6 rfl (.inr ⟨HL.out, e, y, H3.out, fun z hz => H4.out z.1 (HA.out z hz) z.2 (aget_mem' hCr.map.nd hz), rfl⟩) hC6 (hmr.at_ m6 (.inr rfl))
        have HPP := Lib.hid HP; clear HP
        go_end0
        exact HPP.out
      · have hC5 := hCr.mod hm5 (fun z hz e => HLT.out z hz (e : z = it))
        have hM5 : Mod (InCM c mk) w w5 := hmr.new_ hm5 HW4.out
        have HZ := Lib.hid hz5; clear hz5
        have HV := Lib.hid hjv
        have HI5 := Lib.hid hi5
        have hgt : it < wr.heap.size := hir.lt
        have hlt5 : w.heap.size ≤ w5.heap.size := hM5.size
        have HLT5 := Lib.hid (show ∀ j, InM c mk l1 j → j ≠ w5.heap.size from fun j hj => by have := hC5.lt j hj; omega)
        have HIT := Lib.hid (show it ≠ w5.heap.size from by have := hi5.lt; omega)
        clear hCr hmr hir hm5
        go_wp2_with (first
          | (with_reducible change wpList _ _ _ (⟨_, Op.entry _, _, _, _, _⟩ :: _) _ _
             go_must (refine wpList_entry_E _ rfl rfl _ j v done rfl hi5 hjv ?_))
          | (with_reducible change wpList _ _ _ (⟨some 8, Op.alloc _, _, _, _, _⟩ :: _) _ _
             go_must (refine wpList_alloc_var 103 rfl rfl info_kept ?_)
             intro w6 b6 m6 z6
             have Z6 := Lib.hid z6; clear z6)
          | (with_reducible change wpList _ _ _ (⟨none, Op.store 103 (Operand.tmp 8) _, _, _, _, _⟩ :: _) _ _
             go_must (refine wpList_store_var 103 _ _ rfl rfl _ #[.slice v.A 512 v.c, .int .i64 v.t] _ _ rfl rfl b6 (by rw [size_kept]; rfl) rfl (by simp [Value.oneCell']) ?_)
             intro w7 b7 m7 z7
             have Z7 := Lib.hid z7; clear z7))
        have hC7 := (hC5.mod m6 (fun _ _ f => f)).mod m7 (fun z hz e => HLT5.out z hz (e : z = w5.heap.size))
        have hM7 : Mod (InCM c mk) w w7 := (hM5.nn_ m6).new_ m7 hlt5
        have hi7 : IterE w7 it mk Kp.enc l1 (j :: done) := (HI5.out.mod m6 (fun f => f) (fun f => f)).mod m7 (fun e => HIT.out (e : it = w5.heap.size)) (fun e => HLT5.out mk (.inr (.inl rfl)) (e : mk = w5.heap.size))
        clear hC5 hM5 m6 m7 b6 hjv hi5 hlt5 hgt
        have hnext : ∀ z ∈ j :: done, z ∈ l1.map (·.1) := by
          intro z hz
          rcases List.mem_cons.1 hz with rfl | hz
          · exact List.mem_map_of_mem (f := (·.1)) (aget_mem HV.out)
          · exact H2.out z hz
        have hnd2 : (j :: done).Nodup := List.nodup_cons.2 ⟨hnj, hnd⟩
        have hle := nodup_sub_len _ _ hnd2 hnext
        simp only [List.length_cons, List.length_map] at hle
        have HN := Lib.hid hnext; clear hnext
        have HD2 := Lib.hid hnd2; clear hnd2 hnd hnj
        have h7 : CMem w7.drew c b mk most no hits misses l1 ∧ Blk w7.drew w5.heap.size 103 #[.slice v.A 512 v.c, .int .i64 v.t] := ⟨hC7.drew, b7.drew⟩
        clear hC7 b7
        have HM7 := Lib.hid (And.intro hM7.drew (show IterE w7.drew it mk Kp.enc l1 (j :: done) from hi7.keep rfl rfl)); clear hM7 hi7
        by_cases hlt : v.t < y.t
        · have hlt' : decide (v.t < y.t) = true := by simpa using hlt
          go_frame
          refine wp_region_planC (fun w' => CMem w' c b mk most no hits misses l1 ∧ Blk w' w5.heap.size 103 #[.slice v.A 512 v.c, .int .i64 v.t]) [(0, true), (1, true), (2, true), (3, true), (4, true), (5, true), (6, true), (7, true), (8, true), (9, true)] (by kernel_rfl) (by kernel_rfl) h7 ?_
          iterate 1 (refine pc_pure rfl rfl (fun K hK => ?_); go_simp; refine hK _ ?_; clear hK K)
          refine pc_take _ rfl rfl (fun w' hS => exec_load1 (P := Tryz.prog) 3 _ rfl rfl (hS.2.cell 1) Tryz.underlying3 rfl) (fun K hK => ?_); go_simp; refine hK _ ?_; clear hK K
          iterate 3 (refine pc_pure rfl rfl (fun K hK => ?_); go_simp; refine hK _ ?_; clear hK K)
          refine pc_take _ rfl rfl (fun w' hS => exec_load1 (P := Tryz.prog) 59 _ rfl rfl (hS.1.blk.cell 3) Tryz.underlying59 rfl) (fun K hK => ?_); go_simp; refine hK _ ?_; clear hK K
          iterate 1 (refine pc_pure rfl rfl (fun K hK => ?_); go_simp; refine hK _ ?_; clear hK K)
          refine pc_take _ rfl rfl (fun w' hS => exec_lookup_some (P := Tryz.prog) (t := 59) _ _ rfl e y rfl rfl hS.1.map Tryz.underlying59 Tryz.underlying3 info_kept H3.out (v := .agg #[.slice y.A 512 y.c, .int .i64 y.t]) rfl) (fun K hK => ?_); go_simp; refine hK _ ?_; clear hK K
          have hfl := fun w => field_kept1 w y.A 512 y.c y.t
          iterate 2 (refine pc_pure rfl rfl (fun K hK => ?_); go_simp; refine hK _ ?_; clear hK K)
          refine pc_nil ?_
          clear hfl
          clear hlt'
          go_wp2_with fail
          go_roundg (gk - 1)
          case measure => have := H1.out; omega
          case rel => exact ⟨j, v, j :: done, rfl, HV.out, (fun z hz u hu => by
            rcases List.mem_cons.1 hz with rfl | hz
            · rw [HV.out] at hu; injection hu with hu; subst hu; exact Int.le_refl _
            · have := H4.out z hz u hu; omega), by have := H1.out; simp only [List.length_cons]; omega, HD2.out, HN.out, h7.1, HM7.out.2, HM7.out.1⟩
        · have hlt' : decide (v.t < y.t) = false := by simpa using hlt
          go_frame
          refine wp_region_planC (fun w' => CMem w' c b mk most no hits misses l1 ∧ Blk w' w5.heap.size 103 #[.slice v.A 512 v.c, .int .i64 v.t]) [(0, true), (1, true), (2, true), (3, true), (4, true), (5, true), (6, true), (7, true), (8, true), (9, true)] (by kernel_rfl) (by kernel_rfl) h7 ?_
          iterate 1 (refine pc_pure rfl rfl (fun K hK => ?_); go_simp; refine hK _ ?_; clear hK K)
          refine pc_take _ rfl rfl (fun w' hS => exec_load1 (P := Tryz.prog) 3 _ rfl rfl (hS.2.cell 1) Tryz.underlying3 rfl) (fun K hK => ?_); go_simp; refine hK _ ?_; clear hK K
          iterate 3 (refine pc_pure rfl rfl (fun K hK => ?_); go_simp; refine hK _ ?_; clear hK K)
          refine pc_take _ rfl rfl (fun w' hS => exec_load1 (P := Tryz.prog) 59 _ rfl rfl (hS.1.blk.cell 3) Tryz.underlying59 rfl) (fun K hK => ?_); go_simp; refine hK _ ?_; clear hK K
          iterate 1 (refine pc_pure rfl rfl (fun K hK => ?_); go_simp; refine hK _ ?_; clear hK K)
          refine pc_take _ rfl rfl (fun w' hS => exec_lookup_some (P := Tryz.prog) (t := 59) _ _ rfl e y rfl rfl hS.1.map Tryz.underlying59 Tryz.underlying3 info_kept H3.out (v := .agg #[.slice y.A 512 y.c, .int .i64 y.t]) rfl) (fun K hK => ?_); go_simp; refine hK _ ?_; clear hK K
          have hfl := fun w => field_kept1 w y.A 512 y.c y.t
          iterate 2 (refine pc_pure rfl rfl (fun K hK => ?_); go_simp; refine hK _ ?_; clear hK K)
          refine pc_nil ?_
          clear hfl
          clear hlt'
          go_wp2_with fail
          go_roundg (gk - 1)
          case measure => have := H1.out; omega
          case rel => exact ⟨e, y, j :: done, rfl, H3.out, (fun z hz u hu => by
            rcases List.mem_cons.1 hz with rfl | hz
            · rw [HV.out] at hu; injection hu with hu; subst hu; omega
            · exact H4.out z hz u hu), by have := H1.out; simp only [List.length_cons]; omega, HD2.out, HN.out, h7.1, HM7.out.2, HM7.out.1⟩
end Go.Proofs.YtijmkbhbpbkkoaaGreat

/- The cache (cache.Cache): New, Sectors, Sync, Read, Write. -/
namespace Go.Proofs.YtijmkbhbpbkkoaaGreat
open Go.RowKit

structure CAt (w : World) (c b ms mo mk : Nat) (D : Dk) (most now hits misses : Int) (l : KL) (T : TL) : Prop where
  mem : CMem w c b mk most now hits misses l
  d : DiskAt w b ms mo D
  coh : ∀ e ∈ l, e.2.bs = D.latest e.1 ∧ 0 ≤ e.1 ∧ e.1 < D.n
  lru : Lru l now most T (!D.down)
  sep : ∀ k, In3 b ms mo k → ¬ InM c mk l k
  m1 : 1 ≤ most
  n0 : 0 ≤ now
  h0 : 0 ≤ hits
  s0 : 0 ≤ misses
  hs : hits + misses ≤ now
/-- all of the cache's -/
def InA (c b ms mo mk : Nat) (l : KL) : Nat → Prop := fun k => InM c mk l k ∨ In3 b ms mo k
/-- what a deed writes -/
def InW (c b ms mo mk : Nat) : Nat → Prop := fun k => InCM c mk k ∨ In3 b ms mo k

section
variable {w w' : World} {c b ms mo mk : Nat} {D : Dk} {most now hits misses : Int} {l : KL} {T : TL} {S : Nat → Prop}
theorem CAt.mod (h : CAt w c b ms mo mk D most now hits misses l T) (hm : Mod S w w') (hn : ∀ k, InA c b ms mo mk l k → ¬ S k) : CAt w' c b ms mo mk D most now hits misses l T :=
  ⟨h.mem.mod hm (fun k hk => hn k (.inl hk)), h.d.mod hm (fun k hk => hn k (.inr hk)), h.coh, h.lru, h.sep, h.m1, h.n0, h.h0, h.s0, h.hs⟩
theorem CAt.quiet (h : CAt w c b ms mo mk D most now hits misses l T) (hm : Mod Nn w w') : CAt w' c b ms mo mk D most now hits misses l T := h.mod hm (fun _ _ f => f)
theorem CAt.lt (h : CAt w c b ms mo mk D most now hits misses l T) : ∀ k, InA c b ms mo mk l k → k < w.heap.size := fun k hk => hk.elim (h.mem.lt k) (h.d.lt k)
theorem inM_of {k : Nat} (h : InCM c mk k) : InM c mk l k := h.elim .inl (fun h => .inr (.inl h))
theorem inA_of {k : Nat} (h : InW c b ms mo mk k) : InA c b ms mo mk l k := h.elim (fun h => .inl (inM_of h)) .inr

/-- a step of the cache: what it leaves -/
structure CTo (w w' : World) (c b ms mo mk : Nat) (l l' : KL) : Prop where
  md : Mod (InW c b ms mo mk) w w'
  G : ∀ e ∈ l', ∀ g, Of e.2.A g → (∃ x ∈ l, Of x.2.A g) ∨ w.heap.size ≤ g
theorem CTo.A {l' : KL} (h : CTo w w' c b ms mo mk l l') {k : Nat} (hk : InA c b ms mo mk l' k) : InA c b ms mo mk l k ∨ w.heap.size ≤ k := by
  rcases hk with (hk | hk | ⟨e, he, hk⟩) | hk
  · exact .inl (.inl (.inl hk))
  · exact .inl (.inl (.inr (.inl hk)))
  · rcases h.G e he k hk with ⟨x, hx, hxk⟩ | h1
    · exact .inl (.inl (.inr (.inr ⟨x, hx, hxk⟩)))
    · exact .inr h1
  · exact .inl (.inr hk)
theorem CTo.same (hm : Mod (InW c b ms mo mk) w w') : CTo w w' c b ms mo mk l l := ⟨hm, fun e he g hg => .inl ⟨e, he, hg⟩⟩

/-- behind keep -/
theorem CAt.kept (h : CAt w c b ms mo mk D most now hits misses l T) {wk : World} {hits' misses' : Int} {l' : KL} {k : Int} {x : Kp} {bs : List Int} (hk : Kept (aset l k x) most l') (hx : x.bs = bs) (ht : x.t = now + 1)
    (hC : CMem w' c b mk most (now + 1) hits' misses' l') (hA : ∀ g, Of x.A g → wk.heap.size ≤ g) (hm : Mod (InCM c mk) w w') (hwk : w.heap.size ≤ wk.heap.size) (hb : bs = D.latest k) (hk0 : 0 ≤ k) (hk1 : k < D.n)
    (h0 : 0 ≤ hits') (h1 : 0 ≤ misses') (hs : hits' + misses' ≤ now + 1) : CAt w' c b ms mo mk D most (now + 1) hits' misses' l' (touchL T k (now + 1)) ∧ CTo w w' c b ms mo mk l l' := by
  have hmem : ∀ e ∈ l', (e ∈ l ∧ e.1 ≠ k) ∨ e = (k, x) := fun e he => (mem_aset h.mem.map.nd).1 (hk.mem he)
  have hG : ∀ e ∈ l', ∀ g, Of e.2.A g → (∃ x ∈ l, Of x.2.A g) ∨ w.heap.size ≤ g := fun e he g hg => by
    rcases hmem e he with ⟨h1, -⟩ | rfl
    · exact .inl ⟨e, h1, hg⟩
    · exact .inr (Nat.le_trans hwk (hA g hg))
  refine ⟨⟨hC, h.d.mod hm (fun j hj hin => h.sep j hj (inM_of hin)), fun e he => ?_, Kept.lru h.lru h.m1 ht hk, fun j hj hin => ?_, h.m1, by have := h.n0; omega, h0, h1, hs⟩, hm.mono (fun _ _ e => .inl e), hG⟩
  · rcases hmem e he with ⟨h1, -⟩ | rfl
    · exact h.coh e h1
    · exact ⟨hx.trans hb, hk0, hk1⟩
  · rcases hin with hin | hin | ⟨e, he, hin⟩
    · exact h.sep j hj (.inl hin)
    · exact h.sep j hj (.inr (.inl hin))
    · rcases hG e he j hin with ⟨y, hy, hyj⟩ | h1
      · exact h.sep j hj (.inr (.inr ⟨y, hy, hyj⟩))
      · have := h.d.lt j hj; omega

theorem own_ge5 {base n s : Nat} {e : TypeId} {v : Value} {xs : List Value} (h : w.ownsRow base e s v n xs) : ∀ g, v.ownBlock = some g → base ≤ g := fun g hg => by
  obtain ⟨A, c, rfl, _, hA⟩ := own_form h
  exact (hA g (own_of hg)).1
set_option maxRecDepth 100000 in
theorem csectors_any (h : CAt w c b ms mo mk D most now hits misses l T) :
    Calls Tryz.prog 39 #[.pointer (some ⟨c, 0, none⟩)] w fun e w' => e = .returned (.int .i64 D.n) ∧ w = w' := by
  have c0 : w.cell? ⟨c, 0, none⟩ = some (.pointer (some ⟨b, 0, none⟩)) := h.mem.blk.cell 0
  generalize hn : D.n = N at *
  have HN := Lib.hid hn; clear hn
  go_enter Tryz.func39, Tryz.ntmps39
  go_wp2_with fail
  refine (known_any h.mem h.m1).mono ?_
  rintro e w1 ⟨rfl, rfl⟩
  go_wp2_with fail
  refine (sectors_any h.d).mono ?_
  rintro e w1 ⟨rfl, rfl⟩
  rw [HN.out]
  go_wp2
  go_ret
  exact ⟨rfl, rfl⟩
theorem sync_latest (D : Dk) (k : Int) : D.sync.2.latest k = D.latest k := by
  have hc : ∀ D : Dk, D.crash.latest k = D.latest k := fun D => by unfold Dk.crash; split <;> rfl
  have hf : ∀ D : Dk, D.flush.latest k = D.latest k := fun D => by
    show ((none : Option (List Int)).or ((D.opn k).or (D.safe k))).getD zsec = _
    rw [Option.none_or]; rfl
  unfold Dk.sync
  split
  · split
    · exact hc D
    · rw [hf, hc]
  · rfl
theorem crash_n (D : Dk) : D.crash.n = D.n := by unfold Dk.crash; split <;> rfl
theorem sync_n (D : Dk) : D.sync.2.n = D.n := by
  unfold Dk.sync
  split
  · split
    · exact crash_n D
    · exact crash_n D
  · rfl
theorem crash_down (D : Dk) (h : D.down = true) : D.crash.down = true ∨ D.crash.down = false := by cases D.crash.down <;> simp
/-- a disk that went down has not come up -/
theorem sync_down (D : Dk) (h : D.sync.2.down = false) : D.down = false := by
  unfold Dk.sync Dk.may at h
  cases hd : D.down with
  | false => rfl
  | true => rw [hd] at h; simp at h; rw [hd] at h; cases h
theorem write_down (D : Dk) (k : Int) (bs : List Int) (h : (D.write k bs).2.down = false) : D.down = false := by
  unfold Dk.write Dk.may at h
  cases hd : D.down with
  | false => rfl
  | true => rw [hd] at h; simp at h; rw [hd] at h; cases h
theorem lru_up {u v : Bool} (h : Lru l now most T u) (hu : v = true → u = true) : Lru l now most T v := ⟨h.inc, h.nd, h.le, h.sub, fun hv => h.top (hu hv), h.cnt, h.kd⟩

def CSyncP (w : World) (c b ms mo mk : Nat) (D : Dk) (most now hits misses : Int) (l : KL) (T : TL) (e : Ending) (w' : World) : Prop :=
  e = .returned (.int .i64 D.sync.1) ∧ CAt w' c b ms mo mk D.sync.2 most now hits misses l T ∧ CTo w w' c b ms mo mk l l
end
end Go.Proofs.YtijmkbhbpbkkoaaGreat

/- The cache (cache.Cache): Read. -/
namespace Go.Proofs.YtijmkbhbpbkkoaaGreat
open Go.RowKit

structure RdCnt (D : Dk) (k now hits misses : Int) (l : KL) (T : TL) (now' hits' misses' : Int) (T' : TL) : Prop where
  no : D.may k ≠ 0 → now' = now ∧ hits' = hits ∧ misses' = misses ∧ T' = T
  yes : D.may k = 0 → now' = now + 1 ∧ T' = touchL T k (now + 1) ∧ hits' = hits + (if (aget l k).isSome = true then 1 else 0) ∧ misses' = misses + (if (aget l k).isSome = true then 0 else 1)
theorem RdCnt.le {D : Dk} {k now hits misses now' hits' misses' : Int} {l : KL} {T T' : TL} (h : RdCnt D k now hits misses l T now' hits' misses' T') : now' ≤ now + 1 := by
  by_cases hm : D.may k = 0
  · have := (h.yes hm).1; omega
  · have := (h.no hm).1; omega
def CReadP (w : World) (c b ms mo mk : Nat) (D : Dk) (most now hits misses : Int) (l : KL) (T : TL) (k : Int) (e : Ending) (w' : World) : Prop :=
  ∃ v now' hits' misses' l' T', e = .returned (.tuple #[v, .int .i64 (D.may k)]) ∧ CAt w' c b ms mo mk D most now' hits' misses' l' T' ∧ CTo w w' c b ms mo mk l l' ∧
    w'.ownsRow w.heap.size 5 1 v (D.read k).length ((D.read k).map (Value.int .u8)) ∧ (∀ g, v.ownBlock = some g → ¬ InA c b ms mo mk l' g) ∧ RdCnt D k now hits misses l T now' hits' misses' T'

section
variable {w w' : World} {c b ms mo mk : Nat} {D : Dk} {most now hits misses : Int} {l : KL} {T : TL} {S : Nat → Prop}
set_option maxRecDepth 100000 in
set_option maxHeartbeats 1600000 in
theorem cread_hit (h : CAt w c b ms mo mk D most now hits misses l T) (k : Int) (hn : now ≤ 1152921504606846976) (hd : D.down = false) {x : Kp} (hx : aget l k = some x) :
    Calls Tryz.prog 46 #[.pointer (some ⟨c, 0, none⟩), .int .i64 k] w (CReadP w c b ms mo mk D most now hits misses l T k) := by
  have hmem := aget_mem hx
  obtain ⟨hcb, hk0, hk1⟩ := h.coh _ hmem
  simp only at hcb hk0 hk1
  have hmay : D.may k = 0 := may_ok hd hk0 hk1
  have hread : D.read k = D.latest k := by simp [Dk.read, hmay]
  have hlen := h.d.ok.latest_len k
  have hrx := h.mem.rd _ hmem
  have hax := h.mem.ap _ hmem
  simp only at hrx hax
  have c0 : w.cell? ⟨c, 0, none⟩ = some (.pointer (some ⟨b, 0, none⟩)) := h.mem.blk.cell 0
  have c3 : w.cell? ⟨c, 3, none⟩ = some (.map (some mk)) := h.mem.blk.cell 3
  have hlt := h.mem.lt
  have hcl : c < w.heap.size := hlt c (.inl rfl)
  have hml : mk < w.heap.size := hlt mk (.inr (.inl rfl))
  have hne := h.mem.ne
  have hh : 0 ≤ hits ∧ hits ≤ 1152921504606846976 := by have := h.h0; have := h.s0; have := h.hs; omega
  have HX := Lib.hid hx
  have HE := Lib.hid (And.intro hcb (And.intro hk0 (And.intro hk1 (And.intro hmay (And.intro hread hlen)))))
  clear hx hmem hcb hk0 hk1 hmay hread hlen
  have HLT := Lib.hid hlt; clear hlt
  have HD := Lib.hid hd; clear hd
  go_enter Tryz.func46, Tryz.ntmps46
  go_wp2_with fail
  refine (known_any h.mem h.m1).mono ?_
  rintro e w1 ⟨rfl, rfl⟩
  go_wp2_with fail
  refine (down_any h.d).mono ?_
  rintro e w1 ⟨rfl, rfl⟩
  rw [HD.out]
  go_wp2_with (first
    | (with_reducible change wpList _ _ _ (⟨_, Op.lookup _ _ _ true, _, _, _, _⟩ :: _) _ _
       go_must (refine wpList_lookup_E 59 _ _ true rfl rfl mk k rfl rfl h.mem.map Tryz.underlying59 Tryz.underlying3 info_kept (.tuple #[.agg #[.slice x.A 512 x.c, .int .i64 x.t], .bool true]) (by rw [HX.out]; rfl) ?_))
    | (with_reducible change wpList _ _ _ (⟨some 6, Op.alloc _, _, _, _, _⟩ :: _) _ _
       go_must (refine wpList_alloc_var 103 rfl rfl info_kept ?_)
       intro w1 b1 m1 z1
       have Z1 := Lib.hid z1; clear z1)
    | (with_reducible change wpList _ _ _ (⟨none, Op.store 103 (Operand.tmp 6) _, _, _, _, _⟩ :: _) _ _
       go_must (refine wpList_store_var 103 _ _ rfl rfl _ #[.slice x.A 512 x.c, .int .i64 x.t] _ _ rfl rfl b1 (by rw [size_kept]; rfl) rfl (by simp [Value.oneCell']) ?_)
       intro w2 b2 m2 z2
       have Z2 := Lib.hid z2; clear z2
       have M2 : Mod Nn w w2 := m1.new_ m2 (Nat.le_refl _)
       have hC2 := h.mem.mod M2 (fun _ _ f => f)
       have hr2 := hrx.mod M2 (fun _ _ f => f)
       have hx2 : w.heap.size < w2.heap.size := b2.lt
       clear m1 m2 b1 c0 c3))
  refine (aadd_any 4 hits (hC2.blk.cell 4) (hC2.blk.frozen 4) (by omega) (by omega)).mono ?_
  rintro e w3 ⟨rfl, hw3⟩
  have m3 : Mod (At c) w2 w3 := hw3 ▸ Mod.cellAt _ _ _ _
  have hC3 : CMem w3 c b mk most now (hits + 1) misses l := hC2.cellc m3 (hw3 ▸ hC2.blk.set_ 4 _)
  clear hw3
  have b3 := b2.mod m3 (fun e => by have e : w.heap.size = c := e; omega)
  have hr3 := hr2.mod m3 (fun g hg e => (hax g hg).2.1 e)
  have M3 : Mod (InCM c mk) w w3 := M2.nn.then_ m3 (fun _ _ e => .inl e)
  have cc0 := b3.cell 0
  have HN3 := Lib.hid (show w2.heap.size ≤ w3.heap.size from m3.size)
  clear hC2 hr2 m3 b2
  go_wp2_with fail
  refine (keep_any hC3 k hr3 (fun g hg => (hax g hg).2.1) h.n0 hn).mono ?_
  rintro e w4 ⟨l', y, rfl, hk4, hyb, hyt, hC4, hyA, m4⟩
  have b4 := b3.mod m4 (fun e => by rcases e with e | e <;> omega)
  have hr4 := hr3.mod m4 (fun g hg e => by have := hax g hg; rcases e with e | e <;> omega)
  have M4 := M3.trans m4
  have hh4 := h.kept hk4 hyb hyt hC4 hyA M4 M3.size HE.out.1 HE.out.2.1 HE.out.2.2.1 (by have := h.h0; omega) h.s0 (by have := h.hs; omega)
  have cc0 := b4.cell 0
  clear hC3 hr3 m4 b3 hk4 hyb hyt hC4 hyA M3
  go_wp2_with fail
  refine (clone_any hr4 (by omega)).mono ?_
  rintro e w5 ⟨v, rfl, o5, m5⟩
  have hv := own_ge5 o5
  have HP : Hid (CReadP w c b ms mo mk D most now hits misses l T k (.returned (.tuple #[v, .int .i64 0])) w5) := Lib.hid
    ⟨v, now + 1, hits + 1, misses, l', touchL T k (now + 1), by rw [HE.out.2.2.2.1], hh4.1.quiet m5, ⟨hh4.2.md.nn_ m5, hh4.2.G⟩, by
      rw [HE.out.2.2.2.2.1, HE.out.2.2.2.2.2, ← HE.out.1]
      exact own_base o5 (fun g hg => by have := hv g hg; have := M4.size; omega), fun g hg hin => by have := hv g hg; have := hh4.1.lt g hin; omega,
      ⟨fun h => absurd HE.out.2.2.2.1 h, fun _ => ⟨rfl, rfl, by rw [HX.out]; rfl, by rw [HX.out]; simp⟩⟩⟩
  clear hh4 o5 m5 hv b4 hr4 M4 cc0 h
  go_wp2
  go_ret2
  exact HP.out
set_option maxRecDepth 100000 in
set_option maxHeartbeats 1600000 in
theorem cread_miss (h : CAt w c b ms mo mk D most now hits misses l T) (k : Int) (hn : now ≤ 1152921504606846976) (hd : D.down = false) (hx : aget l k = none) :
    Calls Tryz.prog 46 #[.pointer (some ⟨c, 0, none⟩), .int .i64 k] w (CReadP w c b ms mo mk D most now hits misses l T k) := by
  have c0 : w.cell? ⟨c, 0, none⟩ = some (.pointer (some ⟨b, 0, none⟩)) := h.mem.blk.cell 0
  have c3 : w.cell? ⟨c, 3, none⟩ = some (.map (some mk)) := h.mem.blk.cell 3
  have hlt := h.mem.lt
  have hcl : c < w.heap.size := hlt c (.inl rfl)
  have hh : 0 ≤ misses ∧ misses ≤ 1152921504606846976 := by have := h.h0; have := h.s0; have := h.hs; omega
  have HX := Lib.hid hx; clear hx
  have HLT := Lib.hid hlt; clear hlt
  have HD := Lib.hid hd; clear hd
  generalize hM : D.may k = M at *
  generalize hR : D.read k = R at *
  have HM := Lib.hid hM; have HR := Lib.hid hR; clear hM hR
  go_enter Tryz.func46, Tryz.ntmps46
  go_wp2_with fail
  refine (known_any h.mem h.m1).mono ?_
  rintro e w1 ⟨rfl, rfl⟩
  go_wp2_with fail
  refine (down_any h.d).mono ?_
  rintro e w1 ⟨rfl, rfl⟩
  rw [HD.out]
  go_wp2_with (first
    | (with_reducible change wpList _ _ _ (⟨_, Op.lookup _ _ _ true, _, _, _, _⟩ :: _) _ _
       go_must (refine wpList_lookup_E 59 _ _ true rfl rfl mk k rfl rfl h.mem.map Tryz.underlying59 Tryz.underlying3 info_kept (.tuple #[.agg #[.slice none 0 0, .int .i64 0], .bool false]) (by rw [HX.out]; rfl) ?_))
    | (with_reducible change wpList _ _ _ (⟨some 6, Op.alloc _, _, _, _, _⟩ :: _) _ _
       go_must (refine wpList_alloc_var 103 rfl rfl info_kept ?_)
       intro w1 b1 m1 z1
       have Z1 := Lib.hid z1; clear z1)
    | (with_reducible change wpList _ _ _ (⟨none, Op.store 103 (Operand.tmp 6) _, _, _, _, _⟩ :: _) _ _
       go_must (refine wpList_store_var 103 _ _ rfl rfl _ #[.slice none 0 0, .int .i64 0] _ _ rfl rfl b1 (by rw [size_kept]; rfl) rfl (by simp [Value.oneCell']) ?_)
       intro w2 b2 m2 z2
       have Z2 := Lib.hid z2; clear z2
       have M2 : Mod Nn w w2 := m1.new_ m2 (Nat.le_refl _)
       have h2 := h.quiet M2
       have c0 : w2.cell? ⟨c, 0, none⟩ = some (.pointer (some ⟨b, 0, none⟩)) := h2.mem.blk.cell 0
       clear m1 m2 b1 c3 b2))
  refine (read_any h2.d k).mono ?_
  rintro e w3 ⟨v, rfl, o3, m3⟩
  rw [HM.out]
  rw [HR.out] at o3
  have h3 := h2.quiet m3
  have M3 : Mod Nn w w3 := M2.nn_ m3
  have hv := own_ge5 o3
  have o3' := own_base o3 (base' := w.heap.size) (fun g hg => by have := hv g hg; have := M2.size; omega)
  clear h2 M2 m3 o3
  obtain ⟨A3, cc3, rfl, hr3, hA3⟩ := own_rd o3'
  by_cases hm : M = 0
  · subst hm
    have hlen : R.length = 512 := by rw [← HR.out]; unfold Dk.read; rw [if_pos HM.out]; exact h.d.ok.latest_len k
    have hlat : R = D.latest k := by rw [← HR.out]; unfold Dk.read; rw [if_pos HM.out]
    have hkk : 0 ≤ k ∧ k < D.n := by
      have := HM.out
      unfold Dk.may at this
      rw [HD.out] at this
      by_cases hc : k < 0 ∨ D.n ≤ k
      · simp [hc] at this
      · omega
    have HE := Lib.hid (And.intro hlat hkk); clear hlat hkk
    rw [hlen] at o3' hr3 ⊢
    have HRL := Lib.hid hlen; clear hlen
    go_wp2_with fail
    refine (aadd_any 5 misses (h3.mem.blk.cell 5) (h3.mem.blk.frozen 5) (by omega) (by omega)).mono ?_
    rintro e w4 ⟨rfl, hw4⟩
    have m4 : Mod (At c) w3 w4 := hw4 ▸ Mod.cellAt _ _ _ _
    have hC4 : CMem w4 c b mk most now hits (misses + 1) l := h3.mem.cellc m4 (hw4 ▸ h3.mem.blk.set_ 5 _)
    clear hw4
    have hr4 := hr3.mod m4 (fun g hg e => by have := (hA3 g hg).1; have e : g = c := e; omega)
    have o4 := own_mod o3' m4 (fun g hg e => by have e : g = c := e; have h6 := (hA3 g (own_of hg)).1; omega)
    have M4 : Mod (InCM c mk) w w4 := M3.nn.then_ m4 (fun _ _ e => .inl e)
    have HN := Lib.hid m4.size
    clear m4
    go_wp2_with fail
    refine (keep_any hC4 k hr4 (fun g hg e => by have := (hA3 g hg).1; omega) h.n0 hn).mono ?_
    rintro e w5 ⟨l', y, rfl, hk4, hyb, hyt, hC5, hyA, m5⟩
    have hml : mk < w.heap.size := HLT.out mk (.inr (.inl rfl))
    have o5 := own_mod o4 m5 (fun g hg e => by have h6 := (hA3 g (own_of hg)).1; rcases e with e | e <;> omega)
    have M5 := M4.trans m5
    have hh5 := h.kept hk4 hyb hyt hC5 hyA M5 M4.size HE.out.1 HE.out.2.1 HE.out.2.2 h.h0 (by have := h.s0; omega) (by have := h.hs; omega)
    have HP : Hid (CReadP w c b ms mo mk D most now hits misses l T k (.returned (.tuple #[.slice A3 512 cc3, .int .i64 0])) w5) := Lib.hid
      ⟨_, now + 1, hits, misses + 1, l', touchL T k (now + 1), by rw [HM.out], hh5.1, hh5.2, by
        rw [HR.out, HRL.out]; exact o5, fun g hg hin => by
          have h6 := hA3 g (own_of hg)
          have h8 : InA c b ms mo mk l' g := hin
          rcases hin with (hin | hin | ⟨e, he, hin⟩) | hin
          · omega
          · omega
          · rcases (mem_aset h.mem.map.nd).1 (hk4.mem he) with ⟨h1, -⟩ | rfl
            · have := h.mem.ap e h1 g hin; omega
            · have := hyA g hin; have := M4.size; have h9 := hyA g hin; have : g < w3.heap.size := h6.2; have : w3.heap.size ≤ w4.heap.size := HN.out
              omega
          · have := h.d.lt g hin; omega,
        ⟨fun h => absurd HM.out h, fun _ => ⟨rfl, rfl, by rw [HX.out]; simp, by rw [HX.out]; rfl⟩⟩⟩
    clear hh5 o5 o4 m5 hv hr4 M4 c0 h h3 M5 hC5 hk4 hyb hyt hyA hC4
    go_wp2
    go_ret2
    exact HP.out
  · have hm' : (M == 0) = false := by rw [beq_eq_false_iff_ne]; exact hm
    have HP : Hid (CReadP w c b ms mo mk D most now hits misses l T k (.returned (.tuple #[.slice A3 R.length cc3, .int .i64 M])) w3) := Lib.hid
      ⟨_, now, hits, misses, l, T, by rw [HM.out], h3, CTo.same M3.nn, by rw [HR.out]; exact o3', fun g hg hin => by have h6 := (hA3 g (own_of hg)).1; have := h.lt g hin; omega,
        ⟨fun _ => ⟨rfl, rfl, rfl, rfl⟩, fun h => absurd (HM.out.symm.trans h) hm⟩⟩
    clear h3 o3' hr3 hA3 hv M3 c0 h hm
    go_wp2
    go_ret2
    exact HP.out
set_option maxRecDepth 100000 in
set_option maxHeartbeats 800000 in
theorem cread_down (h : CAt w c b ms mo mk D most now hits misses l T) (k : Int) (hd : D.down = true) :
    Calls Tryz.prog 46 #[.pointer (some ⟨c, 0, none⟩), .int .i64 k] w (CReadP w c b ms mo mk D most now hits misses l T k) := by
  have c0 : w.cell? ⟨c, 0, none⟩ = some (.pointer (some ⟨b, 0, none⟩)) := h.mem.blk.cell 0
  have hM : D.may k = 9 := by simp [Dk.may, hd]
  have hR : D.read k = [] := by simp [Dk.read, hM]
  have HP : Hid (CReadP w c b ms mo mk D most now hits misses l T k (.returned (.tuple #[.slice none 0 0, .int .i64 9])) w) := Lib.hid
    ⟨_, now, hits, misses, l, T, by rw [hM], h, CTo.same (Mod.refl _ _), by rw [hR]; exact World.ownsRow_nil _ _ _ _, (fun g hg => by cases hg), ⟨fun _ => ⟨rfl, rfl, rfl, rfl⟩, fun h => by rw [hM] at h; cases h⟩⟩
  have HD := Lib.hid hd; clear hd hM hR
  go_enter Tryz.func46, Tryz.ntmps46
  go_wp2_with fail
  refine (known_any h.mem h.m1).mono ?_
  rintro e w1 ⟨rfl, rfl⟩
  go_wp2_with fail
  refine (down_any h.d).mono ?_
  rintro e w1 ⟨rfl, rfl⟩
  rw [HD.out]
  go_wp2
  go_ret2
  exact HP.out
theorem cread_any (h : CAt w c b ms mo mk D most now hits misses l T) (k : Int) (hn : now ≤ 1152921504606846976) :
    Calls Tryz.prog 46 #[.pointer (some ⟨c, 0, none⟩), .int .i64 k] w (CReadP w c b ms mo mk D most now hits misses l T k) := by
  cases hd : D.down with
  | true => exact cread_down h k hd
  | false =>
    cases hx : aget l k with
    | none => exact cread_miss h k hn hd hx
    | some x => exact cread_hit h k hn hd hx
end
end Go.Proofs.YtijmkbhbpbkkoaaGreat

/- The cache (cache.Cache): Write, New. -/
namespace Go.Proofs.YtijmkbhbpbkkoaaGreat
open Go.RowKit

theorem put_latest (D : Dk) (k : Int) (bs : List Int) (j : Int) : (D.put k bs).latest j = if j = k then bs else D.latest j := by
  unfold Dk.latest Dk.put
  by_cases h : j = k
  · simp [h]
  · simp [h]
theorem crash_latest (D : Dk) (k : Int) : D.crash.latest k = D.latest k := by unfold Dk.crash; split <;> rfl
theorem write_n (D : Dk) (k : Int) (bs : List Int) : (D.write k bs).2.n = D.n := by
  unfold Dk.write
  split
  · split
    · rw [crash_n]; rfl
    · rfl
  · rfl
/-- what a write changes -/
theorem write_latest (D : Dk) (k : Int) (bs : List Int) : ((D.write k bs).1 = 0 ∧ 0 ≤ k ∧ k < D.n ∧ bs.length = 512 ∧ D.down = false ∧ (D.write k bs).2.down = false ∧ (D.write k bs).2.latest k = bs ∧ ∀ j, j ≠ k → (D.write k bs).2.latest j = D.latest j) ∨
    ((D.write k bs).1 = 9 ∧ (D.write k bs).2.down = true ∧ ∀ j, j ≠ k → (D.write k bs).2.latest j = D.latest j) ∨
    ((D.write k bs).1 ≠ 0 ∧ (D.write k bs).1 ≠ 9 ∧ (D.write k bs).2 = D) := by
  unfold Dk.write
  by_cases hm : D.may k = 0
  · rw [if_pos hm]
    have hd : D.down = false ∧ 0 ≤ k ∧ k < D.n := by
      unfold Dk.may at hm
      cases hd : D.down with
      | true => rw [hd] at hm; simp at hm
      | false =>
        rw [hd] at hm
        by_cases hc : k < 0 ∨ D.n ≤ k
        · simp [hc] at hm
        · exact ⟨rfl, by omega, by omega⟩
    by_cases hl : bs.length = 512
    · rw [if_pos hl]
      cases hc : (D.put k bs).crash.down with
      | true => exact .inr (.inl ⟨by simp, rfl, fun j hj => by show ((D.put k bs).crash).latest j = _; rw [crash_latest, put_latest, if_neg hj]⟩)
      | false => exact .inl ⟨by simp, hd.2.1, hd.2.2, hl, hd.1, rfl, by show ((D.put k bs).crash).latest k = _; rw [crash_latest, put_latest, if_pos rfl], fun j hj => by show ((D.put k bs).crash).latest j = _; rw [crash_latest, put_latest, if_neg hj]⟩
    · rw [if_neg hl]
      exact .inr (.inr ⟨by show (2 : Int) ≠ 0; omega, by show (2 : Int) ≠ 9; omega, rfl⟩)
  · rw [if_neg hm]
    by_cases h9 : D.may k = 9
    · refine .inr (.inl ⟨h9, ?_, fun _ _ => rfl⟩)
      unfold Dk.may at h9
      show D.down = true
      cases hd : D.down with
      | true => rfl
      | false =>
        rw [hd] at h9
        by_cases hc : k < 0 ∨ D.n ≤ k <;> simp [hc] at h9
    · exact .inr (.inr ⟨hm, h9, rfl⟩)
/-- those that were touched, behind a write that answered r -/
def wroteT (T : TL) (k now r : Int) : TL := if r = 0 then touchL T k (now + 1) else if r = 9 then T.filter (fun e => !(e.1 == k)) else T
def wroteN (now r : Int) : Int := if r = 0 then now + 1 else now
def CWriteP (w : World) (c b ms mo mk : Nat) (D : Dk) (most now hits misses : Int) (l : KL) (T : TL) (k : Int) (bs : List Int) (e : Ending) (w' : World) : Prop :=
  ∃ l', e = .returned (.int .i64 (D.write k bs).1) ∧ CAt w' c b ms mo mk (D.write k bs).2 most (wroteN now (D.write k bs).1) hits misses l' (wroteT T k now (D.write k bs).1) ∧ CTo w w' c b ms mo mk l l'

section
variable {w w' : World} {c b ms mo mk : Nat} {D : Dk} {most now hits misses : Int} {l : KL} {T : TL} {S : Nat → Prop}
set_option maxRecDepth 100000 in
set_option maxHeartbeats 1600000 in
theorem cwrite_any (h : CAt w c b ms mo mk D most now hits misses l T) (k : Int) (hn : now ≤ 1152921504606846976) {A : Option Addr} {n cc : Nat} {bs : List Int} (hr : Rd w A n (bs.map (Value.int .u8)))
    (hA : ∀ g, Of A g → ¬ InW c b ms mo mk g) :
    Calls Tryz.prog 44 #[.pointer (some ⟨c, 0, none⟩), .int .i64 k, .slice A n cc] w (CWriteP w c b ms mo mk D most now hits misses l T k bs) := by
  have c0 : w.cell? ⟨c, 0, none⟩ = some (.pointer (some ⟨b, 0, none⟩)) := h.mem.blk.cell 0
  have hlen : bs.length = n := by simpa using hr.1
  have hwl := write_latest D k bs
  have HC : Hid (∀ w1, Mod (In3 b ms mo) w w1 → CMem w1 c b mk most now hits misses l) := Lib.hid (fun w1 m1 => h.mem.mod m1 (fun k hk hin => h.sep k hin hk))
  have HR : Hid (∀ w1, Mod (In3 b ms mo) w w1 → Rd w1 A n (bs.map (Value.int .u8))) := Lib.hid (fun w1 m1 => hr.mod m1 (fun g hg hin => hA g hg (.inr hin)))
  rcases hwl with ⟨hr0, hk0, hk1, hl, hdn, hdn', hlk, hlj⟩ | ⟨hr9, hdn', hlj⟩ | ⟨hr0, hr9, hD⟩
  · have hn5 : n = 512 := by omega
    subst hn5
    have HK : Hid (∀ w1, DiskAt w1 b ms mo (D.write k bs).2 → Mod (In3 b ms mo) w w1 → ∀ w2 l' x, Kept (aset l k x) most l' → x.bs = bs → x.t = now + 1 → CMem w2 c b mk most (now + 1) hits misses l' → (∀ g, Of x.A g → w1.heap.size ≤ g) → Mod (InCM c mk) w1 w2 →
        CWriteP w c b ms mo mk D most now hits misses l T k bs (.returned (.int .i64 0)) w2) := Lib.hid (by
      intro w1 hd1 m1 w2 l' x hk hxb hxt hC hxA m2
      have hmem : ∀ e ∈ l', (e ∈ l ∧ e.1 ≠ k) ∨ e = (k, x) := fun e he => (mem_aset h.mem.map.nd).1 (hk.mem he)
      have hG : ∀ e ∈ l', ∀ g, Of e.2.A g → (∃ x ∈ l, Of x.2.A g) ∨ w.heap.size ≤ g := fun e he g hg => by
        rcases hmem e he with ⟨h1, -⟩ | rfl
        · exact .inl ⟨e, h1, hg⟩
        · exact .inr (Nat.le_trans m1.size (hxA g hg))
      have hm : Mod (InW c b ms mo mk) w w2 := (m1.mono (fun _ _ e => .inr e)).then_ m2 (fun _ _ e => .inl e)
      refine ⟨l', by rw [hr0], ?_, hm, hG⟩
      rw [hr0]
      refine ⟨hC, hd1.mod m2 (fun j hj hin => h.sep j hj (inM_of hin)), fun e he => ?_, ?_, fun j hj hin => ?_, h.m1, by show 0 ≤ now + 1; have := h.n0; omega, h.h0, h.s0, by show hits + misses ≤ now + 1; have := h.hs; omega⟩
      · rw [write_n]
        rcases hmem e he with ⟨h1, h2⟩ | rfl
        · rw [hlj _ h2]; exact h.coh e h1
        · exact ⟨hxb.trans hlk.symm, hk0, hk1⟩
      · rw [hdn']
        have := h.lru
        rw [hdn] at this
        exact Kept.lru this h.m1 hxt hk
      · rcases hin with hin | hin | ⟨e, he, hin⟩
        · exact h.sep j hj (.inl hin)
        · exact h.sep j hj (.inr (.inl hin))
        · rcases hG e he j hin with ⟨y, hy, hyj⟩ | h1
          · exact h.sep j hj (.inr (.inr ⟨y, hy, hyj⟩))
          · have := h.d.lt j hj; omega)
    have HR0 := Lib.hid hr0; clear hr0 hlen hk0 hk1 hl hdn hdn' hlk hlj
    go_enter Tryz.func44, Tryz.ntmps44
    go_wp2_with fail
    refine (known_any h.mem h.m1).mono ?_
    rintro e w1 ⟨rfl, rfl⟩
    go_wp2_with fail
    refine (write_any h.d k hr).mono ?_
    rintro e w1 ⟨rfl, d1, m1, -⟩
    rw [HR0.out]
    go_wp2_with fail
    refine (keep_any (HC.out w1 m1) k (HR.out w1 m1) (fun g hg e => hA g hg (.inl (.inl e))) h.n0 hn).mono ?_
    rintro e w2 ⟨l', x, rfl, hk, hxb, hxt, hC, hxA, m2⟩
    have HP := Lib.hid (HK.out w1 d1 m1 w2 l' x hk hxb hxt hC hxA m2)
    clear d1 m1 hk hxb hxt hC hxA m2
    go_wp2
    go_ret
    exact HP.out
  · have HK : Hid (∀ w1, DiskAt w1 b ms mo (D.write k bs).2 → Mod (In3 b ms mo) w w1 → ∀ w2, MapE w2 mk Kp.enc (adel l k) → Mod (At mk) w1 w2 →
        CWriteP w c b ms mo mk D most now hits misses l T k bs (.returned (.int .i64 9)) w2) := Lib.hid (by
      intro w1 hd1 m1 w2 h2 m2
      have hm : Mod (InW c b ms mo mk) w w2 := (m1.mono (fun _ _ e => .inr e)).then_ m2 (fun _ _ e => .inl (.inr e))
      have hC1 := HC.out w1 m1
      have hC2 : CMem w2 c b mk most now hits misses (adel l k) :=
        ⟨hC1.blk.mod m2 (fun e => hC1.ne (e : c = mk).symm), h2, fun z hz => (hC1.rd z (mem_adel.1 hz).1).mod m2 (fun g hg => (hC1.ap z (mem_adel.1 hz).1 g hg).2.2), fun z hz g hg => by
            have := hC1.ap z (mem_adel.1 hz).1 g hg
            have := m2.size
            exact ⟨by omega, by omega, by omega⟩⟩
      refine ⟨adel l k, by rw [hr9], ?_, hm, fun e he g hg => .inl ⟨e, (mem_adel.1 he).1, hg⟩⟩
      rw [hr9]
      refine ⟨hC2, hd1.mod m2 (fun j hj hin => h.sep j hj (.inr (.inl hin))), fun e he => ?_, ?_, fun j hj hin => ?_, h.m1, h.n0, h.h0, h.s0, h.hs⟩
      · rw [write_n, hlj _ (mem_adel.1 he).2]; exact h.coh e (mem_adel.1 he).1
      · rw [hdn']; exact h.lru.forget k
      · rcases hin with hin | hin | ⟨e, he, hin⟩
        · exact h.sep j hj (.inl hin)
        · exact h.sep j hj (.inr (.inl hin))
        · exact h.sep j hj (.inr (.inr ⟨e, (mem_adel.1 he).1, hin⟩)))
    have HR9 := Lib.hid hr9; clear hr9 hlen hdn' hlj
    go_enter Tryz.func44, Tryz.ntmps44
    go_wp2_with fail
    refine (known_any h.mem h.m1).mono ?_
    rintro e w1 ⟨rfl, rfl⟩
    go_wp2_with fail
    refine (write_any h.d k hr).mono ?_
    rintro e w1 ⟨rfl, d1, m1, -⟩
    rw [HR9.out]
    have hC1 := HC.out w1 m1
    have c3 : w1.cell? ⟨c, 3, none⟩ = some (.map (some mk)) := hC1.blk.cell 3
    go_wp2_with (first
      | (with_reducible change wpList _ _ _ (⟨_, Op.call { callee := Callee.builtin Builtin.delete, args := _, argTypes := _ }, _, _, _, _⟩ :: _) _ _
         go_must (refine wpList_delete_E 59 _ _ _ rfl rfl mk k rfl rfl hC1.map Tryz.underlying59 Tryz.underlying3 ?_)
         intro w2 h2 m2 z2
         have HP := Lib.hid (HK.out w1 d1 m1 w2 h2 m2)
         clear d1 m1 h2 m2 z2 hC1 c3))
    go_ret
    exact HP.out
  · have HK : Hid (∀ w1, DiskAt w1 b ms mo (D.write k bs).2 → Mod (In3 b ms mo) w w1 → CWriteP w c b ms mo mk D most now hits misses l T k bs (.returned (.int .i64 (D.write k bs).1)) w1) := Lib.hid (by
      intro w1 hd1 m1
      refine ⟨l, rfl, ?_, CTo.same (m1.mono (fun _ _ e => .inr e))⟩
      have e1 : wroteN now (D.write k bs).1 = now := by unfold wroteN; rw [if_neg hr0]
      have e2 : wroteT T k now (D.write k bs).1 = T := by unfold wroteT; rw [if_neg hr0, if_neg hr9]
      rw [e1, e2]
      rw [hD] at hd1 ⊢
      exact ⟨HC.out w1 m1, hd1, h.coh, h.lru, h.sep, h.m1, h.n0, h.h0, h.s0, h.hs⟩)
    have hr0' : ((D.write k bs).1 == 0) = false := by rw [beq_eq_false_iff_ne]; exact hr0
    have hr9' : ((D.write k bs).1 == 9) = false := by rw [beq_eq_false_iff_ne]; exact hr9
    clear hlen hr0 hr9 hD
    generalize hrr : (D.write k bs).1 = r at *
    have HRR := Lib.hid hrr; clear hrr
    go_enter Tryz.func44, Tryz.ntmps44
    go_wp2_with fail
    refine (known_any h.mem h.m1).mono ?_
    rintro e w1 ⟨rfl, rfl⟩
    go_wp2_with fail
    refine (write_any h.d k hr).mono ?_
    rintro e w1 ⟨rfl, d1, m1, -⟩
    rw [HRR.out]
    have HP := Lib.hid (HK.out w1 d1 m1)
    clear d1 m1
    go_wp2
    go_ret
    exact HP.out

/-- a new cache -/
def CNewP (w : World) (b ms mo : Nat) (D : Dk) (most : Int) (e : Ending) (w' : World) : Prop :=
  ∃ c mk, e = .returned (.pointer (some ⟨c, 0, none⟩)) ∧ CAt w' c b ms mo mk D most 0 0 0 [] [] ∧ Mod Nn w w' ∧ w.heap.size ≤ c ∧ w.heap.size ≤ mk
set_option maxRecDepth 100000 in
set_option maxHeartbeats 800000 in
theorem cnew_any {w : World} {b ms mo : Nat} {D : Dk} (h : DiskAt w b ms mo D) (most : Int) (hm : 1 ≤ most) :
    Calls Tryz.prog 9 #[.pointer (some ⟨b, 0, none⟩), .int .i64 most] w (CNewP w b ms mo D most) := by
  have hmm := @run_makeMap Tryz.prog
  have hn := h.ok.n1
  have hn0 : (D.n == 0) = false := by rw [beq_eq_false_iff_ne]; omega
  have hm1 : ¬ most < 1 := by omega
  have HP : Hid (CNewP w b ms mo D most (.returned (.pointer (some ⟨w.heap.size + 1, 0, none⟩))) ((w.alloc (.map #[] 0)).alloc (.cells #[.pointer (some ⟨b, 0, none⟩), .int .i64 most, .int .i64 0, .map (some w.heap.size), .int .i64 0, .int .i64 0] 66))) := Lib.hid (by
    have hmd : Mod Nn w ((w.alloc (.map #[] 0)).alloc (.cells #[.pointer (some ⟨b, 0, none⟩), .int .i64 most, .int .i64 0, .map (some w.heap.size), .int .i64 0, .int .i64 0] 66)) := ((Mod.refl _ _).alloc _).alloc _
    refine ⟨w.heap.size + 1, w.heap.size, rfl, ⟨⟨?_, ?_, (fun e he => by cases he), (fun e he => by cases he)⟩, h.mod hmd (fun _ _ f => f), (fun e he => by cases he), Lru.nil _ _ (by omega) _, fun k hk hin => ?_, hm, Int.le_refl _, Int.le_refl _, Int.le_refl _, Int.le_refl _⟩, hmd, by omega, Nat.le_refl _⟩
    · have := Blk.new (w.alloc (.map #[] 0)) 66 #[.pointer (some ⟨b, 0, none⟩), .int .i64 most, .int .i64 0, .map (some w.heap.size), .int .i64 0, .int .i64 0]
      simpa using this
    · exact (MapE.new w Kp.enc).alloc _
    · have := h.lt k hk
      rcases hin with hin | hin | ⟨e, he, -⟩
      · omega
      · omega
      · cases he)
  generalize hN : D.n = N at *
  have HN := Lib.hid hN; clear hN hm
  go_enter Tryz.func9, Tryz.ntmps9
  go_wp2_with fail
  refine (sectors_any h).mono ?_
  rintro e w1 ⟨rfl, rfl⟩
  rw [HN.out]
  go_wp2
  go_ret
  exact HP.out
set_option maxRecDepth 100000 in
theorem cnew_nil (most : Int) (w : World) : Calls Tryz.prog 9 #[.pointer none, .int .i64 most] w fun e w' => e = .returned (.pointer none) ∧ w = w' := by
  go_enter Tryz.func9, Tryz.ntmps9
  go_wp2_with fail
  refine (sectors_nil _).mono ?_
  rintro e w1 ⟨rfl, rfl⟩
  go_wp2
  go_ret
  exact ⟨rfl, rfl⟩
set_option maxRecDepth 100000 in
theorem cnew_small {w : World} {b ms mo : Nat} {D : Dk} (h : DiskAt w b ms mo D) (most : Int) (hm : most < 1) :
    Calls Tryz.prog 9 #[.pointer (some ⟨b, 0, none⟩), .int .i64 most] w fun e w' => e = .returned (.pointer none) ∧ w = w' := by
  have hn := h.ok.n1
  have hn0 : (D.n == 0) = false := by rw [beq_eq_false_iff_ne]; omega
  generalize hN : D.n = N at *
  have HN := Lib.hid hN; clear hN
  go_enter Tryz.func9, Tryz.ntmps9
  go_wp2_with fail
  refine (sectors_any h).mono ?_
  rintro e w1 ⟨rfl, rfl⟩
  rw [HN.out]
  go_wp2
  go_ret
  exact ⟨rfl, rfl⟩
end
end Go.Proofs.YtijmkbhbpbkkoaaGreat
