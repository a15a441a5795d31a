/- The cache (cache.Cache): keep. -/
import Derived.Test.YtijmkbhbpbkkoaaCa1
import Derived.Test.YtijmkbhbpbkkoaaDev7
import Derived.Test.YtijmkbhbpbkkoaaKitC
namespace Go.Proofs.Ytijmkbhbpbkkoaa
open Go.RowKit

def KeepP (w : World) (c b mk : Nat) (most now hits misses : Int) (l : KL) (k : Int) (bs : List Int) (e : Ending) (w' : World) : Prop :=
  ∃ l' x, e = .returned (.tuple #[]) ∧ Kept (aset l k x) most l' ∧ x.bs = bs ∧ x.t = now + 1 ∧ CMem w' c b mk most (now + 1) hits misses l' ∧ (∀ g, Of x.A g → w.heap.size ≤ g) ∧ Mod (InCM c mk) w w'

theorem info_kept : (Try.prog.info? 105).map (fun i => (i.zero, i.size)) = some (some (.agg #[.slice none 0 0, .int .i64 0]), 2) := by kernel_rfl
theorem size_kept : (Try.prog.info? 105).map (·.size) = some 2 := size_of info_kept
theorem field_kept1 (w : World) (A : Option Addr) (n c : Nat) (t : Int) : (Instr.field 105 (.agg #[.slice A n c, .int .i64 t]) 1).run Try.prog w = .ok (.int .i64 t) w := by kernel_rfl

set_option maxRecDepth 100000 in
set_option maxHeartbeats 3200000 in
theorem keep_any {w : World} {c b mk : Nat} {most now hits misses : Int} {l : KL} (h : CMem w c b mk most now hits misses l) (k : Int) {A : Option Addr} {cc : Nat} {bs : List Int}
    (hr : Rd w A 512 (bs.map (Value.int .u8))) (hA : ∀ g, Of A g → g ≠ c) (h0 : 0 ≤ now) (h1 : now ≤ 1152921504606846976) :
    Calls Try.prog 62 #[.pointer (some ⟨c, 0, none⟩), .int .i64 k, .slice A 512 cc] w (KeepP w c b mk most now hits misses l k bs) := by
  have c2 : w.cell? ⟨c, 2, none⟩ = some (.int .i64 now) := h.blk.cell 2
  have f2 := h.blk.frozen 2
  have m1 : Mod (At c) w (w.setCell ⟨c, 2, none⟩ (.int .i64 (now + 1))) := Mod.cellAt _ _ _ _
  have hC1 : CMem (w.setCell ⟨c, 2, none⟩ (.int .i64 (now + 1))) c b mk most (now + 1) hits misses l := h.cellc m1 (h.blk.set_ 2 (.int .i64 (now + 1)))
  have hr1 := hr.mod m1 (fun g hg e => hA g hg e)
  have HI := Lib.hid (And.intro m1 (And.intro hC1 hr1))
  have HS := Lib.hid (show (w.setCell ⟨c, 2, none⟩ (.int .i64 (now + 1))).heap.size = w.heap.size by simp)
  clear hr hA m1 hC1 hr1 h
  go_enter Try.func62, Try.ntmps62
  go_wp2_with fail
  clear c2 f2
  obtain ⟨m1, hC1, hr1⟩ := HI.out
  clear HI
  generalize w.setCell ⟨c, 2, none⟩ (.int .i64 (now + 1)) = w1 at *
  generalize hno : now + 1 = no at *
  have HNO := Lib.hid hno; clear hno
  refine wp_region_planT (fun w' => CMem w' c b mk most no hits misses l) 12 [(0, 0), (1, 0), (2, 0), (3, 1), (4, 0), (5, 0), (7, 0), (8, 0), (9, 0), (10, 1), (6, 2), (11, 0), (12, 2)] (by kernel_rfl) (by kernel_rfl) hC1.drew ?_
  iterate 3 (refine pt_pure rfl rfl (fun K hK => ?_); go_simp; refine hK _ ?_; clear hK K)
  refine pt_take _ rfl rfl (fun w' hS => exec_load1 (P := Try.prog) 70 _ rfl rfl (hS.blk.cell 3) Try.underlying70 rfl) (fun K hK => ?_); go_simp; refine hK _ ?_; clear hK K
  iterate 5 (refine pt_pure rfl rfl (fun K hK => ?_); go_simp; refine hK _ ?_; clear hK K)
  refine pt_take _ rfl rfl (fun w' hS => exec_load1 (P := Try.prog) 3 _ rfl rfl (hS.blk.cell 2) Try.underlying3 rfl) (fun K hK => ?_); go_simp; refine hK _ ?_; clear hK K
  refine pt_call rfl rfl (fun K hK => ?_); go_simp; refine ⟨_, _, ⟨rfl, rfl⟩, hK _ _ _ ?_⟩; clear hK K
  refine (clone_any hr1.drew (by omega)).mono ?_
  rintro r w2 ⟨v, rfl, o2, m2⟩
  have m2' : Mod Nn w1 w2 := m2.of_drew
  have hC2 := hC1.mod m2' (fun _ _ f => f)
  refine ⟨_, rfl, fun _ => hC2, ?_⟩
  obtain ⟨A2, cap2, rfl, hr2, hA2⟩ := own_rd o2
  have hF2 : ∀ g, Of A2 g → w.heap.size ≤ g ∧ g < w2.heap.size := fun g hg => by
    have h1 := hA2 g hg
    have h2 := HS.out
    exact ⟨by have := h1.1; simp at this; omega, h1.2⟩
  have HF := Lib.hid hF2; clear hF2 hA2
  iterate 1 (refine pt_pure rfl rfl (fun K hK => ?_); go_simp; refine hK _ ?_; clear hK K)
  refine pt_mapUpdate 70 _ _ _ rfl rfl rfl k (⟨A2, cap2, bs, no⟩ : Kp) rfl rfl rfl hC2.map Try.underlying70 Try.underlying3 ?_
  intro w3 h3 m3 z3
  refine ⟨fun h => (by simp at h), fun K hK => ?_⟩; go_simp; refine hK _ ?_; clear hK K
  refine pt_nil ?_
  have hC3 : CMem w3 c b mk most no hits misses (aset l k ⟨A2, cap2, bs, no⟩) := by
    refine ⟨hC2.blk.mod m3 (fun e => hC2.ne (e : c = mk).symm), h3, fun e he => ?_, fun e he g hg => ?_⟩
    · rcases (mem_aset hC2.map.nd).1 he with ⟨h1, -⟩ | rfl
      · exact (hC2.rd e h1).mod m3 (fun g hg => (hC2.ap e h1 g hg).2.2)
      · exact hr2.mod m3 (fun g hg e => by
          have e : g = mk := e
          have h1 := hC1.lt mk (.inr (.inl rfl))
          have h2 := (HF.out g hg).1
          have h3 := HS.out
          omega)
    · rcases (mem_aset hC2.map.nd).1 he with ⟨h1, -⟩ | rfl
      · have := hC2.ap e h1 g hg
        exact ⟨by omega, this.2⟩
      · have h1 := hC1.lt mk (.inr (.inl rfl))
        have h1' := hC1.lt c (.inl rfl)
        have h2 := HF.out g hg
        have h3 := HS.out
        exact ⟨by omega, by omega, by omega⟩
  have M3 : Mod (InCM c mk) w w3 := (((m1.mono (fun _ _ e => .inl e)).nn_ m2').at_ m3 (.inr rfl))
  have hA3 : ∀ g, Of A2 g → w.heap.size ≤ g := fun g hg => (HF.out g hg).1
  have hk3 : aget (aset l k (⟨A2, cap2, bs, no⟩ : Kp)) k = some ⟨A2, cap2, bs, no⟩ := by rw [aget_aset, if_pos rfl]
  have HX : Hid (∀ l' e w', e = .returned (.tuple #[]) → Kept (aset l k (⟨A2, cap2, bs, no⟩ : Kp)) most l' → CMem w' c b mk most no hits misses l' → Mod (InCM c mk) w w' → KeepP w c b mk most now hits misses l k bs e w') := Lib.hid (fun l' e w' h1 h2 h3 h4 =>
    ⟨l', ⟨A2, cap2, bs, no⟩, h1, h2, rfl, HNO.out.symm, by rw [HNO.out]; exact h3, hA3, h4⟩)
  clear hA3 HF hr2 o2 m1 m2 m2' hC1 hC2 hr1 z3 h3 m3
  generalize (⟨A2, cap2, bs, no⟩ : Kp) = x at *
  generalize aset l k x = l1 at *
  have HK3 := Lib.hid hk3; clear hk3
  by_cases hle : (l1.length : Int) ≤ most
  · have HL := Lib.hid hle
    go_wp2_with fail
    refine wp_region_planC (fun w' => CMem w' c b mk most no hits misses l1) [(0, true), (1, true), (2, true), (3, true), (4, true), (5, true), (6, true), (7, true), (8, true), (9, true)] (by kernel_rfl) (by kernel_rfl) hC3.drew ?_
    iterate 3 (refine pc_pure rfl rfl (fun K hK => ?_); go_simp; refine hK _ ?_; clear hK K)
    refine pc_take _ rfl rfl (fun w' hS => exec_load1 (P := Try.prog) 70 _ rfl rfl (hS.blk.cell 3) Try.underlying70 rfl) (fun K hK => ?_); go_simp; refine hK _ ?_; clear hK K
    refine pc_take _ rfl rfl (fun w' hS => exec_len_map (P := Try.prog) _ rfl rfl hS.map Try.underlying70) (fun K hK => ?_); go_simp; refine hK _ ?_; clear hK K
    iterate 3 (refine pc_pure rfl rfl (fun K hK => ?_); go_simp; refine hK _ ?_; clear hK K)
    refine pc_take _ rfl rfl (fun w' hS => exec_load1 (P := Try.prog) 3 _ rfl rfl (hS.blk.cell 1) Try.underlying3 rfl) (fun K hK => ?_); go_simp; refine hK _ ?_; clear hK K
    iterate 1 (refine pc_pure rfl rfl (fun K hK => ?_); go_simp; refine hK _ ?_; clear hK K)
    refine pc_nil ?_
    go_wp2
    refine bodyPost_ret (v := .tuple #[]) (by simp [results, Try.results62, go_sem]) rfl ?_
    exact HX.out l1 _ _ rfl (.inl ⟨HL.out, rfl⟩) hC3.drew M3.drew
  · have HL := Lib.hid (show most < (l1.length : Int) by omega)
    have hle' : decide ((l1.length : Int) ≤ most) = false := by simpa using hle
    go_wp2_with fail
    refine wp_region_planC (fun w' => CMem w' c b mk most no hits misses l1) [(0, true), (1, true), (2, true), (3, true), (4, true), (5, true), (6, true), (7, true), (8, true), (9, true)] (by kernel_rfl) (by kernel_rfl) hC3.drew ?_
    iterate 3 (refine pc_pure rfl rfl (fun K hK => ?_); go_simp; refine hK _ ?_; clear hK K)
    refine pc_take _ rfl rfl (fun w' hS => exec_load1 (P := Try.prog) 70 _ rfl rfl (hS.blk.cell 3) Try.underlying70 rfl) (fun K hK => ?_); go_simp; refine hK _ ?_; clear hK K
    refine pc_take _ rfl rfl (fun w' hS => exec_len_map (P := Try.prog) _ rfl rfl hS.map Try.underlying70) (fun K hK => ?_); go_simp; refine hK _ ?_; clear hK K
    iterate 3 (refine pc_pure rfl rfl (fun K hK => ?_); go_simp; refine hK _ ?_; clear hK K)
    refine pc_take _ rfl rfl (fun w' hS => exec_load1 (P := Try.prog) 3 _ rfl rfl (hS.blk.cell 1) Try.underlying3 rfl) (fun K hK => ?_); go_simp; refine hK _ ?_; clear hK K
    iterate 1 (refine pc_pure rfl rfl (fun K hK => ?_); go_simp; refine hK _ ?_; clear hK K)
    refine pc_nil ?_
    clear hle hle'
    have hC4 := hC3.drew
    have M4 := M3.drew
    clear hC3 M3
    generalize w3.drew = w4 at *
    have c3 : w4.cell? ⟨c, 3, none⟩ = some (.map (some mk)) := hC4.blk.cell 3
    go_wp2_with (first
      | (with_reducible change wpList _ _ _ (⟨_, Op.range _ _, _, _, _, _⟩ :: _) _ _
         go_must (refine wpList_range_E 70 _ rfl rfl mk rfl hC4.map Try.underlying70 ?_)
         intro w5 i5 m5 z5
         clear z5))
    have hC5 := hC4.mod m5 (fun _ _ f => f)
    have M5 := M4.nn_ m5
    have HLT := Lib.hid (show ∀ j, InM c mk l1 j → j ≠ w4.heap.size from fun j hj => by have := hC4.lt j hj; omega)
    have HW4 := Lib.hid (show w.heap.size ≤ w4.heap.size from M4.size)
    clear c3 m5 hC4 M4
    generalize w4.heap.size = it at *
    go_frame
    go_loopg [6] l1.length (fun q v6 wr => ∃ (e : Int) (y : Kp) (done : List Int), v6 = .int .i64 e ∧ aget l1 e = some y ∧ (∀ j ∈ done, ∀ z, aget l1 j = some z → y.t ≤ z.t) ∧ q + done.length = l1.length ∧ done.Nodup ∧ (∀ z ∈ done, z ∈ l1.map (·.1)) ∧ CMem wr c b mk most no hits misses l1 ∧ IterE wr it mk Kp.enc l1 done ∧ Mod (InCM c mk) w wr)
    case atStart => exact ⟨k, x, [], rfl, HK3.out, (fun j hj => by cases hj), rfl, List.nodup_nil, (fun j hj => by cases hj), hC5, i5, M5⟩
    case round =>
      clear hC5 i5 M5
      obtain ⟨e, y, done, rfl, hey, hmin, hq, hnd, hsub, hCr, hir, hmr⟩ := hrel
      have H1 := Lib.hid hq; have H2 := Lib.hid hsub; have H3 := Lib.hid hey; have H4 := Lib.hid hmin; clear hq hsub hey hmin
      rcases run_next_map (P := Try.prog) hir with ⟨hall, hrun⟩ | ⟨j, v, w5, hjv, hnj, hrun, hi5, hm5, hz5⟩
      · have HA := Lib.hid hall; clear hall
        have c3 : wr.cell? ⟨c, 3, none⟩ = some (.map (some mk)) := hCr.blk.cell 3
        go_wp2_with (first
          | (with_reducible change wpList _ _ _ (⟨_, Op.call { callee := Callee.builtin Builtin.delete, args := _, argTypes := _ }, _, _, _, _⟩ :: _) _ _
             go_must (refine wpList_delete_E 70 _ _ _ rfl rfl mk e rfl rfl hCr.map Try.underlying70 Try.underlying3 ?_)
             intro w6 h6 m6 z6))
        have hC6 : CMem w6 c b mk most no hits misses (adel l1 e) :=
          ⟨hCr.blk.mod m6 (fun e => hCr.ne (e : c = mk).symm), h6, fun z hz => (hCr.rd z (mem_adel.1 hz).1).mod m6 (fun g hg => (hCr.ap z (mem_adel.1 hz).1 g hg).2.2), fun z hz g hg => by
            have := hCr.ap z (mem_adel.1 hz).1 g hg
            exact ⟨by omega, this.2⟩⟩
        have HP := HX.out (adel l1 e) (.returned (.tuple #[])) w6 rfl (.inr ⟨HL.out, e, y, H3.out, fun z hz => H4.out z.1 (HA.out z hz) z.2 (aget_mem' hCr.map.nd hz), rfl⟩) hC6 (hmr.at_ m6 (.inr rfl))
        have HPP := Lib.hid HP; clear HP
        go_end0
        exact HPP.out
      · have hC5 := hCr.mod hm5 (fun z hz e => HLT.out z hz (e : z = it))
        have hM5 : Mod (InCM c mk) w w5 := hmr.new_ hm5 HW4.out
        have HZ := Lib.hid hz5; clear hz5
        have HV := Lib.hid hjv
        have HI5 := Lib.hid hi5
        have hgt : it < wr.heap.size := hir.lt
        have hlt5 : w.heap.size ≤ w5.heap.size := hM5.size
        have HLT5 := Lib.hid (show ∀ j, InM c mk l1 j → j ≠ w5.heap.size from fun j hj => by have := hC5.lt j hj; omega)
        have HIT := Lib.hid (show it ≠ w5.heap.size from by have := hi5.lt; omega)
        clear hCr hmr hir hm5
        go_wp2_with (first
          | (with_reducible change wpList _ _ _ (⟨_, Op.entry _, _, _, _, _⟩ :: _) _ _
             go_must (refine wpList_entry_E _ rfl rfl _ j v done rfl hi5 hjv ?_))
          | (with_reducible change wpList _ _ _ (⟨some 8, Op.alloc _, _, _, _, _⟩ :: _) _ _
             go_must (refine wpList_alloc_var 105 rfl rfl info_kept ?_)
             intro w6 b6 m6 z6
             have Z6 := Lib.hid z6; clear z6)
          | (with_reducible change wpList _ _ _ (⟨none, Op.store 105 (Operand.tmp 8) _, _, _, _, _⟩ :: _) _ _
             go_must (refine wpList_store_var 105 _ _ rfl rfl _ #[.slice v.A 512 v.c, .int .i64 v.t] _ _ rfl rfl b6 (by rw [size_kept]; rfl) rfl (by simp [Value.oneCell']) ?_)
             intro w7 b7 m7 z7
             have Z7 := Lib.hid z7; clear z7))
        have hC7 := (hC5.mod m6 (fun _ _ f => f)).mod m7 (fun z hz e => HLT5.out z hz (e : z = w5.heap.size))
        have hM7 : Mod (InCM c mk) w w7 := (hM5.nn_ m6).new_ m7 hlt5
        have hi7 : IterE w7 it mk Kp.enc l1 (j :: done) := (HI5.out.mod m6 (fun f => f) (fun f => f)).mod m7 (fun e => HIT.out (e : it = w5.heap.size)) (fun e => HLT5.out mk (.inr (.inl rfl)) (e : mk = w5.heap.size))
        clear hC5 hM5 m6 m7 b6 hjv hi5 hlt5 hgt
        have hnext : ∀ z ∈ j :: done, z ∈ l1.map (·.1) := by
          intro z hz
          rcases List.mem_cons.1 hz with rfl | hz
          · exact List.mem_map_of_mem (f := (·.1)) (aget_mem HV.out)
          · exact H2.out z hz
        have hnd2 : (j :: done).Nodup := List.nodup_cons.2 ⟨hnj, hnd⟩
        have hle := nodup_sub_len _ _ hnd2 hnext
        simp only [List.length_cons, List.length_map] at hle
        have HN := Lib.hid hnext; clear hnext
        have HD2 := Lib.hid hnd2; clear hnd2 hnd hnj
        have h7 : CMem w7.drew c b mk most no hits misses l1 ∧ Blk w7.drew w5.heap.size 105 #[.slice v.A 512 v.c, .int .i64 v.t] := ⟨hC7.drew, b7.drew⟩
        clear hC7 b7
        have HM7 := Lib.hid (And.intro hM7.drew (show IterE w7.drew it mk Kp.enc l1 (j :: done) from hi7.keep rfl rfl)); clear hM7 hi7
        by_cases hlt : v.t < y.t
        · have hlt' : decide (v.t < y.t) = true := by simpa using hlt
          go_frame
          refine wp_region_planC (fun w' => CMem w' c b mk most no hits misses l1 ∧ Blk w' w5.heap.size 105 #[.slice v.A 512 v.c, .int .i64 v.t]) [(0, true), (1, true), (2, true), (3, true), (4, true), (5, true), (6, true), (7, true), (8, true), (9, true)] (by kernel_rfl) (by kernel_rfl) h7 ?_
          iterate 1 (refine pc_pure rfl rfl (fun K hK => ?_); go_simp; refine hK _ ?_; clear hK K)
          refine pc_take _ rfl rfl (fun w' hS => exec_load1 (P := Try.prog) 3 _ rfl rfl (hS.2.cell 1) Try.underlying3 rfl) (fun K hK => ?_); go_simp; refine hK _ ?_; clear hK K
          iterate 3 (refine pc_pure rfl rfl (fun K hK => ?_); go_simp; refine hK _ ?_; clear hK K)
          refine pc_take _ rfl rfl (fun w' hS => exec_load1 (P := Try.prog) 70 _ rfl rfl (hS.1.blk.cell 3) Try.underlying70 rfl) (fun K hK => ?_); go_simp; refine hK _ ?_; clear hK K
          iterate 1 (refine pc_pure rfl rfl (fun K hK => ?_); go_simp; refine hK _ ?_; clear hK K)
          refine pc_take _ rfl rfl (fun w' hS => exec_lookup_some (P := Try.prog) (t := 70) _ _ rfl e y rfl rfl hS.1.map Try.underlying70 Try.underlying3 info_kept H3.out (v := .agg #[.slice y.A 512 y.c, .int .i64 y.t]) rfl) (fun K hK => ?_); go_simp; refine hK _ ?_; clear hK K
          have hfl := fun w => field_kept1 w y.A 512 y.c y.t
          iterate 2 (refine pc_pure rfl rfl (fun K hK => ?_); go_simp; refine hK _ ?_; clear hK K)
          refine pc_nil ?_
          clear hfl
          clear hlt'
          go_wp2_with fail
          go_roundg (gk - 1)
          case measure => have := H1.out; omega
          case rel => exact ⟨j, v, j :: done, rfl, HV.out, (fun z hz u hu => by
            rcases List.mem_cons.1 hz with rfl | hz
            · rw [HV.out] at hu; injection hu with hu; subst hu; exact Int.le_refl _
            · have := H4.out z hz u hu; omega), by have := H1.out; simp only [List.length_cons]; omega, HD2.out, HN.out, h7.1, HM7.out.2, HM7.out.1⟩
        · have hlt' : decide (v.t < y.t) = false := by simpa using hlt
          go_frame
          refine wp_region_planC (fun w' => CMem w' c b mk most no hits misses l1 ∧ Blk w' w5.heap.size 105 #[.slice v.A 512 v.c, .int .i64 v.t]) [(0, true), (1, true), (2, true), (3, true), (4, true), (5, true), (6, true), (7, true), (8, true), (9, true)] (by kernel_rfl) (by kernel_rfl) h7 ?_
          iterate 1 (refine pc_pure rfl rfl (fun K hK => ?_); go_simp; refine hK _ ?_; clear hK K)
          refine pc_take _ rfl rfl (fun w' hS => exec_load1 (P := Try.prog) 3 _ rfl rfl (hS.2.cell 1) Try.underlying3 rfl) (fun K hK => ?_); go_simp; refine hK _ ?_; clear hK K
          iterate 3 (refine pc_pure rfl rfl (fun K hK => ?_); go_simp; refine hK _ ?_; clear hK K)
          refine pc_take _ rfl rfl (fun w' hS => exec_load1 (P := Try.prog) 70 _ rfl rfl (hS.1.blk.cell 3) Try.underlying70 rfl) (fun K hK => ?_); go_simp; refine hK _ ?_; clear hK K
          iterate 1 (refine pc_pure rfl rfl (fun K hK => ?_); go_simp; refine hK _ ?_; clear hK K)
          refine pc_take _ rfl rfl (fun w' hS => exec_lookup_some (P := Try.prog) (t := 70) _ _ rfl e y rfl rfl hS.1.map Try.underlying70 Try.underlying3 info_kept H3.out (v := .agg #[.slice y.A 512 y.c, .int .i64 y.t]) rfl) (fun K hK => ?_); go_simp; refine hK _ ?_; clear hK K
          have hfl := fun w => field_kept1 w y.A 512 y.c y.t
          iterate 2 (refine pc_pure rfl rfl (fun K hK => ?_); go_simp; refine hK _ ?_; clear hK K)
          refine pc_nil ?_
          clear hfl
          clear hlt'
          go_wp2_with fail
          go_roundg (gk - 1)
          case measure => have := H1.out; omega
          case rel => exact ⟨e, y, j :: done, rfl, H3.out, (fun z hz u hu => by
            rcases List.mem_cons.1 hz with rfl | hz
            · rw [HV.out] at hu; injection hu with hu; subst hu; omega
            · exact H4.out z hz u hu), by have := H1.out; simp only [List.length_cons]; omega, HD2.out, HN.out, h7.1, HM7.out.2, HM7.out.1⟩
end Go.Proofs.Ytijmkbhbpbkkoaa
