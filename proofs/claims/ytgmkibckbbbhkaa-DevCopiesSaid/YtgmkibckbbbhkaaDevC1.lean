/- The device: Copy. -/
import Derived.Test.YtgmkibckbbbhkaaDevB
import Derived.Test.YtgmkibckbbbhkaaDev5
import Derived.Test.YtgmkibckbbbhkaaDev8
import Derived.Test.YtgmkibckbbbhkaaKit14
namespace Go.Proofs.Ytgmkibckbbbhkaa
open Go.RowKit

/-- a copy that is being made -/
def cpD (D : Dk) (d1 d2 : List Int) : Dk := ⟨D.n, fun j => if j ∈ d1 then D.safe j else none, fun j => if j ∈ d2 then D.opn j else none, D.armed, D.down⟩
theorem cpD_all {D : Dk} {ls lo : List (Int × List Int)} {d1 d2 : List Int} (h1 : ∀ k, aget ls k = D.safe k) (h2 : ∀ k, aget lo k = D.opn k) (a1 : ∀ e ∈ ls, e.1 ∈ d1) (a2 : ∀ e ∈ lo, e.1 ∈ d2) : cpD D d1 d2 = D := by
  have key : ∀ (f : Int → Option (List Int)) (l : List (Int × List Int)) (d : List Int), (∀ k, aget l k = f k) → (∀ e ∈ l, e.1 ∈ d) → (fun j => if j ∈ d then f j else none) = f := by
    intro f l d h a
    funext j
    by_cases hj : j ∈ d
    · rw [if_pos hj]
    · rw [if_neg hj]
      cases hf : f j with
      | none => rfl
      | some v =>
        rw [← h] at hf
        exact absurd (a _ (aget_mem hf)) hj
  unfold cpD
  rw [key D.safe ls d1 h1 a1, key D.opn lo d2 h2 a2]
theorem cp_safe {w w' : World} {b ms mo : Nat} {D : Dk} {d1 d2 : List Int} (h : DiskAt w b ms mo (cpD D d1 d2)) {l : List (Int × List Int)} (hk : ∀ k, aget l k = (cpD D d1 d2).safe k) {k : Int} {bs : List Int}
    (ho : D.safe k = some bs) (h1 : MapE w' ms secV (aset l k bs)) (hm : Mod (At ms) w w') (hbs : bs.length = 512) : DiskAt w' b ms mo (cpD D (k :: d1) d2) := by
  refine ⟨h.blk.mod hm (fun e => h.nb1 (e : b = ms).symm), ⟨_, h1, fun j => ?_⟩, ?_, h.ne, ⟨h.ok.n1, h.ok.n2, h.ok.a1, h.ok.a2, fun j v hv => ?_, h.ok.ol⟩⟩
  · rw [aget_aset, hk]
    simp only [cpD, List.mem_cons]
    by_cases hj : j = k
    · subst hj; simp [ho]
    · simp [hj]
  · obtain ⟨lo, a, c⟩ := h.omap; exact ⟨lo, a.mod hm (fun e => h.ne (e : mo = ms).symm), c⟩
  · simp only [cpD, List.mem_cons] at hv
    by_cases hj : j = k
    · subst hj; simp [ho] at hv; subst hv; exact hbs
    · simp only [hj, false_or] at hv; exact h.ok.sl j v hv
theorem cp_opn {w w' : World} {b ms mo : Nat} {D : Dk} {d1 d2 : List Int} (h : DiskAt w b ms mo (cpD D d1 d2)) {l : List (Int × List Int)} (hk : ∀ k, aget l k = (cpD D d1 d2).opn k) {k : Int} {bs : List Int}
    (ho : D.opn k = some bs) (h1 : MapE w' mo secV (aset l k bs)) (hm : Mod (At mo) w w') (hbs : bs.length = 512) : DiskAt w' b ms mo (cpD D d1 (k :: d2)) := by
  refine ⟨h.blk.mod hm (fun e => h.nb2 (e : b = mo).symm), ?_, ⟨_, h1, fun j => ?_⟩, h.ne, ⟨h.ok.n1, h.ok.n2, h.ok.a1, h.ok.a2, h.ok.sl, fun j v hv => ?_⟩⟩
  · obtain ⟨ls, a, c⟩ := h.smap; exact ⟨ls, a.mod hm h.ne, c⟩
  · rw [aget_aset, hk]
    simp only [cpD, List.mem_cons]
    by_cases hj : j = k
    · subst hj; simp [ho]
    · simp [hj]
  · simp only [cpD, List.mem_cons] at hv
    by_cases hj : j = k
    · subst hj; simp [ho] at hv; subst hv; exact hbs
    · simp only [hj, false_or] at hv; exact h.ok.ol j v hv
theorem cp_start {w w' : World} {b ms mo : Nat} {D : Dk} (h : DiskAt w b ms mo (Dk.new D.n)) (hb : Blk w' b 65 #[.int .i64 D.n, .map (some ms), .map (some mo), .int .i64 D.armed, .bool D.down]) (hm : Mod (At b) w w') (hok : D.ok) :
    DiskAt w' b ms mo (cpD D [] []) := by
  refine ⟨hb, ?_, ?_, h.ne, ⟨hok.n1, hok.n2, hok.a1, hok.a2, fun j v hv => ?_, fun j v hv => ?_⟩⟩
  · obtain ⟨ls, a, c⟩ := h.smap; exact ⟨ls, a.mod hm (fun e => h.nb1 (e : ms = b)), fun k => by rw [c]; simp [cpD, Dk.new]⟩
  · obtain ⟨ls, a, c⟩ := h.omap; exact ⟨ls, a.mod hm (fun e => h.nb2 (e : mo = b)), fun k => by rw [c]; simp [cpD, Dk.new]⟩
  · simp [cpD] at hv
  · simp [cpD] at hv
def CpP (w : World) (b ms mo : Nat) (D : Dk) (e : Ending) (w' : World) : Prop :=
  ∃ b2 ms2 mo2, e = .returned (.pointer (some ⟨b2, 0, none⟩)) ∧ DiskAt w' b2 ms2 mo2 D ∧ Mod Nn w w' ∧ (∀ k, In3 b2 ms2 mo2 k → w.heap.size ≤ k)

set_option maxRecDepth 100000 in
set_option maxHeartbeats 3200000 in
theorem copy_any {w : World} {b ms mo : Nat} {D : Dk} (h : DiskAt w b ms mo D) : Calls Try.prog 45 #[.pointer (some ⟨b, 0, none⟩)] w (CpP w b ms mo D) := by
  have hn0 : (D.n == 0) = false := by have := h.ok.n1; rw [beq_eq_false_iff_ne]; omega
  have c0 := h.c0
  have H := Lib.hid h; clear h
  go_enter Try.func45, Try.ntmps45
  go_wp2_with fail
  clear hn0
  refine (new_any D.n _ H.out.ok.n1 H.out.ok.n2).mono ?_
  rintro r w1 ⟨b2, ms2, mo2, rfl, hd1, m1, hf⟩
  have HF := Lib.hid hf
  have hdo := H.out.mod m1 (fun _ _ f => f)
  have hbb : b2 ≠ b := fun e => by have := hf b2 (.inl rfl); have := H.out.lt b (.inl rfl); omega
  have c3 := hdo.c3; have c4 := hdo.c4
  have e3 := hd1.c3; have e4 := hd1.c4
  have f3 := hd1.blk.frozen 3; have f4 := hd1.blk.frozen 4
  have HD := Lib.hid (And.intro hd1 (And.intro hdo m1))
  have HB := Lib.hid hbb
  clear hf hd1 hdo m1 c0
  go_wp2_with fail
  refine wp_region_planC (fun w' => w'.cell? ⟨b, 3, none⟩ = some (.int .i64 D.armed) ∧ w'.cell? ⟨b, 4, none⟩ = some (.bool D.down)) [(0, true), (1, true), (2, true), (3, true), (4, true), (5, true), (6, true), (7, true), (8, true), (9, true), (10, true), (11, true), (12, false), (13, true), (14, true), (15, false)] (by kernel_rfl) (by kernel_rfl) ⟨c3, c4⟩ ?_
  iterate 5 (refine pc_pure rfl rfl (fun K hK => ?_); go_simp; refine hK _ ?_; clear hK K)
  refine pc_take _ rfl rfl (fun w' hS => exec_load1 (P := Try.prog) 3 _ rfl rfl hS.1 Try.underlying3 rfl) (fun K hK => ?_); go_simp; refine hK _ ?_; clear hK K
  iterate 3 (refine pc_pure rfl rfl (fun K hK => ?_); go_simp; refine hK _ ?_; clear hK K)
  refine pc_take _ rfl rfl (fun w' hS => exec_load1 (P := Try.prog) 4 _ rfl rfl hS.2 Try.underlying4 rfl) (fun K hK => ?_); go_simp; refine hK _ ?_; clear hK K
  iterate 2 (refine pc_pure rfl rfl (fun K hK => ?_); go_simp; refine hK _ ?_; clear hK K)
  have c3' : (w1.drew.setCell ⟨b2, 3, none⟩ (.int .i64 D.armed)).cell? ⟨b, 3, none⟩ = some (.int .i64 D.armed) := by rw [cell_far hbb]; exact c3
  have c4' : (w1.drew.setCell ⟨b2, 3, none⟩ (.int .i64 D.armed)).cell? ⟨b, 4, none⟩ = some (.bool D.down) := by rw [cell_far hbb]; exact c4
  refine pc_unit (w1 := w1.drew.setCell ⟨b2, 3, none⟩ (.int .i64 D.armed)) rfl rfl (exec_store1 (P := Try.prog) 3 _ _ rfl rfl rfl e3 f3 rfl rfl rfl (by kernel_rfl)) ⟨c3', c4'⟩ (fun K hK => ?_); go_simp; refine hK _ ?_; clear hK K
  iterate 2 (refine pc_pure rfl rfl (fun K hK => ?_); go_simp; refine hK _ ?_; clear hK K)
  have hb4 := HD.out.1.blk.drew.set_ 3 (.int .i64 D.armed)
  have e4' := hb4.cell 4
  have f4' := hb4.frozen 4
  have hb5 := hb4.set_ 4 (.bool D.down)
  refine pc_unit (w1 := (w1.drew.setCell ⟨b2, 3, none⟩ (.int .i64 D.armed)).setCell ⟨b2, 4, none⟩ (.bool D.down)) rfl rfl (exec_store1 (P := Try.prog) 4 _ _ rfl rfl rfl e4' f4' rfl rfl rfl (by kernel_rfl)) (by constructor <;> (rw [cell_far hbb]; first | exact c3' | exact c4')) (fun K hK => ?_); go_simp; refine hK _ ?_; clear hK K
  refine pc_nil ?_
  have m2 : Mod (At b2) w1 ((w1.drew.setCell ⟨b2, 3, none⟩ (.int .i64 D.armed)).setCell ⟨b2, 4, none⟩ (.bool D.down)) := ((Mod.refl (At b2) w1).drew.setCell (p := ⟨b2, 3, none⟩) (.inr rfl) _).setCell (p := ⟨b2, 4, none⟩) (.inr rfl) _
  have hs2 := cp_start (D := D) HD.out.1 hb5 m2 H.out.ok
  have hd2 := HD.out.2.1.mod m2 (fun k hk e => by have e : k = b2 := e; have := HF.out b2 (.inl rfl); have := H.out.lt k hk; omega)
  have M2 : Mod Nn w _ := HD.out.2.2.new_ m2 (HF.out b2 (.inl rfl))
  generalize (w1.drew.setCell ⟨b2, 3, none⟩ (.int .i64 D.armed)).setCell ⟨b2, 4, none⟩ (.bool D.down) = w2 at *
  have HS := Lib.hid (And.intro hs2 (And.intro hd2 M2))
  clear hb4 e4' f4' hb5 m2 hs2 hd2 M2 c3 c4 c3' c4' e3 e4 f3 f4 HD hbb
  obtain ⟨ls, hls, hks⟩ := HS.out.2.1.smap
  have HK := Lib.hid hks; clear hks
  have c1 := HS.out.2.1.c1
  go_wp2_with (first
    | (with_reducible change wpList _ _ _ (⟨_, Op.range _ _, _, _, _, _⟩ :: _) _ _
       go_must (refine wpList_range_E 63 _ rfl rfl ms rfl hls Try.underlying63 ?_)
       intro w3 i3 m3 z3
       clear z3))
  have HI := Lib.hid (And.intro i3 m3); clear i3 m3
  go_frame
  obtain ⟨it, hit⟩ : ∃ x, w2.heap.size = x := ⟨_, rfl⟩
  rw [hit] at HI ⊢
  have HIT := Lib.hid hit
  have HLT := Lib.hid (And.intro HS.out.1.lt HS.out.2.1.lt)
  clear hit hls c1
  go_loopg [] ls.length (fun k wr => ∃ done : List Int, k + done.length = ls.length ∧ done.Nodup ∧ (∀ x ∈ done, x ∈ ls.map (·.1)) ∧ DiskAt wr b2 ms2 mo2 (cpD D done []) ∧ DiskAt wr b ms mo D ∧ IterE wr it ms secV ls done ∧ Mod Nn w wr)
  case atStart => exact ⟨[], rfl, List.nodup_nil, by simp, HS.out.1.mod HI.out.2 (fun _ _ f => f), HS.out.2.1.mod HI.out.2 (fun _ _ f => f), HI.out.1, HS.out.2.2.nn_ HI.out.2⟩
  case round =>
    clear HI
    obtain ⟨done, hk, hnd, hsub, hdr, hdo, hir, hmr⟩ := hrel
    have H1 := Lib.hid hk; have H2 := Lib.hid hsub; clear hk hsub
    rcases run_next_map (P := Try.prog) hir with ⟨hall, hrun⟩ | ⟨k, v, w4, hkv, hnk, hrun, hi4, hm4, hz4⟩
    · have HA := Lib.hid hall; clear hall
      obtain ⟨lo, hlo, hko⟩ := hdo.omap
      have HKO := Lib.hid hko; clear hko
      have c2 := hdo.c2
      have HX := Lib.hid (And.intro hdr (And.intro hdo hmr)); clear hdr hdo hmr hir
      go_wp2_with (first
        | (with_reducible change wpList _ _ _ (⟨_, Op.range _ _, _, _, _, _⟩ :: _) _ _
           go_must (refine wpList_range_E 63 _ rfl rfl mo rfl hlo Try.underlying63 ?_)
           intro w3 i3 m3 z3
           clear z3))
      have HI2 := Lib.hid (And.intro i3 m3); clear i3 m3
      go_frame
      obtain ⟨it2, hit2⟩ : ∃ x, wr.heap.size = x := ⟨_, rfl⟩
      rw [hit2] at HI2 ⊢
      have HIT2 := Lib.hid hit2
      have HLT2 := Lib.hid (And.intro HX.out.1.lt HX.out.2.1.lt)
      have HDN := Lib.hid (And.intro H2.out HA.out)
      clear hit2 hlo c2 H1 H2 HA hnd hrun
      go_loopg [] lo.length (fun k wr => ∃ don2 : List Int, k + don2.length = lo.length ∧ don2.Nodup ∧ (∀ x ∈ don2, x ∈ lo.map (·.1)) ∧ DiskAt wr b2 ms2 mo2 (cpD D done don2) ∧ DiskAt wr b ms mo D ∧ IterE wr it2 mo secV lo don2 ∧ Mod Nn w wr)
      case atStart => exact ⟨[], rfl, List.nodup_nil, by simp, HX.out.1.mod HI2.out.2 (fun _ _ f => f), HX.out.2.1.mod HI2.out.2 (fun _ _ f => f), HI2.out.1, HX.out.2.2.nn_ HI2.out.2⟩
      case round =>
        clear HI2
        obtain ⟨don2, hk, hnd, hsub, hdr, hdo, hir, hmr⟩ := hrel
        have H1 := Lib.hid hk; have H2 := Lib.hid hsub; clear hk hsub
        rcases run_next_map (P := Try.prog) hir with ⟨hall, hrun⟩ | ⟨k, v, w4, hkv, hnk, hrun, hi4, hm4, hz4⟩
        · have hfin := cpD_all HK.out HKO.out HDN.out.2 hall
          rw [hfin] at hdr
          have HE := Lib.hid (And.intro hdr hmr); clear hdr hmr hdo hir hall hfin
          go_wp2
          go_ret
          exact ⟨b2, ms2, mo2, rfl, HE.out.1, HE.out.2, HF.out⟩
        · have hdr4 := hdr.mod hm4 (fun x hx e => by have e : x = it2 := e; have := HIT2.out; have := HLT2.out.1 x hx; omega)
          have hdo4 := hdo.mod hm4 (fun x hx e => by have e : x = it2 := e; have := HIT2.out; have := HLT2.out.2 x hx; omega)
          have HZ := Lib.hid hz4; clear hz4
          have hkv' : D.opn k = some v := by rw [← HKO.out]; exact hkv
          have hvl : v.length = 512 := H.out.ok.ol k v hkv'
          have HV := Lib.hid (And.intro hvl hkv'); clear hkv' hvl
          obtain ⟨l2, hl2, hk2⟩ := hdr4.omap
          have HK2 := Lib.hid hk2; clear hk2
          have hgt : it2 < wr.heap.size := hir.lt
          have HR := Lib.hid (And.intro hdr4 (And.intro hdo4 hmr)); clear hdr hdo hmr hdr4 hdo4
          go_wp2_with (first
            | (with_reducible change wpList _ _ _ (⟨_, Op.entry _, _, _, _, _⟩ :: _) _ _
               go_must (refine wpList_entry_E _ rfl rfl _ k v don2 rfl hi4 hkv ?_))
            | (with_reducible change wpList _ _ _ (⟨some 7, Op.alloc _, _, _, _, _⟩ :: _) _ _
               go_must (refine wpList_alloc_var 101 rfl rfl info_sec ?_)
               intro w5 b5 m5 z5
               have Z5 := Lib.hid z5; clear z5)
            | (with_reducible change wpList _ _ _ (⟨none, Op.store 101 (Operand.tmp 7) _, _, _, _, _⟩ :: _) _ _
               go_must (refine wpList_store_var 101 _ _ rfl rfl _ (v.map (Value.int .u8)).toArray _ _ rfl rfl b5 (by rw [size_sec]; simp [HV.out.1]) (by rw [zsecV, secV_size, zsec_len]; simp [HV.out.1]) (ints_one _ _) ?_)
               intro w6 b6 m6 z6
               have hdr6 := (HR.out.1.mod m5 (fun _ _ f => f)).mod m6 (fun x hx e => by have := HR.out.1.lt x hx; have : x = w4.heap.size := e; omega)
               have hdo6 := (HR.out.2.1.mod m5 (fun _ _ f => f)).mod m6 (fun x hx e => by have := HR.out.2.1.lt x hx; have : x = w4.heap.size := e; omega)
               have Z6 := Lib.hid z6; clear z6))
          go_frame
          have hcm := hdr6.c2
          have hb6 := b6
          refine wp_region_planT (fun w' => w'.cell? ⟨b2, 2, none⟩ = some (.map (some mo2)) ∧ Blk w' w4.heap.size 101 (v.map (Value.int .u8)).toArray) 6 [(0, 0), (1, 0), (2, 0), (3, 1), (4, 0), (5, 1), (6, 2)] (by kernel_rfl) (by kernel_rfl) ⟨hcm, hb6.drew⟩ ?_
          iterate 3 (refine pt_pure rfl rfl (fun K hK => ?_); go_simp; refine hK _ ?_; clear hK K)
          refine pt_take _ rfl rfl (fun w' hS => exec_load1 (P := Try.prog) 63 _ rfl rfl hS.1 Try.underlying63 rfl) (fun K hK => ?_); go_simp; refine hK _ ?_; clear hK K
          iterate 1 (refine pt_pure rfl rfl (fun K hK => ?_); go_simp; refine hK _ ?_; clear hK K)
          refine pt_take _ rfl rfl (fun w' hS => exec_load_row (P := Try.prog) 101 _ rfl rfl hS.2 Try.underlying101 rfl (by rw [size_sec]; simp [HV.out.1])) (fun K hK => ?_); go_simp; refine hK _ ?_; clear hK K
          have hl6 := ((hl2.mod m5 (fun f => f)).mod m6 (fun e => by have := hl2.lt; have : mo2 = w4.heap.size := e; omega))
          refine pt_mapUpdate 63 _ _ _ rfl rfl rfl k v rfl rfl rfl hl6.drew Try.underlying63 Try.underlying3 ?_
          intro w7 h7 m7 z7
          refine ⟨fun h => (by simp at h), fun K hK => ?_⟩; go_simp; refine hK _ ?_; clear hK K
          refine pt_nil ?_
          have hd7 := cp_opn hdr6 HK2.out HV.out.2 h7 m7.of_drew HV.out.1
          have hdo7 := hdo6.mod m7.of_drew (fun x hx e => by have e : x = mo2 := e; have := HF.out x (by rw [e]; exact (.inr (.inr rfl))); have := H.out.lt x hx; omega)
          have hi7 : IterE w7 it2 mo secV lo (k :: don2) :=
            ((hi4.mod m5 (fun f => f) (fun f => f)).mod m6 (fun e => by have : it2 = w4.heap.size := e; have := HZ.out; omega) (fun e => by have := hi4.map.lt; have : mo = w4.heap.size := e; omega)).mod m7.of_drew
              (fun e => by have e : it2 = mo2 := e; have := HIT2.out; have := HLT2.out.1 mo2 (.inr (.inr rfl)); omega) (fun e => by have e : mo = mo2 := e; have := HF.out mo2 (.inr (.inr rfl)); have := H.out.lt mo (.inr (.inr rfl)); omega)
          clear z7
          have hkeys : k ∈ lo.map (·.1) := List.mem_map_of_mem (f := (·.1)) (aget_mem hkv)
          have hsub2 : ∀ x ∈ k :: don2, x ∈ lo.map (·.1) := by
            intro x hx
            rcases List.mem_cons.1 hx with rfl | hx
            · exact hkeys
            · exact H2.out x hx
          have hnd2 : (k :: don2).Nodup := List.nodup_cons.2 ⟨hnk, hnd⟩
          have hle := nodup_sub_len _ _ hnd2 hsub2
          simp only [List.length_cons, List.length_map] at hle
          have hm7 : Mod Nn w w7 := (((HR.out.2.2.new_ hm4 (by have := HIT2.out; have := HX.out.2.2.size; omega)).nn_ m5).new_ m6 (by have := HR.out.2.2.size; have := HZ.out; omega)).new_ m7.of_drew (HF.out _ (.inr (.inr rfl)))
          go_wp2_with fail
          go_roundg (gk - 1)
          case measure => have := H1.out; omega
          case rel => exact ⟨k :: don2, by have := H1.out; simp only [List.length_cons]; omega, hnd2, hsub2, hd7, hdo7, hi7, hm7⟩
    · have hdr4 := hdr.mod hm4 (fun x hx e => by have e : x = it := e; have := HIT.out; have := HLT.out.1 x hx; omega)
      have hdo4 := hdo.mod hm4 (fun x hx e => by have e : x = it := e; have := HIT.out; have := HLT.out.2 x hx; omega)
      have HZ := Lib.hid hz4; clear hz4
      have hkv' : D.safe k = some v := by rw [← HK.out]; exact hkv
      have hvl : v.length = 512 := H.out.ok.sl k v hkv'
      have HV := Lib.hid (And.intro hvl hkv'); clear hkv' hvl
      obtain ⟨l2, hl2, hk2⟩ := hdr4.smap
      have HK2 := Lib.hid hk2; clear hk2
      have hgt : it < wr.heap.size := hir.lt
      have HR := Lib.hid (And.intro hdr4 (And.intro hdo4 hmr)); clear hdr hdo hmr hdr4 hdo4
      go_wp2_with (first
        | (with_reducible change wpList _ _ _ (⟨_, Op.entry _, _, _, _, _⟩ :: _) _ _
           go_must (refine wpList_entry_E _ rfl rfl _ k v done rfl hi4 hkv ?_))
        | (with_reducible change wpList _ _ _ (⟨some 5, Op.alloc _, _, _, _, _⟩ :: _) _ _
           go_must (refine wpList_alloc_var 101 rfl rfl info_sec ?_)
           intro w5 b5 m5 z5
           have Z5 := Lib.hid z5; clear z5)
        | (with_reducible change wpList _ _ _ (⟨none, Op.store 101 (Operand.tmp 5) _, _, _, _, _⟩ :: _) _ _
           go_must (refine wpList_store_var 101 _ _ rfl rfl _ (v.map (Value.int .u8)).toArray _ _ rfl rfl b5 (by rw [size_sec]; simp [HV.out.1]) (by rw [zsecV, secV_size, zsec_len]; simp [HV.out.1]) (ints_one _ _) ?_)
           intro w6 b6 m6 z6
           have hdr6 := (HR.out.1.mod m5 (fun _ _ f => f)).mod m6 (fun x hx e => by have := HR.out.1.lt x hx; have : x = w4.heap.size := e; omega)
           have hdo6 := (HR.out.2.1.mod m5 (fun _ _ f => f)).mod m6 (fun x hx e => by have := HR.out.2.1.lt x hx; have : x = w4.heap.size := e; omega)
           have Z6 := Lib.hid z6; clear z6))
      go_frame
      have hcm := hdr6.c1
      have hb6 := b6
      refine wp_region_planT (fun w' => w'.cell? ⟨b2, 1, none⟩ = some (.map (some ms2)) ∧ Blk w' w4.heap.size 101 (v.map (Value.int .u8)).toArray) 6 [(0, 0), (1, 0), (2, 0), (3, 1), (4, 0), (5, 1), (6, 2)] (by kernel_rfl) (by kernel_rfl) ⟨hcm, hb6.drew⟩ ?_
      iterate 3 (refine pt_pure rfl rfl (fun K hK => ?_); go_simp; refine hK _ ?_; clear hK K)
      refine pt_take _ rfl rfl (fun w' hS => exec_load1 (P := Try.prog) 63 _ rfl rfl hS.1 Try.underlying63 rfl) (fun K hK => ?_); go_simp; refine hK _ ?_; clear hK K
      iterate 1 (refine pt_pure rfl rfl (fun K hK => ?_); go_simp; refine hK _ ?_; clear hK K)
      refine pt_take _ rfl rfl (fun w' hS => exec_load_row (P := Try.prog) 101 _ rfl rfl hS.2 Try.underlying101 rfl (by rw [size_sec]; simp [HV.out.1])) (fun K hK => ?_); go_simp; refine hK _ ?_; clear hK K
      have hl6 := ((hl2.mod m5 (fun f => f)).mod m6 (fun e => by have := hl2.lt; have : ms2 = w4.heap.size := e; omega))
      refine pt_mapUpdate 63 _ _ _ rfl rfl rfl k v rfl rfl rfl hl6.drew Try.underlying63 Try.underlying3 ?_
      intro w7 h7 m7 z7
      refine ⟨fun h => (by simp at h), fun K hK => ?_⟩; go_simp; refine hK _ ?_; clear hK K
      refine pt_nil ?_
      have hd7 := cp_safe hdr6 HK2.out HV.out.2 h7 m7.of_drew HV.out.1
      have hdo7 := hdo6.mod m7.of_drew (fun x hx e => by have e : x = ms2 := e; have := HF.out x (by rw [e]; exact (.inr (.inl rfl))); have := H.out.lt x hx; omega)
      have hi7 : IterE w7 it ms secV ls (k :: done) :=
        ((hi4.mod m5 (fun f => f) (fun f => f)).mod m6 (fun e => by have : it = w4.heap.size := e; have := HZ.out; omega) (fun e => by have := hi4.map.lt; have : ms = w4.heap.size := e; omega)).mod m7.of_drew
          (fun e => by have e : it = ms2 := e; have := HIT.out; have := HLT.out.1 ms2 (.inr (.inl rfl)); omega) (fun e => by have e : ms = ms2 := e; have := HF.out ms2 (.inr (.inl rfl)); have := H.out.lt ms (.inr (.inl rfl)); omega)
      clear z7
      have hkeys : k ∈ ls.map (·.1) := List.mem_map_of_mem (f := (·.1)) (aget_mem hkv)
      have hsub2 : ∀ x ∈ k :: done, x ∈ ls.map (·.1) := by
        intro x hx
        rcases List.mem_cons.1 hx with rfl | hx
        · exact hkeys
        · exact H2.out x hx
      have hnd2 : (k :: done).Nodup := List.nodup_cons.2 ⟨hnk, hnd⟩
      have hle := nodup_sub_len _ _ hnd2 hsub2
      simp only [List.length_cons, List.length_map] at hle
      have hm7 : Mod Nn w w7 := (((HR.out.2.2.new_ hm4 (by have := HIT.out; have := HS.out.2.2.size; omega)).nn_ m5).new_ m6 (by have := HR.out.2.2.size; have := HZ.out; omega)).new_ m7.of_drew (HF.out _ (.inr (.inl rfl)))
      go_wp2_with fail
      go_roundg (gk - 1)
      case measure => have := H1.out; omega
      case rel => exact ⟨k :: done, by have := H1.out; simp only [List.length_cons]; omega, hnd2, hsub2, hd7, hdo7, hi7, hm7⟩
end Go.Proofs.Ytgmkibckbbbhkaa
