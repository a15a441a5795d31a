/- peatbanklaw21.JournalOn (printed by wip/gen/jn21.py). -/
import Derived.Test.YtijmkbhbpbkkoaaJnD
import Derived.Test.YtijmkbhbpbkkoaaJn20
import Derived.Test.YtijmkbhbpbkkoaaKitE
namespace Go.Proofs.Ytijmkbhbpbkkoaa
open Go.RowKit

theorem jst_new (N : Int) (hf : Int) (J : Nat) (ep : Int) : JSt (Dk.new N) (Dk.new N) hf J ep [] :=
  ⟨⟨rfl, rfl⟩, rfl, Nat.zero_le _, by rw [rowsL_zero 0]; rfl, fun _ _ => rfl⟩
section
variable {w : World} {A A' : Option Addr} {n n' cc cc' : Nat} {R R' : List (List Nat)}
set_option maxRecDepth 100000 in
set_option maxHeartbeats 12800000 in
theorem journalon_any (g : Geo) (ep : Int) (hr : RdR w A n R) (hn : n ≤ 9223372036854775807) (hl : ∀ r ∈ R, ∀ z ∈ r, z < 256) (hr' : RdR w A' n' R') (hn' : n' ≤ 9223372036854775807) (hl' : ∀ r ∈ R', ∀ z ∈ r, z < 256) :
    Calls Try.prog 3 #[gV g, .int .i64 ep, .slice A n cc, .slice A' n' cc'] w fun e w' => e = .returned (.bool true) ∧ Mod Nn w w' := by
  have HL := Lib.hid (And.intro hr (And.intro hn (And.intro hl (And.intro hr' (And.intro hn' hl')))))
  clear hr hl hn hr' hl' hn'
  unfold gV
  go_enter Try.func3, Try.ntmps3
  go_wp2_with (first
    | (with_reducible change wpList _ _ _ (⟨some 4, Op.box _ _, _, _, _, _⟩ :: _) _ _
       go_must (refine wpList_box_var 23 _ rfl rfl (gC g) rfl ?_)
       intro w1 b1 m1 z1
       clear z1
       have hs1 : w.heap.size < w1.heap.size := b1.lt
       have H1 := Lib.hid (And.intro m1 b1)
       clear m1 b1))
  refine (jawake_any w1).mono ?_
  rintro r w2 ⟨rfl, m2⟩
  have hs2 : w1.heap.size ≤ w2.heap.size := m2.size
  have H2 := Lib.hid (And.intro (H1.out.1.nn_ m2) (H1.out.2.mod m2 (fun f => f)))
  clear m2
  have HB := Lib.hid (show ∀ w', Mod Nn w2.drew w' → Blk w' w.heap.size 23 (gC g) from fun w' m => (H2.out.2.mod (Mod.refl Nn w2).drew (fun f => f)).mod m (fun f => f))
  by_cases hno : ¬ Light R
  · have HLi := Lib.hid (show decide (Light R) = false from decide_eq_false hno)
    go_wp2_with fail
    refine wp_region_planC (fun w' => Mod Nn w2.drew w') [(0, true), (1, false), (2, true), (3, true), (4, true), (5, false), (6, true), (7, true), (8, true), (9, true), (10, false), (11, true), (12, true), (13, true), (14, true), (15, true), (16, true), (17, false), (18, false), (19, true), (20, true)] (by kernel_rfl) (by kernel_rfl) (Mod.refl _ _) ?_
    iterate 1 (refine pc_pure rfl rfl (fun K hK => ?_); go_simp; refine hK _ ?_; clear hK K)
    refine pc_call rfl rfl (fun K hK => ?_); go_simp; refine ⟨_, _, ⟨rfl, rfl⟩, hK _ _ _ ?_⟩; clear hK K
    refine (light_any (HL.out.1.mod (H2.out.1.drew)) HL.out.2.1).mono ?_
    rintro e w3 ⟨rfl, m3⟩
    rw [HLi.out]
    have M3 := Lib.hid m3
    clear m3
    refine ⟨_, rfl, M3.out, ?_⟩
    iterate 2 (refine pc_pure rfl rfl (fun K hK => ?_); go_simp; refine hK _ ?_; clear hK K)
    refine pc_skip rfl rfl (fun K hK => ?_); go_simp; refine hK _ ?_; clear hK K
    refine pc_skipD rfl rfl (fun K hK => ?_); go_simp; refine hK _ ?_; clear hK K
    refine pc_skip rfl rfl (fun K hK => ?_); go_simp; refine hK _ ?_; clear hK K
    iterate 2 (refine pc_pure rfl rfl (fun K hK => ?_); go_simp; refine hK _ ?_; clear hK K)
    refine pc_skip rfl rfl (fun K hK => ?_); go_simp; refine hK _ ?_; clear hK K
    refine pc_skipD rfl rfl (fun K hK => ?_); go_simp; refine hK _ ?_; clear hK K
    refine pc_skip rfl rfl (fun K hK => ?_); go_simp; refine hK _ ?_; clear hK K
    iterate 2 (refine pc_pure rfl rfl (fun K hK => ?_); go_simp; refine hK _ ?_; clear hK K)
    iterate 3 (refine pc_skip rfl rfl (fun K hK => ?_); go_simp; refine hK _ ?_; clear hK K)
    refine pc_skipD rfl rfl (fun K hK => ?_); go_simp; refine hK _ ?_; clear hK K
    refine pc_skipD rfl rfl (fun K hK => ?_); go_simp; refine hK _ ?_; clear hK K
    refine pc_skip rfl rfl (fun K hK => ?_); go_simp; refine hK _ ?_; clear hK K
    iterate 1 (refine pc_pure rfl rfl (fun K hK => ?_); go_simp; refine hK _ ?_; clear hK K)
    refine pc_nil ?_
    go_wp2
    go_ret
    exact ⟨rfl, H2.out.1.drew.nn_ M3.out⟩
  have hli := Decidable.not_not.1 hno
  clear hno
  have HLi := Lib.hid (show decide (Light R) = true from decide_eq_true hli)
  by_cases hno : ¬ Light R'
  · have HLj := Lib.hid (show decide (Light R') = false from decide_eq_false hno)
    go_wp2_with fail
    refine wp_region_planC (fun w' => Mod Nn w2.drew w') [(0, true), (1, false), (2, true), (3, true), (4, true), (5, false), (6, true), (7, true), (8, true), (9, true), (10, false), (11, true), (12, true), (13, true), (14, true), (15, true), (16, true), (17, false), (18, false), (19, true), (20, true)] (by kernel_rfl) (by kernel_rfl) (Mod.refl _ _) ?_
    iterate 1 (refine pc_pure rfl rfl (fun K hK => ?_); go_simp; refine hK _ ?_; clear hK K)
    refine pc_call rfl rfl (fun K hK => ?_); go_simp; refine ⟨_, _, ⟨rfl, rfl⟩, hK _ _ _ ?_⟩; clear hK K
    refine (light_any (HL.out.1.mod (H2.out.1.drew)) HL.out.2.1).mono ?_
    rintro e w3 ⟨rfl, m3⟩
    rw [HLi.out]
    have M3 := Lib.hid m3
    clear m3
    refine ⟨_, rfl, M3.out, ?_⟩
    iterate 2 (refine pc_pure rfl rfl (fun K hK => ?_); go_simp; refine hK _ ?_; clear hK K)
    iterate 1 (refine pc_pure rfl rfl (fun K hK => ?_); go_simp; refine hK _ ?_; clear hK K)
    refine pc_call rfl rfl (fun K hK => ?_); go_simp; refine ⟨_, _, ⟨rfl, rfl⟩, hK _ _ _ ?_⟩; clear hK K
    refine (light_any (HL.out.2.2.2.1.mod (H2.out.1.drew.nn_ M3.out)) HL.out.2.2.2.2.1).mono ?_
    rintro e w4 ⟨rfl, m4⟩
    rw [HLj.out]
    have M4 := Lib.hid (M3.out.nn_ m4)
    clear m4
    refine ⟨_, rfl, M4.out, ?_⟩
    iterate 3 (refine pc_pure rfl rfl (fun K hK => ?_); go_simp; refine hK _ ?_; clear hK K)
    refine pc_skip rfl rfl (fun K hK => ?_); go_simp; refine hK _ ?_; clear hK K
    refine pc_skipD rfl rfl (fun K hK => ?_); go_simp; refine hK _ ?_; clear hK K
    refine pc_skip rfl rfl (fun K hK => ?_); go_simp; refine hK _ ?_; clear hK K
    iterate 2 (refine pc_pure rfl rfl (fun K hK => ?_); go_simp; refine hK _ ?_; clear hK K)
    iterate 3 (refine pc_skip rfl rfl (fun K hK => ?_); go_simp; refine hK _ ?_; clear hK K)
    refine pc_skipD rfl rfl (fun K hK => ?_); go_simp; refine hK _ ?_; clear hK K
    refine pc_skipD rfl rfl (fun K hK => ?_); go_simp; refine hK _ ?_; clear hK K
    refine pc_skip rfl rfl (fun K hK => ?_); go_simp; refine hK _ ?_; clear hK K
    iterate 1 (refine pc_pure rfl rfl (fun K hK => ?_); go_simp; refine hK _ ?_; clear hK K)
    refine pc_nil ?_
    go_wp2
    go_ret
    exact ⟨rfl, H2.out.1.drew.nn_ M4.out⟩
  have hlj := Decidable.not_not.1 hno
  clear hno
  have HLj := Lib.hid (show decide (Light R') = true from decide_eq_true hlj)
  by_cases hsec : 3000 < g.nsec
  · have d2 : decide (3000 < g.nsec) = true := decide_eq_true hsec
    go_wp2_with fail
    refine wp_region_planC (fun w' => Mod Nn w2.drew w') [(0, true), (1, false), (2, true), (3, true), (4, true), (5, false), (6, true), (7, true), (8, true), (9, true), (10, false), (11, true), (12, true), (13, true), (14, true), (15, true), (16, true), (17, false), (18, false), (19, true), (20, true)] (by kernel_rfl) (by kernel_rfl) (Mod.refl _ _) ?_
    iterate 1 (refine pc_pure rfl rfl (fun K hK => ?_); go_simp; refine hK _ ?_; clear hK K)
    refine pc_call rfl rfl (fun K hK => ?_); go_simp; refine ⟨_, _, ⟨rfl, rfl⟩, hK _ _ _ ?_⟩; clear hK K
    refine (light_any (HL.out.1.mod (H2.out.1.drew)) HL.out.2.1).mono ?_
    rintro e w3 ⟨rfl, m3⟩
    rw [HLi.out]
    have M3 := Lib.hid m3
    clear m3
    refine ⟨_, rfl, M3.out, ?_⟩
    iterate 2 (refine pc_pure rfl rfl (fun K hK => ?_); go_simp; refine hK _ ?_; clear hK K)
    iterate 1 (refine pc_pure rfl rfl (fun K hK => ?_); go_simp; refine hK _ ?_; clear hK K)
    refine pc_call rfl rfl (fun K hK => ?_); go_simp; refine ⟨_, _, ⟨rfl, rfl⟩, hK _ _ _ ?_⟩; clear hK K
    refine (light_any (HL.out.2.2.2.1.mod (H2.out.1.drew.nn_ M3.out)) HL.out.2.2.2.2.1).mono ?_
    rintro e w4 ⟨rfl, m4⟩
    rw [HLj.out]
    have M4 := Lib.hid (M3.out.nn_ m4)
    clear m4
    refine ⟨_, rfl, M4.out, ?_⟩
    iterate 3 (refine pc_pure rfl rfl (fun K hK => ?_); go_simp; refine hK _ ?_; clear hK K)
    refine pc_take _ rfl rfl (fun w' hS => exec_load_row (P := Try.prog) 23 _ rfl rfl (HB.out w' hS) Try.underlying23 rfl size_geo) (fun K hK => ?_); go_simp; refine hK _ ?_; clear hK K
    refine pc_call rfl rfl (fun K hK => ?_); go_simp; refine ⟨_, _, ⟨rfl, rfl⟩, hK _ _ _ ?_⟩; clear hK K
    refine (r11sectors_any g _).mono ?_
    rintro e w5 ⟨rfl, m5⟩
    have M5 := Lib.hid (M4.out.nn_ m5)
    clear m5
    refine ⟨_, rfl, M5.out, ?_⟩
    iterate 3 (refine pc_pure rfl rfl (fun K hK => ?_); go_simp; refine hK _ ?_; clear hK K)
    iterate 3 (refine pc_skip rfl rfl (fun K hK => ?_); go_simp; refine hK _ ?_; clear hK K)
    refine pc_skipD rfl rfl (fun K hK => ?_); go_simp; refine hK _ ?_; clear hK K
    refine pc_skipD rfl rfl (fun K hK => ?_); go_simp; refine hK _ ?_; clear hK K
    refine pc_skip rfl rfl (fun K hK => ?_); go_simp; refine hK _ ?_; clear hK K
    iterate 1 (refine pc_pure rfl rfl (fun K hK => ?_); go_simp; refine hK _ ?_; clear hK K)
    refine pc_nil ?_
    go_wp2
    go_ret
    exact ⟨rfl, H2.out.1.drew.nn_ M5.out⟩
  have d2 : decide (3000 < g.nsec) = false := decide_eq_false hsec
  obtain ⟨mb, hmb⟩ : ∃ mb : Bool, decide (jmay g ep g.nsec) = mb := ⟨_, rfl⟩
  have HMB := Lib.hid hmb
  clear hmb
  go_wp2_with fail
  refine wp_region_planC (fun w' => Mod Nn w2.drew w') [(0, true), (1, false), (2, true), (3, true), (4, true), (5, false), (6, true), (7, true), (8, true), (9, true), (10, false), (11, true), (12, true), (13, true), (14, true), (15, true), (16, true), (17, false), (18, false), (19, true), (20, true)] (by kernel_rfl) (by kernel_rfl) (Mod.refl _ _) ?_
  iterate 1 (refine pc_pure rfl rfl (fun K hK => ?_); go_simp; refine hK _ ?_; clear hK K)
  refine pc_call rfl rfl (fun K hK => ?_); go_simp; refine ⟨_, _, ⟨rfl, rfl⟩, hK _ _ _ ?_⟩; clear hK K
  refine (light_any (HL.out.1.mod (H2.out.1.drew)) HL.out.2.1).mono ?_
  rintro e w3 ⟨rfl, m3⟩
  rw [HLi.out]
  have M3 := Lib.hid m3
  clear m3
  refine ⟨_, rfl, M3.out, ?_⟩
  iterate 2 (refine pc_pure rfl rfl (fun K hK => ?_); go_simp; refine hK _ ?_; clear hK K)
  iterate 1 (refine pc_pure rfl rfl (fun K hK => ?_); go_simp; refine hK _ ?_; clear hK K)
  refine pc_call rfl rfl (fun K hK => ?_); go_simp; refine ⟨_, _, ⟨rfl, rfl⟩, hK _ _ _ ?_⟩; clear hK K
  refine (light_any (HL.out.2.2.2.1.mod (H2.out.1.drew.nn_ M3.out)) HL.out.2.2.2.2.1).mono ?_
  rintro e w4 ⟨rfl, m4⟩
  rw [HLj.out]
  have M4 := Lib.hid (M3.out.nn_ m4)
  clear m4
  refine ⟨_, rfl, M4.out, ?_⟩
  iterate 3 (refine pc_pure rfl rfl (fun K hK => ?_); go_simp; refine hK _ ?_; clear hK K)
  refine pc_take _ rfl rfl (fun w' hS => exec_load_row (P := Try.prog) 23 _ rfl rfl (HB.out w' hS) Try.underlying23 rfl size_geo) (fun K hK => ?_); go_simp; refine hK _ ?_; clear hK K
  refine pc_call rfl rfl (fun K hK => ?_); go_simp; refine ⟨_, _, ⟨rfl, rfl⟩, hK _ _ _ ?_⟩; clear hK K
  refine (r11sectors_any g _).mono ?_
  rintro e w5 ⟨rfl, m5⟩
  have M5 := Lib.hid (M4.out.nn_ m5)
  clear m5
  refine ⟨_, rfl, M5.out, ?_⟩
  iterate 3 (refine pc_pure rfl rfl (fun K hK => ?_); go_simp; refine hK _ ?_; clear hK K)
  refine pc_take _ rfl rfl (fun w' hS => exec_load_row (P := Try.prog) 23 _ rfl rfl (HB.out w' hS) Try.underlying23 rfl size_geo) (fun K hK => ?_); go_simp; refine hK _ ?_; clear hK K
  iterate 1 (refine pc_pure rfl rfl (fun K hK => ?_); go_simp; refine hK _ ?_; clear hK K)
  refine pc_take _ rfl rfl (fun w' hS => exec_load_row (P := Try.prog) 23 _ rfl rfl (HB.out w' hS) Try.underlying23 rfl size_geo) (fun K hK => ?_); go_simp; refine hK _ ?_; clear hK K
  refine pc_call rfl rfl (fun K hK => ?_); go_simp; refine ⟨_, _, ⟨rfl, rfl⟩, hK _ _ _ ?_⟩; clear hK K
  refine (r11sectors_any g _).mono ?_
  rintro e w6 ⟨rfl, m6⟩
  have M6 := Lib.hid (M5.out.nn_ m6)
  clear m6
  refine ⟨_, rfl, M6.out, ?_⟩
  refine pc_call rfl rfl (fun K hK => ?_); go_simp; refine ⟨_, _, ⟨rfl, rfl⟩, hK _ _ _ ?_⟩; clear hK K
  refine (rmay_any g ep g.nsec _).mono ?_
  rintro e w7 ⟨rfl, m7⟩
  rw [HMB.out]
  have M7 := Lib.hid (M6.out.nn_ m7)
  clear m7
  refine ⟨_, rfl, M7.out, ?_⟩
  iterate 2 (refine pc_pure rfl rfl (fun K hK => ?_); go_simp; refine hK _ ?_; clear hK K)
  refine pc_nil ?_
  cases mb
  · go_wp2
    go_ret
    exact ⟨rfl, H2.out.1.drew.nn_ M7.out⟩
  have hmay := of_decide_eq_true HMB.out
  have hns : g.nsec = g.sectors := if_pos hmay.1
  have hbd := half_bound hmay.1 ep
  obtain ⟨J, hJ⟩ : ∃ J : Nat, g.j = (J : Int) := ⟨g.j.toNat, by omega⟩
  obtain ⟨Ns, hNs⟩ : ∃ Ns : Nat, g.sectors = (Ns : Int) := ⟨g.sectors.toNat, by omega⟩
  obtain ⟨a, ha⟩ : ∃ a : Nat, g.half ep = (a : Int) := ⟨(g.half ep).toNat, by omega⟩
  obtain ⟨D0, hD0⟩ : ∃ D0, D0 = Dk.new g.sectors := ⟨_, rfl⟩
  have hBD : 8 ≤ J ∧ J ≤ 64 ∧ 2 ≤ a ∧ a + J ≤ Ns ∧ 1 ≤ Ns ∧ Ns ≤ 3000 := by omega
  have hDn : D0.n = (Ns : Int) := by rw [hD0]; exact hNs
  have hmay2 : jmay g ep D0.n := by rw [hDn, ← hNs, ← hns]; exact hmay
  have HG := Lib.hid (And.intro hmay2 (And.intro hJ (And.intro ha (And.intro hD0 (And.intro hDn hBD)))))
  have hRn : R.length = n := HL.out.1.1
  have hRn' : R'.length = n' := HL.out.2.2.2.1.1
  have HLn := Lib.hid (show n ≤ 20 ∧ n' ≤ 20 ∧ (∀ r ∈ R, r.length ≤ 3000) ∧ (∀ r ∈ R', r.length ≤ 3000) from ⟨by have := hli.2; omega, by have := hlj.2; omega, hli.1, hlj.1⟩)
  have HX := Lib.hid hmay.1
  have H6 := Lib.hid (And.intro (H2.out.1.drew.nn_ M7.out) (HB.out _ M7.out))
  clear hmay hmay2 hns hbd hJ hNs ha hBD hD0 hDn HMB H2 M7 M6 M5 M4 M3 HB H1 d2 hsec HLi HLj hli hlj hRn hRn'
  go_wp2_with (first
    | (with_reducible change wpList _ _ _ (⟨some 47, Op.load _ _, _, _, _, _⟩ :: _) _ _
       go_must (refine wpList_load_var 23 _ rfl rfl w.heap.size (gC g) _ _ rfl H6.out.2 Try.underlying23 rfl size_geo ?_)))
  obtain ⟨wB, hwB⟩ : ∃ wB, w7 = wB := ⟨_, rfl⟩
  subst hwB
  refine (begun_any g _ HX.out).mono ?_
  rintro r w8 ⟨c, b, ms, mo, mk, rfl, hO⟩
  rw [← HG.out.2.2.2.1] at hO
  have HO := Lib.hid (And.intro hO (H6.out.2.mod hO.md (fun f => f)))
  have HRd := Lib.hid (And.intro (HL.out.1.mod H6.out.1) (HL.out.2.2.2.1.mod H6.out.1))
  clear hO
  go_wp2_with (first
    | (with_reducible change wpList _ _ _ (⟨some 53, Op.load _ _, _, _, _, _⟩ :: _) _ _
       go_must (refine wpList_load_var 23 _ rfl rfl w.heap.size (gC g) _ _ rfl HO.out.2 Try.underlying23 rfl size_geo ?_)))
  refine (jnow_open (t := 0) HO.out.1 g (D0 := D0) (J := J) (done := []) (by rw [HG.out.2.2.2.1]; exact jst_new _ _ _ _) HG.out.2.1 HG.out.1 (by omega) (by omega) (Nat.zero_le _) (fun r hr => by cases hr) (fun r hr => by cases hr)).mono ?_
  rintro r w9 ⟨jb, v9, rfl, hj9, -, -⟩
  rw [HG.out.2.2.1] at hj9
  have HJ9 := Lib.hid hj9
  clear hj9 HO
  go_wp2
  go_loopw [14, 15] (fun v i wq => ∃ (k : Nat) (done : List (List Nat)), k ≤ n ∧ i = .int .i64 k ∧ done.length ≤ k ∧ (∀ r ∈ done, r.length ≤ 3000 ∧ ∀ z ∈ r, z < 256) ∧ RowsIn w7 wq v done ∧ JNow w7 wq c b ms mo mk jb D0 (a : Int) J ep done (fun x => v.ownBlock = some x) (2000 + 100 * (k : Int))) (fun _ i _ => n - (intOf i).toNat)
  case atStart => exact ⟨0, [], Nat.zero_le _, rfl, Nat.le_refl _, (fun r hr => by cases hr), RowsIn.nil _ _, (HJ9.out.sub (fun k hk => by cases hk)).le (by omega)⟩
  case round =>
    obtain ⟨k, done, hk, rfl, hdk, hds, hrow, hJN⟩ := hrel
    have hkn : k ≤ 20 := by have := HLn.out; omega
    have hfJ := hJN.fit
    by_cases hlt : k < n
    · have hlt' : (k : Int) < n := by omega
      obtain ⟨gR, off, r, B, c', rfl, hri, hcell, hrd⟩ := HRd.out.1.at_ hlt
      have hrm := List.mem_of_getElem? hri
      have hr3 : r.length ≤ 3000 := HLn.out.2.2.1 r hrm
      have hrlt := HL.out.2.2.1 r hrm
      have hf7 : fsec r.length ≤ 7 := by unfold fsec; omega
      have hc0 := hcell wr hJN.md
      have HC := Lib.hid (And.intro hcell (And.intro hrd (And.intro hrlt hds)))
      have HJ0 := Lib.hid (And.intro hJN hrow)
      clear hri hcell hrd hrm hrlt hds hJN hrow
      by_cases hfit : jsec done + fsec r.length ≤ J
      · go_wp2_with fail
        refine (jnow_append (cc := c') HJ0.out.1 (HC.out.2.1.mod HJ0.out.1.md (fun _ _ f => f)) HC.out.2.2.1 HG.out.1.2.1 HG.out.1.2.2.1 (by omega) (by omega) (by have := HG.out; omega) (by omega) (by have := HG.out; omega) (by rw [HG.out.2.2.2.2.1]; show (a : Int) + J ≤ (Ns : Int); have := HG.out; omega) (by omega) hfit).mono ?_
        rintro r' wa ⟨rfl, hJ2, m2⟩
        have hrow2 := HJ0.out.2.mod m2 (fun g hg h => h.2 hg)
        have hc1 := HC.out.1 wa hJ2.md
        obtain ⟨v', wz, hap, hrow3, mz, hvz⟩ := rowsin_append (c' := c') hrow2 HC.out.2.1 hJ2.md.size (by omega)
        have HAP := Lib.hid hap
        have HJ3 := Lib.hid (And.intro ((hJ2.grow mz (fun g hg => hrow2.ge g hg) hvz).le (t' := 2000 + 100 * ((k + 1 : Nat) : Int)) (by omega)) hrow3)
        clear hJ2 m2 hrow2 hap mz hvz hrow3 HJ0 hc0
        go_wp2_with (first
          | (with_reducible change wpList _ _ _ (⟨some 78, _, _, _, _, _⟩ :: _) _ _
             go_must (refine wpList_val rfl (exec_appJ 24 (.tmp 72) (.tmp 77) rfl _ _ HAP.out) ?_)))
        exact ⟨⟨k + 1, done ++ [r], by omega, by go_num, by rw [List.length_append, List.length_singleton]; omega, fun q hq => by
          rcases List.mem_append.1 hq with h1 | h1
          · exact HC.out.2.2.2 q h1
          · rw [List.mem_singleton.1 h1]; exact ⟨hr3, HC.out.2.2.1⟩, HJ3.out.2, HJ3.out.1⟩, by simp [intOf]; omega⟩
      · go_wp2_with fail
        refine (jnow_full (cc := c') HJ0.out.1 (HC.out.2.1.mod HJ0.out.1.md (fun _ _ f => f)) HC.out.2.2.1 HG.out.1.2.1 HG.out.1.2.2.1 (by omega) (by omega) (by have := HG.out; omega) hfit).mono ?_
        rintro r' wa ⟨rfl, m2⟩
        have HJ3 := Lib.hid (And.intro ((HJ0.out.1.nn m2).le (t' := 2000 + 100 * ((k + 1 : Nat) : Int)) (by omega)) (HJ0.out.2.nn m2))
        clear m2 HJ0 hc0
        go_wp2
        exact ⟨⟨k + 1, done, by omega, by go_num, by omega, HC.out.2.2.2, HJ3.out.2, HJ3.out.1⟩, by simp [intOf]; omega⟩
    · have hkn' : k = n := by omega
      subst hkn'
      have H10 := Lib.hid (And.intro hJN (And.intro hrow (And.intro hds (H6.out.2.mod hJN.md (fun f => f)))))
      clear hJN hrow hds
      go_wp2_with (first
        | (with_reducible change wpList _ _ _ (⟨some 81, Op.load _ _, _, _, _, _⟩ :: _) _ _
           go_must (refine wpList_load_var 23 _ rfl rfl w.heap.size (gC g) _ _ rfl H10.out.2.2.2 Try.underlying23 rfl size_geo ?_)))
      refine (jnow_reopen H10.out.1 g HG.out.2.2.1.symm HG.out.2.1 HG.out.1 (by omega) (by omega) (fun r hr => by have := (H10.out.2.2.1 r hr).1; omega) (fun r hr => (H10.out.2.2.1 r hr).2)).mono ?_
      rintro r w11 ⟨jb2, v11, rfl, hj11, hk11, hr11, m11⟩
      have hrow11 := H10.out.2.1.mod m11 (fun g hg h => h.2 hg)
      obtain ⟨A11, c11, rfl, -, rd11⟩ := hr11.rd
      obtain ⟨Ad, cd, hvd, rdd⟩ := hrow11.rd hj11.md
      subst hvd
      have H11 := Lib.hid (And.intro hj11 (And.intro hk11 (And.intro rd11 (And.intro rdd (And.intro hrow11 H10.out.2.2.1)))))
      clear hj11 hk11 hr11 m11 hrow11 rd11 rdd H10
      have hbR : ∀ r ∈ done, r.length ≤ 140737488355328 := fun r hr => by have := (H11.out.2.2.2.2.2 r hr).1; omega
      have HBR := Lib.hid hbR
      clear hbR
      go_wp2_with fail
      refine (sameR_any H11.out.2.2.1 H11.out.2.2.2.1 (by omega) HBR.out HBR.out).mono ?_
      rintro r w12 ⟨rfl, m12⟩
      rw [decide_eq_true (rfl : done = done)]
      have M12 := Lib.hid m12
      clear m12
      go_wp2_with fail
      refine (jnow_room (H11.out.1.nn M12.out) (by have := HG.out; omega)).mono ?_
      rintro r w13 ⟨rfl, m13⟩
      have M13 := Lib.hid (M12.out.nn_ m13)
      clear m13 M12
      go_wp2_with fail
      refine (jnow_room (H11.out.2.1.nn M13.out) (by have := HG.out; omega)).mono ?_
      rintro r w14 ⟨rfl, m14⟩
      have HM14 := Lib.hid (M13.out.nn_ m14)
      clear m14 M13
      have HJ14 := Lib.hid (And.intro (H11.out.1.nn HM14.out) (And.intro (H11.out.2.2.2.2.1.nn HM14.out) (And.intro H11.out.2.2.2.2.2 hdk)))
      clear H11 HBR HM14 hfJ hlt
      obtain ⟨done1, hdone1⟩ : ∃ done1, done = done1 := ⟨_, rfl⟩
      subst hdone1
      go_wp2
      go_loopw [14, 19] (fun v i wq => ∃ (k : Nat) (done : List (List Nat)), k ≤ n' ∧ i = .int .i64 k ∧ done.length ≤ 20 + k ∧ (∀ r ∈ done, r.length ≤ 3000 ∧ ∀ z ∈ r, z < 256) ∧ RowsIn w7 wq v done ∧ JNow w7 wq c b ms mo mk jb2 D0 (a : Int) J ep done (fun x => v.ownBlock = some x) (6000 + 100 * (k : Int))) (fun _ i _ => n' - (intOf i).toNat)
      case atStart => exact ⟨0, done, Nat.zero_le _, rfl, by omega, HJ14.out.2.2.1, HJ14.out.2.1, HJ14.out.1.le (by omega)⟩
      case round =>
        clear HJ14 hdk hkn hk
        obtain ⟨k, done, hk, rfl, hdk, hds, hrow, hJN⟩ := hrel
        have hkn : k ≤ 20 := by have := HLn.out; omega
        have hfJ := hJN.fit
        by_cases hlt : k < n'
        · have hlt' : (k : Int) < n' := by omega
          obtain ⟨gR, off, r, B, c', rfl, hri, hcell, hrd⟩ := HRd.out.2.at_ hlt
          have hrm := List.mem_of_getElem? hri
          have hr3 : r.length ≤ 3000 := HLn.out.2.2.2 r hrm
          have hrlt := HL.out.2.2.2.2.2 r hrm
          have hf7 : fsec r.length ≤ 7 := by unfold fsec; omega
          have hc0 := hcell wr hJN.md
          have HC := Lib.hid (And.intro hcell (And.intro hrd (And.intro hrlt hds)))
          have HJ0 := Lib.hid (And.intro hJN hrow)
          clear hri hcell hrd hrm hrlt hds hJN hrow
          by_cases hfit : jsec done + fsec r.length ≤ J
          · go_wp2_with fail
            refine (jnow_append (cc := c') HJ0.out.1 (HC.out.2.1.mod HJ0.out.1.md (fun _ _ f => f)) HC.out.2.2.1 HG.out.1.2.1 HG.out.1.2.2.1 (by omega) (by omega) (by have := HG.out; omega) (by omega) (by have := HG.out; omega) (by rw [HG.out.2.2.2.2.1]; show (a : Int) + J ≤ (Ns : Int); have := HG.out; omega) (by omega) hfit).mono ?_
            rintro r' wa ⟨rfl, hJ2, m2⟩
            have hrow2 := HJ0.out.2.mod m2 (fun g hg h => h.2 hg)
            have hc1 := HC.out.1 wa hJ2.md
            obtain ⟨v', wz, hap, hrow3, mz, hvz⟩ := rowsin_append (c' := c') hrow2 HC.out.2.1 hJ2.md.size (by omega)
            have HAP := Lib.hid hap
            have HJ3 := Lib.hid (And.intro ((hJ2.grow mz (fun g hg => hrow2.ge g hg) hvz).le (t' := 6000 + 100 * ((k + 1 : Nat) : Int)) (by omega)) hrow3)
            clear hJ2 m2 hrow2 hap mz hvz hrow3 HJ0 hc0
            go_wp2_with (first
              | (with_reducible change wpList _ _ _ (⟨some 121, _, _, _, _, _⟩ :: _) _ _
                 go_must (refine wpList_val rfl (exec_appJ 24 (.tmp 115) (.tmp 120) rfl _ _ HAP.out) ?_)))
            exact ⟨⟨k + 1, done ++ [r], by omega, by go_num, by rw [List.length_append, List.length_singleton]; omega, fun q hq => by
              rcases List.mem_append.1 hq with h1 | h1
              · exact HC.out.2.2.2 q h1
              · rw [List.mem_singleton.1 h1]; exact ⟨hr3, HC.out.2.2.1⟩, HJ3.out.2, HJ3.out.1⟩, by simp [intOf]; omega⟩
          · go_wp2_with fail
            refine (jnow_full (cc := c') HJ0.out.1 (HC.out.2.1.mod HJ0.out.1.md (fun _ _ f => f)) HC.out.2.2.1 HG.out.1.2.1 HG.out.1.2.2.1 (by omega) (by omega) (by have := HG.out; omega) hfit).mono ?_
            rintro r' wa ⟨rfl, m2⟩
            have HJ3 := Lib.hid (And.intro ((HJ0.out.1.nn m2).le (t' := 6000 + 100 * ((k + 1 : Nat) : Int)) (by omega)) (HJ0.out.2.nn m2))
            clear m2 HJ0 hc0
            go_wp2
            exact ⟨⟨k + 1, done, by omega, by go_num, by omega, HC.out.2.2.2, HJ3.out.2, HJ3.out.1⟩, by simp [intOf]; omega⟩
        · have hkn' : k = n' := by omega
          subst hkn'
          have H20 := Lib.hid (And.intro hJN (And.intro hrow (And.intro hds (H6.out.2.mod hJN.md (fun f => f)))))
          clear hJN hrow hds
          go_wp2_with (first
            | (with_reducible change wpList _ _ _ (⟨some 124, Op.load _ _, _, _, _, _⟩ :: _) _ _
               go_must (refine wpList_load_var 23 _ rfl rfl w.heap.size (gC g) _ _ rfl H20.out.2.2.2 Try.underlying23 rfl size_geo ?_)))
          refine (jnow_reopen H20.out.1 g HG.out.2.2.1.symm HG.out.2.1 HG.out.1 (by omega) (by omega) (fun r hr => by have := (H20.out.2.2.1 r hr).1; omega) (fun r hr => (H20.out.2.2.1 r hr).2)).mono ?_
          rintro r w21 ⟨jb3, v21, rfl, hj21, -, hr21, m21⟩
          have hrow21 := H20.out.2.1.mod m21 (fun g hg h => h.2 hg)
          obtain ⟨A21, c21, rfl, -, rd21⟩ := hr21.rd
          obtain ⟨Ae, ce, hve, rde⟩ := hrow21.rd hj21.md
          subst hve
          have hbR : ∀ r ∈ done, r.length ≤ 140737488355328 := fun r hr => by have := (H20.out.2.2.1 r hr).1; omega
          have H21 := Lib.hid (And.intro hj21.md (And.intro rd21 (And.intro rde hbR)))
          clear hj21 hr21 m21 hrow21 rd21 rde hbR H20
          go_wp2_with fail
          refine (sameR_any H21.out.2.1 H21.out.2.2.1 (by omega) H21.out.2.2.2 H21.out.2.2.2).mono ?_
          rintro r w22 ⟨rfl, m22⟩
          rw [decide_eq_true (rfl : done = done)]
          have MM := (H6.out.1.nn_ H21.out.1).nn_ m22
          go_wp2
          go_ret
          exact ⟨rfl, MM⟩
end
end Go.Proofs.Ytijmkbhbpbkkoaa
