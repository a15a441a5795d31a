/- (span).has: is a key within? (printed by wip/gen/ldhas.py) -/
import Derived.Test.YtkcpmkeckcnobaaLd0
import Derived.Test.YtkcpmkeckcnobaaTr1
import Derived.Test.YtkcpmkeckcnobaaKitF
namespace Go.Proofs.Ytkcpmkeckcnobaa
open Go.RowKit

/-- a pointer to a key, or nil -/
def PtrAt (w : World) (p : Option Addr) (o : Option (List Nat)) : Prop := match o with
  | none => p = none
  | some k => ∃ g off, p = some ⟨g, off, none⟩ ∧ k.length = 40 ∧ (∀ z ∈ k, z < 256) ∧ ∀ j v, (bv k)[j]? = some v → w.cell? ⟨g, off + j, none⟩ = some v
theorem PtrAt.mod {S : Nat → Prop} {w w' : World} {p : Option Addr} {o : Option (List Nat)} (h : PtrAt w p o) (hm : Mod S w w') (hS : ∀ g, Of p g → ¬ S g) : PtrAt w' p o := by
  cases o with
  | none => exact h
  | some k =>
    obtain ⟨g, off, e, h1, h2, h3⟩ := h
    refine ⟨g, off, e, h1, h2, fun j v hv => ?_⟩
    have := h3 j v hv
    rw [hm.cell (p := ⟨g, off + j, none⟩) (World.block_lt_of_cell? w _ this) (hS g ⟨_, e, rfl⟩)]
    exact this
theorem PtrAt.nn {w w' : World} {p : Option Addr} {o : Option (List Nat)} (h : PtrAt w p o) (hm : Mod Nn w w') : PtrAt w' p o := h.mod hm (fun _ _ f => f)
def spV (pl ph : Option Addr) : Value := .agg #[.pointer pl, .pointer ph]
theorem size_span : (Try.prog.info? 130).map (·.size) = some 2 := by kernel_rfl
section
variable {w : World} {pl ph : Option Addr} {s : Spn} {k : List Nat}
theorem cellsP {w w' : World} {g off : Nat} {f : List Nat} (h : ∀ j v, (bv f)[j]? = some v → w.cell? ⟨g, off + j, none⟩ = some v) (hm : Mod Nn w w') : ∀ j v, (bv f)[j]? = some v → w'.cell? ⟨g, off + j, none⟩ = some v := fun j v hv => by
  have h1 := h j v hv
  rw [hm.cell (p := ⟨g, off + j, none⟩) (World.block_lt_of_cell? w _ h1) (fun f => f)]
  exact h1
set_option maxRecDepth 100000 in
set_option maxHeartbeats 3200000 in
theorem has_none_none  (hk : k.length = 40) (hkz : ∀ z ∈ k, z < 256) : Calls Try.prog 81 #[.agg #[.pointer none, .pointer none], .agg (bv k).toArray] w fun r w' => r = .returned (.bool (true)) ∧ Mod Nn w w' := by
  have HK := Lib.hid (And.intro hk hkz)
  have hsk : (Try.prog.info? 23).map (·.size) = some (bv k).toArray.size := by rw [List.size_toArray, bv_len, hk]; exact size_keyT
  clear hk hkz
  go_enter Try.func81, Try.ntmps81
  go_wp2_with (first
    | (with_reducible change wpList _ _ _ (⟨some 2, Op.box _ _, _, _, _, _⟩ :: _) _ _
       go_must (refine wpList_box_var 130 _ rfl rfl #[.pointer none, .pointer none] rfl ?_)
       intro w1 b1 m1 z1
       clear z1
       have hs1 : w.heap.size < w1.heap.size := b1.lt
       have H1 := Lib.hid (And.intro b1 m1)
       clear b1 m1)
    | (with_reducible change wpList _ _ _ (⟨some 3, Op.box _ _, _, _, _, _⟩ :: _) _ _
       go_must (refine wpList_box_var 23 _ rfl rfl (bv k).toArray rfl ?_)
       intro w2 b2 m2 z2
       clear z2
       have H2 := Lib.hid (And.intro (H1.out.1.mod m2 (fun f => f)) (And.intro b2 (H1.out.2.nn_ m2)))
       clear b2 m2))
  -- zzA
  have hN : Mod Nn w2 w2.drew := (Mod.refl Nn w2).drew
  refine wp_region_planC (fun w' => Mod Nn w2 w') [(0, true), (1, true), (2, true), (3, true), (4, true), (5, true), (6, true), (7, true), (8, true), (9, false), (10, true), (11, true), (12, true), (13, true), (14, true), (15, true), (16, true), (17, true), (18, true), (19, true), (20, true), (21, true), (22, false), (23, true), (24, true), (25, true), (26, true)] (by kernel_rfl) (by kernel_rfl) hN ?_
  iterate 1 (refine pc_pure rfl rfl (fun K hK => ?_); go_simp; refine hK _ ?_; clear hK K)
  refine pc_take (.pointer none) rfl rfl (fun w' hS => exec_load1 (P := Try.prog) (v := .pointer none) (ad := ⟨w.heap.size, 0, none⟩) 128 (.tmp 5) rfl rfl ((H2.out.1.mod hS (fun f => f)).cell 0) Try.underlying128 rfl) (fun K hK => ?_); go_simp; refine hK _ ?_; clear hK K
  iterate 2 (refine pc_pure rfl rfl (fun K hK => ?_); go_simp; refine hK _ ?_; clear hK K)
  iterate 5 (refine pc_skip rfl rfl (fun K hK => ?_); go_simp; refine hK _ ?_; clear hK K)
  refine pc_skipD rfl rfl (fun K hK => ?_); go_simp; refine hK _ ?_; clear hK K
  refine pc_skip rfl rfl (fun K hK => ?_); go_simp; refine hK _ ?_; clear hK K
  iterate 2 (refine pc_pure rfl rfl (fun K hK => ?_); go_simp; refine hK _ ?_; clear hK K)
  iterate 1 (refine pc_pure rfl rfl (fun K hK => ?_); go_simp; refine hK _ ?_; clear hK K)
  refine pc_take (.pointer none) rfl rfl (fun w' hS => exec_load1 (P := Try.prog) (v := .pointer none) (ad := ⟨w.heap.size, 1, none⟩) 128 (.tmp 18) rfl rfl ((H2.out.1.mod hS (fun f => f)).cell 1) Try.underlying128 rfl) (fun K hK => ?_); go_simp; refine hK _ ?_; clear hK K
  iterate 2 (refine pc_pure rfl rfl (fun K hK => ?_); go_simp; refine hK _ ?_; clear hK K)
  iterate 5 (refine pc_skip rfl rfl (fun K hK => ?_); go_simp; refine hK _ ?_; clear hK K)
  refine pc_skipD rfl rfl (fun K hK => ?_); go_simp; refine hK _ ?_; clear hK K
  refine pc_skip rfl rfl (fun K hK => ?_); go_simp; refine hK _ ?_; clear hK K
  iterate 1 (refine pc_pure rfl rfl (fun K hK => ?_); go_simp; refine hK _ ?_; clear hK K)
  iterate 2 (refine pc_pure rfl rfl (fun K hK => ?_); go_simp; refine hK _ ?_; clear hK K)
  refine pc_nil ?_
  go_wp2
  go_ret
  exact ⟨rfl, H2.out.2.2.nn_ hN⟩
set_option maxRecDepth 100000 in
set_option maxHeartbeats 3200000 in
theorem has_none_some {gh oh : Nat} {fh : List Nat} (hHL : fh.length = 40) (hHZ : ∀ z ∈ fh, z < 256) (hH : ∀ j v, (bv fh)[j]? = some v → w.cell? ⟨gh, oh + j, none⟩ = some v) (hk : k.length = 40) (hkz : ∀ z ∈ k, z < 256) : Calls Try.prog 81 #[.agg #[.pointer none, .pointer (some ⟨gh, oh, none⟩)], .agg (bv k).toArray] w fun r w' => r = .returned (.bool (decide (lexc k fh < 0))) ∧ Mod Nn w w' := by
  have HK := Lib.hid (And.intro hk hkz)
  have hsk : (Try.prog.info? 23).map (·.size) = some (bv k).toArray.size := by rw [List.size_toArray, bv_len, hk]; exact size_keyT
  clear hk hkz
  have HH := Lib.hid hH
  have HHL := Lib.hid hHL
  have HHZ := Lib.hid hHZ
  clear hH hHL hHZ
  go_enter Try.func81, Try.ntmps81
  go_wp2_with (first
    | (with_reducible change wpList _ _ _ (⟨some 2, Op.box _ _, _, _, _, _⟩ :: _) _ _
       go_must (refine wpList_box_var 130 _ rfl rfl #[.pointer none, .pointer (some ⟨gh, oh, none⟩)] rfl ?_)
       intro w1 b1 m1 z1
       clear z1
       have hs1 : w.heap.size < w1.heap.size := b1.lt
       have H1 := Lib.hid (And.intro b1 m1)
       clear b1 m1)
    | (with_reducible change wpList _ _ _ (⟨some 3, Op.box _ _, _, _, _, _⟩ :: _) _ _
       go_must (refine wpList_box_var 23 _ rfl rfl (bv k).toArray rfl ?_)
       intro w2 b2 m2 z2
       clear z2
       have H2 := Lib.hid (And.intro (H1.out.1.mod m2 (fun f => f)) (And.intro b2 (H1.out.2.nn_ m2)))
       clear b2 m2))
  -- zzA
  have hN : Mod Nn w2 w2.drew := (Mod.refl Nn w2).drew
  refine wp_region_planC (fun w' => Mod Nn w2 w') [(0, true), (1, true), (2, true), (3, true), (4, true), (5, true), (6, true), (7, true), (8, true), (9, false), (10, true), (11, true), (12, true), (13, true), (14, true), (15, true), (16, true), (17, true), (18, true), (19, true), (20, true), (21, true), (22, false), (23, true), (24, true), (25, true), (26, true)] (by kernel_rfl) (by kernel_rfl) hN ?_
  iterate 1 (refine pc_pure rfl rfl (fun K hK => ?_); go_simp; refine hK _ ?_; clear hK K)
  refine pc_take (.pointer none) rfl rfl (fun w' hS => exec_load1 (P := Try.prog) (v := .pointer none) (ad := ⟨w.heap.size, 0, none⟩) 128 (.tmp 5) rfl rfl ((H2.out.1.mod hS (fun f => f)).cell 0) Try.underlying128 rfl) (fun K hK => ?_); go_simp; refine hK _ ?_; clear hK K
  iterate 2 (refine pc_pure rfl rfl (fun K hK => ?_); go_simp; refine hK _ ?_; clear hK K)
  iterate 5 (refine pc_skip rfl rfl (fun K hK => ?_); go_simp; refine hK _ ?_; clear hK K)
  refine pc_skipD rfl rfl (fun K hK => ?_); go_simp; refine hK _ ?_; clear hK K
  refine pc_skip rfl rfl (fun K hK => ?_); go_simp; refine hK _ ?_; clear hK K
  iterate 2 (refine pc_pure rfl rfl (fun K hK => ?_); go_simp; refine hK _ ?_; clear hK K)
  iterate 1 (refine pc_pure rfl rfl (fun K hK => ?_); go_simp; refine hK _ ?_; clear hK K)
  refine pc_take (.pointer (some ⟨gh, oh, none⟩)) rfl rfl (fun w' hS => exec_load1 (P := Try.prog) (v := .pointer (some ⟨gh, oh, none⟩)) (ad := ⟨w.heap.size, 1, none⟩) 128 (.tmp 18) rfl rfl ((H2.out.1.mod hS (fun f => f)).cell 1) Try.underlying128 rfl) (fun K hK => ?_); go_simp; refine hK _ ?_; clear hK K
  iterate 2 (refine pc_pure rfl rfl (fun K hK => ?_); go_simp; refine hK _ ?_; clear hK K)
  refine pc_take (.agg (bv k).toArray) rfl rfl (fun w' hS => exec_load_row (P := Try.prog) (g := w1.heap.size) (cs := (bv k).toArray) 23 (.tmp 3) rfl rfl (H2.out.2.1.mod hS (fun f => f)) Try.underlying23 rfl hsk) (fun K hK => ?_); go_simp; refine hK _ ?_; clear hK K
  iterate 1 (refine pc_pure rfl rfl (fun K hK => ?_); go_simp; refine hK _ ?_; clear hK K)
  refine pc_take (.pointer (some ⟨gh, oh, none⟩)) rfl rfl (fun w' hS => exec_load1 (P := Try.prog) (v := .pointer (some ⟨gh, oh, none⟩)) (ad := ⟨w.heap.size, 1, none⟩) 128 (.tmp 23) rfl rfl ((H2.out.1.mod hS (fun f => f)).cell 1) Try.underlying128 rfl) (fun K hK => ?_); go_simp; refine hK _ ?_; clear hK K
  iterate 1 (refine pc_pure rfl rfl (fun K hK => ?_); go_simp; refine hK _ ?_; clear hK K)
  refine pc_take (.agg (bv fh).toArray) rfl rfl (fun w' hS => exec_load_cells (P := Try.prog) (b := gh) (off := oh) (cs := bv fh) 23 (.tmp 25) rfl rfl (cellsP HH.out (H2.out.2.2.nn_ hS)) Try.underlying23 rfl (by rw [bv_len, HHL.out]; exact size_keyT)) (fun K hK => ?_); go_simp; refine hK _ ?_; clear hK K
  refine pc_call rfl rfl (fun K hK => ?_); go_simp; refine ⟨_, _, ⟨rfl, rfl⟩, hK _ _ _ ?_⟩; clear hK K
  refine (ecompare_any _ HK.out.2 HHZ.out HK.out.1 HHL.out).mono ?_
  rintro r w4 ⟨rfl, m4⟩
  have H4 := Lib.hid (hN.nn_ m4)
  clear m4
  refine ⟨_, rfl, H4.out, ?_⟩
  iterate 2 (refine pc_pure rfl rfl (fun K hK => ?_); go_simp; refine hK _ ?_; clear hK K)
  iterate 2 (refine pc_pure rfl rfl (fun K hK => ?_); go_simp; refine hK _ ?_; clear hK K)
  refine pc_nil ?_
  go_wp2
  go_ret
  exact ⟨rfl, H2.out.2.2.nn_ H4.out⟩
set_option maxRecDepth 100000 in
set_option maxHeartbeats 3200000 in
theorem has_yes_none {gl ol : Nat} {fl : List Nat} (hLL : fl.length = 40) (hLZ : ∀ z ∈ fl, z < 256) (hL : ∀ j v, (bv fl)[j]? = some v → w.cell? ⟨gl, ol + j, none⟩ = some v) (hcl : decide ((0 : Int) ≤ lexc k fl) = true) (hk : k.length = 40) (hkz : ∀ z ∈ k, z < 256) : Calls Try.prog 81 #[.agg #[.pointer (some ⟨gl, ol, none⟩), .pointer none], .agg (bv k).toArray] w fun r w' => r = .returned (.bool (true)) ∧ Mod Nn w w' := by
  have HK := Lib.hid (And.intro hk hkz)
  have hsk : (Try.prog.info? 23).map (·.size) = some (bv k).toArray.size := by rw [List.size_toArray, bv_len, hk]; exact size_keyT
  clear hk hkz
  have HL := Lib.hid hL
  have HLL := Lib.hid hLL
  have HLZ := Lib.hid hLZ
  clear hL hLL hLZ
  go_enter Try.func81, Try.ntmps81
  go_wp2_with (first
    | (with_reducible change wpList _ _ _ (⟨some 2, Op.box _ _, _, _, _, _⟩ :: _) _ _
       go_must (refine wpList_box_var 130 _ rfl rfl #[.pointer (some ⟨gl, ol, none⟩), .pointer none] rfl ?_)
       intro w1 b1 m1 z1
       clear z1
       have hs1 : w.heap.size < w1.heap.size := b1.lt
       have H1 := Lib.hid (And.intro b1 m1)
       clear b1 m1)
    | (with_reducible change wpList _ _ _ (⟨some 3, Op.box _ _, _, _, _, _⟩ :: _) _ _
       go_must (refine wpList_box_var 23 _ rfl rfl (bv k).toArray rfl ?_)
       intro w2 b2 m2 z2
       clear z2
       have H2 := Lib.hid (And.intro (H1.out.1.mod m2 (fun f => f)) (And.intro b2 (H1.out.2.nn_ m2)))
       clear b2 m2))
  -- zzA
  have hN : Mod Nn w2 w2.drew := (Mod.refl Nn w2).drew
  refine wp_region_planC (fun w' => Mod Nn w2 w') [(0, true), (1, true), (2, true), (3, true), (4, true), (5, true), (6, true), (7, true), (8, true), (9, false), (10, true), (11, true), (12, true), (13, true), (14, true), (15, true), (16, true), (17, true), (18, true), (19, true), (20, true), (21, true), (22, false), (23, true), (24, true), (25, true), (26, true)] (by kernel_rfl) (by kernel_rfl) hN ?_
  iterate 1 (refine pc_pure rfl rfl (fun K hK => ?_); go_simp; refine hK _ ?_; clear hK K)
  refine pc_take (.pointer (some ⟨gl, ol, none⟩)) rfl rfl (fun w' hS => exec_load1 (P := Try.prog) (v := .pointer (some ⟨gl, ol, none⟩)) (ad := ⟨w.heap.size, 0, none⟩) 128 (.tmp 5) rfl rfl ((H2.out.1.mod hS (fun f => f)).cell 0) Try.underlying128 rfl) (fun K hK => ?_); go_simp; refine hK _ ?_; clear hK K
  iterate 2 (refine pc_pure rfl rfl (fun K hK => ?_); go_simp; refine hK _ ?_; clear hK K)
  refine pc_take (.agg (bv k).toArray) rfl rfl (fun w' hS => exec_load_row (P := Try.prog) (g := w1.heap.size) (cs := (bv k).toArray) 23 (.tmp 3) rfl rfl (H2.out.2.1.mod hS (fun f => f)) Try.underlying23 rfl hsk) (fun K hK => ?_); go_simp; refine hK _ ?_; clear hK K
  iterate 1 (refine pc_pure rfl rfl (fun K hK => ?_); go_simp; refine hK _ ?_; clear hK K)
  refine pc_take (.pointer (some ⟨gl, ol, none⟩)) rfl rfl (fun w' hS => exec_load1 (P := Try.prog) (v := .pointer (some ⟨gl, ol, none⟩)) (ad := ⟨w.heap.size, 0, none⟩) 128 (.tmp 10) rfl rfl ((H2.out.1.mod hS (fun f => f)).cell 0) Try.underlying128 rfl) (fun K hK => ?_); go_simp; refine hK _ ?_; clear hK K
  iterate 1 (refine pc_pure rfl rfl (fun K hK => ?_); go_simp; refine hK _ ?_; clear hK K)
  refine pc_take (.agg (bv fl).toArray) rfl rfl (fun w' hS => exec_load_cells (P := Try.prog) (b := gl) (off := ol) (cs := bv fl) 23 (.tmp 12) rfl rfl (cellsP HL.out (H2.out.2.2.nn_ hS)) Try.underlying23 rfl (by rw [bv_len, HLL.out]; exact size_keyT)) (fun K hK => ?_); go_simp; refine hK _ ?_; clear hK K
  refine pc_call rfl rfl (fun K hK => ?_); go_simp; refine ⟨_, _, ⟨rfl, rfl⟩, hK _ _ _ ?_⟩; clear hK K
  refine (ecompare_any _ HK.out.2 HLZ.out HK.out.1 HLL.out).mono ?_
  rintro r w3 ⟨rfl, m3⟩
  have H3 := Lib.hid (hN.nn_ m3)
  clear m3
  refine ⟨_, rfl, H3.out, ?_⟩
  have hc3 : decide ((0 : Int) ≤ lexc k fl) = true := hcl
  iterate 1 (refine pc_pure rfl rfl (fun K hK => ?_); go_simp; refine hK _ ?_; clear hK K)
  iterate 2 (refine pc_pure rfl rfl (fun K hK => ?_); go_simp; refine hK _ ?_; clear hK K)
  iterate 1 (refine pc_pure rfl rfl (fun K hK => ?_); go_simp; refine hK _ ?_; clear hK K)
  refine pc_take (.pointer none) rfl rfl (fun w' hS => exec_load1 (P := Try.prog) (v := .pointer none) (ad := ⟨w.heap.size, 1, none⟩) 128 (.tmp 18) rfl rfl ((H2.out.1.mod hS (fun f => f)).cell 1) Try.underlying128 rfl) (fun K hK => ?_); go_simp; refine hK _ ?_; clear hK K
  iterate 2 (refine pc_pure rfl rfl (fun K hK => ?_); go_simp; refine hK _ ?_; clear hK K)
  iterate 5 (refine pc_skip rfl rfl (fun K hK => ?_); go_simp; refine hK _ ?_; clear hK K)
  refine pc_skipD rfl rfl (fun K hK => ?_); go_simp; refine hK _ ?_; clear hK K
  refine pc_skip rfl rfl (fun K hK => ?_); go_simp; refine hK _ ?_; clear hK K
  iterate 1 (refine pc_pure rfl rfl (fun K hK => ?_); go_simp; refine hK _ ?_; clear hK K)
  iterate 2 (refine pc_pure rfl rfl (fun K hK => ?_); go_simp; refine hK _ ?_; clear hK K)
  refine pc_nil ?_
  go_wp2
  go_ret
  exact ⟨rfl, H2.out.2.2.nn_ H3.out⟩
set_option maxRecDepth 100000 in
set_option maxHeartbeats 3200000 in
theorem has_yes_some {gl ol : Nat} {fl : List Nat} (hLL : fl.length = 40) (hLZ : ∀ z ∈ fl, z < 256) (hL : ∀ j v, (bv fl)[j]? = some v → w.cell? ⟨gl, ol + j, none⟩ = some v) (hcl : decide ((0 : Int) ≤ lexc k fl) = true) {gh oh : Nat} {fh : List Nat} (hHL : fh.length = 40) (hHZ : ∀ z ∈ fh, z < 256) (hH : ∀ j v, (bv fh)[j]? = some v → w.cell? ⟨gh, oh + j, none⟩ = some v) (hk : k.length = 40) (hkz : ∀ z ∈ k, z < 256) : Calls Try.prog 81 #[.agg #[.pointer (some ⟨gl, ol, none⟩), .pointer (some ⟨gh, oh, none⟩)], .agg (bv k).toArray] w fun r w' => r = .returned (.bool (decide (lexc k fh < 0))) ∧ Mod Nn w w' := by
  have HK := Lib.hid (And.intro hk hkz)
  have hsk : (Try.prog.info? 23).map (·.size) = some (bv k).toArray.size := by rw [List.size_toArray, bv_len, hk]; exact size_keyT
  clear hk hkz
  have HL := Lib.hid hL
  have HLL := Lib.hid hLL
  have HLZ := Lib.hid hLZ
  clear hL hLL hLZ
  have HH := Lib.hid hH
  have HHL := Lib.hid hHL
  have HHZ := Lib.hid hHZ
  clear hH hHL hHZ
  go_enter Try.func81, Try.ntmps81
  go_wp2_with (first
    | (with_reducible change wpList _ _ _ (⟨some 2, Op.box _ _, _, _, _, _⟩ :: _) _ _
       go_must (refine wpList_box_var 130 _ rfl rfl #[.pointer (some ⟨gl, ol, none⟩), .pointer (some ⟨gh, oh, none⟩)] rfl ?_)
       intro w1 b1 m1 z1
       clear z1
       have hs1 : w.heap.size < w1.heap.size := b1.lt
       have H1 := Lib.hid (And.intro b1 m1)
       clear b1 m1)
    | (with_reducible change wpList _ _ _ (⟨some 3, Op.box _ _, _, _, _, _⟩ :: _) _ _
       go_must (refine wpList_box_var 23 _ rfl rfl (bv k).toArray rfl ?_)
       intro w2 b2 m2 z2
       clear z2
       have H2 := Lib.hid (And.intro (H1.out.1.mod m2 (fun f => f)) (And.intro b2 (H1.out.2.nn_ m2)))
       clear b2 m2))
  -- zzA
  have hN : Mod Nn w2 w2.drew := (Mod.refl Nn w2).drew
  refine wp_region_planC (fun w' => Mod Nn w2 w') [(0, true), (1, true), (2, true), (3, true), (4, true), (5, true), (6, true), (7, true), (8, true), (9, false), (10, true), (11, true), (12, true), (13, true), (14, true), (15, true), (16, true), (17, true), (18, true), (19, true), (20, true), (21, true), (22, false), (23, true), (24, true), (25, true), (26, true)] (by kernel_rfl) (by kernel_rfl) hN ?_
  iterate 1 (refine pc_pure rfl rfl (fun K hK => ?_); go_simp; refine hK _ ?_; clear hK K)
  refine pc_take (.pointer (some ⟨gl, ol, none⟩)) rfl rfl (fun w' hS => exec_load1 (P := Try.prog) (v := .pointer (some ⟨gl, ol, none⟩)) (ad := ⟨w.heap.size, 0, none⟩) 128 (.tmp 5) rfl rfl ((H2.out.1.mod hS (fun f => f)).cell 0) Try.underlying128 rfl) (fun K hK => ?_); go_simp; refine hK _ ?_; clear hK K
  iterate 2 (refine pc_pure rfl rfl (fun K hK => ?_); go_simp; refine hK _ ?_; clear hK K)
  refine pc_take (.agg (bv k).toArray) rfl rfl (fun w' hS => exec_load_row (P := Try.prog) (g := w1.heap.size) (cs := (bv k).toArray) 23 (.tmp 3) rfl rfl (H2.out.2.1.mod hS (fun f => f)) Try.underlying23 rfl hsk) (fun K hK => ?_); go_simp; refine hK _ ?_; clear hK K
  iterate 1 (refine pc_pure rfl rfl (fun K hK => ?_); go_simp; refine hK _ ?_; clear hK K)
  refine pc_take (.pointer (some ⟨gl, ol, none⟩)) rfl rfl (fun w' hS => exec_load1 (P := Try.prog) (v := .pointer (some ⟨gl, ol, none⟩)) (ad := ⟨w.heap.size, 0, none⟩) 128 (.tmp 10) rfl rfl ((H2.out.1.mod hS (fun f => f)).cell 0) Try.underlying128 rfl) (fun K hK => ?_); go_simp; refine hK _ ?_; clear hK K
  iterate 1 (refine pc_pure rfl rfl (fun K hK => ?_); go_simp; refine hK _ ?_; clear hK K)
  refine pc_take (.agg (bv fl).toArray) rfl rfl (fun w' hS => exec_load_cells (P := Try.prog) (b := gl) (off := ol) (cs := bv fl) 23 (.tmp 12) rfl rfl (cellsP HL.out (H2.out.2.2.nn_ hS)) Try.underlying23 rfl (by rw [bv_len, HLL.out]; exact size_keyT)) (fun K hK => ?_); go_simp; refine hK _ ?_; clear hK K
  refine pc_call rfl rfl (fun K hK => ?_); go_simp; refine ⟨_, _, ⟨rfl, rfl⟩, hK _ _ _ ?_⟩; clear hK K
  refine (ecompare_any _ HK.out.2 HLZ.out HK.out.1 HLL.out).mono ?_
  rintro r w3 ⟨rfl, m3⟩
  have H3 := Lib.hid (hN.nn_ m3)
  clear m3
  refine ⟨_, rfl, H3.out, ?_⟩
  have hc3 : decide ((0 : Int) ≤ lexc k fl) = true := hcl
  iterate 1 (refine pc_pure rfl rfl (fun K hK => ?_); go_simp; refine hK _ ?_; clear hK K)
  iterate 2 (refine pc_pure rfl rfl (fun K hK => ?_); go_simp; refine hK _ ?_; clear hK K)
  iterate 1 (refine pc_pure rfl rfl (fun K hK => ?_); go_simp; refine hK _ ?_; clear hK K)
  refine pc_take (.pointer (some ⟨gh, oh, none⟩)) rfl rfl (fun w' hS => exec_load1 (P := Try.prog) (v := .pointer (some ⟨gh, oh, none⟩)) (ad := ⟨w.heap.size, 1, none⟩) 128 (.tmp 18) rfl rfl ((H2.out.1.mod hS (fun f => f)).cell 1) Try.underlying128 rfl) (fun K hK => ?_); go_simp; refine hK _ ?_; clear hK K
  iterate 2 (refine pc_pure rfl rfl (fun K hK => ?_); go_simp; refine hK _ ?_; clear hK K)
  refine pc_take (.agg (bv k).toArray) rfl rfl (fun w' hS => exec_load_row (P := Try.prog) (g := w1.heap.size) (cs := (bv k).toArray) 23 (.tmp 3) rfl rfl (H2.out.2.1.mod hS (fun f => f)) Try.underlying23 rfl hsk) (fun K hK => ?_); go_simp; refine hK _ ?_; clear hK K
  iterate 1 (refine pc_pure rfl rfl (fun K hK => ?_); go_simp; refine hK _ ?_; clear hK K)
  refine pc_take (.pointer (some ⟨gh, oh, none⟩)) rfl rfl (fun w' hS => exec_load1 (P := Try.prog) (v := .pointer (some ⟨gh, oh, none⟩)) (ad := ⟨w.heap.size, 1, none⟩) 128 (.tmp 23) rfl rfl ((H2.out.1.mod hS (fun f => f)).cell 1) Try.underlying128 rfl) (fun K hK => ?_); go_simp; refine hK _ ?_; clear hK K
  iterate 1 (refine pc_pure rfl rfl (fun K hK => ?_); go_simp; refine hK _ ?_; clear hK K)
  refine pc_take (.agg (bv fh).toArray) rfl rfl (fun w' hS => exec_load_cells (P := Try.prog) (b := gh) (off := oh) (cs := bv fh) 23 (.tmp 25) rfl rfl (cellsP HH.out (H2.out.2.2.nn_ hS)) Try.underlying23 rfl (by rw [bv_len, HHL.out]; exact size_keyT)) (fun K hK => ?_); go_simp; refine hK _ ?_; clear hK K
  refine pc_call rfl rfl (fun K hK => ?_); go_simp; refine ⟨_, _, ⟨rfl, rfl⟩, hK _ _ _ ?_⟩; clear hK K
  refine (ecompare_any _ HK.out.2 HHZ.out HK.out.1 HHL.out).mono ?_
  rintro r w4 ⟨rfl, m4⟩
  have H4 := Lib.hid (H3.out.nn_ m4)
  clear m4
  refine ⟨_, rfl, H4.out, ?_⟩
  iterate 2 (refine pc_pure rfl rfl (fun K hK => ?_); go_simp; refine hK _ ?_; clear hK K)
  iterate 2 (refine pc_pure rfl rfl (fun K hK => ?_); go_simp; refine hK _ ?_; clear hK K)
  refine pc_nil ?_
  go_wp2
  go_ret
  exact ⟨rfl, H2.out.2.2.nn_ H4.out⟩
set_option maxRecDepth 100000 in
set_option maxHeartbeats 3200000 in
theorem has_no_out {gl ol : Nat} {fl : List Nat} (hLL : fl.length = 40) (hLZ : ∀ z ∈ fl, z < 256) (hL : ∀ j v, (bv fl)[j]? = some v → w.cell? ⟨gl, ol + j, none⟩ = some v) (hcl : decide ((0 : Int) ≤ lexc k fl) = false) (hk : k.length = 40) (hkz : ∀ z ∈ k, z < 256) : Calls Try.prog 81 #[.agg #[.pointer (some ⟨gl, ol, none⟩), .pointer ph], .agg (bv k).toArray] w fun r w' => r = .returned (.bool (false)) ∧ Mod Nn w w' := by
  have HK := Lib.hid (And.intro hk hkz)
  have hsk : (Try.prog.info? 23).map (·.size) = some (bv k).toArray.size := by rw [List.size_toArray, bv_len, hk]; exact size_keyT
  clear hk hkz
  have HL := Lib.hid hL
  have HLL := Lib.hid hLL
  have HLZ := Lib.hid hLZ
  clear hL hLL hLZ
  go_enter Try.func81, Try.ntmps81
  go_wp2_with (first
    | (with_reducible change wpList _ _ _ (⟨some 2, Op.box _ _, _, _, _, _⟩ :: _) _ _
       go_must (refine wpList_box_var 130 _ rfl rfl #[.pointer (some ⟨gl, ol, none⟩), .pointer ph] rfl ?_)
       intro w1 b1 m1 z1
       clear z1
       have hs1 : w.heap.size < w1.heap.size := b1.lt
       have H1 := Lib.hid (And.intro b1 m1)
       clear b1 m1)
    | (with_reducible change wpList _ _ _ (⟨some 3, Op.box _ _, _, _, _, _⟩ :: _) _ _
       go_must (refine wpList_box_var 23 _ rfl rfl (bv k).toArray rfl ?_)
       intro w2 b2 m2 z2
       clear z2
       have H2 := Lib.hid (And.intro (H1.out.1.mod m2 (fun f => f)) (And.intro b2 (H1.out.2.nn_ m2)))
       clear b2 m2))
  -- zzA
  have hN : Mod Nn w2 w2.drew := (Mod.refl Nn w2).drew
  refine wp_region_planC (fun w' => Mod Nn w2 w') [(0, true), (1, true), (2, true), (3, true), (4, true), (5, true), (6, true), (7, true), (8, true), (9, false), (10, true), (11, true), (12, true), (13, true), (14, true), (15, true), (16, true), (17, true), (18, true), (19, true), (20, true), (21, true), (22, false), (23, true), (24, true), (25, true), (26, true)] (by kernel_rfl) (by kernel_rfl) hN ?_
  iterate 1 (refine pc_pure rfl rfl (fun K hK => ?_); go_simp; refine hK _ ?_; clear hK K)
  refine pc_take (.pointer (some ⟨gl, ol, none⟩)) rfl rfl (fun w' hS => exec_load1 (P := Try.prog) (v := .pointer (some ⟨gl, ol, none⟩)) (ad := ⟨w.heap.size, 0, none⟩) 128 (.tmp 5) rfl rfl ((H2.out.1.mod hS (fun f => f)).cell 0) Try.underlying128 rfl) (fun K hK => ?_); go_simp; refine hK _ ?_; clear hK K
  iterate 2 (refine pc_pure rfl rfl (fun K hK => ?_); go_simp; refine hK _ ?_; clear hK K)
  refine pc_take (.agg (bv k).toArray) rfl rfl (fun w' hS => exec_load_row (P := Try.prog) (g := w1.heap.size) (cs := (bv k).toArray) 23 (.tmp 3) rfl rfl (H2.out.2.1.mod hS (fun f => f)) Try.underlying23 rfl hsk) (fun K hK => ?_); go_simp; refine hK _ ?_; clear hK K
  iterate 1 (refine pc_pure rfl rfl (fun K hK => ?_); go_simp; refine hK _ ?_; clear hK K)
  refine pc_take (.pointer (some ⟨gl, ol, none⟩)) rfl rfl (fun w' hS => exec_load1 (P := Try.prog) (v := .pointer (some ⟨gl, ol, none⟩)) (ad := ⟨w.heap.size, 0, none⟩) 128 (.tmp 10) rfl rfl ((H2.out.1.mod hS (fun f => f)).cell 0) Try.underlying128 rfl) (fun K hK => ?_); go_simp; refine hK _ ?_; clear hK K
  iterate 1 (refine pc_pure rfl rfl (fun K hK => ?_); go_simp; refine hK _ ?_; clear hK K)
  refine pc_take (.agg (bv fl).toArray) rfl rfl (fun w' hS => exec_load_cells (P := Try.prog) (b := gl) (off := ol) (cs := bv fl) 23 (.tmp 12) rfl rfl (cellsP HL.out (H2.out.2.2.nn_ hS)) Try.underlying23 rfl (by rw [bv_len, HLL.out]; exact size_keyT)) (fun K hK => ?_); go_simp; refine hK _ ?_; clear hK K
  refine pc_call rfl rfl (fun K hK => ?_); go_simp; refine ⟨_, _, ⟨rfl, rfl⟩, hK _ _ _ ?_⟩; clear hK K
  refine (ecompare_any _ HK.out.2 HLZ.out HK.out.1 HLL.out).mono ?_
  rintro r w3 ⟨rfl, m3⟩
  have H3 := Lib.hid (hN.nn_ m3)
  clear m3
  refine ⟨_, rfl, H3.out, ?_⟩
  have hc3 : decide ((0 : Int) ≤ lexc k fl) = false := hcl
  iterate 1 (refine pc_pure rfl rfl (fun K hK => ?_); go_simp; refine hK _ ?_; clear hK K)
  iterate 2 (refine pc_pure rfl rfl (fun K hK => ?_); go_simp; refine hK _ ?_; clear hK K)
  iterate 9 (refine pc_skip rfl rfl (fun K hK => ?_); go_simp; refine hK _ ?_; clear hK K)
  refine pc_skipD rfl rfl (fun K hK => ?_); go_simp; refine hK _ ?_; clear hK K
  iterate 2 (refine pc_skip rfl rfl (fun K hK => ?_); go_simp; refine hK _ ?_; clear hK K)
  iterate 2 (refine pc_pure rfl rfl (fun K hK => ?_); go_simp; refine hK _ ?_; clear hK K)
  refine pc_nil ?_
  go_wp2
  go_ret
  exact ⟨rfl, H2.out.2.2.nn_ H3.out⟩
theorem has_any (hl : PtrAt w pl s.lo) (hh : PtrAt w ph s.hi) (hk : k.length = 40) (hkz : ∀ z ∈ k, z < 256) : Calls Try.prog 81 #[spV pl ph, .agg (bv k).toArray] w fun r w' => r = .returned (.bool (s.has k)) ∧ Mod Nn w w' := by
  obtain ⟨lo, hi⟩ := s
  unfold spV Spn.has Spn.above Spn.under
  cases lo with
  | none =>
    obtain rfl : pl = none := hl
    cases hi with
    | none =>
      obtain rfl : ph = none := hh
      exact has_none_none hk hkz
    | some fh =>
      obtain ⟨gh, oh, rfl, h1, h2, h3⟩ := hh
      exact has_none_some h1 h2 h3 hk hkz
  | some fl =>
    obtain ⟨gl, ol, rfl, g1, g2, g3⟩ := hl
    by_cases hc : klt k fl
    · have hc' : lexc k fl < 0 := hc
      have e : (!decide (klt k fl)) = false := by rw [decide_eq_true hc]; rfl
      dsimp only
      rw [e, Bool.false_and]
      exact has_no_out g1 g2 g3 (decide_eq_false (by omega)) hk hkz
    · have hc' : ¬ lexc k fl < 0 := hc
      have e : (!decide (klt k fl)) = true := by rw [decide_eq_false hc]; rfl
      dsimp only
      rw [e, Bool.true_and]
      cases hi with
      | none =>
        obtain rfl : ph = none := hh
        exact has_yes_none g1 g2 g3 (decide_eq_true (by omega)) hk hkz
      | some fh =>
        obtain ⟨gh, oh, rfl, h1, h2, h3⟩ := hh
        exact has_yes_some g1 g2 g3 (decide_eq_true (by omega)) h1 h2 h3 hk hkz
end
end Go.Proofs.Ytkcpmkeckcnobaa
