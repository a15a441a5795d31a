/- The document's cursor: (*peatbankref17.Cursor).Next (printed by wip/gen/wkrnext.py). -/
import Derived.Test.YtkcpmkeckcnobaaGreatWk5
import Derived.Test.YtkcpmkeckcnobaaGreatRCmp
namespace Go.Proofs.YtkcpmkeckcnobaaGreat
open Go.RowKit

def rcurL (fr be la : List Nat) (told : Bool) : List Value := bv fr ++ (bv be ++ (bv la ++ [.bool told]))
structure RCur (w : World) (d : Nat) (fr be la : List Nat) (told : Bool) : Prop where
  blk : Blk w d 117 (rcurL fr be la told).toArray
  fl : fr.length = 40 ∧ ∀ z ∈ fr, z < 256
  bl : be.length = 40 ∧ ∀ z ∈ be, z < 256
  ll : la.length = 40 ∧ ∀ z ∈ la, z < 256
section
variable {w w' : World} {S : Nat → Prop} {d : Nat} {fr be la : List Nat} {told : Bool}
theorem rcurL_len (h1 : fr.length = 40) (h2 : be.length = 40) (h3 : la.length = 40) : (rcurL fr be la told).length = 121 := by simp [rcurL, bv_len, h1, h2, h3]
theorem RCur.mod (h : RCur w d fr be la told) (hm : Mod S w w') (hS : ¬ S d) : RCur w' d fr be la told := ⟨h.blk.mod hm hS, h.fl, h.bl, h.ll⟩
theorem RCur.frc (h : RCur w d fr be la told) : ∀ j v, (bv fr)[j]? = some v → w.cell? ⟨d, 0 + j, none⟩ = some v := fun j v hj => by
  rw [h.blk.cell, List.getElem?_toArray, Nat.zero_add]
  unfold rcurL
  rw [List.getElem?_append_left (List.getElem?_eq_some_iff.1 hj).1]
  exact hj
theorem RCur.bec (h : RCur w d fr be la told) : ∀ j v, (bv be)[j]? = some v → w.cell? ⟨d, 40 + j, none⟩ = some v := fun j v hj => by
  rw [h.blk.cell, List.getElem?_toArray]
  unfold rcurL
  rw [List.getElem?_append_right (by rw [bv_len, h.fl.1]; omega), bv_len, h.fl.1, Nat.add_sub_cancel_left, List.getElem?_append_left (List.getElem?_eq_some_iff.1 hj).1]
  exact hj
theorem RCur.lac (h : RCur w d fr be la told) : ∀ j v, (bv la)[j]? = some v → w.cell? ⟨d, 80 + j, none⟩ = some v := fun j v hj => by
  rw [h.blk.cell, List.getElem?_toArray]
  unfold rcurL
  rw [List.getElem?_append_right (by rw [bv_len, h.fl.1]; omega), bv_len, h.fl.1, List.getElem?_append_right (by rw [bv_len, h.bl.1]; omega), bv_len, h.bl.1, show 80 + j - 40 - 40 = j from by omega, List.getElem?_append_left (List.getElem?_eq_some_iff.1 hj).1]
  exact hj
theorem RCur.toldc (h : RCur w d fr be la told) : w.cell? ⟨d, 120, none⟩ = some (.bool told) := by
  rw [h.blk.cell, List.getElem?_toArray]
  unfold rcurL
  rw [List.getElem?_append_right (by rw [bv_len, h.fl.1]; omega), bv_len, h.fl.1, List.getElem?_append_right (by rw [bv_len, h.bl.1]; omega), bv_len, h.bl.1, List.getElem?_append_right (by rw [bv_len, h.ll.1]; omega), bv_len, h.ll.1]
  rfl
theorem rcurL_set {κ : List Nat} (h1 : fr.length = 40) (h2 : be.length = 40) (h3 : la.length = 40) : (rcurL fr be la told).take 80 ++ bv κ ++ (rcurL fr be la told).drop 120 = rcurL fr be κ told := by
  have e : rcurL fr be la told = (bv fr ++ bv be) ++ (bv la ++ [.bool told]) := by simp [rcurL]
  have hl : (bv fr ++ bv be).length = 80 := by simp [bv_len, h1, h2]
  rw [e, List.take_append_of_le_length (by omega), List.take_of_length_le (by omega), List.drop_append, List.drop_of_length_le (by omega), hl, List.nil_append, List.drop_append, List.drop_of_length_le (by rw [bv_len, h3]; omega), bv_len, h3]
  simp [rcurL]
theorem rcurL_told {b : Bool} (h1 : fr.length = 40) (h2 : be.length = 40) (h3 : la.length = 40) : (rcurL fr be la told).toArray.setIfInBounds 120 (.bool b) = (rcurL fr be la b).toArray := by
  rw [List.setIfInBounds_toArray]
  congr 1
  unfold rcurL
  rw [List.set_append_right _ _ (by rw [bv_len, h1]; omega), bv_len, h1, List.set_append_right _ _ (by rw [bv_len, h2]; omega), bv_len, h2, List.set_append_right _ _ (by rw [bv_len, h3]; omega), bv_len, h3]
  rfl
end
theorem rcmp_any {a b : List Nat} (w : World) (ha : a.length = 40) (hb : b.length = 40) (za : ∀ z ∈ a, z < 256) (zb : ∀ z ∈ b, z < 256) : Calls Tryz.prog 58 #[.agg (bv a).toArray, .agg (bv b).toArray] w fun e w' => e = .returned (.int .i64 (lexc a b)) ∧ Mod Nn w w' := rcompare_any w za zb ha hb
theorem dec_klt (a b : List Nat) : decide (klt a b) = decide (lexc a b < 0) := decide_eq_decide.2 Iff.rfl
def RNextP (w : World) (d : Nat) (o : Option (List Nat)) (fr be la : List Nat) (told : Bool) (r : Ending) (w' : World) : Prop :=
  r = .returned (optV o) ∧ Mod (At d) w w' ∧ (o = none → RCur w' d fr be la told) ∧ ∀ x, o = some x → RCur w' d fr be (keyOf x) true
section
variable {w : World} {d : Nat} {fr be la : List Nat} {told : Bool} {A : Option Addr} {n c : Nat} {R L : List (List Nat)}
set_option maxRecDepth 100000 in
set_option maxHeartbeats 12800000 in
theorem rnext_any (hd : RCur w d fr be la told) (hr : RowsAt w A n R) (hL : Like R L) (hn : n ≤ 1000000) (hA : ∀ g, Of A g → g ≠ d) {o : Option (List Nat)} (ho : (L.filter (cand fr be la told)).head? = o) : Calls Tryz.prog 66 #[.pointer (some ⟨d, 0, none⟩), .slice A n c] w (RNextP w d o fr be la told) := by
  have hlen := hr.2.2
  have HB := Lib.hid (And.intro hd (And.intro hr (And.intro hL hA)))
  have HF := Lib.hid ho
  clear hd hr hL hA ho
  go_enter Tryz.func66, Tryz.ntmps66
  go_wp2_with (first
    | (with_reducible change wpList _ _ _ (⟨some 4, Op.alloc _, _, _, _, _⟩ :: _) _ _
       go_must (refine wpList_alloc_var 43 rfl rfl info_entz ?_)
       intro w1 b1 m1 z1
       clear z1
       have hs1 : w.heap.size < w1.heap.size := b1.lt
       have H1 := Lib.hid (And.intro m1 b1)
       clear m1 b1))
  go_loopw [6, 7] (fun b i wr => ∃ (j : Nat) (bi : Int), j ≤ n ∧ i = .int .i64 j ∧ b = .int .i64 bi ∧ Hid (BestAt R (cand fr be la told) j bi ∧ Mod Nn w1 wr)) (fun _ i _ => n - (intOf i).toNat)
  case atStart => exact ⟨0, -1, Nat.zero_le _, rfl, rfl, Lib.hid ⟨best_start, Mod.refl _ _⟩⟩
  case round =>
    obtain ⟨j, bi, hj, rfl, rfl, HR⟩ := hrel
    obtain ⟨wo, rfl⟩ : ∃ wo : World, wo = wr := ⟨_, rfl⟩
    have hbc := best_cases HR.out.1
    by_cases hjn : j < n
    · have hjn' : (j : Int) < n := by omega
      obtain ⟨r, hr⟩ : ∃ r, R[j]? = some r := ⟨_, List.getElem?_eq_getElem (by omega)⟩
      have hr80 := HB.out.2.1.2.1 r (List.mem_of_getElem? hr)
      have hrl := hr80.1
      have hke := keyOf_len hrl
      have hkz := keyOf_lt hr80.2
      have hmw : Mod Nn w wo := H1.out.1.nn_ HR.out.2
      have hs2 : w1.heap.size ≤ wo.heap.size := HR.out.2.size
      have hat : ∀ w', Mod Nn w w' → ∀ (q : Nat) (x : List Nat), R[q]? = some x → ∃ g off, A = some ⟨g, off, none⟩ ∧ ∀ j v, (bv x)[j]? = some v → w'.cell? ⟨g, off + q * 80 + j, none⟩ = some v := fun w' hm q x hx => (HB.out.2.1.nn hm).1.row HB.out.2.1.2.1 hx (by omega)
      obtain ⟨g, off, rfl, hcell⟩ := hat wo hmw j r hr
      have hatk : ∀ w', Mod Nn w w' → ∀ (q : Nat) (x : List Nat), R[q]? = some x → ∀ j v, (bv (keyOf x))[j]? = some v → w'.cell? ⟨g, off + q * 80 + j, none⟩ = some v := fun w' hm q x hx j v hv => by
        obtain ⟨g', off', e, hc⟩ := hat w' hm q x hx
        injection e with e; injection e with e1 e2 _; subst e1; subst e2
        exact hc j v (key_pre hv)
      have HC := Lib.hid (And.intro (hatk wo hmw j r hr) (And.intro hatk (And.intro hr (And.intro hkz (And.intro hmw (HB.out.1.mod hmw (fun f => f)))))))
      have HBC := Lib.hid hbc
      clear hcell hat hatk hr hr80 hkz hmw hbc
      go_wp2_with (first
        | (with_reducible change wpList _ _ _ (⟨some 17, _, _, _, _, _⟩ :: _) _ _
           go_must (refine wpList_val rfl (exec_elem (P := Tryz.prog) (g := g) (off := off) (q := j) 28 (.tmp 15) (.tmp 16) rfl 43 80 uuE sizeE rfl rfl hjn) ?_))
        | (with_reducible change wpList _ _ _ (⟨some 19, _, _, _, _, _⟩ :: _) _ _
           go_must (refine wpList_val rfl (exec_load_cells (P := Tryz.prog) (b := g) (off := off + j * 80) (cs := bv (keyOf r)) 40 (.tmp 18) rfl rfl HC.out.1 Tryz.underlying40 rfl (by rw [bv_len, hke]; exact size_keyT)) ?_))
        | (with_reducible change wpList _ _ _ (⟨some 8, Op.alloc _, _, _, _, _⟩ :: _) _ _
           go_must (refine wpList_alloc_var 40 rfl rfl info_keyz ?_)
           intro w2 b2 m2 z2
           clear z2
           have H2 := Lib.hid (And.intro m2 b2)
           clear m2 b2)
        | (with_reducible change wpList _ _ _ (⟨none, Op.store _ (Operand.tmp 8) _, _, _, _, _⟩ :: _) _ _
           go_must (refine wpList_store_var 40 _ _ rfl rfl wo.heap.size (bv (keyOf r)).toArray _ _ rfl rfl H2.out.2 (size_keyk hke) (by rw [bv_size, hke]; rfl) (bv_all _) ?_)
           intro w3 b3 m3 z3
           clear z3
           have hm3 : Mod Nn wo w3 := H2.out.1.new_ m3 (Nat.le_refl _)
           have H3 := Lib.hid (And.intro hm3 (And.intro b3 (And.intro (HC.out.2.2.2.2.2.mod hm3 (fun f => f)) (HC.out.2.2.2.2.1.nn_ hm3))))
           clear m3 b3 hm3))
      obtain ⟨X, hX⟩ : ∃ X, lexc (keyOf r) fr = X := ⟨_, rfl⟩
      obtain ⟨Y, hY⟩ : ∃ Y, lexc (keyOf r) be = Y := ⟨_, rfl⟩
      obtain ⟨Z, hZ⟩ : ∃ Z, lexc (keyOf r) la = Z := ⟨_, rfl⟩
      have HX := Lib.hid (And.intro hX (And.intro hY hZ))
      have hcd : cand fr be la told r = (!decide (X < 0) && (decide (Y < 0) && (!told || decide (0 < Z)))) := by
        unfold cand
        rw [dec_klt, dec_klt, dec_klt, hX, hY, lexc_neg la (keyOf r), hZ]
        congr 3
        exact decide_eq_decide.2 ⟨fun h => by omega, fun h => by omega⟩
      have HCD := Lib.hid hcd
      clear hX hY hZ hcd
      try go_simp
      go_cut [50] from 20 to 49 (fun v wx => v = .bool (!cand fr be la told r) ∧ Mod Nn w3 wx)
      case first =>
        by_cases hX0 : X < 0
        · have HR6 := Lib.hid (decide_eq_true hX0)
          refine wp_region_planC (fun w' => Mod Nn w3 w') [(0, true), (1, true), (2, true), (3, true), (4, true), (5, false), (6, true), (7, true), (8, true), (9, true), (10, true), (11, true), (12, true), (13, true), (14, true), (15, true), (16, true), (17, true), (18, true), (19, true), (20, true), (21, true), (22, true), (23, true), (24, true), (25, true), (26, true), (27, true), (28, true), (29, true), (30, true)] (by kernel_rfl) (by kernel_rfl) (Mod.refl Nn w3).drew ?_
          refine pc_take (.agg (bv (keyOf r)).toArray) rfl rfl (fun w' hS => exec_load_row (P := Tryz.prog) (g := wo.heap.size) (cs := (bv (keyOf r)).toArray) 40 (.tmp 8) rfl rfl (H3.out.2.1.mod hS (fun f => f)) Tryz.underlying40 rfl (size_keyk hke)) (fun K hK => ?_); go_simp; refine hK _ ?_; clear hK K
          iterate 3 (refine pc_pure rfl rfl (fun K hK => ?_); go_simp; refine hK _ ?_; clear hK K)
          refine pc_take (.agg (bv fr).toArray) rfl rfl (fun w' hS => exec_load_cells (P := Tryz.prog) (b := d) (off := 0) (cs := bv fr) 40 (.tmp 23) rfl rfl (H3.out.2.2.1.mod hS (fun f => f)).frc Tryz.underlying40 rfl (by rw [bv_len, HB.out.1.fl.1]; exact size_keyT)) (fun K hK => ?_); go_simp; refine hK _ ?_; clear hK K
          refine pc_call rfl rfl (fun K hK => ?_); go_simp; refine ⟨_, _, ⟨rfl, rfl⟩, hK _ _ _ ?_⟩; clear hK K
          refine (rcmp_any _ hke HB.out.1.fl.1 HC.out.2.2.2.1 HB.out.1.fl.2).mono ?_
          rintro e w4 ⟨rfl, m4⟩
          rw [HX.out.1]
          refine ⟨_, rfl, m4.of_drew, ?_⟩
          have H4 := Lib.hid m4.of_drew
          clear m4
          iterate 2 (refine pc_pure rfl rfl (fun K hK => ?_); go_simp; refine hK _ ?_; clear hK K)
          iterate 7 (refine pc_skip rfl rfl (fun K hK => ?_); go_simp; refine hK _ ?_; clear hK K)
          iterate 2 (refine pc_pure rfl rfl (fun K hK => ?_); go_simp; refine hK _ ?_; clear hK K)
          iterate 5 (refine pc_skip rfl rfl (fun K hK => ?_); go_simp; refine hK _ ?_; clear hK K)
          iterate 7 (refine pc_skip rfl rfl (fun K hK => ?_); go_simp; refine hK _ ?_; clear hK K)
          iterate 1 (refine pc_skip rfl rfl (fun K hK => ?_); go_simp; refine hK _ ?_; clear hK K)
          iterate 1 (refine pc_pure rfl rfl (fun K hK => ?_); go_simp; refine hK _ ?_; clear hK K)
          refine pc_nil ?_
          go_wp2
          go_meet
          exact ⟨by rw [HCD.out]; rw [HR6.out]; rfl, H4.out⟩
        · have hX1 : 0 ≤ X := by omega
          by_cases hY0 : Y < 0
          · have hY1 : ¬ 0 ≤ Y := by omega
            cases told
            · have HR6 := Lib.hid (And.intro (decide_eq_false hX0) (decide_eq_true hY0))
              refine wp_region_planC (fun w' => Mod Nn w3 w') [(0, true), (1, true), (2, true), (3, true), (4, true), (5, false), (6, true), (7, true), (8, true), (9, true), (10, true), (11, true), (12, true), (13, false), (14, true), (15, true), (16, true), (17, true), (18, true), (19, true), (20, true), (21, true), (22, true), (23, true), (24, true), (25, true), (26, true), (27, true), (28, true), (29, true), (30, true)] (by kernel_rfl) (by kernel_rfl) (Mod.refl Nn w3).drew ?_
              refine pc_take (.agg (bv (keyOf r)).toArray) rfl rfl (fun w' hS => exec_load_row (P := Tryz.prog) (g := wo.heap.size) (cs := (bv (keyOf r)).toArray) 40 (.tmp 8) rfl rfl (H3.out.2.1.mod hS (fun f => f)) Tryz.underlying40 rfl (size_keyk hke)) (fun K hK => ?_); go_simp; refine hK _ ?_; clear hK K
              iterate 3 (refine pc_pure rfl rfl (fun K hK => ?_); go_simp; refine hK _ ?_; clear hK K)
              refine pc_take (.agg (bv fr).toArray) rfl rfl (fun w' hS => exec_load_cells (P := Tryz.prog) (b := d) (off := 0) (cs := bv fr) 40 (.tmp 23) rfl rfl (H3.out.2.2.1.mod hS (fun f => f)).frc Tryz.underlying40 rfl (by rw [bv_len, HB.out.1.fl.1]; exact size_keyT)) (fun K hK => ?_); go_simp; refine hK _ ?_; clear hK K
              refine pc_call rfl rfl (fun K hK => ?_); go_simp; refine ⟨_, _, ⟨rfl, rfl⟩, hK _ _ _ ?_⟩; clear hK K
              refine (rcmp_any _ hke HB.out.1.fl.1 HC.out.2.2.2.1 HB.out.1.fl.2).mono ?_
              rintro e w4 ⟨rfl, m4⟩
              rw [HX.out.1]
              refine ⟨_, rfl, m4.of_drew, ?_⟩
              have H4 := Lib.hid m4.of_drew
              clear m4
              iterate 2 (refine pc_pure rfl rfl (fun K hK => ?_); go_simp; refine hK _ ?_; clear hK K)
              refine pc_take (.agg (bv (keyOf r)).toArray) rfl rfl (fun w' hS => exec_load_row (P := Tryz.prog) (g := wo.heap.size) (cs := (bv (keyOf r)).toArray) 40 (.tmp 8) rfl rfl (H3.out.2.1.mod hS (fun f => f)) Tryz.underlying40 rfl (size_keyk hke)) (fun K hK => ?_); go_simp; refine hK _ ?_; clear hK K
              iterate 3 (refine pc_pure rfl rfl (fun K hK => ?_); go_simp; refine hK _ ?_; clear hK K)
              refine pc_take (.agg (bv be).toArray) rfl rfl (fun w' hS => exec_load_cells (P := Tryz.prog) (b := d) (off := 40) (cs := bv be) 40 (.tmp 31) rfl rfl (H3.out.2.2.1.mod hS (fun f => f)).bec Tryz.underlying40 rfl (by rw [bv_len, HB.out.1.bl.1]; exact size_keyT)) (fun K hK => ?_); go_simp; refine hK _ ?_; clear hK K
              refine pc_call rfl rfl (fun K hK => ?_); go_simp; refine ⟨_, _, ⟨rfl, rfl⟩, hK _ _ _ ?_⟩; clear hK K
              refine (rcmp_any _ hke HB.out.1.bl.1 HC.out.2.2.2.1 HB.out.1.bl.2).mono ?_
              rintro e w5 ⟨rfl, m5⟩
              rw [HX.out.2.1]
              refine ⟨_, rfl, H4.out.nn_ m5, ?_⟩
              have H5 := Lib.hid (H4.out.nn_ m5)
              clear m5
              iterate 3 (refine pc_pure rfl rfl (fun K hK => ?_); go_simp; refine hK _ ?_; clear hK K)
              iterate 3 (refine pc_pure rfl rfl (fun K hK => ?_); go_simp; refine hK _ ?_; clear hK K)
              refine pc_take (.bool false) rfl rfl (fun w' hS => exec_load1 (P := Tryz.prog) 4 (.tmp 39) rfl rfl (H3.out.2.2.1.mod hS (fun f => f)).toldc Tryz.underlying4 rfl) (fun K hK => ?_); go_simp; refine hK _ ?_; clear hK K
              iterate 1 (refine pc_pure rfl rfl (fun K hK => ?_); go_simp; refine hK _ ?_; clear hK K)
              iterate 7 (refine pc_skip rfl rfl (fun K hK => ?_); go_simp; refine hK _ ?_; clear hK K)
              iterate 2 (refine pc_pure rfl rfl (fun K hK => ?_); go_simp; refine hK _ ?_; clear hK K)
              refine pc_nil ?_
              go_wp2
              go_meet
              exact ⟨by rw [HCD.out]; rw [HR6.out.1, HR6.out.2]; rfl, H5.out⟩
            · by_cases hZ0 : Z ≤ 0
              · have HR6 := Lib.hid (And.intro (decide_eq_false hX0) (And.intro (decide_eq_true hY0) (decide_eq_false (show ¬ 0 < Z by omega))))
                refine wp_region_planC (fun w' => Mod Nn w3 w') [(0, true), (1, true), (2, true), (3, true), (4, true), (5, false), (6, true), (7, true), (8, true), (9, true), (10, true), (11, true), (12, true), (13, false), (14, true), (15, true), (16, true), (17, true), (18, true), (19, true), (20, true), (21, true), (22, true), (23, true), (24, true), (25, true), (26, true), (27, false), (28, true), (29, true), (30, true)] (by kernel_rfl) (by kernel_rfl) (Mod.refl Nn w3).drew ?_
                refine pc_take (.agg (bv (keyOf r)).toArray) rfl rfl (fun w' hS => exec_load_row (P := Tryz.prog) (g := wo.heap.size) (cs := (bv (keyOf r)).toArray) 40 (.tmp 8) rfl rfl (H3.out.2.1.mod hS (fun f => f)) Tryz.underlying40 rfl (size_keyk hke)) (fun K hK => ?_); go_simp; refine hK _ ?_; clear hK K
                iterate 3 (refine pc_pure rfl rfl (fun K hK => ?_); go_simp; refine hK _ ?_; clear hK K)
                refine pc_take (.agg (bv fr).toArray) rfl rfl (fun w' hS => exec_load_cells (P := Tryz.prog) (b := d) (off := 0) (cs := bv fr) 40 (.tmp 23) rfl rfl (H3.out.2.2.1.mod hS (fun f => f)).frc Tryz.underlying40 rfl (by rw [bv_len, HB.out.1.fl.1]; exact size_keyT)) (fun K hK => ?_); go_simp; refine hK _ ?_; clear hK K
                refine pc_call rfl rfl (fun K hK => ?_); go_simp; refine ⟨_, _, ⟨rfl, rfl⟩, hK _ _ _ ?_⟩; clear hK K
                refine (rcmp_any _ hke HB.out.1.fl.1 HC.out.2.2.2.1 HB.out.1.fl.2).mono ?_
                rintro e w4 ⟨rfl, m4⟩
                rw [HX.out.1]
                refine ⟨_, rfl, m4.of_drew, ?_⟩
                have H4 := Lib.hid m4.of_drew
                clear m4
                iterate 2 (refine pc_pure rfl rfl (fun K hK => ?_); go_simp; refine hK _ ?_; clear hK K)
                refine pc_take (.agg (bv (keyOf r)).toArray) rfl rfl (fun w' hS => exec_load_row (P := Tryz.prog) (g := wo.heap.size) (cs := (bv (keyOf r)).toArray) 40 (.tmp 8) rfl rfl (H3.out.2.1.mod hS (fun f => f)) Tryz.underlying40 rfl (size_keyk hke)) (fun K hK => ?_); go_simp; refine hK _ ?_; clear hK K
                iterate 3 (refine pc_pure rfl rfl (fun K hK => ?_); go_simp; refine hK _ ?_; clear hK K)
                refine pc_take (.agg (bv be).toArray) rfl rfl (fun w' hS => exec_load_cells (P := Tryz.prog) (b := d) (off := 40) (cs := bv be) 40 (.tmp 31) rfl rfl (H3.out.2.2.1.mod hS (fun f => f)).bec Tryz.underlying40 rfl (by rw [bv_len, HB.out.1.bl.1]; exact size_keyT)) (fun K hK => ?_); go_simp; refine hK _ ?_; clear hK K
                refine pc_call rfl rfl (fun K hK => ?_); go_simp; refine ⟨_, _, ⟨rfl, rfl⟩, hK _ _ _ ?_⟩; clear hK K
                refine (rcmp_any _ hke HB.out.1.bl.1 HC.out.2.2.2.1 HB.out.1.bl.2).mono ?_
                rintro e w5 ⟨rfl, m5⟩
                rw [HX.out.2.1]
                refine ⟨_, rfl, H4.out.nn_ m5, ?_⟩
                have H5 := Lib.hid (H4.out.nn_ m5)
                clear m5
                iterate 3 (refine pc_pure rfl rfl (fun K hK => ?_); go_simp; refine hK _ ?_; clear hK K)
                iterate 3 (refine pc_pure rfl rfl (fun K hK => ?_); go_simp; refine hK _ ?_; clear hK K)
                refine pc_take (.bool true) rfl rfl (fun w' hS => exec_load1 (P := Tryz.prog) 4 (.tmp 39) rfl rfl (H3.out.2.2.1.mod hS (fun f => f)).toldc Tryz.underlying4 rfl) (fun K hK => ?_); go_simp; refine hK _ ?_; clear hK K
                iterate 1 (refine pc_pure rfl rfl (fun K hK => ?_); go_simp; refine hK _ ?_; clear hK K)
                refine pc_take (.agg (bv (keyOf r)).toArray) rfl rfl (fun w' hS => exec_load_row (P := Tryz.prog) (g := wo.heap.size) (cs := (bv (keyOf r)).toArray) 40 (.tmp 8) rfl rfl (H3.out.2.1.mod hS (fun f => f)) Tryz.underlying40 rfl (size_keyk hke)) (fun K hK => ?_); go_simp; refine hK _ ?_; clear hK K
                iterate 3 (refine pc_pure rfl rfl (fun K hK => ?_); go_simp; refine hK _ ?_; clear hK K)
                refine pc_take (.agg (bv la).toArray) rfl rfl (fun w' hS => exec_load_cells (P := Tryz.prog) (b := d) (off := 80) (cs := bv la) 40 (.tmp 45) rfl rfl (H3.out.2.2.1.mod hS (fun f => f)).lac Tryz.underlying40 rfl (by rw [bv_len, HB.out.1.ll.1]; exact size_keyT)) (fun K hK => ?_); go_simp; refine hK _ ?_; clear hK K
                refine pc_call rfl rfl (fun K hK => ?_); go_simp; refine ⟨_, _, ⟨rfl, rfl⟩, hK _ _ _ ?_⟩; clear hK K
                refine (rcmp_any _ hke HB.out.1.ll.1 HC.out.2.2.2.1 HB.out.1.ll.2).mono ?_
                rintro e w6 ⟨rfl, m6⟩
                rw [HX.out.2.2]
                refine ⟨_, rfl, H5.out.nn_ m6, ?_⟩
                have H6 := Lib.hid (H5.out.nn_ m6)
                clear m6
                iterate 3 (refine pc_pure rfl rfl (fun K hK => ?_); go_simp; refine hK _ ?_; clear hK K)
                refine pc_nil ?_
                go_wp2
                go_meet
                exact ⟨by rw [HCD.out]; rw [HR6.out.1, HR6.out.2.1, HR6.out.2.2]; rfl, H6.out⟩
              · have HR6 := Lib.hid (And.intro (decide_eq_false hX0) (And.intro (decide_eq_true hY0) (decide_eq_true (show 0 < Z by omega))))
                refine wp_region_planC (fun w' => Mod Nn w3 w') [(0, true), (1, true), (2, true), (3, true), (4, true), (5, false), (6, true), (7, true), (8, true), (9, true), (10, true), (11, true), (12, true), (13, false), (14, true), (15, true), (16, true), (17, true), (18, true), (19, true), (20, true), (21, true), (22, true), (23, true), (24, true), (25, true), (26, true), (27, false), (28, true), (29, true), (30, true)] (by kernel_rfl) (by kernel_rfl) (Mod.refl Nn w3).drew ?_
                refine pc_take (.agg (bv (keyOf r)).toArray) rfl rfl (fun w' hS => exec_load_row (P := Tryz.prog) (g := wo.heap.size) (cs := (bv (keyOf r)).toArray) 40 (.tmp 8) rfl rfl (H3.out.2.1.mod hS (fun f => f)) Tryz.underlying40 rfl (size_keyk hke)) (fun K hK => ?_); go_simp; refine hK _ ?_; clear hK K
                iterate 3 (refine pc_pure rfl rfl (fun K hK => ?_); go_simp; refine hK _ ?_; clear hK K)
                refine pc_take (.agg (bv fr).toArray) rfl rfl (fun w' hS => exec_load_cells (P := Tryz.prog) (b := d) (off := 0) (cs := bv fr) 40 (.tmp 23) rfl rfl (H3.out.2.2.1.mod hS (fun f => f)).frc Tryz.underlying40 rfl (by rw [bv_len, HB.out.1.fl.1]; exact size_keyT)) (fun K hK => ?_); go_simp; refine hK _ ?_; clear hK K
                refine pc_call rfl rfl (fun K hK => ?_); go_simp; refine ⟨_, _, ⟨rfl, rfl⟩, hK _ _ _ ?_⟩; clear hK K
                refine (rcmp_any _ hke HB.out.1.fl.1 HC.out.2.2.2.1 HB.out.1.fl.2).mono ?_
                rintro e w4 ⟨rfl, m4⟩
                rw [HX.out.1]
                refine ⟨_, rfl, m4.of_drew, ?_⟩
                have H4 := Lib.hid m4.of_drew
                clear m4
                iterate 2 (refine pc_pure rfl rfl (fun K hK => ?_); go_simp; refine hK _ ?_; clear hK K)
                refine pc_take (.agg (bv (keyOf r)).toArray) rfl rfl (fun w' hS => exec_load_row (P := Tryz.prog) (g := wo.heap.size) (cs := (bv (keyOf r)).toArray) 40 (.tmp 8) rfl rfl (H3.out.2.1.mod hS (fun f => f)) Tryz.underlying40 rfl (size_keyk hke)) (fun K hK => ?_); go_simp; refine hK _ ?_; clear hK K
                iterate 3 (refine pc_pure rfl rfl (fun K hK => ?_); go_simp; refine hK _ ?_; clear hK K)
                refine pc_take (.agg (bv be).toArray) rfl rfl (fun w' hS => exec_load_cells (P := Tryz.prog) (b := d) (off := 40) (cs := bv be) 40 (.tmp 31) rfl rfl (H3.out.2.2.1.mod hS (fun f => f)).bec Tryz.underlying40 rfl (by rw [bv_len, HB.out.1.bl.1]; exact size_keyT)) (fun K hK => ?_); go_simp; refine hK _ ?_; clear hK K
                refine pc_call rfl rfl (fun K hK => ?_); go_simp; refine ⟨_, _, ⟨rfl, rfl⟩, hK _ _ _ ?_⟩; clear hK K
                refine (rcmp_any _ hke HB.out.1.bl.1 HC.out.2.2.2.1 HB.out.1.bl.2).mono ?_
                rintro e w5 ⟨rfl, m5⟩
                rw [HX.out.2.1]
                refine ⟨_, rfl, H4.out.nn_ m5, ?_⟩
                have H5 := Lib.hid (H4.out.nn_ m5)
                clear m5
                iterate 3 (refine pc_pure rfl rfl (fun K hK => ?_); go_simp; refine hK _ ?_; clear hK K)
                iterate 3 (refine pc_pure rfl rfl (fun K hK => ?_); go_simp; refine hK _ ?_; clear hK K)
                refine pc_take (.bool true) rfl rfl (fun w' hS => exec_load1 (P := Tryz.prog) 4 (.tmp 39) rfl rfl (H3.out.2.2.1.mod hS (fun f => f)).toldc Tryz.underlying4 rfl) (fun K hK => ?_); go_simp; refine hK _ ?_; clear hK K
                iterate 1 (refine pc_pure rfl rfl (fun K hK => ?_); go_simp; refine hK _ ?_; clear hK K)
                refine pc_take (.agg (bv (keyOf r)).toArray) rfl rfl (fun w' hS => exec_load_row (P := Tryz.prog) (g := wo.heap.size) (cs := (bv (keyOf r)).toArray) 40 (.tmp 8) rfl rfl (H3.out.2.1.mod hS (fun f => f)) Tryz.underlying40 rfl (size_keyk hke)) (fun K hK => ?_); go_simp; refine hK _ ?_; clear hK K
                iterate 3 (refine pc_pure rfl rfl (fun K hK => ?_); go_simp; refine hK _ ?_; clear hK K)
                refine pc_take (.agg (bv la).toArray) rfl rfl (fun w' hS => exec_load_cells (P := Tryz.prog) (b := d) (off := 80) (cs := bv la) 40 (.tmp 45) rfl rfl (H3.out.2.2.1.mod hS (fun f => f)).lac Tryz.underlying40 rfl (by rw [bv_len, HB.out.1.ll.1]; exact size_keyT)) (fun K hK => ?_); go_simp; refine hK _ ?_; clear hK K
                refine pc_call rfl rfl (fun K hK => ?_); go_simp; refine ⟨_, _, ⟨rfl, rfl⟩, hK _ _ _ ?_⟩; clear hK K
                refine (rcmp_any _ hke HB.out.1.ll.1 HC.out.2.2.2.1 HB.out.1.ll.2).mono ?_
                rintro e w6 ⟨rfl, m6⟩
                rw [HX.out.2.2]
                refine ⟨_, rfl, H5.out.nn_ m6, ?_⟩
                have H6 := Lib.hid (H5.out.nn_ m6)
                clear m6
                iterate 3 (refine pc_pure rfl rfl (fun K hK => ?_); go_simp; refine hK _ ?_; clear hK K)
                refine pc_nil ?_
                go_wp2
                go_meet
                exact ⟨by rw [HCD.out]; rw [HR6.out.1, HR6.out.2.1, HR6.out.2.2]; rfl, H6.out⟩
          · have hY1 : 0 ≤ Y := by omega
            have HR6 := Lib.hid (And.intro (decide_eq_false hX0) (decide_eq_false hY0))
            refine wp_region_planC (fun w' => Mod Nn w3 w') [(0, true), (1, true), (2, true), (3, true), (4, true), (5, false), (6, true), (7, true), (8, true), (9, true), (10, true), (11, true), (12, true), (13, false), (14, true), (15, true), (16, true), (17, true), (18, true), (19, true), (20, true), (21, true), (22, true), (23, true), (24, true), (25, true), (26, true), (27, true), (28, true), (29, true), (30, true)] (by kernel_rfl) (by kernel_rfl) (Mod.refl Nn w3).drew ?_
            refine pc_take (.agg (bv (keyOf r)).toArray) rfl rfl (fun w' hS => exec_load_row (P := Tryz.prog) (g := wo.heap.size) (cs := (bv (keyOf r)).toArray) 40 (.tmp 8) rfl rfl (H3.out.2.1.mod hS (fun f => f)) Tryz.underlying40 rfl (size_keyk hke)) (fun K hK => ?_); go_simp; refine hK _ ?_; clear hK K
            iterate 3 (refine pc_pure rfl rfl (fun K hK => ?_); go_simp; refine hK _ ?_; clear hK K)
            refine pc_take (.agg (bv fr).toArray) rfl rfl (fun w' hS => exec_load_cells (P := Tryz.prog) (b := d) (off := 0) (cs := bv fr) 40 (.tmp 23) rfl rfl (H3.out.2.2.1.mod hS (fun f => f)).frc Tryz.underlying40 rfl (by rw [bv_len, HB.out.1.fl.1]; exact size_keyT)) (fun K hK => ?_); go_simp; refine hK _ ?_; clear hK K
            refine pc_call rfl rfl (fun K hK => ?_); go_simp; refine ⟨_, _, ⟨rfl, rfl⟩, hK _ _ _ ?_⟩; clear hK K
            refine (rcmp_any _ hke HB.out.1.fl.1 HC.out.2.2.2.1 HB.out.1.fl.2).mono ?_
            rintro e w4 ⟨rfl, m4⟩
            rw [HX.out.1]
            refine ⟨_, rfl, m4.of_drew, ?_⟩
            have H4 := Lib.hid m4.of_drew
            clear m4
            iterate 2 (refine pc_pure rfl rfl (fun K hK => ?_); go_simp; refine hK _ ?_; clear hK K)
            refine pc_take (.agg (bv (keyOf r)).toArray) rfl rfl (fun w' hS => exec_load_row (P := Tryz.prog) (g := wo.heap.size) (cs := (bv (keyOf r)).toArray) 40 (.tmp 8) rfl rfl (H3.out.2.1.mod hS (fun f => f)) Tryz.underlying40 rfl (size_keyk hke)) (fun K hK => ?_); go_simp; refine hK _ ?_; clear hK K
            iterate 3 (refine pc_pure rfl rfl (fun K hK => ?_); go_simp; refine hK _ ?_; clear hK K)
            refine pc_take (.agg (bv be).toArray) rfl rfl (fun w' hS => exec_load_cells (P := Tryz.prog) (b := d) (off := 40) (cs := bv be) 40 (.tmp 31) rfl rfl (H3.out.2.2.1.mod hS (fun f => f)).bec Tryz.underlying40 rfl (by rw [bv_len, HB.out.1.bl.1]; exact size_keyT)) (fun K hK => ?_); go_simp; refine hK _ ?_; clear hK K
            refine pc_call rfl rfl (fun K hK => ?_); go_simp; refine ⟨_, _, ⟨rfl, rfl⟩, hK _ _ _ ?_⟩; clear hK K
            refine (rcmp_any _ hke HB.out.1.bl.1 HC.out.2.2.2.1 HB.out.1.bl.2).mono ?_
            rintro e w5 ⟨rfl, m5⟩
            rw [HX.out.2.1]
            refine ⟨_, rfl, H4.out.nn_ m5, ?_⟩
            have H5 := Lib.hid (H4.out.nn_ m5)
            clear m5
            iterate 3 (refine pc_pure rfl rfl (fun K hK => ?_); go_simp; refine hK _ ?_; clear hK K)
            iterate 5 (refine pc_skip rfl rfl (fun K hK => ?_); go_simp; refine hK _ ?_; clear hK K)
            iterate 7 (refine pc_skip rfl rfl (fun K hK => ?_); go_simp; refine hK _ ?_; clear hK K)
            iterate 1 (refine pc_skip rfl rfl (fun K hK => ?_); go_simp; refine hK _ ?_; clear hK K)
            iterate 1 (refine pc_pure rfl rfl (fun K hK => ?_); go_simp; refine hK _ ?_; clear hK K)
            refine pc_nil ?_
            go_wp2
            go_meet
            exact ⟨by rw [HCD.out]; rw [HR6.out.1, HR6.out.2]; rfl, H5.out⟩
      case rest =>
        obtain ⟨rfl, hmc⟩ := hcut
        have HM := Lib.hid (And.intro hmc (And.intro (H3.out.2.1.mod hmc (fun f => f)) (H3.out.2.2.2.nn_ hmc)))
        clear hmc
        obtain ⟨cd, hcd⟩ : ∃ cd, cand fr be la told r = cd := ⟨_, rfl⟩
        have HCC := Lib.hid hcd
        rw [hcd]
        clear hcd
        cases cd
        · go_wp2
          exact ⟨⟨j + 1, bi, by omega, by go_num, rfl, Lib.hid ⟨best_skip HR.out.1 HC.out.2.2.1 HCC.out, HR.out.2.nn_ (H3.out.1.nn_ HM.out.1)⟩⟩, by simp [intOf]; omega⟩
        · go_wp2_with fail
          rcases HBC.out with hb0 | ⟨q, x, hb0, hqj, hqx⟩
          · subst hb0
            refine wp_region_planC (fun w' => Mod Nn wc w') [(0, true), (1, true), (2, true), (3, true), (4, true), (5, true), (6, true), (7, true), (8, true), (9, true), (10, true), (11, true)] (by kernel_rfl) (by kernel_rfl) (Mod.refl Nn wc).drew ?_
            iterate 3 (refine pc_pure rfl rfl (fun K hK => ?_); go_simp; refine hK _ ?_; clear hK K)
            iterate 8 (refine pc_skip rfl rfl (fun K hK => ?_); go_simp; refine hK _ ?_; clear hK K)
            iterate 1 (refine pc_pure rfl rfl (fun K hK => ?_); go_simp; refine hK _ ?_; clear hK K)
            refine pc_nil ?_
            have hmd : Mod Nn wc wc.drew := (Mod.refl Nn wc).drew
            have HD := Lib.hid hmd
            clear hmd
            generalize wc.drew = wd at *
            go_wp2
            exact ⟨⟨j + 1, j, by omega, by go_num, rfl, Lib.hid ⟨best_first HR.out.1 HC.out.2.2.1 HCC.out, (HR.out.2.nn_ (H3.out.1.nn_ HM.out.1)).nn_ HD.out⟩⟩, by simp [intOf]; omega⟩
          · subst hb0
            have hx80 := HB.out.2.1.2.1 x (List.mem_of_getElem? hqx)
            have hkx := keyOf_len hx80.1
            have hqn : q < n := by omega
            have hq0 : ¬ (q : Int) < 0 := by omega
            have HQ := Lib.hid (And.intro hqx (And.intro (keyOf_lt hx80.2) hqj))
            clear hx80 hqx hqj
            obtain ⟨V, hV⟩ : ∃ V, lexc (keyOf r) (keyOf x) = V := ⟨_, rfl⟩
            have HV := Lib.hid hV
            clear hV
            refine wp_region_planC (fun w' => Mod Nn wc w') [(0, true), (1, true), (2, true), (3, true), (4, true), (5, true), (6, true), (7, true), (8, true), (9, false), (10, true), (11, true)] (by kernel_rfl) (by kernel_rfl) (Mod.refl Nn wc).drew ?_
            iterate 3 (refine pc_pure rfl rfl (fun K hK => ?_); go_simp; refine hK _ ?_; clear hK K)
            refine pc_take (.agg (bv (keyOf r)).toArray) rfl rfl (fun w' hS => exec_load_row (P := Tryz.prog) (g := wo.heap.size) (cs := (bv (keyOf r)).toArray) 40 (.tmp 8) rfl rfl (HM.out.2.1.mod hS (fun f => f)) Tryz.underlying40 rfl (size_keyk hke)) (fun K hK => ?_); go_simp; refine hK _ ?_; clear hK K
            iterate 2 (refine pc_pure rfl rfl (fun K hK => ?_); go_simp; refine hK _ ?_; clear hK K)
            refine pc_take (.pointer (some ⟨g, off + q * 80, none⟩)) rfl rfl (fun w' _ => exec_elem (P := Tryz.prog) (g := g) (off := off) (q := q) 28 (.tmp 55) (.tmp 56) rfl 43 80 uuE sizeE rfl rfl hqn) (fun K hK => ?_); go_simp; refine hK _ ?_; clear hK K
            iterate 1 (refine pc_pure rfl rfl (fun K hK => ?_); go_simp; refine hK _ ?_; clear hK K)
            refine pc_take (.agg (bv (keyOf x)).toArray) rfl rfl (fun w' hS => exec_load_cells (P := Tryz.prog) (b := g) (off := off + q * 80) (cs := bv (keyOf x)) 40 (.tmp 58) rfl rfl (HC.out.2.1 w' (HM.out.2.2.nn_ hS) q x HQ.out.1) Tryz.underlying40 rfl (by rw [bv_len, hkx]; exact size_keyT)) (fun K hK => ?_); go_simp; refine hK _ ?_; clear hK K
            refine pc_call rfl rfl (fun K hK => ?_); go_simp; refine ⟨_, _, ⟨rfl, rfl⟩, hK _ _ _ ?_⟩; clear hK K
            refine (rcmp_any _ hke hkx HC.out.2.2.2.1 HQ.out.2.1).mono ?_
            rintro e w7 ⟨rfl, m7⟩
            rw [HV.out]
            refine ⟨_, rfl, m7.of_drew, ?_⟩
            have H7 := Lib.hid m7.of_drew
            clear m7
            by_cases hV0 : V < 0
            · have HVV := Lib.hid hV0
              iterate 2 (refine pc_pure rfl rfl (fun K hK => ?_); go_simp; refine hK _ ?_; clear hK K)
              refine pc_nil ?_
              go_wp2
              exact ⟨⟨j + 1, j, by omega, by go_num, rfl, Lib.hid ⟨best_better HR.out.1 HC.out.2.2.1 HCC.out HQ.out.1 (by unfold klt; rw [HV.out]; exact HVV.out), (HR.out.2.nn_ (H3.out.1.nn_ HM.out.1)).nn_ H7.out⟩⟩, by simp [intOf]; omega⟩
            · have HVV := Lib.hid hV0
              iterate 2 (refine pc_pure rfl rfl (fun K hK => ?_); go_simp; refine hK _ ?_; clear hK K)
              refine pc_nil ?_
              go_wp2
              exact ⟨⟨j + 1, q, by omega, by go_num, rfl, Lib.hid ⟨best_keep HR.out.1 HC.out.2.2.1 HQ.out.1 (by unfold klt; rw [HV.out]; exact HVV.out), (HR.out.2.nn_ (H3.out.1.nn_ HM.out.1)).nn_ H7.out⟩⟩, by simp [intOf]; omega⟩
    · have hjn' : ¬ (j : Int) < n := by omega
      have hbe : BestAt R (cand fr be la told) R.length bi := by rw [show R.length = j by omega]; exact HR.out.1
      have hend := best_end HB.out.2.2.1 hbe
      have hmw : Mod Nn w wo := H1.out.1.nn_ HR.out.2
      have H9 := Lib.hid (And.intro hmw (And.intro (H1.out.2.mod HR.out.2 (fun f => f)) (HB.out.1.mod hmw (fun f => f))))
      have hdw : d < w.heap.size := HB.out.1.blk.lt
      clear hbc hbe hmw
      rw [HF.out] at hend
      rcases hend with ⟨hb0, ho⟩ | ⟨q, x, hb0, hqx, ho⟩
      · subst hb0
        have HO := Lib.hid ho
        clear ho
        go_wp2_with (first
          | (with_reducible change wpList _ _ _ (⟨some 66, _, _, _, _, _⟩ :: _) _ _
             go_must (refine wpList_val rfl (exec_zero_ent rfl) ?_))
          | (with_reducible change wpList _ _ _ (⟨none, Op.store _ (Operand.tmp 4) _, _, _, _, _⟩ :: _) _ _
             go_must (refine wpList_store_var 43 _ _ rfl rfl w.heap.size (bv ze).toArray _ _ rfl rfl H9.out.2.1 (size_ente ze_len) rfl (bv_all _) ?_)
             intro w10 b10 m10 z10
             clear z10
             have H10 := Lib.hid (And.intro (H9.out.1.new_ m10 (Nat.le_refl _)) (And.intro b10 m10))
             clear m10 b10))
        refine bodyPost_ret (results_cell_tmp_row (P := Tryz.prog) (g := w.heap.size) rfl _ rfl H10.out.2.1 Tryz.underlying43 rfl (size_ente ze_len)) rfl ?_
        refine ⟨by rw [HO.out]; rfl, H10.out.1.nn, fun _ => H9.out.2.2.mod H10.out.2.2 (fun e => by have e : d = w.heap.size := e; omega), fun x hx => by rw [HO.out] at hx; cases hx⟩
      · subst hb0
        have hx80 := HB.out.2.1.2.1 x (List.mem_of_getElem? hqx)
        have hxl := hx80.1
        have hkx := keyOf_len hxl
        have hqn : q < n := by have := (List.getElem?_eq_some_iff.1 hqx).1; omega
        have hq0 : ¬ (q : Int) < 0 := by omega
        obtain ⟨g, off, rfl, hcell⟩ := (HB.out.2.1.nn H9.out.1).1.row HB.out.2.1.2.1 hqx (by omega)
        have hgd : g ≠ d := HB.out.2.2.2 g ⟨_, rfl, rfl⟩
        have hgl : g < w.heap.size := HB.out.2.1.lt (by omega) g ⟨_, rfl, rfl⟩
        have HO := Lib.hid (And.intro ho (And.intro hx80.2 hcell))
        clear ho hx80 hcell hqx
        have hsw : w.heap.size ≤ wo.heap.size := H9.out.1.size
        go_wp2_with (first
          | (with_reducible change wpList _ _ _ (⟨some 70, _, _, _, _, _⟩ :: _) _ _
             go_must (refine wpList_val rfl (exec_elem (P := Tryz.prog) (g := g) (off := off) (q := q) 28 (.tmp 68) (.tmp 69) rfl 43 80 uuE sizeE rfl rfl hqn) ?_))
          | (with_reducible change wpList _ _ _ (⟨some 72, _, _, _, _, _⟩ :: _) _ _
             go_must (refine wpList_val rfl (exec_load_cells (P := Tryz.prog) (b := g) (off := off + q * 80) (cs := bv (keyOf x)) 40 (.tmp 71) rfl rfl (fun j v hv => HO.out.2.2 j v (key_pre hv)) Tryz.underlying40 rfl (by rw [bv_len, hkx]; exact size_keyT)) ?_))
          | (with_reducible change wpList _ _ _ (⟨none, Op.store _ (Operand.tmp 74) _, _, _, _, _⟩ :: _) _ _
             go_must (refine wpList_store_at 40 _ _ rfl rfl d 80 (bv (keyOf x)).toArray (rcurL fr be la told).toArray 117 rfl rfl H9.out.2.2.blk (size_keyk hkx) (by rw [bv_size, hkx, List.size_toArray, rcurL_len HB.out.1.fl.1 HB.out.1.bl.1 HB.out.1.ll.1]; omega) (bv_all _) ?_)
             intro w10 b10 m10 z10
             clear z10
             have b10' : Blk w10 d 117 (rcurL fr be (keyOf x) told).toArray := by
               rw [← rcurL_set HB.out.1.fl.1 HB.out.1.bl.1 HB.out.1.ll.1]
               have := b10
               rw [bv_size, hkx] at this
               exact this
             have H10 := Lib.hid (And.intro m10 (show RCur w10 d fr be (keyOf x) told from ⟨b10', HB.out.1.fl, HB.out.1.bl, ⟨hkx, keyOf_lt HO.out.2.1⟩⟩))
             clear b10 b10' m10)
          | (with_reducible change wpList _ _ _ (⟨none, Op.store _ (Operand.tmp 77) _, _, _, _, _⟩ :: _) _ _
             go_must (refine wpList_unit rfl (exec_store1 (P := Tryz.prog) (ad := ⟨d, 120, none⟩) (v := .bool true) (u := .bool told) 4 _ _ rfl rfl rfl H10.out.2.toldc (H10.out.2.blk.frozen 120) rfl rfl rfl (by kernel_rfl)) ?_)
             have b11 := H10.out.2.blk.set_ 120 (.bool true)
             rw [rcurL_told HB.out.1.fl.1 HB.out.1.bl.1 hkx] at b11
             have m11 : Mod (At d) w10 (w10.setCell ⟨d, 120, none⟩ (.bool true)) := Mod.cellAt _ _ _ _
             generalize w10.setCell ⟨d, 120, none⟩ (.bool true) = w11 at *
             have H11 := Lib.hid (And.intro (H10.out.1.trans m11) (show RCur w11 d fr be (keyOf x) true from ⟨b11, HB.out.1.fl, HB.out.1.bl, ⟨hkx, keyOf_lt HO.out.2.1⟩⟩))
             clear b11 m11)
          | (with_reducible change wpList _ _ _ (⟨some 80, _, _, _, _, _⟩ :: _) _ _
             go_must (refine wpList_val rfl (exec_elem (P := Tryz.prog) (g := g) (off := off) (q := q) 28 (.tmp 78) (.tmp 79) rfl 43 80 uuE sizeE rfl rfl hqn) ?_))
          | (with_reducible change wpList _ _ _ (⟨some 81, _, _, _, _, _⟩ :: _) _ _
             go_must (refine wpList_val rfl (exec_load_cells (P := Tryz.prog) (b := g) (off := off + q * 80) (cs := bv x) 43 (.tmp 80) rfl rfl (fun j v hv => by
               rw [H11.out.1.cell (p := ⟨g, off + q * 80 + j, none⟩) (Nat.lt_of_lt_of_le hgl hsw) (fun e => hgd e)]
               exact HO.out.2.2 j v hv) Tryz.underlying43 rfl (by rw [bv_len, hxl]; exact size_entT)) ?_))
          | (with_reducible change wpList _ _ _ (⟨none, Op.store _ (Operand.tmp 4) _, _, _, _, _⟩ :: _) _ _
             go_must (refine wpList_store_var 43 _ _ rfl rfl w.heap.size (bv x).toArray _ _ rfl rfl (H9.out.2.1.mod H11.out.1 (fun e => by have e : w.heap.size = d := e; omega)) (size_ente hxl) (by rw [bv_size, hxl]; rfl) (bv_all _) ?_)
             intro w12 b12 m12 z12
             clear z12
             have H12 := Lib.hid (And.intro m12 b12)
             clear m12 b12))
        refine bodyPost_ret (results_cell_tmp_row (P := Tryz.prog) (g := w.heap.size) rfl _ rfl H12.out.2 Tryz.underlying43 rfl (size_ente hxl)) rfl ?_
        refine ⟨by rw [HO.out.1]; rfl, (H9.out.1.nn.trans H11.out.1).new_ H12.out.1 (Nat.le_refl _), fun hx => (by rw [HO.out.1] at hx; cases hx), fun y hy => ?_⟩
        rw [HO.out.1] at hy
        injection hy with hy
        subst hy
        exact H11.out.2.mod H12.out.1 (fun e => by have e : d = w.heap.size := e; omega)
end
end Go.Proofs.YtkcpmkeckcnobaaGreat
