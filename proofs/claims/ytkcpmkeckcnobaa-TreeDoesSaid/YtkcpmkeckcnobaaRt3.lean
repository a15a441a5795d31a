/- (*peatbankref16.Tree).Del, Get, After. -/
import Derived.Test.YtkcpmkeckcnobaaRt2
import Derived.Test.YtkcpmkeckcnobaaTr22
namespace Go.Proofs.Ytkcpmkeckcnobaa
open Go.RowKit

section
variable {w : World} {A : Option Addr} {b n c : Nat} {L : List (List Nat)} {κ : List Nat} {wi : Bool}
set_option maxRecDepth 100000 in
set_option maxHeartbeats 6400000 in
theorem rdel16_any (hu : U16 w b A n c L) (hk : κ.length = 40) (hkz : ∀ z ∈ κ, z < 256) (hn : n ≤ 1000000) (hcm : c ≤ maxLen) : Calls Try.prog 49 #[.pointer (some ⟨b, 0, none⟩), .agg (bv κ).toArray] w (USetP w b A (dele L κ) (.int .i64 (if has L κ then 0 else 6))) := by
  have HCM := Lib.hid hcm
  obtain ⟨er, her⟩ : ∃ er : Int, (if has L κ then 0 else 6 : Int) = er := ⟨_, rfl⟩
  rw [her]
  have HER := Lib.hid her
  clear hcm her
  have hcap := hu.cap
  have hbw := hu.blk.lt
  have HB := Lib.hid (And.intro hu hkz)
  clear hu hkz
  go_enter Try.func49, Try.ntmps49
  go_wp2_with (first
    | (with_reducible change wpList _ _ _ (⟨some 3, Op.box _ _, _, _, _, _⟩ :: _) _ _
       go_must (refine wpList_box_var 23 _ rfl rfl (bv κ).toArray rfl ?_)
       intro w1 b1 m1 z1
       clear z1
       have hs1 : w.heap.size < w1.heap.size := b1.lt
       have H1 := Lib.hid (And.intro m1 b1)
       clear m1 b1)
    | (with_reducible change wpList _ _ _ (⟨some 9, _, _, _, _, _⟩ :: _) _ _
       go_must (refine wpList_val rfl (exec_load_row (P := Try.prog) (g := w.heap.size) (cs := (bv κ).toArray) 23 _ rfl rfl H1.out.2 Try.underlying23 rfl (size_keyk hk)) ?_)))
  refine (place16_any (HB.out.1.blk.mod H1.out.1 (fun f => f)) (HB.out.1.nn H1.out.1).rd HB.out.1.rows HB.out.1.len hk HB.out.2 HB.out.1.srt hn).mono ?_
  rintro r w2 ⟨i, rfl, hpl, m2⟩
  have hin : i ≤ n := by have := hpl.le; rw [List.length_map, HB.out.1.len] at this; exact this
  have hs2 : w1.heap.size ≤ w2.heap.size := m2.size
  obtain ⟨bo, hbo⟩ : ∃ bo, decide (i < n ∧ (L.map keyOf).getD i [] = κ) = bo := ⟨_, rfl⟩
  rw [hbo]
  have HBO := Lib.hid hbo
  clear hbo
  have H2 := Lib.hid (And.intro (H1.out.1.nn_ m2) (And.intro (HB.out.1.nn (H1.out.1.nn_ m2)) hpl))
  clear m2 hpl
  cases bo
  · have hnt := place_not H2.out.2.2 HB.out.1.srt (by rw [HB.out.1.len]; exact of_decide_eq_false HBO.out)
    have hdl : dele L κ = L := by unfold dele; rw [hnt.1, hnt.2.1, List.take_append_drop]
    have he6 : er = 6 := by rw [← HER.out, hnt.2.2.1]; rfl
    subst he6
    have HDL := Lib.hid hdl
    clear hnt hdl
    go_wp2
    go_ret
    refine ⟨rfl, A, c, ?_, HCM.out, fun g hg => .inl hg, H2.out.1.nn⟩
    have := H2.out.2.1; rw [HDL.out, HB.out.1.len]; exact this
  · have hit := of_decide_eq_true HBO.out
    have hil : i < n := hit.1
    have hnt := place_there H2.out.2.2 HB.out.1.srt (by rw [HB.out.1.len]; exact hil) hit.2
    have he6 : er = 0 := by rw [← HER.out, hnt.2.2.1]; rfl
    subst he6
    have HN := Lib.hid (And.intro hnt.1 hnt.2.1)
    clear hnt hit
    have hp1 := H2.out.2.1.rd.sub (c := c) (by omega) 0 i (by omega) hcap
    rw [Nat.zero_mul, List.drop_zero] at hp1
    have hp2 := H2.out.2.1.rd.tail (c := c) (k := i + 1) (by omega) hil hcap
    have HP := Lib.hid (And.intro hp1 hp2)
    clear hp1 hp2
    go_wp2_with fail
    -- zzD
    refine wp_region_planT (fun w' => Mod Nn w2 w') 19 [(0, 0), (2, 0), (3, 0), (4, 0), (5, 1), (6, 0), (7, 0), (9, 0), (10, 0), (11, 0), (12, 1), (13, 0), (14, 0), (15, 0), (1, 2), (8, 2), (16, 2), (17, 0), (18, 0), (19, 2)] (by kernel_rfl) (by kernel_rfl) (Mod.refl Nn w2).drew ?_
    iterate 4 (refine pt_pure rfl rfl (fun K hK => ?_); go_simp; refine hK _ ?_; clear hK K)
    refine pt_take (.slice A n c) rfl rfl (fun w' hS => exec_load1 (P := Try.prog) (v := .slice A n c) (ad := ⟨b, 0, none⟩) 40 (.tmp 19) rfl rfl ((H2.out.2.1.nn hS).blk.cell 0) Try.underlying40 rfl) (fun K hK => ?_); go_simp; refine hK _ ?_; clear hK K
    iterate 1 (refine pt_pure rfl rfl (fun K hK => ?_); go_simp; refine hK _ ?_; clear hK K)
    refine pt_is _ rfl rfl (fun w' => exec_sub_h (P := Try.prog) 40 (.tmp 20) (.tmp 21) rfl 28 80 uuE sizeE (A := A) (n := n) (c := c) (h := i) rfl rfl (by omega)) (fun K hK => ?_); go_simp; refine hK _ ?_; clear hK K
    iterate 3 (refine pt_pure rfl rfl (fun K hK => ?_); go_simp; refine hK _ ?_; clear hK K)
    refine pt_take (.slice A n c) rfl rfl (fun w' hS => exec_load1 (P := Try.prog) (v := .slice A n c) (ad := ⟨b, 0, none⟩) 40 (.tmp 26) rfl rfl ((H2.out.2.1.nn hS).blk.cell 0) Try.underlying40 rfl) (fun K hK => ?_); go_simp; refine hK _ ?_; clear hK K
    iterate 1 (refine pt_pure rfl rfl (fun K hK => ?_); go_simp; refine hK _ ?_; clear hK K)
    refine pt_is (.int .i64 ((i + 1 : Nat) : Int)) rfl rfl (fun w' => by have hw : IntKind.i64.wrap ((i : Int) + 1) = ((i + 1 : Nat) : Int) := (by rw [IntKind.wrap_i64]; omega); simp [execOp, resolve, binOp, Result.andThen, hw, go_sem]) (fun K hK => ?_); go_simp; refine hK _ ?_; clear hK K
    refine pt_is _ rfl rfl (fun w' => exec_sub_l (P := Try.prog) 40 (.tmp 27) (.tmp 29) rfl 28 80 uuE sizeE (A := A) (n := n) (c := c) (l := i + 1) rfl rfl hil) (fun K hK => ?_); go_simp; refine hK _ ?_; clear hK K
    refine pt_val rfl rfl (exec_bslice0 (P := Try.prog) 40 28 rfl uuE sizeE) (fun _ => (Mod.refl Nn w2).drew.alloc _) (fun K hK => ?_); go_simp; refine hK _ ?_; clear hK K
    have b0 : Blk (w2.drew.alloc (.cells #[] 28)) w2.heap.size 28 #[] := Blk.new w2.drew _ _
    have m0 : Mod Nn w2 (w2.drew.alloc (.cells #[] 28)) := (Mod.refl Nn w2).drew.alloc _
    generalize w2.drew.alloc (.cells #[] 28) = w3 at *
    have H3 := Lib.hid (And.intro m0 (own_of_blkS b0 (Nat.le_refl w2.heap.size) (by simp) (Nat.zero_le _) (Nat.zero_le _) rfl : w3.ownsRow w2.heap.size 28 80 (.slice (some ⟨w2.heap.size, 0, none⟩) 0 0) 0 []))
    clear b0 m0
    refine pt_append 40 (.tmp 16) (.tmp 22) rfl rfl rfl w2.heap.size 28 zE 80 80 uuE infoE zsE (by omega) _ 0 [] rfl H3.out.2 _ i c _ rfl (HP.out.1.md (by omega) H3.out.1 (fun _ _ f => f)) (fun u hu => bv_one _ u (List.mem_of_mem_take hu)) (by omega) (by omega) H3.out.1.size (fun v4 w4 own4 gr4 ob4 => ?_)
    have m4 : Mod Nn w2 w4 := H3.out.1.grown gr4 (fun x h => by injection h with h; exact .inl (Nat.le_of_eq h))
    refine ⟨fun _ => m4, ?_⟩
    refine (fun K hK => ?_); go_simp; refine hK _ ?_; clear hK K
    have H4 := Lib.hid (And.intro m4 own4)
    clear own4 gr4 ob4 m4
    refine pt_append 40 (.tmp 23) (.tmp 30) rfl rfl rfl w2.heap.size 28 zE 80 80 uuE infoE zsE (by omega) _ (0 + i) _ rfl H4.out.2 _ (n - (i + 1)) (c - (i + 1)) _ rfl (HP.out.2.md (by omega) H4.out.1 (fun _ _ f => f)) (fun u hu => bv_one _ u (List.mem_of_mem_drop hu)) (by omega) (by omega) H4.out.1.size (fun v7 w7 own7 gr7 ob7 => ?_)
    have m7 : Mod Nn w2 w7 := H4.out.1.grown gr7 (fun x h => by have := (own_blk_eq H4.out.2 h); obtain ⟨_, _, _, h1, _⟩ := this; exact .inl h1)
    refine ⟨fun _ => m7, ?_⟩
    refine (fun K hK => ?_); go_simp; refine hK _ ?_; clear hK K
    obtain ⟨N7, hN7⟩ : ∃ N, 0 + i + (n - (i + 1)) = N := ⟨_, rfl⟩
    rw [hN7] at own7
    have HN7 := Lib.hid hN7
    clear hN7
    obtain ⟨A7, c7, ev7, hc7, hg7⟩ := own_form own7
    subst ev7
    have hb7 := (H2.out.2.1.nn m7).blk
    have H7 := Lib.hid (And.intro m7 (And.intro own7 (And.intro hb7 hg7)))
    clear own7 gr7 ob7 m7 hb7 hg7
    iterate 2 (refine pt_pure rfl rfl (fun K hK => ?_); go_simp; refine hK _ ?_; clear hK K)
    refine pt_unit rfl rfl (exec_store1 (P := Try.prog) (ad := ⟨b, 0, none⟩) (v := .slice A7 N7 c7) (u := .slice A n c) 40 (.tmp 33) (.tmp 31) rfl rfl rfl (H7.out.2.2.1.cell 0) (H7.out.2.2.1.frozen 0) rfl rfl rfl size_slE) (fun h => by simp at h) (fun K hK => ?_); go_simp; refine hK _ ?_; clear hK K
    refine pt_nil ?_
    have b8 : Blk (w7.setCell ⟨b, 0, none⟩ (.slice A7 N7 c7)) b 83 #[.slice A7 N7 c7] := H7.out.2.2.1.set_ 0 _
    have m8 : Mod (At b) w7 (w7.setCell ⟨b, 0, none⟩ (.slice A7 N7 c7)) := Mod.cellAt _ _ _ _
    generalize w7.setCell ⟨b, 0, none⟩ (.slice A7 N7 c7) = w8 at *
    have H8 := Lib.hid (And.intro b8 m8)
    clear b8 m8
    go_wp2
    go_ret
    have hr80 := HB.out.1.rows
    have hdl : dele L κ = L.take i ++ L.drop (i + 1) := by unfold dele; rw [HN.out.1, HN.out.2]
    have hfl : [] ++ (bv L.flatten).take (i * 80) ++ (bv L.flatten).drop ((i + 1) * 80) = bv (dele L κ).flatten := by
      rw [hdl, bv_take, bv_drop, rows_take (fun x hx => (hr80 x hx).1), rows_drop (fun x hx => (hr80 x hx).1), List.flatten_append, bv_append]
      simp
    have hln : N7 = (dele L κ).length := by
      rw [← HN7.out, hdl, List.length_append, List.length_take, List.length_drop, HB.out.1.len]; omega
    have hm := (H2.out.1.nn_ H7.out.1)
    have hh := Hold.of_own H7.out.2.1
    have hrd : RdC w7 A7 N7 80 (bv (dele L κ).flatten) := by rw [← hfl]; exact hh.rd
    have hbA : ∀ g, Of A7 g → ¬ At b g := fun g hg (e : g = b) => by have := (H7.out.2.2.2 g hg).1; have := H2.out.1.size; omega
    refine ⟨rfl, A7, c7, ?_, hh.le.2, fun g hg => .inr (by have := (H7.out.2.2.2 g hg).1; have := H2.out.1.size; omega), (hm.nn).trans H8.out.2⟩
    rw [← hln]
    exact ⟨H8.out.1, hrd.md (by omega) H8.out.2 hbA, rows_dele hr80, hln.symm, srt_dele HB.out.1.srt κ, hc7, fun g hg => Nat.lt_of_lt_of_le (H7.out.2.2.2 g hg).2 H8.out.2.size⟩
set_option maxRecDepth 100000 in
set_option maxHeartbeats 6400000 in
theorem rget16_any (hu : U16 w b A n c L) (hk : κ.length = 40) (hkz : ∀ z ∈ κ, z < 256) (hn : n ≤ 1000000) : Calls Try.prog 50 #[.pointer (some ⟨b, 0, none⟩), .agg (bv κ).toArray] w (AftT w (getL L κ)) := by
  have hcap := hu.cap
  have hbw := hu.blk.lt
  have HB := Lib.hid (And.intro hu hkz)
  clear hu hkz
  go_enter Try.func50, Try.ntmps50
  go_wp2_with (first
    | (with_reducible change wpList _ _ _ (⟨some 3, Op.box _ _, _, _, _, _⟩ :: _) _ _
       go_must (refine wpList_box_var 23 _ rfl rfl (bv κ).toArray rfl ?_)
       intro w1 b1 m1 z1
       clear z1
       have hs1 : w.heap.size < w1.heap.size := b1.lt
       have H1 := Lib.hid (And.intro m1 b1)
       clear m1 b1)
    | (with_reducible change wpList _ _ _ (⟨some 4, Op.alloc _, _, _, _, _⟩ :: _) _ _
       go_must (refine wpList_alloc_var 28 rfl rfl info_entz ?_)
       intro w1b b1b m1b z1b
       clear z1b
       have hs1b : w1.heap.size < w1b.heap.size := b1b.lt
       have H1b := Lib.hid (And.intro (H1.out.1.nn_ m1b) (And.intro (H1.out.2.mod m1b (fun f => f)) b1b))
       clear m1b b1b)
    | (with_reducible change wpList _ _ _ (⟨some 10, _, _, _, _, _⟩ :: _) _ _
       go_must (refine wpList_val rfl (exec_load_row (P := Try.prog) (g := w.heap.size) (cs := (bv κ).toArray) 23 _ rfl rfl H1b.out.2.1 Try.underlying23 rfl (size_keyk hk)) ?_)))
  refine (place16_any (HB.out.1.blk.mod H1b.out.1 (fun f => f)) (HB.out.1.nn H1b.out.1).rd HB.out.1.rows HB.out.1.len hk HB.out.2 HB.out.1.srt hn).mono ?_
  rintro r w2 ⟨i, rfl, hpl, m2⟩
  have hin : i ≤ n := by have := hpl.le; rw [List.length_map, HB.out.1.len] at this; exact this
  have hs2 : w1b.heap.size ≤ w2.heap.size := m2.size
  obtain ⟨bo, hbo⟩ : ∃ bo, decide (i < n ∧ (L.map keyOf).getD i [] = κ) = bo := ⟨_, rfl⟩
  rw [hbo]
  have HBO := Lib.hid hbo
  clear hbo
  have H2 := Lib.hid (And.intro (H1b.out.1.nn_ m2) (And.intro (H1b.out.2.1.mod m2 (fun f => f)) (And.intro (H1b.out.2.2.mod m2 (fun f => f)) (And.intro (HB.out.1.nn (H1b.out.1.nn_ m2)) hpl))))
  clear m2 hpl
  cases bo
  · have hnt := place_not H2.out.2.2.2.2 HB.out.1.srt (by rw [HB.out.1.len]; exact of_decide_eq_false HBO.out)
    have hg : getL L κ = none := by
      unfold getL
      rw [hnt.2.2.2 true]
      cases hx : L[i]? with
      | none => rfl
      | some x =>
        have hxi := (List.getElem?_eq_some_iff.1 hx).1
        have := of_decide_eq_false HBO.out
        have hne : ¬ keyOf x = κ := fun e => this ⟨by have := HB.out.1.len; omega, by rw [getD_keyOf hx]; exact e⟩
        simp [Option.filter, hne]
    have HG := Lib.hid hg
    clear hnt hg
    go_wp2_with (first
      | (with_reducible change wpList _ _ _ (⟨some 16, _, _, _, _, _⟩ :: _) _ _
         go_must (refine wpList_val rfl (exec_zero_ent rfl) ?_))
      | (with_reducible change wpList _ _ _ (⟨none, Op.store _ (Operand.tmp 4) _, _, _, _, _⟩ :: _) _ _
         go_must (refine wpList_store_var 28 _ _ rfl rfl w1.heap.size (bv ze).toArray _ _ rfl rfl H2.out.2.2.1 (size_ente ze_len) rfl (bv_all _) ?_)
         intro w6 b6 m6 z6
         clear z6
         have H6 := Lib.hid (And.intro (H2.out.1.new_ m6 (by omega)) b6)
         clear m6 b6))
    refine bodyPost_ret (results_cell_tmp_row (P := Try.prog) (g := w1.heap.size) rfl _ rfl H6.out.2 Try.underlying28 rfl (size_ente ze_len)) rfl ?_
    exact ⟨by rw [HG.out]; rfl, H6.out.1⟩
  · have hit := of_decide_eq_true HBO.out
    have hil : i < n := hit.1
    obtain ⟨x, hx⟩ : ∃ x, L[i]? = some x := ⟨_, List.getElem?_eq_getElem (by have := HB.out.1.len; omega)⟩
    have hx80 := HB.out.1.rows x (List.mem_of_getElem? hx)
    have hxl := hx80.1
    obtain ⟨gg, oo, eA, hcell⟩ := H2.out.2.2.2.1.rd.row HB.out.1.rows hx (by omega)
    subst eA
    have HX := Lib.hid (And.intro hx (And.intro hx80.2 hcell))
    clear hx hx80 hcell
    have hnt := place_there H2.out.2.2.2.2 HB.out.1.srt (by rw [HB.out.1.len]; exact hil) hit.2
    have hg : getL L κ = some x := by
      unfold getL
      have h5 := hnt.2.2.2.1
      have h6 := HX.out.1
      rw [List.getElem?_eq_getElem (by rw [HB.out.1.len]; exact hil)] at h6
      injection h6 with h6
      rw [h5, h6]
      have hkx : keyOf x = κ := by rw [← getD_keyOf HX.out.1]; exact hit.2
      simp [Option.filter, hkx]
    have HG := Lib.hid hg
    clear hnt hg hit
    go_wp2_with (first
      | (with_reducible change wpList _ _ _ (⟨some 20, _, _, _, _, _⟩ :: _) _ _
         go_must (refine wpList_val rfl (exec_load1 (P := Try.prog) (v := .slice (some ⟨gg, oo, none⟩) n c) (ad := ⟨b, 0, none⟩) 40 _ rfl rfl (H2.out.2.2.2.1.blk.cell 0) Try.underlying40 rfl) ?_))
      | (with_reducible change wpList _ _ _ (⟨some 22, _, _, _, _, _⟩ :: _) _ _
         go_must (refine wpList_val rfl (exec_elem (P := Try.prog) (g := gg) (off := oo) (q := i) 40 _ _ rfl 28 80 uuE sizeE rfl rfl (by omega)) ?_))
      | (with_reducible change wpList _ _ _ (⟨some 23, _, _, _, _, _⟩ :: _) _ _
         go_must (refine wpList_val rfl (exec_load_cells (P := Try.prog) (b := gg) (off := oo + i * 80) (cs := bv x) 28 _ rfl rfl HX.out.2.2 Try.underlying28 rfl (by rw [bv_len, hxl]; exact size_entT)) ?_))
      | (with_reducible change wpList _ _ _ (⟨none, Op.store _ (Operand.tmp 4) _, _, _, _, _⟩ :: _) _ _
         go_must (refine wpList_store_var 28 _ _ rfl rfl w1.heap.size (bv x).toArray _ _ rfl rfl H2.out.2.2.1 (size_ente hxl) (by rw [bv_size, hxl]; rfl) (bv_all _) ?_)
         intro w6 b6 m6 z6
         clear z6
         have H6 := Lib.hid (And.intro (H2.out.1.new_ m6 (by omega)) b6)
         clear m6 b6))
    refine bodyPost_ret (results_cell_tmp_row (P := Try.prog) (g := w1.heap.size) rfl _ rfl H6.out.2 Try.underlying28 rfl (size_ente hxl)) rfl ?_
    exact ⟨by rw [HG.out]; rfl, H6.out.1⟩
set_option maxRecDepth 100000 in
set_option maxHeartbeats 6400000 in
theorem rafter16_any (hu : U16 w b A n c L) (hk : κ.length = 40) (hkz : ∀ z ∈ κ, z < 256) (hn : n ≤ 1000000) : Calls Try.prog 51 #[.pointer (some ⟨b, 0, none⟩), .agg (bv κ).toArray, .bool wi] w (AftT w (aft L κ wi)) := by
  have hcap := hu.cap
  have hbw := hu.blk.lt
  have HB := Lib.hid (And.intro hu hkz)
  clear hu hkz
  go_enter Try.func51, Try.ntmps51
  go_wp2_with (first
    | (with_reducible change wpList _ _ _ (⟨some 4, Op.box _ _, _, _, _, _⟩ :: _) _ _
       go_must (refine wpList_box_var 23 _ rfl rfl (bv κ).toArray rfl ?_)
       intro w1 b1 m1 z1
       clear z1
       have hs1 : w.heap.size < w1.heap.size := b1.lt
       have H1 := Lib.hid (And.intro m1 b1)
       clear m1 b1)
    | (with_reducible change wpList _ _ _ (⟨some 6, Op.alloc _, _, _, _, _⟩ :: _) _ _
       go_must (refine wpList_alloc_var 28 rfl rfl info_entz ?_)
       intro w1b b1b m1b z1b
       clear z1b
       have hs1b : w1.heap.size < w1b.heap.size := b1b.lt
       have H1b := Lib.hid (And.intro (H1.out.1.nn_ m1b) (And.intro (H1.out.2.mod m1b (fun f => f)) b1b))
       clear m1b b1b)
    | (with_reducible change wpList _ _ _ (⟨some 12, _, _, _, _, _⟩ :: _) _ _
       go_must (refine wpList_val rfl (exec_load_row (P := Try.prog) (g := w.heap.size) (cs := (bv κ).toArray) 23 _ rfl rfl H1b.out.2.1 Try.underlying23 rfl (size_keyk hk)) ?_)))
  refine (place16_any (HB.out.1.blk.mod H1b.out.1 (fun f => f)) (HB.out.1.nn H1b.out.1).rd HB.out.1.rows HB.out.1.len hk HB.out.2 HB.out.1.srt hn).mono ?_
  rintro r w2 ⟨i, rfl, hpl, m2⟩
  have hin : i ≤ n := by have := hpl.le; rw [List.length_map, HB.out.1.len] at this; exact this
  have hs2 : w1b.heap.size ≤ w2.heap.size := m2.size
  obtain ⟨bo, hbo⟩ : ∃ bo, decide (i < n ∧ (L.map keyOf).getD i [] = κ) = bo := ⟨_, rfl⟩
  rw [hbo]
  have HBO := Lib.hid hbo
  clear hbo
  have H2 := Lib.hid (And.intro (H1b.out.1.nn_ m2) (And.intro (H1b.out.2.1.mod m2 (fun f => f)) (And.intro (H1b.out.2.2.mod m2 (fun f => f)) (And.intro (HB.out.1.nn (H1b.out.1.nn_ m2)) hpl))))
  clear m2 hpl
  obtain ⟨q, hq, hqn, hqb⟩ : ∃ q, aft L κ wi = L[q]? ∧ q ≤ n ∧ q = (if bo = true ∧ wi = false then i + 1 else i) := by
    cases bo
    · have hnt := place_not H2.out.2.2.2.2 HB.out.1.srt (by rw [HB.out.1.len]; exact of_decide_eq_false HBO.out)
      exact ⟨i, hnt.2.2.2 wi, hin, by simp⟩
    · have hit := of_decide_eq_true HBO.out
      have hil : i < n := hit.1
      have hnt := place_there H2.out.2.2.2.2 HB.out.1.srt (by rw [HB.out.1.len]; exact hil) hit.2
      cases wi
      · exact ⟨i + 1, hnt.2.2.2.2, hil, by simp⟩
      · exact ⟨i, by rw [hnt.2.2.2.1, List.getElem?_eq_getElem], hin, by simp⟩
  have HQ := Lib.hid hq
  clear hq
  -- zzQ
  by_cases hql : q < n
  · have hql' : (q : Int) < n := by omega
    obtain ⟨x, hx⟩ : ∃ x, L[q]? = some x := ⟨_, List.getElem?_eq_getElem (by have := HB.out.1.len; omega)⟩
    have hx80 := HB.out.1.rows x (List.mem_of_getElem? hx)
    have hxl := hx80.1
    obtain ⟨gg, oo, eA, hcell⟩ := H2.out.2.2.2.1.rd.row HB.out.1.rows hx (by omega)
    subst eA
    have HX := Lib.hid (And.intro hx (And.intro hx80.2 hcell))
    clear hx hx80 hcell
    cases bo <;> cases wi <;> (
      simp only [reduceCtorEq, and_true, and_false, and_self, if_true, if_false, false_and, true_and, Bool.false_eq_true] at hqb
      subst hqb
      go_wp2_with (first
      | (with_reducible change wpList _ _ _ (⟨some 27, _, _, _, _, _⟩ :: _) _ _
         go_must (refine wpList_val rfl (exec_load1 (P := Try.prog) (v := .slice (some ⟨gg, oo, none⟩) n c) (ad := ⟨b, 0, none⟩) 40 _ rfl rfl (H2.out.2.2.2.1.blk.cell 0) Try.underlying40 rfl) ?_))
      | (with_reducible change wpList _ _ _ (⟨some 34, _, _, _, _, _⟩ :: _) _ _
         go_must (refine wpList_val rfl (exec_load1 (P := Try.prog) (v := .slice (some ⟨gg, oo, none⟩) n c) (ad := ⟨b, 0, none⟩) 40 _ rfl rfl (H2.out.2.2.2.1.blk.cell 0) Try.underlying40 rfl) ?_))
      | (with_reducible change wpList _ _ _ (⟨some 36, _, _, _, _, _⟩ :: _) _ _
         go_must (refine wpList_val rfl (exec_elem (P := Try.prog) (g := gg) (off := oo) (q := _) 40 _ _ rfl 28 80 uuE sizeE rfl rfl (by omega)) ?_))
      | (with_reducible change wpList _ _ _ (⟨some 37, _, _, _, _, _⟩ :: _) _ _
         go_must (refine wpList_val rfl (exec_load_cells (P := Try.prog) (b := gg) (off := oo + _ * 80) (cs := bv x) 28 _ rfl rfl HX.out.2.2 Try.underlying28 rfl (by rw [bv_len, hxl]; exact size_entT)) ?_))
      | (with_reducible change wpList _ _ _ (⟨none, Op.store _ (Operand.tmp 6) _, _, _, _, _⟩ :: _) _ _
         go_must (refine wpList_store_var 28 _ _ rfl rfl w1.heap.size (bv x).toArray _ _ rfl rfl H2.out.2.2.1 (size_ente hxl) (by rw [bv_size, hxl]; rfl) (bv_all _) ?_)
         intro w6 b6 m6 z6
         clear z6
         have H6 := Lib.hid (And.intro (H2.out.1.new_ m6 (by omega)) b6)
         clear m6 b6))
      refine bodyPost_ret (results_cell_tmp_row (P := Try.prog) (g := w1.heap.size) rfl _ rfl H6.out.2 Try.underlying28 rfl (size_ente hxl)) rfl ?_
      exact ⟨by rw [HQ.out, HX.out.1]; rfl, H6.out.1⟩)
  · have hqe : q = n := by omega
    have hnone : L[q]? = none := List.getElem?_eq_none (by rw [HB.out.1.len]; omega)
    have HNN := Lib.hid hnone
    clear hnone
    cases bo <;> cases wi <;> (
      simp only [reduceCtorEq, and_true, and_false, and_self, if_true, if_false, false_and, true_and, Bool.false_eq_true] at hqb
      subst hqb
      go_wp2_with (first
      | (with_reducible change wpList _ _ _ (⟨some 27, _, _, _, _, _⟩ :: _) _ _
         go_must (refine wpList_val rfl (exec_load1 (P := Try.prog) (v := .slice A n c) (ad := ⟨b, 0, none⟩) 40 _ rfl rfl (H2.out.2.2.2.1.blk.cell 0) Try.underlying40 rfl) ?_))
      | (with_reducible change wpList _ _ _ (⟨some 30, _, _, _, _, _⟩ :: _) _ _
         go_must (refine wpList_val rfl (exec_zero_ent rfl) ?_))
      | (with_reducible change wpList _ _ _ (⟨none, Op.store _ (Operand.tmp 6) _, _, _, _, _⟩ :: _) _ _
         go_must (refine wpList_store_var 28 _ _ rfl rfl w1.heap.size (bv ze).toArray _ _ rfl rfl H2.out.2.2.1 (size_ente ze_len) rfl (bv_all _) ?_)
         intro w6 b6 m6 z6
         clear z6
         have H6 := Lib.hid (And.intro (H2.out.1.new_ m6 (by omega)) b6)
         clear m6 b6))
      refine bodyPost_ret (results_cell_tmp_row (P := Try.prog) (g := w1.heap.size) rfl _ rfl H6.out.2 Try.underlying28 rfl (size_ente ze_len)) rfl ?_
      exact ⟨by rw [HQ.out, HNN.out]; rfl, H6.out.1⟩)
end
end Go.Proofs.Ytkcpmkeckcnobaa
