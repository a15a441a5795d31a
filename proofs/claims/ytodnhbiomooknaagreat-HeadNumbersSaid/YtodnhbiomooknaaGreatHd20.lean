/- peatbanklaw12.bent, framed; HeadNumbers' pages in plain words. -/
import Derived.Test.YtodnhbiomooknaaGreatHd17
import Derived.Test.YtodnhbiomooknaaGreatBytesC
import Derived.Test.YtodnhbiomooknaaGreatFrK0
import Derived.Test.YtodnhbiomooknaaGreatKit24
namespace Go.Proofs.YtodnhbiomooknaaGreat
open Go.RowKit

/-- the page that HeadNumbers begins with, and its data -/
def smb : List Nat := sm.fr.bytes
def smd : List Nat := sm.data
theorem smb_len : smb.length = 512 := sm.bytes_len
theorem smd_len : smd.length = 32 := sm.data_len
theorem smd_lt : ∀ z ∈ smd, z < 256 := sm.data_lt
theorem smb_lt : ∀ z ∈ smb, z < 256 := sm.fr.bytes_lt sm.data_lt
theorem smb_data : (smb.drop 28).take 32 = smd := by decide +kernel
/-- the eight odd pages -/
def odds : List (List Nat) := [pbytes 2 7 0 smd, pbytes 1 7 1 smd, pbytes 1 7 0 (smd.take 28), pbytes 1 7 0 (smd ++ [0, 0, 0, 1]), pbytes 1 7 0 (List.replicate 32 0), smb.take 511, smb ++ [0], smb ++ smb]
theorem not_of_ne {l : List Nat} (h : ¬ (hdOf l).fr.bytes = l) : ¬ HoldsH l := fun e => h e.2.2.2.2
theorem odds_not : ∀ l ∈ odds, ¬ HoldsH l := by
  intro l hl
  simp only [odds, List.mem_cons, List.not_mem_nil, or_false] at hl
  rcases hl with rfl | rfl | rfl | rfl | rfl | rfl | rfl | rfl
  · exact not_of_ne (by decide +kernel)
  · exact not_of_ne (by decide +kernel)
  · exact not_of_ne (by decide +kernel)
  · exact not_of_ne (by decide +kernel)
  · exact fun e => absurd e.2.2.2.1 (by decide +kernel)
  · exact fun e => absurd e.1 (by rw [List.length_take, smb_len]; omega)
  · exact fun e => absurd e.1 (by rw [List.length_append, smb_len]; decide)
  · exact fun e => absurd e.1 (by rw [List.length_append, smb_len]; decide)
theorem odds_lt : ∀ l ∈ odds, ∀ z ∈ l, z < 256 := by
  intro l hl
  simp only [odds, List.mem_cons, List.not_mem_nil, or_false] at hl
  rcases hl with rfl | rfl | rfl | rfl | rfl | rfl | rfl | rfl
  · exact pbytes_lt smd_lt
  · exact pbytes_lt smd_lt
  · exact pbytes_lt (fun z hz => smd_lt z (List.mem_of_mem_take hz))
  · exact pbytes_lt (fun z hz => (List.mem_append.1 hz).elim (smd_lt z) (fun h => by revert z; decide))
  · exact pbytes_lt (fun z hz => by rw [List.eq_of_mem_replicate hz]; omega)
  · exact fun z hz => smb_lt z (List.mem_of_mem_take hz)
  · exact fun z hz => (List.mem_append.1 hz).elim (smb_lt z) (fun h => by simp only [List.mem_singleton] at h; omega)
  · exact fun z hz => (List.mem_append.1 hz).elim (smb_lt z) (smb_lt z)
theorem odds_len : odds.map List.length = [512, 512, 512, 512, 512, 511, 513, 1024] := by decide +kernel
section
variable {w : World} {A : Option Addr} {n c : Nat} {D : List Nat}
set_option maxRecDepth 100000 in
set_option maxHeartbeats 1600000 in
/-- framed tells what ref10.Put tells -/
theorem framed_any (k e s : Int) (hr : Rd w A n (bv D)) (hl : ∀ z ∈ D, z < 256) : Calls Tryz.prog 15 #[.int .i64 k, .int .i64 e, .int .i64 s, .slice A n c] w fun r w' => ∃ v, r = .returned v ∧ w'.ownsRow w.heap.size 5 1 v (pbytes k e s D).length (bv (pbytes k e s D)) ∧ Mod Nn w w' := by
  have HR := Lib.hid hr
  clear hr
  go_enter Tryz.func15, Tryz.ntmps15
  go_wp2_with fail
  refine (rput_all k e s HR.out hl).mono ?_
  rintro r w1 ⟨A', c', rfl, o1, m1⟩
  have H1 := Lib.hid (And.intro o1 m1)
  clear o1 m1
  go_wp2
  go_ret
  exact ⟨_, rfl, H1.out.1, H1.out.2⟩
theorem copyb_any (hr : Rd w A n (bv D)) (hn : n ≤ 1099511627776) : Calls Tryz.prog 13 #[.slice A n c] w fun r w' => ∃ v, r = .returned v ∧ w'.ownsRow w.heap.size 5 1 v n (bv D) ∧ Mod Nn w w' := by
  have := copy_any (c := c) (xs := D.map (fun z : Nat => (z : Int))) (by rw [bv_ints]; exact hr) hn
  rw [bv_ints] at this
  exact this
end
/-- some head, with one field turned -/
def hbent (h : Hd) (n : Nat) (v : Int) : Hd :=
  match n with
  | 0 => { h with n := v }
  | 1 => { h with p := v }
  | 2 => { h with r := v }
  | 3 => { h with k := v }
  | 4 => { h with g := { h.g with v := v } }
  | 5 => { h with g := { h.g with S := v } }
  | 6 => { h with g := { h.g with s := v } }
  | 7 => { h with g := { h.g with u := v } }
  | _ => { h with g := { h.g with j := v } }
section
variable {w : World}
theorem oneI (n : Int) : (Value.int .i64 n).oneCell' = true := rfl
theorem hbent_cells : ∀ (n : Nat) (h : Hd) (v : Int), hC (hbent h n v) = (hC h).setIfInBounds (match n with | 0 => 5 | 1 => 6 | 2 => 7 | 3 => 8 | 4 => 0 | 5 => 1 | 6 => 2 | 7 => 3 | _ => 4) (.int .i64 v)
  | 0, h, v | 1, h, v | 2, h, v | 3, h, v | 4, h, v | 5, h, v | 6, h, v | 7, h, v | _ + 8, h, v => by obtain ⟨⟨_, _, _, _, _⟩, _, _, _, _⟩ := h; rfl
set_option maxRecDepth 100000 in
set_option maxHeartbeats 3200000 in
theorem bent0 (h : Hd) (v : Int) (w : World) : Calls Tryz.prog 11 #[.agg (hC h), .int .i64 0, .int .i64 v] w fun r w' => r = .returned (.agg (hC (hbent h 0 v))) ∧ Mod Nn w w' := by
  have hc : hC (hbent h 0 v) = (hC h).setIfInBounds 5 (.int .i64 v) := hbent_cells 0 h v
  have m1 : Mod Nn w (w.alloc (.cells (hC h) 25)) := (Mod.refl Nn w).alloc _
  have b1 : Blk (w.alloc (.cells (hC h) 25)) w.heap.size 25 (hC h) := Blk.new _ _ _
  have z1 : (w.alloc (.cells (hC h) 25)).heap.size = w.heap.size + 1 := by simp
  have hold : (hC h)[5]? = some (.int .i64 (((hC h)[5]?).elim 0 intOf)) := by obtain ⟨⟨_, _, _, _, _⟩, _, _, _, _⟩ := h; rfl
  generalize ((hC h)[5]?).elim 0 intOf = old at *
  have H1 := Lib.hid (And.intro m1 (And.intro b1 (And.intro z1 (And.intro hold hc))))
  clear m1 b1 z1 hc hold
  go_enter Tryz.func11, Tryz.ntmps11
  go_wp2_with (first
    | (with_reducible change wpList _ _ _ (⟨some 6, Op.alloc _, _, _, _, _⟩ :: _) _ _
       go_must (refine wpList_alloc_var 25 rfl rfl zero_head ?_)
       intro w2 b2 m2 z2
       rw [H1.out.2.2.1] at b2 z2 ⊢
       have H2 := Lib.hid (And.intro (H1.out.1.trans m2) (And.intro (H1.out.2.1.mod m2 (fun f => f)) b2))
       clear b2 m2 z2)
    | (with_reducible change wpList _ _ _ (⟨none, Op.store _ (Operand.tmp 14) _, _, _, _, _⟩ :: _) _ _
       go_must (refine wpList_unit rfl (exec_store1 (P := Tryz.prog) (ad := ⟨w.heap.size, 5, none⟩) (v := .int .i64 v) (u := .int .i64 old) 3 _ _ rfl rfl rfl ((H2.out.2.1.cell 5).trans H1.out.2.2.2.1) (H2.out.2.1.frozen 5) rfl rfl rfl size_int) ?_)
       have b3 := H2.out.2.1.set_ 5 (.int .i64 v)
       rw [← H1.out.2.2.2.2] at b3
       have H3 := Lib.hid (And.intro (H2.out.1.new_ (Mod.cellAt w2 w.heap.size 5 (.int .i64 v)) (Nat.le_refl _)) (And.intro b3 (H2.out.2.2.far (show w.heap.size + 1 ≠ w.heap.size by omega) (p := ⟨w.heap.size, 5, none⟩) (.int .i64 v))))
       clear b3
       generalize w2.setCell ⟨w.heap.size, 5, none⟩ (.int .i64 v) = w3 at *)
    | (with_reducible change wpList _ _ _ (⟨some 47, Op.load _ _, _, _, _, _⟩ :: _) _ _
       go_must (refine wpList_load_var 25 _ rfl rfl w.heap.size (hC (hbent h 0 v)) _ _ rfl H3.out.2.1 Tryz.underlying25 rfl size_head ?_))
    | (with_reducible change wpList _ _ _ (⟨none, Op.store _ (Operand.tmp 6) _, _, _, _, _⟩ :: _) _ _
       go_must (refine wpList_store_var 25 _ _ rfl rfl (w.heap.size + 1) (hC (hbent h 0 v)) _ _ rfl rfl H3.out.2.2 size_head rfl (hC_one _) ?_)
       intro w4 b4 m4 z4
       have H4 := Lib.hid (And.intro (H3.out.1.new_ m4 (by omega)) b4)
       clear b4 m4 z4))
  exact bodyPost_ret (results_cell_row (P := Tryz.prog) rfl _ w4 _ _ _ (0, 0) _ rfl H4.out.2 Tryz.underlying25 rfl size_head) rfl ⟨rfl, H4.out.1⟩
set_option maxRecDepth 100000 in
set_option maxHeartbeats 3200000 in
theorem bent1 (h : Hd) (v : Int) (w : World) : Calls Tryz.prog 11 #[.agg (hC h), .int .i64 1, .int .i64 v] w fun r w' => r = .returned (.agg (hC (hbent h 1 v))) ∧ Mod Nn w w' := by
  have hc : hC (hbent h 1 v) = (hC h).setIfInBounds 6 (.int .i64 v) := hbent_cells 1 h v
  have m1 : Mod Nn w (w.alloc (.cells (hC h) 25)) := (Mod.refl Nn w).alloc _
  have b1 : Blk (w.alloc (.cells (hC h) 25)) w.heap.size 25 (hC h) := Blk.new _ _ _
  have z1 : (w.alloc (.cells (hC h) 25)).heap.size = w.heap.size + 1 := by simp
  have hold : (hC h)[6]? = some (.int .i64 (((hC h)[6]?).elim 0 intOf)) := by obtain ⟨⟨_, _, _, _, _⟩, _, _, _, _⟩ := h; rfl
  generalize ((hC h)[6]?).elim 0 intOf = old at *
  have H1 := Lib.hid (And.intro m1 (And.intro b1 (And.intro z1 (And.intro hold hc))))
  clear m1 b1 z1 hc hold
  go_enter Tryz.func11, Tryz.ntmps11
  go_wp2_with (first
    | (with_reducible change wpList _ _ _ (⟨some 6, Op.alloc _, _, _, _, _⟩ :: _) _ _
       go_must (refine wpList_alloc_var 25 rfl rfl zero_head ?_)
       intro w2 b2 m2 z2
       rw [H1.out.2.2.1] at b2 z2 ⊢
       have H2 := Lib.hid (And.intro (H1.out.1.trans m2) (And.intro (H1.out.2.1.mod m2 (fun f => f)) b2))
       clear b2 m2 z2)
    | (with_reducible change wpList _ _ _ (⟨none, Op.store _ (Operand.tmp 18) _, _, _, _, _⟩ :: _) _ _
       go_must (refine wpList_unit rfl (exec_store1 (P := Tryz.prog) (ad := ⟨w.heap.size, 6, none⟩) (v := .int .i64 v) (u := .int .i64 old) 3 _ _ rfl rfl rfl ((H2.out.2.1.cell 6).trans H1.out.2.2.2.1) (H2.out.2.1.frozen 6) rfl rfl rfl size_int) ?_)
       have b3 := H2.out.2.1.set_ 6 (.int .i64 v)
       rw [← H1.out.2.2.2.2] at b3
       have H3 := Lib.hid (And.intro (H2.out.1.new_ (Mod.cellAt w2 w.heap.size 6 (.int .i64 v)) (Nat.le_refl _)) (And.intro b3 (H2.out.2.2.far (show w.heap.size + 1 ≠ w.heap.size by omega) (p := ⟨w.heap.size, 6, none⟩) (.int .i64 v))))
       clear b3
       generalize w2.setCell ⟨w.heap.size, 6, none⟩ (.int .i64 v) = w3 at *)
    | (with_reducible change wpList _ _ _ (⟨some 47, Op.load _ _, _, _, _, _⟩ :: _) _ _
       go_must (refine wpList_load_var 25 _ rfl rfl w.heap.size (hC (hbent h 1 v)) _ _ rfl H3.out.2.1 Tryz.underlying25 rfl size_head ?_))
    | (with_reducible change wpList _ _ _ (⟨none, Op.store _ (Operand.tmp 6) _, _, _, _, _⟩ :: _) _ _
       go_must (refine wpList_store_var 25 _ _ rfl rfl (w.heap.size + 1) (hC (hbent h 1 v)) _ _ rfl rfl H3.out.2.2 size_head rfl (hC_one _) ?_)
       intro w4 b4 m4 z4
       have H4 := Lib.hid (And.intro (H3.out.1.new_ m4 (by omega)) b4)
       clear b4 m4 z4))
  exact bodyPost_ret (results_cell_row (P := Tryz.prog) rfl _ w4 _ _ _ (0, 0) _ rfl H4.out.2 Tryz.underlying25 rfl size_head) rfl ⟨rfl, H4.out.1⟩
set_option maxRecDepth 100000 in
set_option maxHeartbeats 3200000 in
theorem bent2 (h : Hd) (v : Int) (w : World) : Calls Tryz.prog 11 #[.agg (hC h), .int .i64 2, .int .i64 v] w fun r w' => r = .returned (.agg (hC (hbent h 2 v))) ∧ Mod Nn w w' := by
  have hc : hC (hbent h 2 v) = (hC h).setIfInBounds 7 (.int .i64 v) := hbent_cells 2 h v
  have m1 : Mod Nn w (w.alloc (.cells (hC h) 25)) := (Mod.refl Nn w).alloc _
  have b1 : Blk (w.alloc (.cells (hC h) 25)) w.heap.size 25 (hC h) := Blk.new _ _ _
  have z1 : (w.alloc (.cells (hC h) 25)).heap.size = w.heap.size + 1 := by simp
  have hold : (hC h)[7]? = some (.int .i64 (((hC h)[7]?).elim 0 intOf)) := by obtain ⟨⟨_, _, _, _, _⟩, _, _, _, _⟩ := h; rfl
  generalize ((hC h)[7]?).elim 0 intOf = old at *
  have H1 := Lib.hid (And.intro m1 (And.intro b1 (And.intro z1 (And.intro hold hc))))
  clear m1 b1 z1 hc hold
  go_enter Tryz.func11, Tryz.ntmps11
  go_wp2_with (first
    | (with_reducible change wpList _ _ _ (⟨some 6, Op.alloc _, _, _, _, _⟩ :: _) _ _
       go_must (refine wpList_alloc_var 25 rfl rfl zero_head ?_)
       intro w2 b2 m2 z2
       rw [H1.out.2.2.1] at b2 z2 ⊢
       have H2 := Lib.hid (And.intro (H1.out.1.trans m2) (And.intro (H1.out.2.1.mod m2 (fun f => f)) b2))
       clear b2 m2 z2)
    | (with_reducible change wpList _ _ _ (⟨none, Op.store _ (Operand.tmp 22) _, _, _, _, _⟩ :: _) _ _
       go_must (refine wpList_unit rfl (exec_store1 (P := Tryz.prog) (ad := ⟨w.heap.size, 7, none⟩) (v := .int .i64 v) (u := .int .i64 old) 3 _ _ rfl rfl rfl ((H2.out.2.1.cell 7).trans H1.out.2.2.2.1) (H2.out.2.1.frozen 7) rfl rfl rfl size_int) ?_)
       have b3 := H2.out.2.1.set_ 7 (.int .i64 v)
       rw [← H1.out.2.2.2.2] at b3
       have H3 := Lib.hid (And.intro (H2.out.1.new_ (Mod.cellAt w2 w.heap.size 7 (.int .i64 v)) (Nat.le_refl _)) (And.intro b3 (H2.out.2.2.far (show w.heap.size + 1 ≠ w.heap.size by omega) (p := ⟨w.heap.size, 7, none⟩) (.int .i64 v))))
       clear b3
       generalize w2.setCell ⟨w.heap.size, 7, none⟩ (.int .i64 v) = w3 at *)
    | (with_reducible change wpList _ _ _ (⟨some 47, Op.load _ _, _, _, _, _⟩ :: _) _ _
       go_must (refine wpList_load_var 25 _ rfl rfl w.heap.size (hC (hbent h 2 v)) _ _ rfl H3.out.2.1 Tryz.underlying25 rfl size_head ?_))
    | (with_reducible change wpList _ _ _ (⟨none, Op.store _ (Operand.tmp 6) _, _, _, _, _⟩ :: _) _ _
       go_must (refine wpList_store_var 25 _ _ rfl rfl (w.heap.size + 1) (hC (hbent h 2 v)) _ _ rfl rfl H3.out.2.2 size_head rfl (hC_one _) ?_)
       intro w4 b4 m4 z4
       have H4 := Lib.hid (And.intro (H3.out.1.new_ m4 (by omega)) b4)
       clear b4 m4 z4))
  exact bodyPost_ret (results_cell_row (P := Tryz.prog) rfl _ w4 _ _ _ (0, 0) _ rfl H4.out.2 Tryz.underlying25 rfl size_head) rfl ⟨rfl, H4.out.1⟩
set_option maxRecDepth 100000 in
set_option maxHeartbeats 3200000 in
theorem bent3 (h : Hd) (v : Int) (w : World) : Calls Tryz.prog 11 #[.agg (hC h), .int .i64 3, .int .i64 v] w fun r w' => r = .returned (.agg (hC (hbent h 3 v))) ∧ Mod Nn w w' := by
  have hc : hC (hbent h 3 v) = (hC h).setIfInBounds 8 (.int .i64 v) := hbent_cells 3 h v
  have m1 : Mod Nn w (w.alloc (.cells (hC h) 25)) := (Mod.refl Nn w).alloc _
  have b1 : Blk (w.alloc (.cells (hC h) 25)) w.heap.size 25 (hC h) := Blk.new _ _ _
  have z1 : (w.alloc (.cells (hC h) 25)).heap.size = w.heap.size + 1 := by simp
  have hold : (hC h)[8]? = some (.int .i64 (((hC h)[8]?).elim 0 intOf)) := by obtain ⟨⟨_, _, _, _, _⟩, _, _, _, _⟩ := h; rfl
  generalize ((hC h)[8]?).elim 0 intOf = old at *
  have H1 := Lib.hid (And.intro m1 (And.intro b1 (And.intro z1 (And.intro hold hc))))
  clear m1 b1 z1 hc hold
  go_enter Tryz.func11, Tryz.ntmps11
  go_wp2_with (first
    | (with_reducible change wpList _ _ _ (⟨some 6, Op.alloc _, _, _, _, _⟩ :: _) _ _
       go_must (refine wpList_alloc_var 25 rfl rfl zero_head ?_)
       intro w2 b2 m2 z2
       rw [H1.out.2.2.1] at b2 z2 ⊢
       have H2 := Lib.hid (And.intro (H1.out.1.trans m2) (And.intro (H1.out.2.1.mod m2 (fun f => f)) b2))
       clear b2 m2 z2)
    | (with_reducible change wpList _ _ _ (⟨none, Op.store _ (Operand.tmp 26) _, _, _, _, _⟩ :: _) _ _
       go_must (refine wpList_unit rfl (exec_store1 (P := Tryz.prog) (ad := ⟨w.heap.size, 8, none⟩) (v := .int .i64 v) (u := .int .i64 old) 3 _ _ rfl rfl rfl ((H2.out.2.1.cell 8).trans H1.out.2.2.2.1) (H2.out.2.1.frozen 8) rfl rfl rfl size_int) ?_)
       have b3 := H2.out.2.1.set_ 8 (.int .i64 v)
       rw [← H1.out.2.2.2.2] at b3
       have H3 := Lib.hid (And.intro (H2.out.1.new_ (Mod.cellAt w2 w.heap.size 8 (.int .i64 v)) (Nat.le_refl _)) (And.intro b3 (H2.out.2.2.far (show w.heap.size + 1 ≠ w.heap.size by omega) (p := ⟨w.heap.size, 8, none⟩) (.int .i64 v))))
       clear b3
       generalize w2.setCell ⟨w.heap.size, 8, none⟩ (.int .i64 v) = w3 at *)
    | (with_reducible change wpList _ _ _ (⟨some 47, Op.load _ _, _, _, _, _⟩ :: _) _ _
       go_must (refine wpList_load_var 25 _ rfl rfl w.heap.size (hC (hbent h 3 v)) _ _ rfl H3.out.2.1 Tryz.underlying25 rfl size_head ?_))
    | (with_reducible change wpList _ _ _ (⟨none, Op.store _ (Operand.tmp 6) _, _, _, _, _⟩ :: _) _ _
       go_must (refine wpList_store_var 25 _ _ rfl rfl (w.heap.size + 1) (hC (hbent h 3 v)) _ _ rfl rfl H3.out.2.2 size_head rfl (hC_one _) ?_)
       intro w4 b4 m4 z4
       have H4 := Lib.hid (And.intro (H3.out.1.new_ m4 (by omega)) b4)
       clear b4 m4 z4))
  exact bodyPost_ret (results_cell_row (P := Tryz.prog) rfl _ w4 _ _ _ (0, 0) _ rfl H4.out.2 Tryz.underlying25 rfl size_head) rfl ⟨rfl, H4.out.1⟩
set_option maxRecDepth 100000 in
set_option maxHeartbeats 3200000 in
theorem bent4 (h : Hd) (v : Int) (w : World) : Calls Tryz.prog 11 #[.agg (hC h), .int .i64 4, .int .i64 v] w fun r w' => r = .returned (.agg (hC (hbent h 4 v))) ∧ Mod Nn w w' := by
  have hc : hC (hbent h 4 v) = (hC h).setIfInBounds 0 (.int .i64 v) := hbent_cells 4 h v
  have m1 : Mod Nn w (w.alloc (.cells (hC h) 25)) := (Mod.refl Nn w).alloc _
  have b1 : Blk (w.alloc (.cells (hC h) 25)) w.heap.size 25 (hC h) := Blk.new _ _ _
  have z1 : (w.alloc (.cells (hC h) 25)).heap.size = w.heap.size + 1 := by simp
  have hold : (hC h)[0]? = some (.int .i64 (((hC h)[0]?).elim 0 intOf)) := by obtain ⟨⟨_, _, _, _, _⟩, _, _, _, _⟩ := h; rfl
  generalize ((hC h)[0]?).elim 0 intOf = old at *
  have H1 := Lib.hid (And.intro m1 (And.intro b1 (And.intro z1 (And.intro hold hc))))
  clear m1 b1 z1 hc hold
  go_enter Tryz.func11, Tryz.ntmps11
  go_wp2_with (first
    | (with_reducible change wpList _ _ _ (⟨some 6, Op.alloc _, _, _, _, _⟩ :: _) _ _
       go_must (refine wpList_alloc_var 25 rfl rfl zero_head ?_)
       intro w2 b2 m2 z2
       rw [H1.out.2.2.1] at b2 z2 ⊢
       have H2 := Lib.hid (And.intro (H1.out.1.trans m2) (And.intro (H1.out.2.1.mod m2 (fun f => f)) b2))
       clear b2 m2 z2)
    | (with_reducible change wpList _ _ _ (⟨none, Op.store _ (Operand.tmp 31) _, _, _, _, _⟩ :: _) _ _
       go_must (refine wpList_unit rfl (exec_store1 (P := Tryz.prog) (ad := ⟨w.heap.size, 0, none⟩) (v := .int .i64 v) (u := .int .i64 old) 3 _ _ rfl rfl rfl ((H2.out.2.1.cell 0).trans H1.out.2.2.2.1) (H2.out.2.1.frozen 0) rfl rfl rfl size_int) ?_)
       have b3 := H2.out.2.1.set_ 0 (.int .i64 v)
       rw [← H1.out.2.2.2.2] at b3
       have H3 := Lib.hid (And.intro (H2.out.1.new_ (Mod.cellAt w2 w.heap.size 0 (.int .i64 v)) (Nat.le_refl _)) (And.intro b3 (H2.out.2.2.far (show w.heap.size + 1 ≠ w.heap.size by omega) (p := ⟨w.heap.size, 0, none⟩) (.int .i64 v))))
       clear b3
       generalize w2.setCell ⟨w.heap.size, 0, none⟩ (.int .i64 v) = w3 at *)
    | (with_reducible change wpList _ _ _ (⟨some 47, Op.load _ _, _, _, _, _⟩ :: _) _ _
       go_must (refine wpList_load_var 25 _ rfl rfl w.heap.size (hC (hbent h 4 v)) _ _ rfl H3.out.2.1 Tryz.underlying25 rfl size_head ?_))
    | (with_reducible change wpList _ _ _ (⟨none, Op.store _ (Operand.tmp 6) _, _, _, _, _⟩ :: _) _ _
       go_must (refine wpList_store_var 25 _ _ rfl rfl (w.heap.size + 1) (hC (hbent h 4 v)) _ _ rfl rfl H3.out.2.2 size_head rfl (hC_one _) ?_)
       intro w4 b4 m4 z4
       have H4 := Lib.hid (And.intro (H3.out.1.new_ m4 (by omega)) b4)
       clear b4 m4 z4))
  exact bodyPost_ret (results_cell_row (P := Tryz.prog) rfl _ w4 _ _ _ (0, 0) _ rfl H4.out.2 Tryz.underlying25 rfl size_head) rfl ⟨rfl, H4.out.1⟩
set_option maxRecDepth 100000 in
set_option maxHeartbeats 3200000 in
theorem bent5 (h : Hd) (v : Int) (w : World) : Calls Tryz.prog 11 #[.agg (hC h), .int .i64 5, .int .i64 v] w fun r w' => r = .returned (.agg (hC (hbent h 5 v))) ∧ Mod Nn w w' := by
  have hc : hC (hbent h 5 v) = (hC h).setIfInBounds 1 (.int .i64 v) := hbent_cells 5 h v
  have m1 : Mod Nn w (w.alloc (.cells (hC h) 25)) := (Mod.refl Nn w).alloc _
  have b1 : Blk (w.alloc (.cells (hC h) 25)) w.heap.size 25 (hC h) := Blk.new _ _ _
  have z1 : (w.alloc (.cells (hC h) 25)).heap.size = w.heap.size + 1 := by simp
  have hold : (hC h)[1]? = some (.int .i64 (((hC h)[1]?).elim 0 intOf)) := by obtain ⟨⟨_, _, _, _, _⟩, _, _, _, _⟩ := h; rfl
  generalize ((hC h)[1]?).elim 0 intOf = old at *
  have H1 := Lib.hid (And.intro m1 (And.intro b1 (And.intro z1 (And.intro hold hc))))
  clear m1 b1 z1 hc hold
  go_enter Tryz.func11, Tryz.ntmps11
  go_wp2_with (first
    | (with_reducible change wpList _ _ _ (⟨some 6, Op.alloc _, _, _, _, _⟩ :: _) _ _
       go_must (refine wpList_alloc_var 25 rfl rfl zero_head ?_)
       intro w2 b2 m2 z2
       rw [H1.out.2.2.1] at b2 z2 ⊢
       have H2 := Lib.hid (And.intro (H1.out.1.trans m2) (And.intro (H1.out.2.1.mod m2 (fun f => f)) b2))
       clear b2 m2 z2)
    | (with_reducible change wpList _ _ _ (⟨none, Op.store _ (Operand.tmp 36) _, _, _, _, _⟩ :: _) _ _
       go_must (refine wpList_unit rfl (exec_store1 (P := Tryz.prog) (ad := ⟨w.heap.size, 1, none⟩) (v := .int .i64 v) (u := .int .i64 old) 3 _ _ rfl rfl rfl ((H2.out.2.1.cell 1).trans H1.out.2.2.2.1) (H2.out.2.1.frozen 1) rfl rfl rfl size_int) ?_)
       have b3 := H2.out.2.1.set_ 1 (.int .i64 v)
       rw [← H1.out.2.2.2.2] at b3
       have H3 := Lib.hid (And.intro (H2.out.1.new_ (Mod.cellAt w2 w.heap.size 1 (.int .i64 v)) (Nat.le_refl _)) (And.intro b3 (H2.out.2.2.far (show w.heap.size + 1 ≠ w.heap.size by omega) (p := ⟨w.heap.size, 1, none⟩) (.int .i64 v))))
       clear b3
       generalize w2.setCell ⟨w.heap.size, 1, none⟩ (.int .i64 v) = w3 at *)
    | (with_reducible change wpList _ _ _ (⟨some 47, Op.load _ _, _, _, _, _⟩ :: _) _ _
       go_must (refine wpList_load_var 25 _ rfl rfl w.heap.size (hC (hbent h 5 v)) _ _ rfl H3.out.2.1 Tryz.underlying25 rfl size_head ?_))
    | (with_reducible change wpList _ _ _ (⟨none, Op.store _ (Operand.tmp 6) _, _, _, _, _⟩ :: _) _ _
       go_must (refine wpList_store_var 25 _ _ rfl rfl (w.heap.size + 1) (hC (hbent h 5 v)) _ _ rfl rfl H3.out.2.2 size_head rfl (hC_one _) ?_)
       intro w4 b4 m4 z4
       have H4 := Lib.hid (And.intro (H3.out.1.new_ m4 (by omega)) b4)
       clear b4 m4 z4))
  exact bodyPost_ret (results_cell_row (P := Tryz.prog) rfl _ w4 _ _ _ (0, 0) _ rfl H4.out.2 Tryz.underlying25 rfl size_head) rfl ⟨rfl, H4.out.1⟩
set_option maxRecDepth 100000 in
set_option maxHeartbeats 3200000 in
theorem bent6 (h : Hd) (v : Int) (w : World) : Calls Tryz.prog 11 #[.agg (hC h), .int .i64 6, .int .i64 v] w fun r w' => r = .returned (.agg (hC (hbent h 6 v))) ∧ Mod Nn w w' := by
  have hc : hC (hbent h 6 v) = (hC h).setIfInBounds 2 (.int .i64 v) := hbent_cells 6 h v
  have m1 : Mod Nn w (w.alloc (.cells (hC h) 25)) := (Mod.refl Nn w).alloc _
  have b1 : Blk (w.alloc (.cells (hC h) 25)) w.heap.size 25 (hC h) := Blk.new _ _ _
  have z1 : (w.alloc (.cells (hC h) 25)).heap.size = w.heap.size + 1 := by simp
  have hold : (hC h)[2]? = some (.int .i64 (((hC h)[2]?).elim 0 intOf)) := by obtain ⟨⟨_, _, _, _, _⟩, _, _, _, _⟩ := h; rfl
  generalize ((hC h)[2]?).elim 0 intOf = old at *
  have H1 := Lib.hid (And.intro m1 (And.intro b1 (And.intro z1 (And.intro hold hc))))
  clear m1 b1 z1 hc hold
  go_enter Tryz.func11, Tryz.ntmps11
  go_wp2_with (first
    | (with_reducible change wpList _ _ _ (⟨some 6, Op.alloc _, _, _, _, _⟩ :: _) _ _
       go_must (refine wpList_alloc_var 25 rfl rfl zero_head ?_)
       intro w2 b2 m2 z2
       rw [H1.out.2.2.1] at b2 z2 ⊢
       have H2 := Lib.hid (And.intro (H1.out.1.trans m2) (And.intro (H1.out.2.1.mod m2 (fun f => f)) b2))
       clear b2 m2 z2)
    | (with_reducible change wpList _ _ _ (⟨none, Op.store _ (Operand.tmp 41) _, _, _, _, _⟩ :: _) _ _
       go_must (refine wpList_unit rfl (exec_store1 (P := Tryz.prog) (ad := ⟨w.heap.size, 2, none⟩) (v := .int .i64 v) (u := .int .i64 old) 3 _ _ rfl rfl rfl ((H2.out.2.1.cell 2).trans H1.out.2.2.2.1) (H2.out.2.1.frozen 2) rfl rfl rfl size_int) ?_)
       have b3 := H2.out.2.1.set_ 2 (.int .i64 v)
       rw [← H1.out.2.2.2.2] at b3
       have H3 := Lib.hid (And.intro (H2.out.1.new_ (Mod.cellAt w2 w.heap.size 2 (.int .i64 v)) (Nat.le_refl _)) (And.intro b3 (H2.out.2.2.far (show w.heap.size + 1 ≠ w.heap.size by omega) (p := ⟨w.heap.size, 2, none⟩) (.int .i64 v))))
       clear b3
       generalize w2.setCell ⟨w.heap.size, 2, none⟩ (.int .i64 v) = w3 at *)
    | (with_reducible change wpList _ _ _ (⟨some 47, Op.load _ _, _, _, _, _⟩ :: _) _ _
       go_must (refine wpList_load_var 25 _ rfl rfl w.heap.size (hC (hbent h 6 v)) _ _ rfl H3.out.2.1 Tryz.underlying25 rfl size_head ?_))
    | (with_reducible change wpList _ _ _ (⟨none, Op.store _ (Operand.tmp 6) _, _, _, _, _⟩ :: _) _ _
       go_must (refine wpList_store_var 25 _ _ rfl rfl (w.heap.size + 1) (hC (hbent h 6 v)) _ _ rfl rfl H3.out.2.2 size_head rfl (hC_one _) ?_)
       intro w4 b4 m4 z4
       have H4 := Lib.hid (And.intro (H3.out.1.new_ m4 (by omega)) b4)
       clear b4 m4 z4))
  exact bodyPost_ret (results_cell_row (P := Tryz.prog) rfl _ w4 _ _ _ (0, 0) _ rfl H4.out.2 Tryz.underlying25 rfl size_head) rfl ⟨rfl, H4.out.1⟩
set_option maxRecDepth 100000 in
set_option maxHeartbeats 3200000 in
theorem bent7 (h : Hd) (v : Int) (w : World) : Calls Tryz.prog 11 #[.agg (hC h), .int .i64 7, .int .i64 v] w fun r w' => r = .returned (.agg (hC (hbent h 7 v))) ∧ Mod Nn w w' := by
  have hc : hC (hbent h 7 v) = (hC h).setIfInBounds 3 (.int .i64 v) := hbent_cells 7 h v
  have m1 : Mod Nn w (w.alloc (.cells (hC h) 25)) := (Mod.refl Nn w).alloc _
  have b1 : Blk (w.alloc (.cells (hC h) 25)) w.heap.size 25 (hC h) := Blk.new _ _ _
  have z1 : (w.alloc (.cells (hC h) 25)).heap.size = w.heap.size + 1 := by simp
  have hold : (hC h)[3]? = some (.int .i64 (((hC h)[3]?).elim 0 intOf)) := by obtain ⟨⟨_, _, _, _, _⟩, _, _, _, _⟩ := h; rfl
  generalize ((hC h)[3]?).elim 0 intOf = old at *
  have H1 := Lib.hid (And.intro m1 (And.intro b1 (And.intro z1 (And.intro hold hc))))
  clear m1 b1 z1 hc hold
  go_enter Tryz.func11, Tryz.ntmps11
  go_wp2_with (first
    | (with_reducible change wpList _ _ _ (⟨some 6, Op.alloc _, _, _, _, _⟩ :: _) _ _
       go_must (refine wpList_alloc_var 25 rfl rfl zero_head ?_)
       intro w2 b2 m2 z2
       rw [H1.out.2.2.1] at b2 z2 ⊢
       have H2 := Lib.hid (And.intro (H1.out.1.trans m2) (And.intro (H1.out.2.1.mod m2 (fun f => f)) b2))
       clear b2 m2 z2)
    | (with_reducible change wpList _ _ _ (⟨none, Op.store _ (Operand.tmp 46) _, _, _, _, _⟩ :: _) _ _
       go_must (refine wpList_unit rfl (exec_store1 (P := Tryz.prog) (ad := ⟨w.heap.size, 3, none⟩) (v := .int .i64 v) (u := .int .i64 old) 3 _ _ rfl rfl rfl ((H2.out.2.1.cell 3).trans H1.out.2.2.2.1) (H2.out.2.1.frozen 3) rfl rfl rfl size_int) ?_)
       have b3 := H2.out.2.1.set_ 3 (.int .i64 v)
       rw [← H1.out.2.2.2.2] at b3
       have H3 := Lib.hid (And.intro (H2.out.1.new_ (Mod.cellAt w2 w.heap.size 3 (.int .i64 v)) (Nat.le_refl _)) (And.intro b3 (H2.out.2.2.far (show w.heap.size + 1 ≠ w.heap.size by omega) (p := ⟨w.heap.size, 3, none⟩) (.int .i64 v))))
       clear b3
       generalize w2.setCell ⟨w.heap.size, 3, none⟩ (.int .i64 v) = w3 at *)
    | (with_reducible change wpList _ _ _ (⟨some 47, Op.load _ _, _, _, _, _⟩ :: _) _ _
       go_must (refine wpList_load_var 25 _ rfl rfl w.heap.size (hC (hbent h 7 v)) _ _ rfl H3.out.2.1 Tryz.underlying25 rfl size_head ?_))
    | (with_reducible change wpList _ _ _ (⟨none, Op.store _ (Operand.tmp 6) _, _, _, _, _⟩ :: _) _ _
       go_must (refine wpList_store_var 25 _ _ rfl rfl (w.heap.size + 1) (hC (hbent h 7 v)) _ _ rfl rfl H3.out.2.2 size_head rfl (hC_one _) ?_)
       intro w4 b4 m4 z4
       have H4 := Lib.hid (And.intro (H3.out.1.new_ m4 (by omega)) b4)
       clear b4 m4 z4))
  exact bodyPost_ret (results_cell_row (P := Tryz.prog) rfl _ w4 _ _ _ (0, 0) _ rfl H4.out.2 Tryz.underlying25 rfl size_head) rfl ⟨rfl, H4.out.1⟩
set_option maxRecDepth 100000 in
set_option maxHeartbeats 3200000 in
theorem bent8 (h : Hd) (v : Int) (w : World) : Calls Tryz.prog 11 #[.agg (hC h), .int .i64 8, .int .i64 v] w fun r w' => r = .returned (.agg (hC (hbent h 8 v))) ∧ Mod Nn w w' := by
  have hc : hC (hbent h 8 v) = (hC h).setIfInBounds 4 (.int .i64 v) := hbent_cells 8 h v
  have m1 : Mod Nn w (w.alloc (.cells (hC h) 25)) := (Mod.refl Nn w).alloc _
  have b1 : Blk (w.alloc (.cells (hC h) 25)) w.heap.size 25 (hC h) := Blk.new _ _ _
  have z1 : (w.alloc (.cells (hC h) 25)).heap.size = w.heap.size + 1 := by simp
  have hold : (hC h)[4]? = some (.int .i64 (((hC h)[4]?).elim 0 intOf)) := by obtain ⟨⟨_, _, _, _, _⟩, _, _, _, _⟩ := h; rfl
  generalize ((hC h)[4]?).elim 0 intOf = old at *
  have H1 := Lib.hid (And.intro m1 (And.intro b1 (And.intro z1 (And.intro hold hc))))
  clear m1 b1 z1 hc hold
  go_enter Tryz.func11, Tryz.ntmps11
  go_wp2_with (first
    | (with_reducible change wpList _ _ _ (⟨some 6, Op.alloc _, _, _, _, _⟩ :: _) _ _
       go_must (refine wpList_alloc_var 25 rfl rfl zero_head ?_)
       intro w2 b2 m2 z2
       rw [H1.out.2.2.1] at b2 z2 ⊢
       have H2 := Lib.hid (And.intro (H1.out.1.trans m2) (And.intro (H1.out.2.1.mod m2 (fun f => f)) b2))
       clear b2 m2 z2)
    | (with_reducible change wpList _ _ _ (⟨none, Op.store _ (Operand.tmp 10) _, _, _, _, _⟩ :: _) _ _
       go_must (refine wpList_unit rfl (exec_store1 (P := Tryz.prog) (ad := ⟨w.heap.size, 4, none⟩) (v := .int .i64 v) (u := .int .i64 old) 3 _ _ rfl rfl rfl ((H2.out.2.1.cell 4).trans H1.out.2.2.2.1) (H2.out.2.1.frozen 4) rfl rfl rfl size_int) ?_)
       have b3 := H2.out.2.1.set_ 4 (.int .i64 v)
       rw [← H1.out.2.2.2.2] at b3
       have H3 := Lib.hid (And.intro (H2.out.1.new_ (Mod.cellAt w2 w.heap.size 4 (.int .i64 v)) (Nat.le_refl _)) (And.intro b3 (H2.out.2.2.far (show w.heap.size + 1 ≠ w.heap.size by omega) (p := ⟨w.heap.size, 4, none⟩) (.int .i64 v))))
       clear b3
       generalize w2.setCell ⟨w.heap.size, 4, none⟩ (.int .i64 v) = w3 at *)
    | (with_reducible change wpList _ _ _ (⟨some 47, Op.load _ _, _, _, _, _⟩ :: _) _ _
       go_must (refine wpList_load_var 25 _ rfl rfl w.heap.size (hC (hbent h 8 v)) _ _ rfl H3.out.2.1 Tryz.underlying25 rfl size_head ?_))
    | (with_reducible change wpList _ _ _ (⟨none, Op.store _ (Operand.tmp 6) _, _, _, _, _⟩ :: _) _ _
       go_must (refine wpList_store_var 25 _ _ rfl rfl (w.heap.size + 1) (hC (hbent h 8 v)) _ _ rfl rfl H3.out.2.2 size_head rfl (hC_one _) ?_)
       intro w4 b4 m4 z4
       have H4 := Lib.hid (And.intro (H3.out.1.new_ m4 (by omega)) b4)
       clear b4 m4 z4))
  exact bodyPost_ret (results_cell_row (P := Tryz.prog) rfl _ w4 _ _ _ (0, 0) _ rfl H4.out.2 Tryz.underlying25 rfl size_head) rfl ⟨rfl, H4.out.1⟩
theorem bent_any (h : Hd) (v : Int) (w : World) : ∀ n : Nat, n < 9 → Calls Tryz.prog 11 #[.agg (hC h), .int .i64 n, .int .i64 v] w fun r w' => ∃ k : Hd, r = .returned (.agg (hC k)) ∧ Mod Nn w w'
  | 0, _ => (bent0 h v w).mono fun _ _ ⟨h1, h2⟩ => ⟨_, h1, h2⟩
  | 1, _ => (bent1 h v w).mono fun _ _ ⟨h1, h2⟩ => ⟨_, h1, h2⟩
  | 2, _ => (bent2 h v w).mono fun _ _ ⟨h1, h2⟩ => ⟨_, h1, h2⟩
  | 3, _ => (bent3 h v w).mono fun _ _ ⟨h1, h2⟩ => ⟨_, h1, h2⟩
  | 4, _ => (bent4 h v w).mono fun _ _ ⟨h1, h2⟩ => ⟨_, h1, h2⟩
  | 5, _ => (bent5 h v w).mono fun _ _ ⟨h1, h2⟩ => ⟨_, h1, h2⟩
  | 6, _ => (bent6 h v w).mono fun _ _ ⟨h1, h2⟩ => ⟨_, h1, h2⟩
  | 7, _ => (bent7 h v w).mono fun _ _ ⟨h1, h2⟩ => ⟨_, h1, h2⟩
  | 8, _ => (bent8 h v w).mono fun _ _ ⟨h1, h2⟩ => ⟨_, h1, h2⟩
  | n + 9, hn => absurd hn (by omega)
end
end Go.Proofs.YtodnhbiomooknaaGreat
