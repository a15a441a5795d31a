/- (*peatbankref16.Tree).Set. -/
import Derived.Test.YtkcpmkeckcnobaaRt1
import Derived.Test.YtkcpmkeckcnobaaKitF
namespace Go.Proofs.Ytkcpmkeckcnobaa
open Go.RowKit

/-- the document's tree: entries in a row -/
structure U16 (w : World) (b : Nat) (A : Option Addr) (n c : Nat) (L : List (List Nat)) : Prop where
  blk : Blk w b 83 #[.slice A n c]
  rd : RdC w A n 80 (bv L.flatten)
  rows : Rows 80 L
  len : L.length = n
  srt : Srt L
  cap : n ≤ c
  lt : ∀ g, Of A g → g < w.heap.size
theorem U16.mod {w w' : World} {b : Nat} {A : Option Addr} {n c : Nat} {L : List (List Nat)} {S : Nat → Prop} (h : U16 w b A n c L) (hm : Mod S w w') (hb : ¬ S b) (hS : ∀ g, Of A g → ¬ S g) : U16 w' b A n c L :=
  ⟨h.blk.mod hm hb, h.rd.md (by omega) hm hS, h.rows, h.len, h.srt, h.cap, fun g hg => Nat.lt_of_lt_of_le (h.lt g hg) hm.size⟩
theorem U16.nn {w w' : World} {b : Nat} {A : Option Addr} {n c : Nat} {L : List (List Nat)} (h : U16 w b A n c L) (hm : Mod Nn w w') : U16 w' b A n c L := h.mod hm (fun f => f) (fun _ _ f => f)
def USetP (w : World) (b : Nat) (A : Option Addr) (L : List (List Nat)) (r : Value) (e : Ending) (w' : World) : Prop := e = .returned r ∧ ∃ A' c, U16 w' b A' L.length c L ∧ c ≤ maxLen ∧ (∀ g, Of A' g → Of A g ∨ w.heap.size ≤ g) ∧ Mod (At b) w w'
section
variable {w : World} {A : Option Addr} {b n c : Nat} {L : List (List Nat)} {e : List Nat}
set_option maxRecDepth 100000 in
set_option maxHeartbeats 6400000 in
theorem rset16_any (hu : U16 w b A n c L) (he : e.length = 80) (hez : ∀ z ∈ e, z < 256) (hn : n ≤ 1000000) (hcm : c ≤ maxLen) : Calls Try.prog 48 #[.pointer (some ⟨b, 0, none⟩), .agg (bv e).toArray] w (USetP w b A (ins L e) (.tuple #[])) := by
  have hcap := hu.cap
  have hbw := hu.blk.lt
  have hke := keyOf_len he
  have HB := Lib.hid (And.intro hu (And.intro hez (keyOf_lt hez)))
  have HCM := Lib.hid hcm
  clear hu hez hcm
  go_enter Try.func48, Try.ntmps48
  go_wp2_with (first
    | (with_reducible change wpList _ _ _ (⟨some 3, Op.box _ _, _, _, _, _⟩ :: _) _ _
       go_must (refine wpList_box_var 28 _ rfl rfl (bv e).toArray rfl ?_)
       intro w1 b1 m1 z1
       clear z1
       have hs1 : w.heap.size < w1.heap.size := b1.lt
       have H1 := Lib.hid (And.intro m1 b1)
       clear m1 b1)
    | (with_reducible change wpList _ _ _ (⟨some 11, _, _, _, _, _⟩ :: _) _ _
       go_must (refine wpList_val rfl (exec_load_cells (P := Try.prog) (b := w.heap.size) (off := 0) (cs := bv (keyOf e)) 23 _ rfl rfl (key_cells H1.out.2) Try.underlying23 rfl (by rw [bv_len, hke]; exact size_keyT)) ?_)))
  refine (place16_any (HB.out.1.blk.mod H1.out.1 (fun f => f)) (HB.out.1.nn H1.out.1).rd HB.out.1.rows HB.out.1.len hke HB.out.2.2 HB.out.1.srt hn).mono ?_
  rintro r w2 ⟨i, rfl, hpl, m2⟩
  have hin : i ≤ n := by have := hpl.le; rw [List.length_map, HB.out.1.len] at this; exact this
  have hs2 : w1.heap.size ≤ w2.heap.size := m2.size
  have H2 := Lib.hid (And.intro (H1.out.1.nn_ m2) (And.intro (H1.out.2.mod m2 (fun f => f)) (And.intro (HB.out.1.nn (H1.out.1.nn_ m2)) hpl)))
  clear m2 hpl
  obtain ⟨bo, hbo⟩ : ∃ bo, decide (i < n ∧ (L.map keyOf).getD i [] = keyOf e) = bo := ⟨_, rfl⟩
  rw [hbo]
  have HBO := Lib.hid hbo
  clear hbo
  cases bo
  · -- not there
    have hnt := place_not H2.out.2.2.2 HB.out.1.srt (by rw [HB.out.1.len]; exact of_decide_eq_false HBO.out)
    have HN := Lib.hid hnt
    clear hnt
    have hp1 := H2.out.2.2.1.rd.sub (c := c) (by omega) 0 i (by omega) hcap
    rw [Nat.zero_mul, List.drop_zero] at hp1
    have hp2 := H2.out.2.2.1.rd.tail (c := c) (k := i) (by omega) hin hcap
    have HP := Lib.hid (And.intro hp1 hp2)
    clear hp1 hp2
    go_wp2_with (first
      | (with_reducible change wpList _ _ _ (⟨some 30, _, _, _, _, _⟩ :: _) _ _
         go_must (refine wpList_val rfl (exec_bslice0 (P := Try.prog) 40 28 rfl uuE sizeE) ?_)
         have b0 : Blk (w2.alloc (.cells #[] 28)) w2.heap.size 28 #[] := Blk.new _ _ _
         have m0 : Mod Nn w2 (w2.alloc (.cells #[] 28)) := (Mod.refl _ _).alloc _
         generalize w2.alloc (.cells #[] 28) = w3 at *
         have H3 := Lib.hid (And.intro m0 (own_of_blkS b0 (Nat.le_refl w2.heap.size) (by simp) (Nat.zero_le _) (Nat.zero_le _) rfl : w3.ownsRow w2.heap.size 28 80 (.slice (some ⟨w2.heap.size, 0, none⟩) 0 0) 0 []))
         clear b0 m0)
      | (with_reducible change wpList _ _ _ (⟨some 34, _, _, _, _, _⟩ :: _) _ _
         go_must (refine wpList_val rfl (exec_load1 (P := Try.prog) (v := .slice A n c) (ad := ⟨b, 0, none⟩) 40 _ rfl rfl ((H2.out.2.2.1.nn H3.out.1).blk.cell 0) Try.underlying40 rfl) ?_))
      | (with_reducible change wpList _ _ _ (⟨some 36, _, _, _, _, _⟩ :: _) _ _
         go_must (refine wpList_val rfl (exec_sub_h (P := Try.prog) 40 (.tmp 34) (.tmp 35) rfl 28 80 uuE sizeE (h := i) rfl rfl (by omega)) ?_))
      | (with_reducible change wpList _ _ _ (⟨some 37, _, _, _, _, _⟩ :: _) _ _
         go_must (refine wpList_append_rd 40 _ _ rfl rfl w2.heap.size 28 zE 80 80 Try.underlying40 infoE zsE (by omega) _ 0 [] rfl H3.out.2 _ i c _ rfl (HP.out.1.md (by omega) H3.out.1 (fun _ _ f => f)) (fun u hu => bv_one _ u (List.mem_of_mem_take hu)) (by omega) (by omega) H3.out.1.size ?_)
         intro v4 w4 own4 gr4 ob4
         have m4 : Mod Nn w2 w4 := H3.out.1.grown gr4 (fun x h => by injection h with h; exact .inl (Nat.le_of_eq h))
         have H4 := Lib.hid (And.intro m4 own4)
         clear own4 gr4 ob4 m4)
      | (with_reducible change wpList _ _ _ (⟨some 39, _, _, _, _, _⟩ :: _) _ _
         go_must (refine wpList_val rfl (exec_load_row (P := Try.prog) (g := w.heap.size) (cs := (bv e).toArray) 28 _ rfl rfl (H2.out.2.1.mod H4.out.1 (fun f => f)) Try.underlying28 rfl (size_ente he)) ?_))
      | (with_reducible change wpList _ _ _ (⟨some 40, _, _, _, _, _⟩ :: _) _ _
         go_must (refine wpList_mk1 (P := Try.prog) 40 28 _ rfl rfl (s := 80) Try.underlying40 infoE2 (by omega) (by omega) (v := .agg (bv e).toArray) (ys := bv e) rfl rfl (by rw [bv_len, he]) ?_)
         intro w5 b5 m5
         have H5 := Lib.hid (And.intro (H4.out.1.nn_ m5) (And.intro b5 (own_mod H4.out.2 m5 (fun _ _ f => f))))
         clear b5 m5)
      | (with_reducible change wpList _ _ _ (⟨some 41, _, _, _, _, _⟩ :: _) _ _
         go_must (refine wpList_append_rd 40 _ _ rfl rfl w2.heap.size 28 zE 80 80 Try.underlying40 infoE zsE (by omega) _ (0 + i) _ rfl H5.out.2.2 (some ⟨w4.heap.size, 0, none⟩) 1 1 (bv e) rfl (RdC.of_blk H5.out.2.1 (by rw [bv_len, he])) (bv_one _) (by omega) (by omega) H5.out.1.size ?_)
         intro v6 w6 own6 gr6 ob6
         have m6 : Mod Nn w2 w6 := H5.out.1.grown gr6 (fun x h => by have := (own_blk_eq H5.out.2.2 h); obtain ⟨_, _, _, h1, _⟩ := this; exact .inl h1)
         have H6 := Lib.hid (And.intro m6 own6)
         clear own6 gr6 ob6 m6)
      | (with_reducible change wpList _ _ _ (⟨some 47, _, _, _, _, _⟩ :: _) _ _
         go_must (refine wpList_val rfl (exec_load1 (P := Try.prog) (v := .slice A n c) (ad := ⟨b, 0, none⟩) 40 _ rfl rfl ((H2.out.2.2.1.nn H6.out.1).blk.cell 0) Try.underlying40 rfl) ?_))
      | (with_reducible change wpList _ _ _ (⟨some 49, _, _, _, _, _⟩ :: _) _ _
         go_must (refine wpList_val rfl (exec_sub_l (P := Try.prog) 40 (.tmp 47) (.tmp 48) rfl 28 80 uuE sizeE (l := i) rfl rfl hin) ?_))
      | (with_reducible change wpList _ _ _ (⟨some 50, _, _, _, _, _⟩ :: _) _ _
         go_must (refine wpList_append_rd 40 _ _ rfl rfl w2.heap.size 28 zE 80 80 Try.underlying40 infoE zsE (by omega) _ (0 + i + 1) _ rfl H6.out.2 _ (n - i) (c - i) _ rfl (HP.out.2.md (by omega) H6.out.1 (fun _ _ f => f)) (fun u hu => bv_one _ u (List.mem_of_mem_drop hu)) (by omega) (by omega) H6.out.1.size ?_)
         intro v7 w7 own7 gr7 ob7
         obtain ⟨N7, hN7⟩ : ∃ N, 0 + i + 1 + (n - i) = N := ⟨_, rfl⟩
         rw [hN7] at own7
         have HN7 := Lib.hid hN7
         clear hN7
         obtain ⟨A7, c7, ev7, hc7, hg7⟩ := own_form own7
         subst ev7
         have m7 : Mod Nn w2 w7 := H6.out.1.grown gr7 (fun x h => by have := (own_blk_eq H6.out.2 h); obtain ⟨_, _, _, h1, _⟩ := this; exact .inl h1)
         have hb7 := (H2.out.2.2.1.nn m7).blk
         have H7 := Lib.hid (And.intro m7 (And.intro own7 (And.intro hb7 hg7)))
         clear own7 gr7 ob7 m7 hb7 hg7)
      | (with_reducible change wpList _ _ _ (⟨none, Op.store _ (Operand.tmp 52) _, _, _, _, _⟩ :: _) _ _
         go_must (refine wpList_unit rfl (exec_store1 (P := Try.prog) (ad := ⟨b, 0, none⟩) (v := .slice A7 N7 c7) (u := .slice A n c) 40 _ _ rfl rfl rfl (H7.out.2.2.1.cell 0) (H7.out.2.2.1.frozen 0) rfl rfl rfl size_slE) ?_)))
    -- zzE
    have b8 : Blk (w7.setCell ⟨b, 0, none⟩ (.slice A7 N7 c7)) b 83 #[.slice A7 N7 c7] := H7.out.2.2.1.set_ 0 _
    have m8 : Mod (At b) w7 (w7.setCell ⟨b, 0, none⟩ (.slice A7 N7 c7)) := Mod.cellAt _ _ _ _
    generalize w7.setCell ⟨b, 0, none⟩ (.slice A7 N7 c7) = w8 at *
    have H8 := Lib.hid (And.intro b8 m8)
    clear b8 m8
    go_end0
    have hr80 := HB.out.1.rows
    have hins : ins L e = L.take i ++ (e :: L.drop i) := by unfold ins; rw [HN.out.1, HN.out.2.1]
    have hfl : [] ++ (bv L.flatten).take (i * 80) ++ bv e ++ (bv L.flatten).drop (i * 80) = bv (ins L e).flatten := by
      rw [hins, bv_take, bv_drop, rows_take (fun x hx => (hr80 x hx).1), rows_drop (fun x hx => (hr80 x hx).1), List.flatten_append, List.flatten_cons, bv_append, bv_append]
      simp
    have hln : N7 = (ins L e).length := by
      rw [← HN7.out, hins, List.length_append, List.length_take, List.length_cons, List.length_drop, HB.out.1.len]; omega
    have hm := (H2.out.1.nn_ H7.out.1)
    have hrd : RdC w7 A7 N7 80 (bv (ins L e).flatten) := by rw [← hfl]; exact (Hold.of_own H7.out.2.1).rd
    have hbA : ∀ g, Of A7 g → ¬ At b g := fun g hg (e : g = b) => by have := (H7.out.2.2.2 g hg).1; have := H2.out.1.size; omega
    refine ⟨rfl, A7, c7, ?_, (Hold.of_own H7.out.2.1).le.2, fun g hg => .inr (by have := (H7.out.2.2.2 g hg).1; have := H2.out.1.size; omega), (hm.nn).trans H8.out.2⟩
    rw [← hln]
    exact ⟨H8.out.1, hrd.md (by omega) H8.out.2 hbA, rows_ins hr80 ⟨he, HB.out.2.1⟩, hln.symm, srt_ins HB.out.1.srt e, hc7, fun g hg => Nat.lt_of_lt_of_le (H7.out.2.2.2 g hg).2 H8.out.2.size⟩
  · -- there
    have hit := of_decide_eq_true HBO.out
    have hil : i < n := hit.1
    have hnt := place_there H2.out.2.2.2 HB.out.1.srt (by rw [HB.out.1.len]; exact hil) hit.2
    have HN := Lib.hid (And.intro hnt.1 hnt.2.1)
    clear hnt hit
    go_wp2_with (first
      | (with_reducible change wpList _ _ _ (⟨some 16, _, _, _, _, _⟩ :: _) _ _
         go_must (refine wpList_val rfl (exec_bslice0 (P := Try.prog) 40 28 rfl uuE sizeE) ?_)
         have b0 : Blk (w2.alloc (.cells #[] 28)) w2.heap.size 28 #[] := Blk.new _ _ _
         have m0 : Mod Nn w2 (w2.alloc (.cells #[] 28)) := (Mod.refl _ _).alloc _
         generalize w2.alloc (.cells #[] 28) = w3 at *
         have H3 := Lib.hid (And.intro m0 (own_of_blkS b0 (Nat.le_refl w2.heap.size) (by simp) (Nat.zero_le _) (Nat.zero_le _) rfl : w3.ownsRow w2.heap.size 28 80 (.slice (some ⟨w2.heap.size, 0, none⟩) 0 0) 0 []))
         clear b0 m0)
      | (with_reducible change wpList _ _ _ (⟨some 20, _, _, _, _, _⟩ :: _) _ _
         go_must (refine wpList_val rfl (exec_load1 (P := Try.prog) (v := .slice A n c) (ad := ⟨b, 0, none⟩) 40 _ rfl rfl ((H2.out.2.2.1.nn H3.out.1).blk.cell 0) Try.underlying40 rfl) ?_))
      | (with_reducible change wpList _ _ _ (⟨some 21, _, _, _, _, _⟩ :: _) _ _
         go_must (refine wpList_append_rd 40 _ _ rfl rfl w2.heap.size 28 zE 80 80 Try.underlying40 infoE zsE (by omega) _ 0 [] rfl H3.out.2 _ n c _ rfl ((H2.out.2.2.1.nn H3.out.1).rd) (bv_one _) (by omega) (by omega) H3.out.1.size ?_)
         intro v4 w4 own4 gr4 ob4
         have m4 : Mod Nn w2 w4 := H3.out.1.grown gr4 (fun x h => by injection h with h; exact .inl (Nat.le_of_eq h))
         rw [Nat.zero_add, List.nil_append] at own4
         obtain ⟨g4, p4, _, ev4, hge4, _, hnc4, _⟩ := own_blk own4 (by omega)
         subst ev4
         obtain ⟨cur, hbc, hsz, hput⟩ := (Hold.of_own own4).put hil (show (bv e).length = 80 by rw [bv_len, he])
         have H4 := Lib.hid (And.intro m4 (And.intro hbc hput))
         clear own4 gr4 ob4 m4 hbc hput)
      | (with_reducible change wpList _ _ _ (⟨some 24, _, _, _, _, _⟩ :: _) _ _
         go_must (refine wpList_val rfl (exec_load_row (P := Try.prog) (g := w.heap.size) (cs := (bv e).toArray) 28 _ rfl rfl (H2.out.2.1.mod H4.out.1 (fun f => f)) Try.underlying28 rfl (size_ente he)) ?_))
      | (with_reducible change wpList _ _ _ (⟨some 25, _, _, _, _, _⟩ :: _) _ _
         go_must (refine wpList_val rfl (exec_elem (P := Try.prog) (g := g4) (off := 0) (q := i) 40 _ _ rfl 28 80 uuE sizeE rfl rfl hil) ?_)
         rw [Nat.zero_add])
      | (with_reducible change wpList _ _ _ (⟨none, Op.store _ (Operand.tmp 25) _, _, _, _, _⟩ :: _) _ _
         go_must (refine wpList_store_at 28 _ _ rfl rfl g4 (i * 80) (bv e).toArray cur 28 rfl rfl H4.out.2.1 (size_ente he) (by rw [bv_size, he]; exact hsz) (bv_all _) ?_)
         intro w5 b5 m5 z5
         clear z5
         rw [bv_size, he] at b5
         have H5 := Lib.hid (And.intro m5 (And.intro (H4.out.2.2 w5 b5) ((H2.out.2.2.1.nn H4.out.1).blk.mod m5 (fun ee => by have ee : b = g4 := ee; have := H2.out.1.size; omega))))
         clear b5 m5)
      | (with_reducible change wpList _ _ _ (⟨none, Op.store _ (Operand.tmp 29) _, _, _, _, _⟩ :: _) _ _
         go_must (refine wpList_unit rfl (exec_store1 (P := Try.prog) (ad := ⟨b, 0, none⟩) (v := .slice (some ⟨g4, 0, none⟩) n p4) (u := .slice A n c) 40 _ _ rfl rfl rfl (H5.out.2.2.cell 0) (H5.out.2.2.frozen 0) rfl rfl rfl size_slE) ?_)
         have b8 : Blk (w5.setCell ⟨b, 0, none⟩ (.slice (some ⟨g4, 0, none⟩) n p4)) b 83 #[.slice (some ⟨g4, 0, none⟩) n p4] := H5.out.2.2.set_ 0 _
         have m8 : Mod (At b) w5 (w5.setCell ⟨b, 0, none⟩ (.slice (some ⟨g4, 0, none⟩) n p4)) := Mod.cellAt _ _ _ _
         generalize w5.setCell ⟨b, 0, none⟩ (.slice (some ⟨g4, 0, none⟩) n p4) = w8 at *
         have H8 := Lib.hid (And.intro b8 m8)
         clear b8 m8))
    refine bodyPost_ret (v := .tuple #[]) (by simp [results, Try.results48, go_sem]) rfl ?_
    have hr80 := HB.out.1.rows
    have hlen := HB.out.1.len
    have hins : ins L e = L.take i ++ (e :: L.drop (i + 1)) := by unfold ins; rw [HN.out.1, HN.out.2]
    have hfl : (bv L.flatten).take (i * 80) ++ bv e ++ (bv L.flatten).drop (i * 80 + 80) = bv (ins L e).flatten := by
      rw [hins, bv_take, bv_drop, rows_take (fun x hx => (hr80 x hx).1), show i * 80 + 80 = (i + 1) * 80 by omega, rows_drop (fun x hx => (hr80 x hx).1), List.flatten_append, List.flatten_cons, bv_append, bv_append, List.append_assoc]
    have hln : n = (ins L e).length := by
      rw [hins, List.length_append, List.length_take, List.length_cons, List.length_drop, hlen]; omega
    have hm : Mod Nn w w5 := (H2.out.1.nn_ H4.out.1).new_ H5.out.1 (by have := H2.out.1.size; omega)
    have hh := H5.out.2.1
    rw [hfl] at hh
    have hgb : g4 ≠ b := by have := H2.out.1.size; omega
    have hh8 := hh.mod H8.out.2 (fun g hg (ee : g = b) => by obtain ⟨a, ha, hg⟩ := hg; injection ha with ha; subst ha; exact hgb (hg.trans ee))
    refine ⟨rfl, some ⟨g4, 0, none⟩, p4, ?_, hh8.le.2, fun g hg => .inr (by obtain ⟨a, ha, rfl⟩ := hg; injection ha with ha; subst ha; have := H2.out.1.size; show w.heap.size ≤ g4; omega), hm.nn.trans H8.out.2⟩
    rw [← hln]
    exact ⟨H8.out.1, hh8.rd, rows_ins hr80 ⟨he, HB.out.2.1⟩, hln.symm, srt_ins HB.out.1.srt e, hnc4, fun g hg => hh8.lt hg⟩
end
end Go.Proofs.Ytkcpmkeckcnobaa
