/- peatbanklaw15: great, inner, awake. -/
import Derived.Test.YtfoldjnmknaklaaGreatNdSx
import Derived.Test.YtfoldjnmknaklaaGreatNdB
import Derived.Test.YtfoldjnmknaklaaGreatNdGx
namespace Go.Proofs.YtfoldjnmknaklaaGreat
open Go.RowKit

def Nin : Nd := ⟨false, [], [7 :: List.replicate 39 0], [3, 258]⟩
def Nlf : Nd := ⟨true, [], [], []⟩
def Nno : Nd := ⟨false, [], [], []⟩
theorem Nin_ok : Nin.ok := ⟨(fun r hr => by cases hr), fun r hr => by
  have hr : r ∈ [7 :: List.replicate 39 0] := hr
  rw [List.mem_singleton] at hr; subst hr
  exact ⟨by simp, by decide⟩⟩
theorem Nin_right : Nin.right = true := by decide +kernel
theorem Nlf_right : Nlf.right = true := by decide +kernel
theorem Nno_right : Nno.right = false := by decide +kernel
theorem no_ok (b : Bool) : (⟨b, [], [], []⟩ : Nd).ok := ⟨(fun r hr => by cases hr), (fun r hr => by cases hr)⟩
theorem no_ndr (w : World) (b : Bool) : NdR w ⟨b, [], [], []⟩ none 0 none 0 none 0 :=
  ⟨⟨rfl, fun h => absurd h (by omega)⟩, ⟨rfl, fun h => absurd h (by omega)⟩, Rd.nil _ _, rfl, rfl, rfl, no_ok b, by omega, by omega, by omega⟩
theorem Nin_at : ∃ T, Nin.bytes = [2, 2, 0, 0, 0, 0, 0, 3, 0, 0, 1, 2, 7] ++ T := by
  obtain ⟨T, hT⟩ := bytes_inner (N := Nin) rfl rfl (by decide)
  refine ⟨List.replicate 39 0 ++ T, ?_⟩
  rw [hT]
  rfl
theorem Nlf_at : ∃ T, Nlf.bytes = [1, 0, 0, 0] ++ T := by
  obtain ⟨T, hT⟩ := bytes_leaf (N := Nlf) rfl rfl rfl (by decide)
  exact ⟨T, hT⟩
section
variable {w w' : World} {N : Nd} {EA KA CA : Option Addr} {en ec kn kc cn cc : Nat}
theorem NdH.rd {base : Nat} {ev kv cv : Value} (h : NdH w base N ev kv cv) (hok : N.ok) (be : N.ents.length ≤ 1000000000) (bk : N.keys.length ≤ 1000000000) (bc : N.kids.length ≤ 1000000000) :
    ∃ EA ec KA kc CA cc, ev = .slice EA N.ents.length ec ∧ kv = .slice KA N.keys.length kc ∧ cv = .slice CA N.kids.length cc ∧ NdR w N EA N.ents.length KA N.keys.length CA N.kids.length := by
  obtain ⟨EA, ec, rfl, _, _⟩ := own_form h.e
  obtain ⟨KA, kc, rfl, _, _⟩ := own_form h.k
  obtain ⟨CA, cc, rfl, _, _⟩ := own_form h.c
  exact ⟨EA, ec, KA, kc, CA, cc, rfl, rfl, rfl, own_rdC h.e, own_rdC h.k, Rd.of_own h.c, rfl, rfl, rfl, hok, be, bk, bc⟩
set_option maxRecDepth 100000 in
set_option maxHeartbeats 1600000 in
theorem great_any {lf : Bool} (hb : en + kn + cn ≤ 9223372036854775807) :
    Calls Tryz.prog 27 #[ndV lf EA en ec KA kn kc CA cn cc] w fun r w' => r = .returned (.bool (decide (3000 < en + kn + cn))) ∧ Mod Nn w w' := by
  unfold ndV
  have he : decide ((3000 : Int) < (en : Int) + kn + cn) = decide (3000 < en + kn + cn) := by
    by_cases h : 3000 < en + kn + cn
    · rw [decide_eq_true h, decide_eq_true (by omega)]
    · rw [decide_eq_false h, decide_eq_false (by omega)]
  have hb1 : (en : Int) + kn ≤ 9223372036854775807 := by omega
  have hb2 : (en : Int) + kn + cn ≤ 9223372036854775807 := by omega
  have HE := Lib.hid he
  have HM := Lib.hid (show Mod Nn w (w.alloc (.cells #[.bool lf, .slice EA en ec, .slice KA kn kc, .slice CA cn cc] 32)) from (Mod.refl Nn w).alloc _)
  clear he hb
  go_enter Tryz.func27, Tryz.ntmps27
  go_wp2
  go_ret
  exact ⟨by rw [← HE.out]; rfl, HM.out⟩
set_option maxRecDepth 100000 in
set_option maxHeartbeats 1600000 in
theorem inner_any (w : World) : Calls Tryz.prog 14 #[] w fun r w' => ∃ gk gc, r = .returned (ndV false none 0 0 (some ⟨gk, 0, none⟩) 1 1 (some ⟨gc, 0, none⟩) 2 2) ∧ NdR w' Nin none 0 (some ⟨gk, 0, none⟩) 1 (some ⟨gc, 0, none⟩) 2 ∧ Mod Nn w w' := by
  unfold ndV
  go_enter Tryz.func14, Tryz.ntmps14
  go_wp2_with (first
    | (with_reducible change wpList _ _ _ (⟨some 0, Op.alloc _, _, _, _, _⟩ :: _) _ _
       go_must (refine wpList_alloc_var 32 rfl rfl info_node ?_)
       intro w1 b1 m1 z1
       have B1 := Lib.hid (And.intro b1 (And.intro m1 z1))
       have B2 := Lib.hid (And.intro (b1.alloc (.cells #[.int .i64 3, .int .i64 258] 3)) (And.intro (m1.alloc (.cells #[.int .i64 3, .int .i64 258] 3)) (And.intro (Blk.new w1 3 #[.int .i64 3, .int .i64 258]) z1)))
       clear b1 m1 z1)
    | (with_reducible change wpList _ _ _ (⟨some 2, _, _, _, _, _⟩ :: _) _ _
       generalize w1.alloc (.cells #[.int .i64 3, .int .i64 258] 3) = w2 at *
       go_must (refine wpList_val rfl (exec_build_byte (P := Tryz.prog) 40 5 39 _ rfl Tryz.underlying40 (by kernel_rfl) (by kernel_rfl) (b := 7) rfl) ?_))
    | (with_reducible change wpList _ _ _ (⟨some 3, _, _, _, _, _⟩ :: _) _ _
       go_must (refine wpList_val rfl (exec_bslice1 (P := Tryz.prog) 29 40 _ rfl (s := 40) Tryz.underlying29 info_tk (by omega) (by omega) rfl (X := (bv (7 :: List.replicate 39 0)).toArray) rfl rfl) ?_)
       have B3 := Lib.hid (And.intro (B2.out.1.alloc (.cells (bv (7 :: List.replicate 39 0)).toArray 40)) (And.intro (B2.out.2.1.alloc (.cells (bv (7 :: List.replicate 39 0)).toArray 40)) (And.intro (B2.out.2.2.1.alloc (.cells (bv (7 :: List.replicate 39 0)).toArray 40)) (Blk.new w2 40 (bv (7 :: List.replicate 39 0)).toArray))))
       have hz2 : w.heap.size + 1 ≤ w1.heap.size := by have := B1.out.2.2; omega
       have hw2 : w1.heap.size < w2.heap.size := B2.out.2.2.1.lt
       generalize w2.alloc (.cells (bv (7 :: List.replicate 39 0)).toArray 40) = w3 at *)
    | (with_reducible change wpList _ _ _ (⟨none, Op.store _ _ _, _, _, _, _⟩ :: _) _ _
       go_must (refine wpList_store_var 32 _ _ rfl rfl w.heap.size #[.bool false, .slice none 0 0, .slice (some ⟨w2.heap.size, 0, none⟩) 1 1, .slice (some ⟨w1.heap.size, 0, none⟩) 2 2] _ _ rfl rfl B3.out.1 size_node rfl (one_nd _ _ _ _ _ _ _ _ _ _) ?_)
       intro w9 b9 m9 z9
       have H9 := Lib.hid (And.intro (B3.out.2.1.new_ m9 (Nat.le_refl _)) (And.intro (B3.out.2.2.1.mod m9 (fun e => by have e : w1.heap.size = w.heap.size := e; omega)) (B3.out.2.2.2.mod m9 (fun e => by have e : w2.heap.size = w.heap.size := e; omega))))
       have C0 := b9.cell 0; have C1 := b9.cell 1; have C2 := b9.cell 2; have C3 := b9.cell 3
       clear m9 b9 z9))
  refine bodyPost_ret (v := .agg #[.bool false, .slice none 0 0, .slice (some ⟨w2.heap.size, 0, none⟩) 1 1, .slice (some ⟨w1.heap.size, 0, none⟩) 2 2]) (by simp [results, Tryz.results14, go_sem, C0, C1, C2, C3]) rfl ⟨_, _, rfl, ⟨⟨rfl, fun h => absurd h (by omega)⟩, ⟨rfl, fun _ => ⟨_, 0, rfl, fun j v hv => ?_⟩⟩, Rd.of_blk0 H9.out.2.1 rfl, rfl, rfl, rfl, Nin_ok, by omega, by omega, by omega⟩, H9.out.1⟩
  rw [Nat.zero_add, H9.out.2.2.cell j, List.getElem?_toArray]
  exact hv
/-- a right node's page got -/
theorem nget_in {A : Option Addr} {n c : Nat} (hr : Rd w A n (bv N.bytes)) (hc : n ≤ c) (hok : N.ok) (hR : N.right = true) :
    Calls Tryz.prog 10 #[.slice A n c] w fun e w' => ∃ ev kv cv, e = .returned (.tuple #[.agg #[.bool N.leaf, ev, kv, cv], .int .i64 0]) ∧ NdH w' w.heap.size N ev kv cv ∧ Mod Nn w w' := by
  have hb := nd_back hok hR
  refine (nget_any hr hc (bytes_ok hok hR).2).mono ?_
  rintro r w5 (⟨_, ev, kv, cv, h1, n5, m5⟩ | ⟨h5, _⟩)
  · rw [hb.2] at n5 h1
    exact ⟨ev, kv, cv, h1, n5, m5⟩
  · exact (h5 hb.1).elim
theorem out_at {g cap i z : Nat} {t : TypeId} {L A T : List Nat} (h : Out w g t cap L) (hL : L = A ++ T) (hi : A[i]? = some z) : w.cell? ⟨g, i, none⟩ = some (.int .u8 (z : Int)) := by
  refine (h.blk.cell i).trans ?_
  rw [List.getElem?_toArray]
  unfold bv
  rw [List.getElem?_map, List.getElem?_append_left (by rw [hL, List.length_append]; have := (List.getElem?_eq_some_iff.1 hi).1; omega), hL, List.getElem?_append_left (List.getElem?_eq_some_iff.1 hi).1, hi]
  rfl
structure AwS (w : World) (g1 g2 p : Nat) (ev kv cv : Value) (w' : World) : Prop where
  m : Mod Nn w w'
  o1 : Out w' g1 5 1024 Nlf.bytes
  o2 : Out w' g2 5 1024 Nin.bytes
  b : Blk w' p 32 #[.bool Nin.leaf, ev, kv, cv]
set_option maxRecDepth 100000 in
set_option maxHeartbeats 3200000 in
theorem nd_awake (w : World) : Calls Tryz.prog 13 #[] w fun r w' => r = .returned (.bool true) ∧ Mod Nn w w' := by
  obtain ⟨T1, hT1⟩ := Nlf_at
  obtain ⟨T2, hT2⟩ := Nin_at
  have hbk := nd_back Nin_ok Nin_right
  have hbb := bytes_ok Nin_ok Nin_right
  have HT := Lib.hid (And.intro hT1 (And.intro hT2 (And.intro hbk hbb)))
  clear hT1 hT2 hbk hbb
  go_enter Tryz.func13, Tryz.ntmps13
  go_wp2_with fail
  refine (nput_ok (N := Nlf) (ec := 0) (kc := 0) (cc := 0) (no_ndr _ true) Nlf_right).mono ?_
  rintro r w1 ⟨g1, rfl, o1, m1, -⟩
  have H1 := Lib.hid (And.intro m1 o1)
  clear m1 o1
  go_wp2_with fail
  refine (inner_any _).mono ?_
  rintro r w2 ⟨gk, gc, rfl, n2, m2⟩
  have H2 := Lib.hid (And.intro (H1.out.1.nn_ m2) (And.intro (H1.out.2.mod m2 (fun f => f)) n2))
  clear m2 n2
  unfold ndV
  go_wp2_with fail
  refine (nput_ok (N := Nin) H2.out.2.2 Nin_right).mono ?_
  rintro r w3 ⟨g2, rfl, o3, m3, -⟩
  have H3 := Lib.hid (And.intro (H2.out.1.nn_ m3) (And.intro (H2.out.2.1.mod m3 (fun f => f)) o3))
  clear m3 o3
  go_wp2_with fail
  refine (nput_bad (N := Nno) (ec := 0) (kc := 0) (cc := 0) (no_ndr _ false) Nno_right).mono ?_
  rintro r w4 ⟨rfl, m4⟩
  have H4 := Lib.hid (And.intro (H3.out.1.nn_ m4) (And.intro (H3.out.2.1.mod m4 (fun f => f)) (H3.out.2.2.mod m4 (fun f => f))))
  clear m4
  go_wp2_with fail
  refine (nget_in (N := Nin) (H4.out.2.2.rd HT.out.2.2.2.1) (Nat.le_refl _) Nin_ok Nin_right).mono ?_
  rintro r w5 ⟨ev, kv, cv, rfl, n5, m5⟩
  obtain ⟨EA, ec, KA, kc, CA, cc, rfl, rfl, rfl, r5⟩ := n5.rd Nin_ok (by decide) (by decide) (by decide)
  have H5 := Lib.hid (And.intro (H4.out.1.nn_ m5) (And.intro (H4.out.2.1.mod m5 (fun f => f)) (And.intro (H4.out.2.2.mod m5 (fun f => f)) (And.intro r5 n5))))
  clear m5 n5 r5
  go_wp2_with (first
    | (with_reducible change wpList _ _ _ (⟨some 7, Op.alloc _, _, _, _, _⟩ :: _) _ _
       go_must (refine wpList_alloc_var 32 rfl rfl info_node ?_)
       intro w6 b6 m6 z6
       have B6 := Lib.hid (And.intro b6 m6)
       clear b6 m6 z6)
    | (with_reducible change wpList _ _ _ (⟨none, Op.store _ (.tmp 7) _, _, _, _, _⟩ :: _) _ _
       go_must (refine wpList_store_var 32 _ _ rfl rfl w5.heap.size #[.bool Nin.leaf, .slice EA Nin.ents.length ec, .slice KA Nin.keys.length kc, .slice CA Nin.kids.length cc] _ _ rfl rfl B6.out.1 size_node rfl (one_nd _ _ _ _ _ _ _ _ _ _) ?_)
       intro w7 b7 m7 z7
       have q7 : Mod Nn w5 w7 := B6.out.2.new_ m7 (Nat.le_refl _)
       have H7 := Lib.hid (And.intro (H5.out.1.nn_ q7) (And.intro (H5.out.2.1.mod q7 (fun f => f)) (And.intro (H5.out.2.2.1.mod q7 (fun f => f)) (And.intro (H5.out.2.2.2.1.nn q7) b7))))
       clear b7 m7 z7 q7))
  dsimp only [List.append]
  have hst : ∀ w' w'', AwS w g1 g2 w5.heap.size (.slice EA Nin.ents.length ec) (.slice KA Nin.keys.length kc) (.slice CA Nin.kids.length cc) w' → Mod Nn w' w'' → AwS w g1 g2 w5.heap.size (.slice EA Nin.ents.length ec) (.slice KA Nin.keys.length kc) (.slice CA Nin.kids.length cc) w'' := fun w' w'' h hm => ⟨h.m.nn_ hm, h.o1.mod hm (fun f => f), h.o2.mod hm (fun f => f), h.b.mod hm (fun f => f)⟩
  have hs0 : AwS w g1 g2 w5.heap.size (.slice EA Nin.ents.length ec) (.slice KA Nin.keys.length kc) (.slice CA Nin.kids.length cc) w7 := ⟨H7.out.1, H7.out.2.1, H7.out.2.2.1, H7.out.2.2.2.2⟩
  have HS := Lib.hid hst
  clear hst
  refine wp_region_planC (AwS w g1 g2 w5.heap.size (.slice EA Nin.ents.length ec) (.slice KA Nin.keys.length kc) (.slice CA Nin.kids.length cc)) ((List.range 74).map (fun i => (i, true)) ++ [(74, false), (75, false), (76, true), (77, true), (78, false), (79, false), (80, true), (81, true), (82, true), (83, false), (84, true), (85, true), (86, true)]) (by kernel_rfl) (by kernel_rfl) (HS.out _ _ hs0 (Mod.refl Nn w7).drew) ?_
  clear hs0
  simp only [List.range, List.range.loop, List.map_cons, List.map_nil, List.cons_append, List.nil_append]
  iterate 10 (refine pc_pure rfl rfl (fun K hK => ?_); go_simp; refine hK _ ?_; clear hK K)
  refine pc_take _ rfl rfl (fun w' hS => exec_load1 (P := Tryz.prog) 5 _ rfl rfl (out_at hS.o1 HT.out.1 (i := 0) (z := 1) rfl) Tryz.underlying5 rfl) (fun K hK => ?_); go_simp; refine hK _ ?_; clear hK K
  iterate 5 (refine pc_pure rfl rfl (fun K hK => ?_); go_simp; refine hK _ ?_; clear hK K)
  refine pc_take _ rfl rfl (fun w' hS => exec_load1 (P := Tryz.prog) 5 _ rfl rfl (out_at hS.o1 HT.out.1 (i := 1) (z := 0) rfl) Tryz.underlying5 rfl) (fun K hK => ?_); go_simp; refine hK _ ?_; clear hK K
  iterate 14 (refine pc_pure rfl rfl (fun K hK => ?_); go_simp; refine hK _ ?_; clear hK K)
  refine pc_take _ rfl rfl (fun w' hS => exec_load1 (P := Tryz.prog) 5 _ rfl rfl (out_at hS.o2 HT.out.2.1 (i := 0) (z := 2) rfl) Tryz.underlying5 rfl) (fun K hK => ?_); go_simp; refine hK _ ?_; clear hK K
  iterate 5 (refine pc_pure rfl rfl (fun K hK => ?_); go_simp; refine hK _ ?_; clear hK K)
  refine pc_take _ rfl rfl (fun w' hS => exec_load1 (P := Tryz.prog) 5 _ rfl rfl (out_at hS.o2 HT.out.2.1 (i := 1) (z := 2) rfl) Tryz.underlying5 rfl) (fun K hK => ?_); go_simp; refine hK _ ?_; clear hK K
  iterate 5 (refine pc_pure rfl rfl (fun K hK => ?_); go_simp; refine hK _ ?_; clear hK K)
  refine pc_take _ rfl rfl (fun w' hS => exec_load1 (P := Tryz.prog) 5 _ rfl rfl (out_at hS.o2 HT.out.2.1 (i := 7) (z := 3) rfl) Tryz.underlying5 rfl) (fun K hK => ?_); go_simp; refine hK _ ?_; clear hK K
  iterate 5 (refine pc_pure rfl rfl (fun K hK => ?_); go_simp; refine hK _ ?_; clear hK K)
  refine pc_take _ rfl rfl (fun w' hS => exec_load1 (P := Tryz.prog) 5 _ rfl rfl (out_at hS.o2 HT.out.2.1 (i := 10) (z := 1) rfl) Tryz.underlying5 rfl) (fun K hK => ?_); go_simp; refine hK _ ?_; clear hK K
  iterate 5 (refine pc_pure rfl rfl (fun K hK => ?_); go_simp; refine hK _ ?_; clear hK K)
  refine pc_take _ rfl rfl (fun w' hS => exec_load1 (P := Tryz.prog) 5 _ rfl rfl (out_at hS.o2 HT.out.2.1 (i := 11) (z := 2) rfl) Tryz.underlying5 rfl) (fun K hK => ?_); go_simp; refine hK _ ?_; clear hK K
  iterate 5 (refine pc_pure rfl rfl (fun K hK => ?_); go_simp; refine hK _ ?_; clear hK K)
  refine pc_take _ rfl rfl (fun w' hS => exec_load1 (P := Tryz.prog) 5 _ rfl rfl (out_at hS.o2 HT.out.2.1 (i := 12) (z := 7) rfl) Tryz.underlying5 rfl) (fun K hK => ?_); go_simp; refine hK _ ?_; clear hK K
  iterate 11 (refine pc_pure rfl rfl (fun K hK => ?_); go_simp; refine hK _ ?_; clear hK K)
  refine pc_take _ rfl rfl (fun w' hS => exec_load_row (P := Tryz.prog) 32 _ rfl rfl hS.b Tryz.underlying32 rfl size_node) (fun K hK => ?_); go_simp; refine hK _ ?_; clear hK K
  refine pc_call rfl rfl (fun K hK => ?_); go_simp; refine ⟨_, _, ⟨rfl, rfl⟩, hK _ _ _ ?_⟩; clear hK K
  refine (inner_any _).mono ?_
  rintro r w8 ⟨gk2, gc2, rfl, n8, m8⟩
  have q8 : Mod Nn w7 w8 := (Mod.refl Nn w7).drew.nn_ m8
  have H8 := Lib.hid (And.intro q8 (And.intro (H7.out.2.2.2.1.nn q8) n8))
  clear q8 n8
  refine ⟨_, rfl, HS.out _ _ ⟨H7.out.1, H7.out.2.1, H7.out.2.2.1, H7.out.2.2.2.2⟩ H8.out.1, ?_⟩
  clear m8
  unfold ndV
  refine pc_call rfl rfl (fun K hK => ?_); go_simp; refine ⟨_, _, ⟨rfl, rfl⟩, hK _ _ _ ?_⟩; clear hK K
  refine (sameN_yes (lf := false) (N := Nin) H8.out.2.1 H8.out.2.2).mono ?_
  rintro r w9 ⟨rfl, m9⟩
  have H9 := Lib.hid (H8.out.1.nn_ m9)
  clear m9
  refine ⟨_, rfl, HS.out _ _ ⟨H7.out.1, H7.out.2.1, H7.out.2.2.1, H7.out.2.2.2.2⟩ H9.out, ?_⟩
  iterate 2 (refine pc_pure rfl rfl (fun K hK => ?_); go_simp; refine hK _ ?_; clear hK K)
  refine pc_call rfl rfl (fun K hK => ?_); go_simp; refine ⟨_, _, ⟨rfl, rfl⟩, hK _ _ _ ?_⟩; clear hK K
  refine (inner_any _).mono ?_
  rintro r wa ⟨gk3, gc3, rfl, na, ma⟩
  have Ha := Lib.hid (And.intro (H9.out.nn_ ma) na)
  clear ma na
  refine ⟨_, rfl, HS.out _ _ ⟨H7.out.1, H7.out.2.1, H7.out.2.2.1, H7.out.2.2.2.2⟩ Ha.out.1, ?_⟩
  unfold ndV
  refine pc_call rfl rfl (fun K hK => ?_); go_simp; refine ⟨_, _, ⟨rfl, rfl⟩, hK _ _ _ ?_⟩; clear hK K
  refine (nright_any (N := Nin) Ha.out.2).mono ?_
  rintro r wb ⟨rfl, mb⟩
  rw [Nin_right]
  have Hb := Lib.hid (Ha.out.1.nn_ mb)
  clear mb
  refine ⟨_, rfl, HS.out _ _ ⟨H7.out.1, H7.out.2.1, H7.out.2.2.1, H7.out.2.2.2.2⟩ Hb.out, ?_⟩
  iterate 3 (refine pc_pure rfl rfl (fun K hK => ?_); go_simp; refine hK _ ?_; clear hK K)
  refine pc_call rfl rfl (fun K hK => ?_); go_simp; refine ⟨_, _, ⟨rfl, rfl⟩, hK _ _ _ ?_⟩; clear hK K
  refine (nright_any (N := Nno) (ec := 0) (kc := 0) (cc := 0) (no_ndr _ false)).mono ?_
  rintro r wc ⟨rfl, mc⟩
  rw [Nno_right]
  have Hc := Lib.hid (Hb.out.nn_ mc)
  clear mc
  refine ⟨_, rfl, HS.out _ _ ⟨H7.out.1, H7.out.2.1, H7.out.2.2.1, H7.out.2.2.2.2⟩ Hc.out, ?_⟩
  iterate 3 (refine pc_pure rfl rfl (fun K hK => ?_); go_simp; refine hK _ ?_; clear hK K)
  refine pc_nil ?_
  go_wp2
  go_ret
  exact ⟨rfl, H7.out.1.trans Hc.out⟩
end
end Go.Proofs.YtfoldjnmknaklaaGreat
