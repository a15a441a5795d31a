/- peatbanklaw15.NodePuts: the walk. -/
import Derived.Test.YtfoldjnmknaklaaGreatNdMx
import Derived.Test.YtfoldjnmknaklaaGreatApBx
namespace Go.Proofs.YtfoldjnmknaklaaGreat
open Go.RowKit

/-- while NodePuts goes: its argument's box, that of what is lent, what was lent -/
structure NpS (w : World) (p q base : Nat) (cs ds : Array Value) (N : Nd) (g1 g2 g3 : Nat) (w' : World) : Prop where
  m : Mod Nn w w'
  box : Blk w' p 32 cs
  inb : Blk w' q 32 ds
  l : LentB w' base N g1 g2 g3
theorem NpS.nn {w w' w'' : World} {p q base g1 g2 g3 : Nat} {cs ds : Array Value} {N : Nd} (h : NpS w p q base cs ds N g1 g2 g3 w') (hm : Mod Nn w' w'') : NpS w p q base cs ds N g1 g2 g3 w'' := ⟨h.m.nn_ hm, h.box.mod hm (fun f => f), h.inb.mod hm (fun f => f), h.l.nn hm⟩
section
variable {w : World} {N : Nd} {EA KA CA : Option Addr} {en ec kn kc cn cc : Nat}
set_option maxRecDepth 100000 in
set_option maxHeartbeats 6400000 in
theorem nputs_any (h : NdQ w N EA en KA kn CA cn) (hs : en + kn + cn ≤ 9223372036854775807) :
    Calls Tryz.prog 9 #[ndV N.leaf EA en ec KA kn kc CA cn cc] w fun r w' => r = .returned (.bool true) ∧ Mod Nn w w' := by
  have m0 : Mod Nn w (w.alloc (.cells #[.bool N.leaf, .slice EA en ec, .slice KA kn kc, .slice CA cn cc] 32)) := (Mod.refl Nn w).alloc _
  have b0 : Blk (w.alloc (.cells #[.bool N.leaf, .slice EA en ec, .slice KA kn kc, .slice CA cn cc] 32)) w.heap.size 32 #[.bool N.leaf, .slice EA en ec, .slice KA kn kc, .slice CA cn cc] := Blk.new _ _ _
  have z0 : w.heap.size < (w.alloc (.cells #[.bool N.leaf, .slice EA en ec, .slice KA kn kc, .slice CA cn cc] 32)).heap.size := b0.lt
  have H0 := Lib.hid (And.intro m0 (And.intro b0 z0))
  have hg := fun w => great_any (w := w) (EA := EA) (KA := KA) (CA := CA) (ec := ec) (kc := kc) (cc := cc) (lf := N.leaf) hs
  have HG := Lib.hid hg
  clear m0 b0 z0 hg
  unfold ndV at *
  by_cases hbig : 3000 < en + kn + cn
  · rw [decide_eq_true hbig] at HG
    clear h
    go_enter Tryz.func9, Tryz.ntmps9
    go_wp2_with (first
      | (with_reducible change wpList _ _ _ (⟨some 11, Op.load _ _, _, _, _, _⟩ :: _) _ _
         go_must (refine wpList_load_var 32 _ rfl rfl w.heap.size _ _ _ rfl H0.out.2.1 Tryz.underlying32 rfl size_node ?_)))
    refine (HG.out _).mono ?_
    rintro r w1 ⟨rfl, m1⟩
    have H1 := Lib.hid (H0.out.1.nn_ m1)
    clear m1
    go_wp2_with fail
    refine (nd_awake _).mono ?_
    rintro r w2 ⟨rfl, m2⟩
    have H2 := Lib.hid (H1.out.nn_ m2)
    clear m2
    go_wp2
    go_ret
    exact ⟨rfl, H2.out⟩
  · rw [decide_eq_false hbig] at HG
    have hn := h.r hbig
    have hpb := nd_pb hn.ok
    have HN := Lib.hid hn
    have HX := Lib.hid (show ∀ w', Mod Nn w w' → NdR w' N EA en KA kn CA cn from fun w' hm => hn.nn hm)
    have hp1 := fun w g1 g2 g3 (hx : NdR w N (some ⟨g1, 0, none⟩) en (some ⟨g2, 0, none⟩) kn (some ⟨g3, 0, none⟩) cn) => nput_all (ec := en + 12) (kc := kn + 12) (cc := cn + 12) hx
    have hp2 := fun w (hx : NdR w N EA en KA kn CA cn) => rput_all (ec := ec) (kc := kc) (cc := cc) hx
    unfold NPut at hp1 hp2
    have hlt := hpb.1
    generalize N.pbytes = D at *
    generalize N.perr = E at *
    have HP := Lib.hid (And.intro hp1 hp2)
    clear h hn hpb hbig hp1 hp2
    unfold ndV at HP
    go_enter Tryz.func9, Tryz.ntmps9
    go_wp2_with (first
      | (with_reducible change wpList _ _ _ (⟨some 11, Op.load _ _, _, _, _, _⟩ :: _) _ _
         go_must (refine wpList_load_var 32 _ rfl rfl w.heap.size _ _ _ rfl H0.out.2.1 Tryz.underlying32 rfl size_node ?_)))
    refine (HG.out _).mono ?_
    rintro r w1 ⟨rfl, m1⟩
    have H1 := Lib.hid (And.intro (H0.out.1.nn_ m1) (And.intro (H0.out.2.1.mod m1 (fun f => f)) (show w.heap.size < w1.heap.size from by have := H0.out.2.2; have := m1.size; omega)))
    clear m1
    go_wp2_with (first
      | (with_reducible change wpList _ _ _ (⟨some 14, Op.load _ _, _, _, _, _⟩ :: _) _ _
         go_must (refine wpList_load_var 32 _ rfl rfl w.heap.size _ _ _ rfl H1.out.2.1 Tryz.underlying32 rfl size_node ?_)))
    refine (lentN_any (HX.out _ H1.out.1)).mono ?_
    rintro r w2 ⟨g1, g2, g3, rfl, l2, m2⟩
    have H2 := Lib.hid (And.intro (H1.out.1.nn_ m2) (And.intro (H1.out.2.1.mod m2 (fun f => f)) (And.intro l2 m2.size)))
    clear l2 m2
    unfold ndV
    go_upto_region 4 with (first
      | (with_reducible change wpList _ _ _ (⟨some 3, Op.alloc _, _, _, _, _⟩ :: _) _ _
         go_must (refine wpList_alloc_var 32 rfl rfl info_node ?_)
         intro wa ba ma za
         have HA := Lib.hid (And.intro ba ma)
         clear ba ma za)
      | (with_reducible change wpList _ _ _ (⟨none, Op.store _ (.tmp 3) _, _, _, _, _⟩ :: _) _ _
         go_must (refine wpList_store_var 32 _ _ rfl rfl w2.heap.size #[.bool N.leaf, .slice (some ⟨g1, 0, none⟩) en (en + 12), .slice (some ⟨g2, 0, none⟩) kn (kn + 12), .slice (some ⟨g3, 0, none⟩) cn (cn + 12)] _ _ rfl rfl HA.out.1 size_node rfl (one_nd _ _ _ _ _ _ _ _ _ _) ?_)
         intro w3 b3 m3 z3
         have q3 : Mod Nn w2 w3 := HA.out.2.new_ m3 (Nat.le_refl _)
         have H3 : Hid (NpS w w.heap.size w2.heap.size w1.heap.size #[.bool N.leaf, .slice EA en ec, .slice KA kn kc, .slice CA cn cc] #[.bool N.leaf, .slice (some ⟨g1, 0, none⟩) en (en + 12), .slice (some ⟨g2, 0, none⟩) kn (kn + 12), .slice (some ⟨g3, 0, none⟩) cn (cn + 12)] N g1 g2 g3 w3) :=
           Lib.hid ⟨H2.out.1.nn_ q3, H2.out.2.1.mod q3 (fun f => f), b3, H2.out.2.2.1.nn q3⟩
         have HQ := Lib.hid (show w.heap.size < w1.heap.size ∧ w1.heap.size ≤ w2.heap.size ∧ g1 < w2.heap.size ∧ g2 < w2.heap.size ∧ g3 < w2.heap.size from ⟨H1.out.2.2, H2.out.2.2.2, H2.out.2.2.1.e.lt, H2.out.2.2.1.k.lt, H2.out.2.2.1.c.lt⟩)
         clear b3 m3 z3 q3))
    refine wp_region_planC (NpS w w.heap.size w2.heap.size w1.heap.size #[.bool N.leaf, .slice EA en ec, .slice KA kn kc, .slice CA cn cc] #[.bool N.leaf, .slice (some ⟨g1, 0, none⟩) en (en + 12), .slice (some ⟨g2, 0, none⟩) kn (kn + 12), .slice (some ⟨g3, 0, none⟩) cn (cn + 12)] N g1 g2 g3) [(0, true), (2, true), (1, false), (3, false), (4, true), (5, true)] (by kernel_rfl) (by kernel_rfl) (H3.out.nn (Mod.refl Nn _).drew) ?_
    refine pc_take _ rfl rfl (fun w' hS => exec_load_row (P := Tryz.prog) 32 _ rfl rfl hS.inb Tryz.underlying32 rfl size_node) (fun K hK => ?_); go_simp; refine hK _ ?_; clear hK K
    refine pc_take _ rfl rfl (fun w' hS => exec_load_row (P := Tryz.prog) 32 _ rfl rfl hS.box Tryz.underlying32 rfl size_node) (fun K hK => ?_); go_simp; refine hK _ ?_; clear hK K
    refine pc_call rfl rfl (fun K hK => ?_); go_simp; refine ⟨_, _, ⟨rfl, rfl⟩, hK _ _ _ ?_⟩; clear hK K
    refine (nright_any (ec := en + 12) (kc := kn + 12) (cc := cn + 12) ((H3.out.l.nd HN.out).nn (Mod.refl Nn _).drew)).mono ?_
    rintro r w4 ⟨rfl, m4⟩
    have H4 := Lib.hid ((H3.out.nn (Mod.refl Nn _).drew).nn m4)
    clear m4
    refine ⟨_, rfl, H4.out, ?_⟩
    refine pc_call rfl rfl (fun K hK => ?_); go_simp; refine ⟨_, _, ⟨rfl, rfl⟩, hK _ _ _ ?_⟩; clear hK K
    refine (rright_any (ec := ec) (kc := kc) (cc := cc) (HX.out _ H4.out.m)).mono ?_
    rintro r w5 ⟨rfl, m5⟩
    have H5 := Lib.hid (H4.out.nn m5)
    clear m5
    refine ⟨_, rfl, H5.out, ?_⟩
    generalize N.right = R
    iterate 2 (refine pc_pure rfl rfl (fun K hK => ?_); go_simp; refine hK _ ?_; clear hK K)
    refine pc_nil ?_
    go_wp2_with (first
      | (with_reducible change wpList _ _ _ (⟨some 22, Op.load _ _, _, _, _, _⟩ :: _) _ _
         go_must (refine wpList_load_var 32 _ rfl rfl w2.heap.size _ _ _ rfl H5.out.inb Tryz.underlying32 rfl size_node ?_)))
    refine (HP.out.1 _ _ _ _ (H5.out.l.nd HN.out)).mono ?_
    rintro r w6 ⟨A6, c6, rfl, o6, m6⟩
    have s56 := H5.out.inb.lt
    have H6 := Lib.hid (And.intro (H5.out.nn m6) (And.intro o6 (And.intro m6.size s56)))
    clear m6 o6 s56
    go_wp2_with (first
      | (with_reducible change wpList _ _ _ (⟨some 27, Op.load _ _, _, _, _, _⟩ :: _) _ _
         go_must (refine wpList_load_var 32 _ rfl rfl w2.heap.size _ _ _ rfl H6.out.1.inb Tryz.underlying32 rfl size_node ?_)))
    refine (HP.out.1 _ _ _ _ (H6.out.1.l.nd HN.out)).mono ?_
    rintro r w7 ⟨A7, c7, rfl, o7, m7⟩
    have a67 : ∀ g, Of A6 g → g < w6.heap.size := fun g hg => own_blk_lt H6.out.2.1 (of_own hg)
    have a6 : ∀ g, Of A6 g → w5.heap.size ≤ g := fun g hg => own_ge H6.out.2.1 g (of_own hg)
    have a7 : ∀ g, Of A7 g → w6.heap.size ≤ g := fun g hg => own_ge o7 g (of_own hg)
    have HO := Lib.hid (And.intro a67 (And.intro a6 a7))
    have H7 := Lib.hid (And.intro (H6.out.1.nn m7) (And.intro (own_mod H6.out.2.1 m7 (fun _ _ f => f)) o7))
    clear m7 o7 a67 a6 a7
    go_wp2_with (first
      | (with_reducible change wpList _ _ _ (⟨some 34, Op.load _ _, _, _, _, _⟩ :: _) _ _
         go_must (refine wpList_load_var 32 _ rfl rfl w2.heap.size _ _ _ rfl H7.out.1.inb Tryz.underlying32 rfl size_node ?_))
      | (with_reducible change wpList _ _ _ (⟨some 35, Op.load _ _, _, _, _, _⟩ :: _) _ _
         go_must (refine wpList_load_var 32 _ rfl rfl w.heap.size _ _ _ rfl H7.out.1.box Tryz.underlying32 rfl size_node ?_)))
    refine (keptN_any H7.out.1.l (HX.out _ H7.out.1.m)).mono ?_
    rintro r w8 ⟨rfl, m8⟩
    have H8 := Lib.hid (And.intro (H7.out.1.nn m8) (And.intro (own_mod H7.out.2.1 m8 (fun _ _ f => f)) (own_mod H7.out.2.2 m8 (fun _ _ f => f))))
    clear m8
    go_wp2_with (first
      | (with_reducible change wpList _ _ _ (⟨some 39, Op.load _ _, _, _, _, _⟩ :: _) _ _
         go_must (refine wpList_load_var 32 _ rfl rfl w2.heap.size _ _ _ rfl H8.out.1.inb Tryz.underlying32 rfl size_node ?_)))
    refine (overN_any H8.out.1.l HN.out).mono ?_
    rintro r w9 ⟨rfl, m9⟩
    have hq := HQ.out
    have hl := H8.out.1.l
    have h58 : w2.heap.size < w5.heap.size := H6.out.2.2.2
    have H9 : Hid (Mod Nn w w9 ∧ Blk w9 w.heap.size 32 #[.bool N.leaf, .slice EA en ec, .slice KA kn kc, .slice CA cn cc] ∧ w9.ownsRow w5.heap.size 5 1 (.slice A6 D.length c6) D.length (bv D) ∧ w9.ownsRow w6.heap.size 5 1 (.slice A7 D.length c7) D.length (bv D)) := Lib.hid ⟨
      H8.out.1.m.then_ m9 (fun g hg e => by have := hl.b1; have := hl.b2; have := hl.b3; rcases e with e | e | e <;> omega),
      H8.out.1.box.mod m9 (fun e => by have := hl.b1; have := hl.b2; have := hl.b3; rcases e with e | e | e <;> omega),
      own_mod H8.out.2.1 m9 (fun g hg e => by have := own_ge H8.out.2.1 g hg; rcases e with e | e | e <;> omega),
      own_mod H8.out.2.2 m9 (fun g hg e => by have := own_ge H8.out.2.2 g hg; have := H6.out.2.2.1; rcases e with e | e | e <;> omega)⟩
    clear m9 hq hl h58
    go_wp2_with (first
      | (with_reducible change wpList _ _ _ (⟨some 42, Op.load _ _, _, _, _, _⟩ :: _) _ _
         go_must (refine wpList_load_var 32 _ rfl rfl w.heap.size _ _ _ rfl H9.out.2.1 Tryz.underlying32 rfl size_node ?_)))
    refine (HP.out.2 _ (HX.out _ H9.out.1)).mono ?_
    rintro r w10 ⟨A10, c10, rfl, o10, m10⟩
    have H10 := Lib.hid (And.intro (H9.out.1.nn_ m10) (And.intro (own_mod H9.out.2.2.1 m10 (fun _ _ f => f)) (And.intro (own_mod H9.out.2.2.2 m10 (fun _ _ f => f)) o10)))
    clear m10 o10
    go_wp2_with fail
    refine (sb_yes (Rd.of_own H10.out.2.1) (Rd.of_own H10.out.2.2.2) (by omega)).mono ?_
    rintro r w11 ⟨rfl, m11⟩
    have q11 := m11.alloc (.cells #[.slice A6 D.length c6, .slice A7 D.length c7] 24)
    have H11 := Lib.hid (And.intro (H10.out.1.nn_ q11) (And.intro (own_mod H10.out.2.1 q11 (fun _ _ f => f)) (And.intro (own_mod H10.out.2.2.1 q11 (fun _ _ f => f)) (Blk.new w11 24 #[.slice A6 D.length c6, .slice A7 D.length c7]))))
    clear m11 q11
    go_wp2_with fail
    refine (apartB2 H11.out.2.2.2 H11.out.2.1 H11.out.2.2.1 (by omega) (by omega) (fun g h1 h2 => by have := HO.out.1 g h1; have := HO.out.2.2 g h2; omega)).mono ?_
    rintro r w12 ⟨rfl, m12⟩
    have H12 := Lib.hid (show Mod Nn w w12 from H11.out.1.then_ m12 (fun g hg e => by
      have h1 := HQ.out; have h2 := H6.out.2.2
      rcases e with e | e
      · have := HO.out.2.1 g e; omega
      · have := HO.out.2.2 g e; omega))
    clear m12
    go_wp2_with fail
    refine (nd_awake _).mono ?_
    rintro r w13 ⟨rfl, m13⟩
    have H13 := Lib.hid (H12.out.nn_ m13)
    clear m13
    go_wp2
    go_ret
    exact ⟨rfl, H13.out⟩
end
end Go.Proofs.YtfoldjnmknaklaaGreat
