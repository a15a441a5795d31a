/- peatbanklaw15.NodeGets: the walk. -/
import Derived.Test.YtfoldjnmknaklaaGreatNdGt
namespace Go.Proofs.YtfoldjnmknaklaaGreat
open Go.RowKit

section
variable {w : World} {A : Option Addr} {n c : Nat} {l : List Nat}
set_option maxRecDepth 100000 in
set_option maxHeartbeats 6400000 in
theorem ngets_any (hr : Rd w A n (bv l)) (hc : n ≤ c) (hz : ∀ z ∈ l, z < 256) (hn : n ≤ 9223372036854775807) :
    Calls Tryz.prog 7 #[.slice A n c] w fun r w' => r = .returned (.bool true) ∧ Mod Nn w w' := by
  have hL : l.length = n := by have := hr.1; rwa [bv_len] at this
  obtain ⟨M, E, hok, he, hk, hcn, hget⟩ := get_form hz
  have HR := Lib.hid (And.intro hr (And.intro hc (And.intro hz hL)))
  have HG := Lib.hid hget
  have HM := Lib.hid (And.intro hok (And.intro he (And.intro hk hcn)))
  clear hr hc hz hL hget hok he hk hcn
  by_cases hbig : 5000 < n
  · have d1 : (5000 : Int) < n := by omega
    go_enter Tryz.func7, Tryz.ntmps7
    go_wp2_with fail
    refine (nd_awake _).mono ?_
    rintro r w1 ⟨rfl, m1⟩
    have H1 := Lib.hid m1
    clear m1
    go_wp2
    go_ret
    exact ⟨rfl, H1.out⟩
  have d1 : ¬ (5000 : Int) < n := by omega
  go_enter Tryz.func7, Tryz.ntmps7
  go_wp2_with fail
  refine (lentn_any HR.out.1 (by omega)).mono ?_
  rintro r w1 ⟨g, rfl, b1, m1, hg⟩
  have H1 := Lib.hid (And.intro m1 (And.intro b1 (And.intro hg b1.lt)))
  clear m1 b1 hg
  go_wp2_with fail
  refine (nget_any (lentn_rd H1.out.2.1 HR.out.2.2.2) (by omega) HR.out.2.2.1).mono fun r w2 hgp => ?_
  obtain ⟨ev, kv, cv, rfl, n2, m2⟩ := HG.out _ _ _ hgp
  obtain ⟨A1, a1, K1, k1, C1, c1, rfl, rfl, rfl, -⟩ := n2.rd HM.out.1 (by have := HM.out.2; omega) (by have := HM.out.2; omega) (by have := HM.out.2; omega)
  have H2 := Lib.hid (And.intro (H1.out.1.nn_ m2) (And.intro (H1.out.2.1.mod m2 (fun f => f)) (And.intro n2 m2.size)))
  clear m2 n2 hgp
  go_wp2_with (first
    | (with_reducible change wpList _ _ _ (⟨some 4, Op.alloc _, _, _, _, _⟩ :: _) _ _
       go_must (refine wpList_alloc_var 32 rfl rfl info_node ?_)
       intro wa ba ma za
       have HA := Lib.hid (And.intro ba (And.intro ma za))
       clear ba ma za)
    | (with_reducible change wpList _ _ _ (⟨none, Op.store _ (.tmp 4) _, _, _, _, _⟩ :: _) _ _
       go_must (refine wpList_store_var 32 _ _ rfl rfl w2.heap.size #[.bool M.leaf, .slice A1 M.ents.length a1, .slice K1 M.keys.length k1, .slice C1 M.kids.length c1] _ _ rfl rfl HA.out.1 size_node rfl (one_nd _ _ _ _ _ _ _ _ _ _) ?_)
       intro w3 b3 m3 z3
       have q3 : Mod Nn w2 w3 := HA.out.2.1.new_ m3 (Nat.le_refl _)
       have H3 := Lib.hid (And.intro (H2.out.1.nn_ q3) (And.intro (H2.out.2.1.mod q3 (fun f => f)) (And.intro (H2.out.2.2.1.nn q3) (And.intro b3 (show w1.heap.size ≤ w2.heap.size ∧ w2.heap.size < w3.heap.size from ⟨H2.out.2.2.2, b3.lt⟩)))))
       clear b3 m3 z3 q3))
  refine (nget_any (lentn_rd H3.out.2.1 HR.out.2.2.2) (by omega) HR.out.2.2.1).mono fun r w4 hgp => ?_
  obtain ⟨ev, kv, cv, rfl, n4, m4⟩ := HG.out _ _ _ hgp
  obtain ⟨A2, a2, K2, k2, C2, c2, rfl, rfl, rfl, -⟩ := n4.rd HM.out.1 (by have := HM.out.2; omega) (by have := HM.out.2; omega) (by have := HM.out.2; omega)
  have H4 := Lib.hid (And.intro (H3.out.1.nn_ m4) (And.intro (H3.out.2.1.mod m4 (fun f => f)) (And.intro (H3.out.2.2.1.nn m4) (And.intro (H3.out.2.2.2.1.mod m4 (fun f => f)) (And.intro n4 m4.size)))))
  clear m4 n4 hgp
  go_wp2_with (first
    | (with_reducible change wpList _ _ _ (⟨some 6, Op.alloc _, _, _, _, _⟩ :: _) _ _
       go_must (refine wpList_alloc_var 32 rfl rfl info_node ?_)
       intro wa ba ma za
       have HA := Lib.hid (And.intro ba (And.intro ma za))
       clear ba ma za)
    | (with_reducible change wpList _ _ _ (⟨none, Op.store _ (.tmp 6) _, _, _, _, _⟩ :: _) _ _
       go_must (refine wpList_store_var 32 _ _ rfl rfl w4.heap.size #[.bool M.leaf, .slice A2 M.ents.length a2, .slice K2 M.keys.length k2, .slice C2 M.kids.length c2] _ _ rfl rfl HA.out.1 size_node rfl (one_nd _ _ _ _ _ _ _ _ _ _) ?_)
       intro w5 b5 m5 z5
       have q5 : Mod Nn w4 w5 := HA.out.2.1.new_ m5 (Nat.le_refl _)
       have H5 := Lib.hid (And.intro (H4.out.1.nn_ q5) (And.intro (H4.out.2.1.mod q5 (fun f => f)) (And.intro (H4.out.2.2.1.nn q5) (And.intro (H4.out.2.2.2.1.mod q5 (fun f => f)) (And.intro (H4.out.2.2.2.2.1.nn q5) (And.intro b5 (show w3.heap.size ≤ w4.heap.size ∧ w4.heap.size < w5.heap.size from ⟨H4.out.2.2.2.2.2, b5.lt⟩)))))))
       clear b5 m5 z5 q5))
  refine (keptn_any (HR.out.1.mod H5.out.1 (fun _ _ f => f)) H5.out.2.1 (by omega)).mono ?_
  rintro r w6 ⟨rfl, m6⟩
  have H6 := Lib.hid (And.intro (H5.out.1.nn_ m6) (And.intro (H5.out.2.1.mod m6 (fun f => f)) (And.intro (H5.out.2.2.1.nn m6) (And.intro (H5.out.2.2.2.1.mod m6 (fun f => f)) (And.intro (H5.out.2.2.2.2.1.nn m6) (And.intro (H5.out.2.2.2.2.2.1.mod m6 (fun f => f)) m6.size))))))
  clear m6
  go_wp2_with fail
  refine (over_any H6.out.2.1 (by rw [List.size_toArray, List.length_map, List.length_append, mks_len]; unfold natsn; rw [List.length_map, HR.out.2.2.2]) (by omega)).mono ?_
  rintro r w7 ⟨rfl, m7⟩
  have z1 := H1.out.2.2; have z3 := H3.out.2.2.2.2; have z5 := H5.out.2.2.2.2.2.2
  have H7 : Hid (Mod Nn w w7 ∧ NdH w7 w1.heap.size M (.slice A1 M.ents.length a1) (.slice K1 M.keys.length k1) (.slice C1 M.kids.length c1) ∧ Blk w7 w2.heap.size 32 #[.bool M.leaf, .slice A1 M.ents.length a1, .slice K1 M.keys.length k1, .slice C1 M.kids.length c1] ∧ NdH w7 w3.heap.size M (.slice A2 M.ents.length a2) (.slice K2 M.keys.length k2) (.slice C2 M.kids.length c2) ∧ Blk w7 w4.heap.size 32 #[.bool M.leaf, .slice A2 M.ents.length a2, .slice K2 M.keys.length k2, .slice C2 M.kids.length c2]) := Lib.hid ⟨
    H6.out.1.new_ m7 z1.1, H6.out.2.2.1.mod m7 (fun g' h1 _ e => by have e : g' = g := e; omega), H6.out.2.2.2.1.mod m7 (fun e => by have e : w2.heap.size = g := e; omega), H6.out.2.2.2.2.1.mod m7 (fun g' h1 _ e => by have e : g' = g := e; omega), H6.out.2.2.2.2.2.1.mod m7 (fun e => by have e : w4.heap.size = g := e; omega)⟩
  have HZ := Lib.hid (And.intro z1 (And.intro z3 (And.intro z5 (show w5.heap.size ≤ w7.heap.size from by have h1 := H6.out.2.2.2.2.2.2; have h2 := m7.size; omega))))
  have hd1 : ∀ g, g < w3.heap.size → w3.heap.size ≤ g → False := fun g h1 h2 => by omega
  have l1 := H3.out.2.2.1
  have HD := Lib.hid (show (∀ g, Of A1 g → g < w3.heap.size) ∧ (∀ g, Of K1 g → g < w3.heap.size) ∧ (∀ g, Of C1 g → g < w3.heap.size) from ⟨fun g h => own_blk_lt l1.e (of_own h), fun g h => own_blk_lt l1.k (of_own h), fun g h => own_blk_lt l1.c (of_own h)⟩)
  clear m7 z1 z3 z5 hd1 l1
  go_wp2_with fail
  refine (rget_any (HR.out.1.mod H7.out.1 (fun _ _ f => f)) HR.out.2.1 HR.out.2.2.1).mono fun r w8 hgp => ?_
  obtain ⟨ev, kv, cv, rfl, n8, m8⟩ := HG.out _ _ _ hgp
  obtain ⟨A3, a3, K3, k3, C3, c3, rfl, rfl, rfl, -⟩ := n8.rd HM.out.1 (by have := HM.out.2; omega) (by have := HM.out.2; omega) (by have := HM.out.2; omega)
  have H8 := Lib.hid (And.intro (H7.out.1.nn_ m8) (And.intro (H7.out.2.1.nn m8) (And.intro (H7.out.2.2.1.mod m8 (fun f => f)) (And.intro (H7.out.2.2.2.1.nn m8) (And.intro (H7.out.2.2.2.2.mod m8 (fun f => f)) (And.intro n8 m8.size))))))
  clear m8 n8 hgp
  go_wp2_with (first
    | (with_reducible change wpList _ _ _ (⟨some 8, Op.alloc _, _, _, _, _⟩ :: _) _ _
       go_must (refine wpList_alloc_var 32 rfl rfl info_node ?_)
       intro wa ba ma za
       have HA := Lib.hid (And.intro ba (And.intro ma za))
       clear ba ma za)
    | (with_reducible change wpList _ _ _ (⟨none, Op.store _ (.tmp 8) _, _, _, _, _⟩ :: _) _ _
       go_must (refine wpList_store_var 32 _ _ rfl rfl w8.heap.size #[.bool M.leaf, .slice A3 M.ents.length a3, .slice K3 M.keys.length k3, .slice C3 M.kids.length c3] _ _ rfl rfl HA.out.1 size_node rfl (one_nd _ _ _ _ _ _ _ _ _ _) ?_)
       intro w9 b9 m9 z9
       have q9 : Mod Nn w8 w9 := HA.out.2.1.new_ m9 (Nat.le_refl _)
       have H9 := Lib.hid (And.intro (H8.out.1.nn_ q9) (And.intro (H8.out.2.1.nn q9) (And.intro (H8.out.2.2.1.mod q9 (fun f => f)) (And.intro (H8.out.2.2.2.1.nn q9) (And.intro (H8.out.2.2.2.2.1.mod q9 (fun f => f)) (And.intro (H8.out.2.2.2.2.2.1.nn q9) b9))))))
       clear b9 m9 z9 q9)
    | (with_reducible change wpList _ _ _ (⟨some 41, Op.load _ _, _, _, _, _⟩ :: _) _ _
       go_must (refine wpList_load_var 32 _ rfl rfl w2.heap.size _ _ _ rfl H9.out.2.2.1 Tryz.underlying32 rfl size_node ?_))
    | (with_reducible change wpList _ _ _ (⟨some 42, Op.load _ _, _, _, _, _⟩ :: _) _ _
       go_must (refine wpList_load_var 32 _ rfl rfl w8.heap.size _ _ _ rfl H9.out.2.2.2.2.2.2 Tryz.underlying32 rfl size_node ?_)))
  have ndr : ∀ {w' : World} {b : Nat} {X K C : Option Addr} {x k c : Nat}, NdH w' b M (.slice X M.ents.length x) (.slice K M.keys.length k) (.slice C M.kids.length c) → NdR w' M X M.ents.length K M.keys.length C M.kids.length := fun {w' b X K C x k c} h =>
    ⟨own_rdC h.e, own_rdC h.k, Rd.of_own h.c, rfl, rfl, rfl, HM.out.1, by have := HM.out.2; omega, by have := HM.out.2; omega, by have := HM.out.2; omega⟩
  have HX := Lib.hid (And.intro (ndr H9.out.2.1) (And.intro (ndr H9.out.2.2.2.1) (ndr H9.out.2.2.2.2.2.1)))
  clear ndr
  refine (sameN_yes (lf := M.leaf) (N := M) HX.out.1 HX.out.2.2).mono ?_
  rintro r w10 ⟨rfl, m10⟩
  have H10 := Lib.hid (And.intro m10 (And.intro (H9.out.2.2.2.2.1.mod m10 (fun f => f)) (H9.out.2.2.2.2.2.2.mod m10 (fun f => f))))
  clear m10
  go_wp2_with (first
    | (with_reducible change wpList _ _ _ (⟨some 46, Op.load _ _, _, _, _, _⟩ :: _) _ _
       go_must (refine wpList_load_var 32 _ rfl rfl w4.heap.size _ _ _ rfl H10.out.2.1 Tryz.underlying32 rfl size_node ?_))
    | (with_reducible change wpList _ _ _ (⟨some 47, Op.load _ _, _, _, _, _⟩ :: _) _ _
       go_must (refine wpList_load_var 32 _ rfl rfl w8.heap.size _ _ _ rfl H10.out.2.2 Tryz.underlying32 rfl size_node ?_)))
  refine (sameN_yes (lf := M.leaf) (N := M) (HX.out.2.1.nn H10.out.1) (HX.out.2.2.nn H10.out.1)).mono ?_
  rintro r w11 ⟨rfl, m11⟩
  have q11 : Mod Nn w9 w11 := H10.out.1.nn_ m11
  have H11 := Lib.hid (And.intro (H9.out.1.nn_ q11) (And.intro (H9.out.2.1.nn q11) (And.intro (H9.out.2.2.1.mod q11 (fun f => f)) (And.intro (H9.out.2.2.2.1.nn q11) (And.intro (H9.out.2.2.2.2.1.mod q11 (fun f => f)) (show w7.heap.size ≤ w11.heap.size from by have h1 := H8.out.2.2.2.2.2.2; have h2 := H9.out.2.2.2.2.2.2.lt; have h3 := q11.size; omega))))))
  clear m11 q11 HX
  go_wp2_with (first
    | (with_reducible change wpList _ _ _ (⟨some 51, Op.load _ _, _, _, _, _⟩ :: _) _ _
       go_must (refine wpList_load_var 32 _ rfl rfl w2.heap.size _ _ _ rfl H11.out.2.2.1 Tryz.underlying32 rfl size_node ?_))
    | (with_reducible change wpList _ _ _ (⟨some 52, _, _, _, _, _⟩ :: _) _ _
       go_must (refine wpList_val rfl (exec_bslice1 (P := Tryz.prog) 22 32 _ rfl (s := 4) Tryz.underlying22 info_node (by omega) (by omega) rfl (X := #[.bool M.leaf, .slice A1 M.ents.length a1, .slice K1 M.keys.length k1, .slice C1 M.kids.length c1]) rfl rfl) ?_)
       have m12 : Mod Nn w11 (w11.alloc (.cells #[.bool M.leaf, .slice A1 M.ents.length a1, .slice K1 M.keys.length k1, .slice C1 M.kids.length c1] 32)) := (Mod.refl Nn w11).alloc _
       have H12 := Lib.hid (And.intro m12 (And.intro (Blk.new w11 32 #[.bool M.leaf, .slice A1 M.ents.length a1, .slice K1 M.keys.length k1, .slice C1 M.kids.length c1]) (H11.out.2.2.2.2.1.mod m12 (fun f => f))))
       clear m12
       generalize w11.alloc (.cells #[.bool M.leaf, .slice A1 M.ents.length a1, .slice K1 M.keys.length k1, .slice C1 M.kids.length c1] 32) = w12 at *)
    | (with_reducible change wpList _ _ _ (⟨some 53, Op.load _ _, _, _, _, _⟩ :: _) _ _
       go_must (refine wpList_load_var 32 _ rfl rfl w4.heap.size _ _ _ rfl H12.out.2.2 Tryz.underlying32 rfl size_node ?_))
    | (with_reducible change wpList _ _ _ (⟨some 54, _, _, _, _, _⟩ :: _) _ _
       go_must (refine wpList_val rfl (exec_bslice1 (P := Tryz.prog) 22 32 _ rfl (s := 4) Tryz.underlying22 info_node (by omega) (by omega) rfl (X := #[.bool M.leaf, .slice A2 M.ents.length a2, .slice K2 M.keys.length k2, .slice C2 M.kids.length c2]) rfl rfl) ?_)
       have m13 : Mod Nn w12 (w12.alloc (.cells #[.bool M.leaf, .slice A2 M.ents.length a2, .slice K2 M.keys.length k2, .slice C2 M.kids.length c2] 32)) := (Mod.refl Nn w12).alloc _
       have b12 := H12.out.2.1.lt
       have H13 := Lib.hid (And.intro (H12.out.1.nn_ m13) (And.intro (H12.out.2.1.mod m13 (fun f => f)) (And.intro (Blk.new w12 32 #[.bool M.leaf, .slice A2 M.ents.length a2, .slice K2 M.keys.length k2, .slice C2 M.kids.length c2]) b12)))
       clear m13 b12
       generalize w12.alloc (.cells #[.bool M.leaf, .slice A2 M.ents.length a2, .slice K2 M.keys.length k2, .slice C2 M.kids.length c2] 32) = w13 at *))
  have m14 : Mod Nn w13 (w13.alloc (.cells #[.slice (some ⟨w11.heap.size, 0, none⟩) 1 1, .slice (some ⟨w12.heap.size, 0, none⟩) 1 1] 22)) := (Mod.refl Nn w13).alloc _
  have q14 := H13.out.1.nn_ m14
  have hz13 := HZ.out
  have hz11 := H11.out.2.2.2.2.2
  have hz12 := H13.out.2.2.2
  refine (apartN2 HM.out.2 (Blk.new w13 22 #[.slice (some ⟨w11.heap.size, 0, none⟩) 1 1, .slice (some ⟨w12.heap.size, 0, none⟩) 1 1]) (H13.out.2.1.mod m14 (fun f => f)) (H13.out.2.2.1.mod m14 (fun f => f)) (H11.out.2.1.nn q14) (H11.out.2.2.2.1.nn q14) (by omega)
    (fun g h1 h2 => by have := HD.out.1 g h1; have := own_ge H11.out.2.2.2.1.e g (of_own h2); omega) (fun g h1 h2 => by have := HD.out.2.1 g h1; have := own_ge H11.out.2.2.2.1.k g (of_own h2); omega) (fun g h1 h2 => by have := HD.out.2.2 g h1; have := own_ge H11.out.2.2.2.1.c g (of_own h2); omega)).mono ?_
  rintro r w15 ⟨rfl, m15⟩
  have H15 := Lib.hid (show Mod Nn w w15 from (H11.out.1.nn_ q14).then_ m15 (fun g hg e => by rcases e with e | e | e | e <;> omega))
  clear m14 q14 m15 hz13 hz11 hz12
  go_wp2_with fail
  refine (nd_awake _).mono ?_
  rintro r w16 ⟨rfl, m16⟩
  have H16 := Lib.hid (H15.out.nn_ m16)
  clear m16
  go_wp2
  go_ret
  exact ⟨rfl, H16.out⟩
end
end Go.Proofs.YtfoldjnmknaklaaGreat
