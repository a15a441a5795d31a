/- peatbanklaw16.TreeLoads: the walk. -/
import Derived.Test.YtkcpmkeckcnobaaTlA
import Derived.Test.YtkcpmkeckcnobaaLd6
import Derived.Test.YtkcpmkeckcnobaaWkA
import Derived.Test.YtkcpmkeckcnobaaTr32
namespace Go.Proofs.Ytkcpmkeckcnobaa
open Go.RowKit

/-- a node read, however long -/
structure NdU (w : World) (N : Nd) (EA : Option Addr) (en : Nat) (KA : Option Addr) (kn : Nat) (CA : Option Addr) (cn : Nat) : Prop where
  e : RdC w EA en 80 (bv N.ents.flatten)
  k : RdC w KA kn 40 (bv N.keys.flatten)
  c : Rd w CA cn (N.kids.map (Value.int .i64))
  el : N.ents.length = en
  kl : N.keys.length = kn
  cl : N.kids.length = cn
  ok : N.ok
  sum : en + kn + cn ≤ 9223372036854775807
structure NsU (w : World) (A : Option Addr) (n : Nat) (Xs : List NX) : Prop where
  rd : RdC w A n 4 (flat NX.cells Xs)
  len : Xs.length = n
  nd : ∀ x ∈ Xs, NdU w x.N x.EA x.en x.KA x.kn x.CA x.cn
theorem NsU.node {w : World} {A : Option Addr} {n i : Nat} {Xs : List NX} {x : NX} (h : NsU w A n Xs) (hx : Xs[i]? = some x) : ∃ g off, A = some ⟨g, off, none⟩ ∧ ∀ j v, x.cells[j]? = some v → w.cell? ⟨g, off + i * 4 + j, none⟩ = some v := by
  have hi := (List.getElem?_eq_some_iff.1 hx).1
  obtain ⟨g, off, hA, hc⟩ := h.rd.2 (by have := h.len; omega)
  refine ⟨g, off, hA, fun j v hv => ?_⟩
  have hj : j < 4 := by have := (List.getElem?_eq_some_iff.1 hv).1; rwa [NX.len] at this
  rw [Nat.add_assoc]
  exact hc _ v (by rw [flat_at NX.len Xs i j hj, hx]; exact hv)
theorem NsU.small {w : World} {A : Option Addr} {n : Nat} {Xs : List NX} (h : NsU w A n Xs) (hs : ∀ i x, i < n → Xs[i]? = some x → x.en + x.cn + x.kn ≤ 200) : NsAt w A n Xs := by
  refine ⟨h.rd, h.len, fun x hx => ?_⟩
  obtain ⟨i, hi⟩ := List.mem_iff_getElem?.1 hx
  have h1 := h.nd x hx
  have h2 := hs i x (by have := (List.getElem?_eq_some_iff.1 hi).1; have := h.len; omega) hi
  exact ⟨h1.e, h1.k, h1.c, h1.el, h1.kl, h1.cl, h1.ok, by omega, by omega, by omega⟩
theorem exec_neq_same {P : Program} {w : World} {o : Oper} {a : Act} (t u : TypeId) (x y : Operand) (ho : o.op = .binOp .neq t x y u) {X Y : Array Value} (hx : a.eval x = .agg X) (hy : a.eval y = .agg Y) (hm : P.eqGuardType P.depth t = false)
    (hq : (Op.equalIn 10000 t (.agg X) (.agg Y)).run P w = .ok true w) : (execOp a.eval o).run P w = .ok (.value (.bool false)) w := exec_neq_agg (b := true) t u x y ho hx hy hm hq
section
variable {w : World} {A : Option Addr} {n c : Nat} {Xs : List NX} {root : Int}
set_option maxRecDepth 100000 in
set_option maxHeartbeats 12800000 in
theorem treeloads_any (hN : NsU w A n Xs) : Calls Try.prog 10 #[.slice A n c, .int .i64 root] w fun r w' => r = .returned (.bool true) ∧ Mod Nn w w' := by
  have HN := Lib.hid hN
  clear hN
  go_enter Try.func10, Try.ntmps10
  go_wp2_with fail
  refine (awake16 w).mono ?_
  rintro r w0 ⟨rfl, m0⟩
  have H0 := Lib.hid m0
  clear m0
  by_cases hbig : 300 < n
  · have hbig' : (300 : Int) < n := by omega
    go_wp2
    go_ret
    exact ⟨rfl, H0.out⟩
  have hsm : ¬ (300 : Int) < n := by omega
  go_wp2_with fail
  -- zzL1
  go_loopw [5] (fun i wr => ∃ q : Nat, q ≤ n ∧ i = .int .i64 q ∧ Hid (Mod Nn w wr ∧ ∀ i x, i < q → Xs[i]? = some x → x.en + x.cn + x.kn ≤ 200)) (fun i _ => n - (intOf i).toNat)
  case atStart => exact ⟨0, Nat.zero_le _, rfl, Lib.hid ⟨H0.out, fun i x hi => absurd hi (by omega)⟩⟩
  case round =>
    obtain ⟨q, hq, rfl, HR⟩ := hrel
    by_cases hlt : q < n
    · have hlt' : (q : Int) < n := by omega
      obtain ⟨x, hx⟩ : ∃ x, Xs[q]? = some x := ⟨_, List.getElem?_eq_getElem (by rw [HN.out.len]; exact hlt)⟩
      obtain ⟨gA, oA, rfl, hnode⟩ := HN.out.node hx
      have hsum := (HN.out.nd x (List.mem_of_getElem? hx)).sum
      have hcl : ∀ w', Mod Nn w w' → ∀ j v, x.cells[j]? = some v → w'.cell? ⟨gA, oA + q * 4 + j, none⟩ = some v := fun w' hm j v hv => by
        have h1 := hnode j v hv
        rw [hm.cell (p := ⟨gA, oA + q * 4 + j, none⟩) (World.block_lt_of_cell? w _ h1) (fun f => f)]
        exact h1
      have HX := Lib.hid (And.intro hx hcl)
      clear hx hnode hcl
      obtain ⟨N, EA, en, ec, KA, kn, kc, CA, cn, cc⟩ := x
      dsimp only at hsum
      have hw1 : IntKind.i64.wrap ((en : Int) + (cn : Int)) = (en : Int) + (cn : Int) := by rw [IntKind.wrap_i64]; omega
      have hw2 : IntKind.i64.wrap ((en : Int) + (cn : Int) + (kn : Int)) = (en : Int) + (cn : Int) + (kn : Int) := by rw [IntKind.wrap_i64]; omega
      have HW := Lib.hid (And.intro hw1 hw2)
      clear hw1 hw2 hsum
      go_wp2_with fail
      refine wp_region_planC (fun w' => Mod Nn w w') ((List.range 21).map (fun i => (i, true))) (by kernel_rfl) (by kernel_rfl) HR.out.1.drew ?_
      simp only [List.range, List.range.loop, List.map_cons, List.map_nil]
      iterate 2 (refine pc_pure rfl rfl (fun K hK => ?_); go_simp; refine hK _ ?_; clear hK K)
      refine pc_take (.pointer (some ⟨gA, oA + q * 4, none⟩)) rfl rfl (fun w' hS => exec_elem (P := Try.prog) (g := gA) (off := oA) (q := q) 72 (.tmp 26) (.tmp 27) rfl 77 4 uuN sizeN rfl rfl hlt) (fun K hK => ?_); go_simp; refine hK _ ?_; clear hK K
      iterate 1 (refine pc_pure rfl rfl (fun K hK => ?_); go_simp; refine hK _ ?_; clear hK K)
      refine pc_take (.slice EA en ec) rfl rfl (fun w' hS => exec_load1 (P := Try.prog) (v := .slice EA en ec) (ad := ⟨gA, oA + q * 4 + 1, none⟩) 40 (.tmp 29) rfl rfl (HX.out.2 w' hS 1 _ rfl) Try.underlying40 rfl) (fun K hK => ?_); go_simp; refine hK _ ?_; clear hK K
      iterate 3 (refine pc_pure rfl rfl (fun K hK => ?_); go_simp; refine hK _ ?_; clear hK K)
      refine pc_take (.pointer (some ⟨gA, oA + q * 4, none⟩)) rfl rfl (fun w' hS => exec_elem (P := Try.prog) (g := gA) (off := oA) (q := q) 72 (.tmp 32) (.tmp 33) rfl 77 4 uuN sizeN rfl rfl hlt) (fun K hK => ?_); go_simp; refine hK _ ?_; clear hK K
      iterate 1 (refine pc_pure rfl rfl (fun K hK => ?_); go_simp; refine hK _ ?_; clear hK K)
      refine pc_take (.slice CA cn cc) rfl rfl (fun w' hS => exec_load1 (P := Try.prog) (v := .slice CA cn cc) (ad := ⟨gA, oA + q * 4 + 3, none⟩) 64 (.tmp 35) rfl rfl (HX.out.2 w' hS 3 _ rfl) Try.underlying64 rfl) (fun K hK => ?_); go_simp; refine hK _ ?_; clear hK K
      iterate 2 (refine pc_pure rfl rfl (fun K hK => ?_); go_simp; refine hK _ ?_; clear hK K)
      rw [HW.out.1]
      iterate 2 (refine pc_pure rfl rfl (fun K hK => ?_); go_simp; refine hK _ ?_; clear hK K)
      refine pc_take (.pointer (some ⟨gA, oA + q * 4, none⟩)) rfl rfl (fun w' hS => exec_elem (P := Try.prog) (g := gA) (off := oA) (q := q) 72 (.tmp 39) (.tmp 40) rfl 77 4 uuN sizeN rfl rfl hlt) (fun K hK => ?_); go_simp; refine hK _ ?_; clear hK K
      iterate 1 (refine pc_pure rfl rfl (fun K hK => ?_); go_simp; refine hK _ ?_; clear hK K)
      refine pc_take (.slice KA kn kc) rfl rfl (fun w' hS => exec_load1 (P := Try.prog) (v := .slice KA kn kc) (ad := ⟨gA, oA + q * 4 + 2, none⟩) 75 (.tmp 42) rfl rfl (HX.out.2 w' hS 2 _ rfl) Try.underlying75 rfl) (fun K hK => ?_); go_simp; refine hK _ ?_; clear hK K
      iterate 2 (refine pc_pure rfl rfl (fun K hK => ?_); go_simp; refine hK _ ?_; clear hK K)
      rw [HW.out.2]
      iterate 1 (refine pc_pure rfl rfl (fun K hK => ?_); go_simp; refine hK _ ?_; clear hK K)
      refine pc_nil ?_
      -- zzA
      have HD := Lib.hid HR.out.1.drew
      by_cases h2 : en + cn + kn ≤ 200
      · have h2' : ¬ (200 : Int) < (en : Int) + (cn : Int) + (kn : Int) := by omega
        have hnx : ∀ i x, i < q + 1 → Xs[i]? = some x → x.en + x.cn + x.kn ≤ 200 := fun i y hi hy => by
          rcases Nat.lt_or_ge i q with h | h
          · exact HR.out.2 i y h hy
          · obtain rfl : i = q := by omega
            rw [HX.out.1] at hy
            injection hy with hy
            rw [← hy]; exact h2
        have HNX := Lib.hid hnx
        clear hnx
        go_wp2
        exact ⟨⟨q + 1, by omega, by go_num, Lib.hid ⟨HD.out, HNX.out⟩⟩, by simp [intOf]; omega⟩
      · have h2' : (200 : Int) < (en : Int) + (cn : Int) + (kn : Int) := by omega
        go_wp2
        go_ret
        exact ⟨rfl, HD.out⟩
    · have hlt' : ¬ (q : Int) < n := by omega
      obtain rfl : n = q := by omega
      have hns := HN.out.small HR.out.2
      have HNS := Lib.hid hns
      have HM := Lib.hid HR.out.1
      clear hns HR H0
      go_wp2_with fail
      refine (lentNs_any (HNS.out.nn HM.out) (by omega)).mono ?_
      rintro r w1 ⟨g, rfl, ⟨Ys, Zs, hL⟩, m1⟩
      have hs1 : wr.heap.size ≤ w1.heap.size := m1.size
      have hwr : w.heap.size ≤ wr.heap.size := HM.out.size
      have H1 := Lib.hid (And.intro hL (HM.out.nn_ m1))
      clear hL m1
      go_wp2_with fail
      -- zzB
      refine (loadT_any (c := n + 12) (root := root) (H1.out.1.ns HNS.out) (by omega)).mono ?_
      rintro r w2 ⟨m2, hr2⟩
      rw [H1.out.1.names] at hr2
      have hl16 := fun w' (hm : Mod Nn w w') => load16_any (c := c) (root := root) (HNS.out.nn hm) (by omega)
      have hs2 : w1.heap.size ≤ w2.heap.size := m2.size
      have hrows : ∀ L, loadM (Xs.map (·.N)) root = some L → L.length ≤ 12000 := fun L h => by
        unfold loadM at h
        cases hu : undM (Xs.map (·.N)) ((Xs.map (·.N)).length + 1) root true (List.replicate (Xs.map (·.N)).length false) with
        | none => rw [hu] at h; cases h
        | some x =>
          obtain ⟨L', d, σ⟩ := x
          rw [hu] at h
          have hk := undM_kept (fun N hN' => by obtain ⟨y, hy, rfl⟩ := List.mem_map.1 hN'; exact (HNS.out.nd y hy).ok) _ _ _ _ _ _ _ hu
          have he : L' = L := by
            simp only [pickM] at h
            split at h
            · injection h
            · cases h
          subst he
          have h5 := hk.un
          have h6 : unseen (List.replicate (Xs.map (·.N)).length false) ≤ n := Nat.le_trans (unseen_le _) (by rw [List.length_replicate, List.length_map, HNS.out.len]; exact Nat.le_refl _)
          omega
      generalize loadM (Xs.map (·.N)) root = lm at *
      have H16 := Lib.hid hl16
      clear hl16
      rcases lm with _ | L
      · obtain rfl := hr2
        have H2 := Lib.hid (And.intro (H1.out.1.nn m2) (H1.out.2.nn_ m2))
        clear m2 hrows
        go_wp2_with fail
        refine (H16.out w2 H2.out.2).mono ?_
        rintro r w3 ⟨m3, hr3⟩
        obtain rfl := hr3
        have H3 := Lib.hid (And.intro (H2.out.1.nn m3) (H2.out.2.nn_ m3))
        clear m3
        go_wp2_with fail
        refine (keptNs_any H3.out.1 (HNS.out.nn H3.out.2) (by omega)).mono ?_
        rintro r w4 ⟨rfl, m4⟩
        have H4 := Lib.hid (H3.out.2.nn_ m4)
        clear m4
        go_wp2
        go_ret
        exact ⟨rfl, H4.out⟩
      · obtain ⟨b, G, rfl, ht, hG⟩ := hr2
        have hLl := hrows L rfl
        have H2 := Lib.hid (And.intro (H1.out.1.nn m2) (And.intro (H1.out.2.nn_ m2) (And.intro ht hG)))
        clear m2 hrows ht hG
        go_wp2_with fail
        refine (H16.out w2 H2.out.2.1).mono ?_
        rintro r w3 ⟨m3, hr3⟩
        obtain ⟨b6, A6, c6, rfl, hb6, hrd6, hro6, hc6, hb6w, hA6⟩ := hr3
        have hs3 : w2.heap.size ≤ w3.heap.size := m3.size
        have hG3 : ∀ g ∈ G, g ≠ b6 := fun g hg e => by have := H2.out.2.2.1.lt g hg; omega
        have H3 := Lib.hid (And.intro (H2.out.1.nn m3) (And.intro (H2.out.2.1.nn_ m3) (And.intro (H2.out.2.2.1.nn m3) (And.intro hb6 (And.intro hrd6 hA6)))))
        clear m3 hb6 hrd6 hA6
        go_wp2_with fail
        -- zzC
        refine (keptNs_any H3.out.1 (HNS.out.nn H3.out.2.1) (by omega)).mono ?_
        rintro r w4 ⟨rfl, m4⟩
        have hs4 : w3.heap.size ≤ w4.heap.size := m4.size
        have H4 := Lib.hid (And.intro (H3.out.1.nn m4) (And.intro (H3.out.2.1.nn_ m4) (And.intro (H3.out.2.2.1.nn m4) (And.intro (H3.out.2.2.2.1.mod m4 (fun f => f)) (H3.out.2.2.2.2.1.md (by omega) m4 (fun _ _ f => f))))))
        clear m4
        go_wp2_with fail
        -- zzD
        refine (overNs_any H4.out.1 H1.out.1 HNS.out (by omega)).mono ?_
        rintro r w5 ⟨rfl, m5⟩
        have hs5 : w4.heap.size ≤ w5.heap.size := m5.size
        have H5 := Lib.hid (show Mod Nn w w5 ∧ TrAt w5 b L G ∧ Blk w5 b6 83 #[.slice A6 L.length c6] ∧ RdC w5 A6 L.length 80 (bv L.flatten) from
          ⟨H4.out.2.1.then_ m5 (fun x hx h => by omega), H4.out.2.2.1.mod m5 (fun x hx h => by have := H2.out.2.2.2 x hx; omega), H4.out.2.2.2.1.mod m5 (fun h => by omega), H4.out.2.2.2.2.md (by omega) m5 (fun x hx h => by have := (H3.out.2.2.2.2.2 x hx).1; omega)⟩)
        clear m5
        have hsr := H5.out.2.1.srt
        have hrw := H5.out.2.1.rows
        have hfirst := aft_first hrw
        have hlen : ∀ j : Nat, ((L[j]?).getD ze).length = 80 := fun j => by
          cases h : L[j]? with
          | none => exact ze_len
          | some r => exact (hrw r (List.mem_of_getElem? h)).1
        have HB := Lib.hid (And.intro hsr (And.intro hrw (And.intro hfirst hlen)))
        clear hsr hrw hfirst hlen H4 H3 H2 H1
        have hzk : (List.replicate 40 0 : List Nat).length = 40 := rfl
        have hz40 : ∀ z ∈ (List.replicate 40 0 : List Nat), z < 256 := fun z hz => by have := List.eq_of_mem_replicate hz; omega
        have HZ := Lib.hid hz40
        clear hz40
        go_wp2_with (first
          | (with_reducible change wpList _ _ _ (⟨some 11, Op.alloc _, _, _, _, _⟩ :: _) _ _
             go_must (refine wpList_alloc_var 23 rfl rfl info_keyz ?_)
             intro w6 b6' m6 z6
             clear z6
             have H6 := Lib.hid (And.intro m6 b6')
             clear m6 b6')
          | (with_reducible change wpList _ _ _ (⟨some 83, _, _, _, _, _⟩ :: _) _ _
             go_must (refine wpList_val rfl (exec_load_row (P := Try.prog) (g := w5.heap.size) (cs := (bv (List.replicate 40 0)).toArray) 23 _ rfl rfl H6.out.2 Try.underlying23 rfl (size_keyk hzk)) ?_)))
        -- zzE
        refine (tafter_any (H5.out.2.1.nn H6.out.1) hzk HZ.out).mono ?_
        rintro r w7 ⟨rfl, m7⟩
        rw [HB.out.2.2.1]
        unfold optV
        obtain ⟨e0, he0⟩ : ∃ e0, (L[0]?).getD ze = e0 := ⟨_, rfl⟩
        have hl0 : e0.length = 80 := by rw [← he0]; exact HB.out.2.2.2 0
        rw [he0]
        have H7 := Lib.hid (And.intro (H6.out.1.nn_ m7) he0)
        have hs7 : w5.heap.size ≤ w7.heap.size := (H6.out.1.nn_ m7).size
        clear m7 he0
        go_wp2_with (first
          | (with_reducible change wpList _ _ _ (⟨some 12, Op.alloc _, _, _, _, _⟩ :: _) _ _
             go_must (refine wpList_alloc_var 28 rfl rfl info_entz ?_)
             intro w8 b8 m8 z8
             clear z8
             have H8 := Lib.hid (And.intro (H7.out.1.nn_ m8) b8)
             clear m8 b8)
          | (with_reducible change wpList _ _ _ (⟨none, Op.store _ (Operand.tmp 12) _, _, _, _, _⟩ :: _) _ _
             go_must (refine wpList_store_var 28 _ _ rfl rfl w7.heap.size (bv e0).toArray _ _ rfl rfl H8.out.2 (size_ente hl0) (by rw [bv_size, hl0]; rfl) (bv_all _) ?_)
             intro w9 b9 m9 z9
             clear z9
             have H9 := Lib.hid (And.intro (H8.out.1.new_ m9 (by omega)) b9)
             clear m9 b9))
        -- zzL
        obtain ⟨ge, hge⟩ : ∃ ge, w7.heap.size = ge := ⟨_, rfl⟩
        rw [hge] at H8 H9 ⊢
        have hge5 : w5.heap.size ≤ ge := by omega
        go_loopw [13, 14] (fun o i wr => ∃ (j : Nat), j ≤ L.length ∧ o = .bool (L[j]?).isSome ∧ i = .int .i64 (j : Int) ∧ Hid (Blk wr ge 28 (bv ((L[j]?).getD ze)).toArray ∧ Mod Nn w5 wr)) (fun _ i _ => L.length - (intOf i).toNat)
        case atStart => exact ⟨0, Nat.zero_le _, rfl, rfl, Lib.hid ⟨by rw [H7.out.2]; exact H9.out.2, H9.out.1⟩⟩
        case round =>
          obtain ⟨j, hj, rfl, rfl, HR⟩ := hrel
          have hcu : wr.cell? ⟨b6, 0, none⟩ = some (.slice A6 L.length c6) := (H5.out.2.2.1.mod HR.out.2 (fun f => f)).cell 0
          obtain ⟨bo, hbo⟩ : ∃ bo, (L[j]?).isSome = bo := ⟨_, rfl⟩
          rw [hbo]
          rcases hLj : L[j]? with _ | e
          · have hb0 : bo = false := by rw [← hbo, hLj]; rfl
            clear hbo
            subst hb0
            have hjn : ¬ (j : Int) < (L.length : Int) := by have := List.getElem?_eq_none_iff.1 hLj; omega
            clear hLj
            go_wp2_with fail
            -- zzF
            refine wp_region_planC (fun w' => Mod Nn w5 w') [(0, true), (1, true), (2, true), (3, true), (5, true), (6, true), (7, true), (8, true), (9, true), (4, false), (10, true), (11, true), (12, true)] (by kernel_rfl) (by kernel_rfl) HR.out.2.drew ?_
            iterate 7 (refine pc_pure rfl rfl (fun K hK => ?_); go_simp; refine hK _ ?_; clear hK K)
            refine pc_take (.slice A6 L.length c6) rfl rfl (fun w' hS => exec_load1 (P := Try.prog) (v := .slice A6 L.length c6) (ad := ⟨b6, 0, none⟩) 40 (.tmp 123) rfl rfl ((H5.out.2.2.1.mod hS (fun f => f)).cell 0) Try.underlying40 rfl) (fun K hK => ?_); go_simp; refine hK _ ?_; clear hK K
            iterate 1 (refine pc_pure rfl rfl (fun K hK => ?_); go_simp; refine hK _ ?_; clear hK K)
            refine pc_call rfl rfl (fun K hK => ?_); go_simp; refine ⟨_, _, ⟨rfl, rfl⟩, hK _ _ _ ?_⟩; clear hK K
            refine (tlen_any (H5.out.2.1.nn HR.out.2.drew)).mono ?_
            rintro r w10 ⟨rfl, m10⟩
            refine ⟨_, rfl, HR.out.2.drew.nn_ m10, ?_⟩
            have H10 := Lib.hid (H5.out.1.nn_ (HR.out.2.drew.nn_ m10))
            clear m10
            iterate 3 (refine pc_pure rfl rfl (fun K hK => ?_); go_simp; refine hK _ ?_; clear hK K)
            refine pc_nil ?_
            go_wp2
            go_ret
            exact ⟨rfl, H10.out⟩
          · have hb0 : bo = true := by rw [← hbo, hLj]; rfl
            clear hbo
            subst hb0
            rw [hLj] at HR
            have he := HB.out.2.1 e (List.mem_of_getElem? hLj)
            have hel := he.1
            have hjl : j < L.length := (List.getElem?_eq_some_iff.1 hLj).1
            have hjl' : (j : Int) < (L.length : Int) := by omega
            obtain ⟨g6, o6, rfl, hc6e⟩ := row_cells H5.out.2.2.2 HB.out.2.1 hLj rfl (by omega)
            have HE := Lib.hid (And.intro he.2 (And.intro hLj hc6e))
            clear he hLj hc6e
            go_wp2_with fail
            -- zzG
            refine wp_region_planC (fun w' => Mod Nn wr w') ((List.range 13).map (fun i => (i, true))) (by kernel_rfl) (by kernel_rfl) (Mod.refl Nn wr).drew ?_
            simp only [List.range, List.range.loop, List.map_cons, List.map_nil]
            iterate 3 (refine pc_pure rfl rfl (fun K hK => ?_); go_simp; refine hK _ ?_; clear hK K)
            refine pc_take (.agg (bv e).toArray) rfl rfl (fun w' hS => exec_load_row (P := Try.prog) (g := ge) (cs := (bv e).toArray) 28 (.tmp 12) rfl rfl (HR.out.1.mod hS (fun f => f)) Try.underlying28 rfl (size_ente hel)) (fun K hK => ?_); go_simp; refine hK _ ?_; clear hK K
            iterate 3 (refine pc_pure rfl rfl (fun K hK => ?_); go_simp; refine hK _ ?_; clear hK K)
            refine pc_take (.slice (some ⟨g6, o6, none⟩) L.length c6) rfl rfl (fun w' hS => exec_load1 (P := Try.prog) (v := .slice (some ⟨g6, o6, none⟩) L.length c6) (ad := ⟨b6, 0, none⟩) 40 (.tmp 102) rfl rfl ((H5.out.2.2.1.mod (HR.out.2.nn_ hS) (fun f => f)).cell 0) Try.underlying40 rfl) (fun K hK => ?_); go_simp; refine hK _ ?_; clear hK K
            iterate 1 (refine pc_pure rfl rfl (fun K hK => ?_); go_simp; refine hK _ ?_; clear hK K)
            refine pc_take (.pointer (some ⟨g6, o6 + j * 80, none⟩)) rfl rfl (fun w' hS => exec_elem (P := Try.prog) (g := g6) (off := o6) (q := j) 40 (.tmp 103) (.tmp 104) rfl 28 80 uuE sizeE rfl rfl hjl) (fun K hK => ?_); go_simp; refine hK _ ?_; clear hK K
            refine pc_take (.agg (bv e).toArray) rfl rfl (fun w' hS => exec_load_cells (P := Try.prog) (b := g6) (off := o6 + j * 80) (cs := bv e) 28 (.tmp 105) rfl rfl (cellsP HE.out.2.2 (HR.out.2.nn_ hS)) Try.underlying28 rfl (by rw [bv_len, hel]; exact size_entT)) (fun K hK => ?_); go_simp; refine hK _ ?_; clear hK K
            refine pc_take (.bool false) rfl rfl (fun w' _ => exec_neq_same (P := Try.prog) 28 28 _ _ rfl rfl rfl Try.eqGuardType28 (by have := eqE2 (w := w') hel hel HE.out.1 HE.out.1; rwa [decide_eq_true rfl] at this)) (fun K hK => ?_); go_simp; refine hK _ ?_; clear hK K
            iterate 1 (refine pc_pure rfl rfl (fun K hK => ?_); go_simp; refine hK _ ?_; clear hK K)
            refine pc_nil ?_
            have HRD := Lib.hid (And.intro (show Blk wr.drew ge 28 (bv e).toArray from HR.out.1.mod (Mod.refl Nn wr).drew (fun f => f)) HR.out.2.drew)
            go_wp2_with (first
              | (with_reducible change wpList _ _ _ (⟨some 112, _, _, _, _, _⟩ :: _) _ _
                 go_must (refine wpList_val rfl (exec_load_cells (P := Try.prog) (b := ge) (off := 0) (cs := bv (keyOf e)) 23 _ rfl rfl (key_cells HRD.out.1) Try.underlying23 rfl (by rw [bv_len, keyOf_len hel]; exact size_keyT)) ?_)))
            -- zzH
            refine (tafter_any (H5.out.2.1.nn HRD.out.2) (keyOf_len hel) (keyOf_lt HE.out.1)).mono ?_
            rintro r w10 ⟨rfl, m10⟩
            rw [aft_step HB.out.1 HE.out.2.1]
            unfold optV
            obtain ⟨e1, he1⟩ : ∃ e1, (L[j + 1]?).getD ze = e1 := ⟨_, rfl⟩
            have hl1 : e1.length = 80 := by rw [← he1]; exact HB.out.2.2.2 (j + 1)
            rw [he1]
            obtain ⟨b1, hb1⟩ : ∃ b1, (L[j + 1]?).isSome = b1 := ⟨_, rfl⟩
            rw [hb1]
            have H10 := Lib.hid (And.intro (HRD.out.2.nn_ m10) (And.intro (HRD.out.1.mod m10 (fun f => f)) (And.intro he1 hb1)))
            clear m10 he1 hb1
            go_wp2_with (first
              | (with_reducible change wpList _ _ _ (⟨none, Op.store _ (Operand.tmp 12) _, _, _, _, _⟩ :: _) _ _
                 go_must (refine wpList_store_var 28 _ _ rfl rfl ge (bv e1).toArray _ _ rfl rfl H10.out.2.1 (size_ente hl1) (by rw [bv_size, bv_size, hl1, hel]) (bv_all _) ?_)
                 intro w11 b11 m11 z11
                 clear z11
                 have H11 := Lib.hid (And.intro b11 (H10.out.1.new_ m11 (by omega)))
                 clear b11 m11))
            exact ⟨⟨j + 1, by omega, by rw [H10.out.2.2.2], by go_num, Lib.hid ⟨by rw [H10.out.2.2.1]; exact H11.out.1, H11.out.2⟩⟩, by simp [intOf]; omega⟩
end
end Go.Proofs.Ytkcpmkeckcnobaa
