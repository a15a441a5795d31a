/- peatbanklaw01.ShaParts: the walk. -/
import Derived.Test.YtbocdgmkiajihaaDoorSha19
namespace Go.Proofs.YtbocdgmkiajihaaDoor
open Go.RowKit

/-- a hash over T and, beside it, a slice of its own with the bytes U -/
structure PS (w0 : World) (B : Nat) (w : World) (hb sb : Nat) (rv av : Value) (T U : List Nat) : Prop where
  h : HA w hb sb rv T
  own : w.ownsRow B 5 1 av U.length (u8s U)
  sep : ∀ g, av.ownBlock = some g → ¬ InH hb sb rv g
  fr : ∀ g, InH hb sb rv g → w0.heap.size ≤ g
  B0 : w0.heap.size ≤ B
  Bs : B ≤ w.heap.size
  m : Mod Nn w0 w
section
variable {w0 w w' : World} {B hb sb : Nat} {rv rn av an : Value} {T T' U U' : List Nat}
theorem PS.nn (h : PS w0 B w hb sb rv av T U) (hm : Mod Nn w w') : PS w0 B w' hb sb rv av T U :=
  ⟨h.h.nn hm, own_mod h.own hm (fun _ _ f => f), h.sep, h.fr, h.B0, Nat.le_trans h.Bs hm.size, h.m.nn_ hm⟩
theorem PS.ownlt (h : PS w0 B w hb sb rv av T U) {g : Nat} (hg : av.ownBlock = some g) : B ≤ g ∧ g < w.heap.size := by
  obtain ⟨_, _, e, _, hlt⟩ := own_form h.own
  rw [e] at hg
  exact hlt g (own_of hg)
theorem PS.write (h : PS w0 B w hb sb rv av T U) (h1 : HA w' hb sb rn T') (hm : Mod (InH hb sb rv) w w') (hr : ∀ g, rn.ownBlock = some g → w.heap.size ≤ g) : PS w0 B w' hb sb rn av T' U := by
  refine ⟨h1, own_mod h.own hm (fun g hg => h.sep g hg), ?_, ?_, h.B0, Nat.le_trans h.Bs hm.size, h.m.then_ hm (fun g hg hi => by have := h.fr g hi; omega)⟩
  · rintro g hg (rfl | rfl | hi)
    · exact h.sep _ hg (.inl rfl)
    · exact h.sep _ hg (.inr (.inl rfl))
    · have := hr g hi; have := (h.ownlt hg).2; omega
  · rintro g (rfl | rfl | hi)
    · exact h.fr _ (.inl rfl)
    · exact h.fr _ (.inr (.inl rfl))
    · have := hr g hi; have := h.m.size; omega
theorem PS.at_ (h : PS w0 B w hb sb rv av T U) {g : Nat} (hm : Mod (At g) w w') (h0 : w0.heap.size ≤ g) (h1 : ¬ InH hb sb rv g) (h2 : av.ownBlock ≠ some g) : PS w0 B w' hb sb rv av T U :=
  ⟨h.h.mod hm (fun x hx e => h1 (by have e : x = g := e; rw [← e]; exact hx)), own_mod h.own hm (fun x hx e => h2 (by have e : x = g := e; rw [← e]; exact hx)), h.sep, h.fr, h.B0, Nat.le_trans h.Bs hm.size, h.m.new_ hm h0⟩
theorem PS.grow (h : PS w0 B w hb sb rv av T U) (h1 : w'.ownsRow B 5 1 an U'.length (u8s U')) (hg : w.grownBy w' av.ownBlock) (ho : an.ownBlock = av.ownBlock ∨ an.ownBlock = some w.heap.size) : PS w0 B w' hb sb rv an T U' := by
  have hm : Mod (fun g => av.ownBlock = some g) w w' := (Mod.refl _ _).grown hg (fun g hg => .inr hg)
  refine ⟨h.h.mod hm (fun g hi ha => h.sep g ha hi), h1, fun g ha hi => ?_, h.fr, h.B0, Nat.le_trans h.Bs hm.size, h.m.then_ hm (fun g hg ha => by have := (h.ownlt ha).1; have := h.B0; omega)⟩
  rcases ho with ho | ho
  · exact h.sep g (ho ▸ ha) hi
  · rw [ho] at ha
    injection ha with ha
    have := h.h.inlt g hi
    omega
end
theorem lent_rd {w : World} {g n : Nat} {t : TypeId} {zs ys : List Int} (h : Blk w g t ((zs ++ ys).map (Value.int .u8)).toArray) (hl : zs.length = n) : Rd w (some ⟨g, 0, none⟩) n (zs.map (Value.int .u8)) :=
  Rd.of_blk h 0 (by rw [List.length_map]; exact hl) (fun j v hv => by
    rw [List.getElem?_toArray, Nat.zero_add, List.map_append, List.getElem?_append_left (List.getElem?_eq_some_iff.1 hv).1]; exact hv)

set_option maxRecDepth 100000 in
set_option maxHeartbeats 3200000 in
theorem shaparts_any {w : World} (hg : Gl w) {A : Option Addr} {n c : Nat} {L : List Part} (hr : Rd w A n (L.map Part.v)) (hok : ∀ p ∈ L, p.ok w) :
    Calls Tryd.prog 6 #[.slice A n c] w fun r w' => r = .returned (.bool true) ∧ Mod Nn w w' := by
  have hLl : L.length = n := by have := hr.1; simpa using this
  have HG := Lib.hid (And.intro hg (And.intro hr (And.intro hok hLl)))
  clear hg hr hok hLl
  by_cases hn : (60 : Int) < n
  · go_enter Tryd.func6, Tryd.ntmps6
    go_wp2_with fail
    refine (awake_any HG.out.1).mono ?_
    rintro r w1 ⟨rfl, m1⟩
    go_wp2
    go_ret
    exact ⟨rfl, m1⟩
  · have hn60 : n ≤ 60 := by omega
    go_enter Tryd.func6, Tryd.ntmps6
    go_wp2_with fail
    refine (awake_any HG.out.1).mono ?_
    rintro r w1 ⟨rfl, m1⟩
    have H1 := Lib.hid m1; clear m1
    go_wp2_with fail
    refine (hnew_any (HG.out.1.nn H1.out)).mono ?_
    rintro e w2 ⟨hb, sb, rfl, h2, m2, hh2, hs2⟩
    have hps : PS w w2.heap.size w2 hb sb (.slice none 0 0) (.slice none 0 0) [] [] := by
      have h1 := H1.out.size
      have h1' := m2.size
      refine ⟨h2, World.ownsRow_nil _ _ _ _, (fun g hg => by cases hg), ?_, by omega, Nat.le_refl _, H1.out.nn_ m2⟩
      rintro g (rfl | rfl | hg)
      · omega
      · omega
      · cases hg
    obtain ⟨B, hB⟩ : ∃ x, w2.heap.size = x := ⟨_, rfl⟩
    rw [hB] at hps
    have HP := Lib.hid hps
    clear h2 m2 hh2 hs2 hps hB
    go_wp2
    go_loopw [4, 5] (fun v i wr => ∃ (k : Nat) (rv : Value) (A' : Option Addr) (m c' : Nat), k ≤ n ∧ i = .int .i64 k ∧ v = .slice A' m c' ∧ m = (cat L k).length ∧ m ≤ 300 * k ∧ PS w B wr hb sb rv (.slice A' m c') (cat L k) (cat L k)) (fun _ i _ => n - (intOf i).toNat)
    case atStart => exact ⟨0, _, none, 0, 0, Nat.zero_le _, rfl, rfl, rfl, Nat.zero_le _, HP.out⟩
    case round =>
      clear HP
      obtain ⟨k, rv, A', m, c', hk, rfl, rfl, hmT, hm3, hps⟩ := hrel
      obtain ⟨wo, rfl⟩ : ∃ wo : World, wo = wr := ⟨_, rfl⟩
      have HP := Lib.hid (And.intro hps hmT)
      clear hps hmT
      by_cases hlt : k < n
      · have hlt' : (k : Int) < n := by omega
        obtain ⟨p, hp⟩ : ∃ p, L[k]? = some p := ⟨_, List.getElem?_eq_getElem (by have := HG.out.2.2.2; omega)⟩
        have hpm : p ∈ L := List.mem_of_getElem? hp
        obtain ⟨g0, off, hA, hcell⟩ := HG.out.2.1.2 (by omega)
        have hc := hcell k p.v (by rw [List.getElem?_map, hp]; rfl)
        subst hA
        have hclt := World.block_lt_of_cell? w _ hc
        have c0 : wo.cell? ⟨g0, off + k, none⟩ = some (.slice p.A p.n p.c) := (HP.out.1.m.cell (p := ⟨g0, off + k, none⟩) hclt (fun f => f)).trans hc
        have HC := Lib.hid (And.intro hc (And.intro hclt (And.intro hpm hp)))
        clear hcell hc hclt hpm hp
        have hpl : p.zs.length = p.n := by have := (HG.out.2.2.1 p HC.out.2.2.1).1.1; simpa using this
        have HPL := Lib.hid hpl
        clear hpl
        by_cases h3 : (300 : Int) < p.n
        · go_wp2
          go_ret
          exact ⟨rfl, HP.out.1.m⟩
        · have h300 : p.n ≤ 300 := by omega
          have hpo := (HG.out.2.2.1 p HC.out.2.2.1).nn HP.out.1.m
          go_wp2_with fail
          refine (lent_any hpo.1 (by omega)).mono ?_
          rintro r w3 ⟨g, rfl, hb3, m3, hg3⟩
          have hps3 := HP.out.1.nn m3
          have hri : Rd w3 (some ⟨g, 0, none⟩) p.n (u8s (bts p)) ∧ ∀ z ∈ bts p, z < 256 := part_rd (w := w3) (p := ⟨some ⟨g, 0, none⟩, p.n, p.c, p.zs⟩) ⟨lent_rd hb3 HPL.out, hpo.2⟩
          have hgn : ¬ InH hb sb rv g := fun hi => by have := HP.out.1.h.inlt g hi; omega
          have hga : (Value.slice A' m c').ownBlock ≠ some g := fun e => by have := (HP.out.1.ownlt e).2; omega
          have hwr := write_any (c := p.n + 12) (HG.out.1.nn hps3.m) hps3.h hri.1 hri.2 (fun _ x hx e => hgn (by obtain ⟨a, ha, hb'⟩ := hx; injection ha with ha; subst ha; exact .inl (by rw [← e]; exact hb'))) (by have := HP.out.2; omega)
          have H3 := Lib.hid (And.intro hps3 (And.intro hb3 (And.intro hgn (And.intro hga (And.intro hg3 hpo)))))
          have H3m := Lib.hid m3
          clear hps3 hb3 m3 hg3 hri hgn hga hpo
          go_wp2_with fail
          refine hwr.mono ?_
          rintro e w4 ⟨rn, rfl, h4, m4, hr4⟩
          have hps4 := H3.out.1.write h4 m4 hr4
          have hb4 := H3.out.2.1.mod m4 H3.out.2.2.1
          have hg4 : ¬ InH hb sb rn g := by
            rintro (e | e | e)
            · exact H3.out.2.2.1 (.inl e)
            · exact H3.out.2.2.1 (.inr (.inl e))
            · have := hr4 g e; have := H3.out.2.1.lt; omega
          have c1 : w4.cell? ⟨g0, off + k, none⟩ = some (.slice p.A p.n p.c) := (hps4.m.cell (p := ⟨g0, off + k, none⟩) HC.out.2.1 (fun f => f)).trans HC.out.1
          have hp4 := (HG.out.2.2.1 p HC.out.2.2.1).nn hps4.m
          have H4 := Lib.hid (And.intro hps4 (And.intro hb4 (And.intro hg4 hp4)))
          clear hwr h4 m4 hr4 hps4 hb4 hg4 hp4 c0
          go_wp2_with fail
          refine (kept_any H4.out.2.2.2.1 H4.out.2.1 (by omega)).mono ?_
          rintro r w5 ⟨rfl, m5⟩
          have hps5 := H4.out.1.nn m5
          have hb5 := H4.out.2.1.mod m5 (fun f => f)
          have H5 := Lib.hid (And.intro hps5 hb5)
          clear m5 hps5 hb5 c1
          go_wp2_with fail
          refine (over_any H5.out.2 (by simp [mks_len, HPL.out]) (by omega)).mono ?_
          rintro r w6 ⟨rfl, m6⟩
          have hps6 := H5.out.1.at_ m6 (by have := HP.out.1.m.size; have := H3.out.2.2.2.2.1; omega) H4.out.2.2.1 H3.out.2.2.2.1
          have c2 : w6.cell? ⟨g0, off + k, none⟩ = some (.slice p.A p.n p.c) := (hps6.m.cell (p := ⟨g0, off + k, none⟩) HC.out.2.1 (fun f => f)).trans HC.out.1
          have hp6 := part_rd ((HG.out.2.2.1 p HC.out.2.2.1).nn hps6.m)
          have hB6 : B ≤ w6.heap.size := hps6.Bs
          have H6 := Lib.hid (And.intro hps6 hp6)
          have ho6 := hps6.own
          rw [← HP.out.2] at ho6
          clear m6 hps6 hp6
          go_wp2_with (first
            | (with_reducible change wpList _ _ _ (⟨some 51, _, _, _, _, _⟩ :: _) _ _
               go_must (refine wpList_append_rd 22 _ _ rfl rfl B 5 (.int .u8 0) 1 1 Tryd.underlying22 info8 rfl (by omega) (.slice A' m c') m _ rfl ho6 p.A p.n p.c (u8s (bts p)) rfl H6.out.2.1.toC (u8s_one _) (by omega) (by omega) hB6 ?_)
               intro v1 wb own1 gr1 ob1))
          have hbl : (bts p).length = p.n := by unfold bts; rw [List.length_map]; exact HPL.out
          have hcs := cat_succ HC.out.2.2.2
          have hcl : m + p.n = (cat L (k + 1)).length := by rw [hcs, List.length_append, hbl, ← HP.out.2]
          rw [← u8s_append, ← hcs, hcl] at own1
          have hps7 := H6.out.1.grow own1 gr1 ob1
          rw [← hcs] at hps7
          obtain ⟨A2, c2', rfl, -, -⟩ := own_form own1
          exact ⟨⟨k + 1, rn, A2, _, c2', by omega, by go_num, rfl, rfl, by omega, hps7⟩, by simp [intOf]; omega⟩
      · have hkn : k = n := by omega
        subst hkn
        have hlt' : ¬ (k : Int) < k := by omega
        have hTl : (cat L k).length ≤ 1099511627776 := by have := HP.out.2; omega
        have hTlt := cat_lt HG.out.2.2.1 k
        obtain ⟨T, hT⟩ : ∃ x, cat L k = x := ⟨_, rfl⟩
        rw [hT] at HP hTl hTlt
        clear hT
        have hs1 := sum_first (HG.out.1.nn HP.out.1.m) HP.out.1.h hTl
        obtain ⟨D, hD⟩ : ∃ x, digL T = x := ⟨_, rfl⟩
        have HD := Lib.hid (show digL T = D ∧ D.length = 32 ∧ ∀ z ∈ D, z < 256 from ⟨hD, hD ▸ digL_len _, hD ▸ digL_lt _⟩)
        rw [hD] at hs1
        clear hD
        go_wp2_with fail
        refine hs1.mono ?_
        rintro e w3 ⟨rfl, ht3, m3⟩
        have hm3' : Mod Nn w w3 := HP.out.1.m.then_ m3 (fun g hg hi => by have := HP.out.1.fr g hi; omega)
        have ho3 := own_mod HP.out.1.own m3 (fun g hg => HP.out.1.sep g hg)
        rw [← HP.out.2] at ho3
        have hDl : (u8s D).length = 32 := by rw [u8s_len, HD.out.2.1]
        have hDs : (u8s (List.replicate 32 0)).toArray.size = (u8s D).toArray.size := by rw [zeroK_size]; simp [hDl]
        have H3 := Lib.hid (And.intro ht3 (And.intro hm3' (And.intro (Rd.of_own ho3) (And.intro hTlt (And.intro hDl hDs)))))
        have hs1 := True.intro
        clear ht3 m3 hm3' ho3 hDl hDs hTlt hs1
        go_upto_region 18 with (first
          | (with_reducible change wpList _ _ _ (⟨some 7, Op.alloc _, _, _, _, _⟩ :: _) _ _
             go_must (refine wpList_alloc_var 26 rfl rfl zeroK ?_)
             intro w4 b4 m4 z4)
          | (with_reducible change wpList _ _ _ (⟨none, Op.store 26 (Operand.tmp 7) _, _, _, _, _⟩ :: _) _ _
             go_must (refine wpList_store_var 26 _ _ rfl rfl w3.heap.size (u8s D).toArray (u8s (List.replicate 32 0)).toArray _ rfl rfl b4 (by rw [sizeK]; simp [H3.out.2.2.2.2.1]) H3.out.2.2.2.2.2 (u8s_all _) ?_)
             intro w5 b5 m5 z5
             have m35 : Mod Nn w3 w5 := (m4.mono (fun g _ f => (f : False).elim)).new_ m5 (Nat.le_refl _)
             have H5 := Lib.hid (And.intro b5 m35)
             clear b4 m4 z4 b5 m5 z5 m35))
        have hbD := H5.out.1.drew
        have hMD : Mod Nn w w5.drew := (H3.out.2.1.nn_ H5.out.2).drew
        have hRD := ((H3.out.2.2.1.mod H5.out.2 (fun _ _ f => f)).drew)
        have hTD : HT w5.drew hb sb rv (T.length : Int) D := (Blk.mod H3.out.1 H5.out.2 (fun f => f)).drew
        have HM := Lib.hid (And.intro hMD (And.intro hRD hTD))
        obtain ⟨KB, hKB⟩ : ∃ x, w3.heap.size = x := ⟨_, rfl⟩
        rw [hKB] at hbD ⊢
        clear hMD hRD hTD hKB
        refine wp_region_planC (fun w' => Blk w' KB 26 (u8s D).toArray) [(0, true), (1, true), (2, false), (3, true), (4, true), (5, true), (6, true), (7, false), (8, true), (9, true), (10, true), (11, true), (13, true), (12, false), (14, true), (15, true), (16, true)] (by kernel_rfl) (by kernel_rfl) hbD ?_
        refine pc_take _ rfl rfl (fun w' hS => exec_load_row (P := Tryd.prog) 26 _ rfl rfl hS Tryd.underlying26 rfl (by rw [sizeK]; simp [H3.out.2.2.2.2.1])) (fun K hK => ?_); go_simp; refine hK _ ?_; clear hK K
        iterate 1 (refine pc_pure rfl rfl (fun K hK => ?_); go_simp; refine hK _ ?_; clear hK K)
        refine pc_call rfl rfl (fun K hK => ?_); go_simp; refine ⟨_, _, ⟨rfl, rfl⟩, hK _ _ _ ?_⟩; clear hK K
        refine (psum_any (HG.out.1.nn HM.out.1) HM.out.2.1 H3.out.2.2.2.1 (by omega)).mono ?_
        rintro r w6 ⟨rfl, m6⟩
        rw [HD.out.1]
        have hb6 := hbD.mod m6 (fun f => f)
        have H6 := Lib.hid (And.intro (HM.out.1.nn_ m6) (show HT w6 hb sb rv (T.length : Int) D from Blk.mod HM.out.2.2 m6 (fun f => f)))
        clear m6 hbD
        refine ⟨_, rfl, hb6, ?_⟩
        refine pc_take _ rfl rfl (fun w' _ => exec_eqK _ _ rfl rfl rfl HD.out.2.1 HD.out.2.2) (fun K hK => ?_); go_simp; refine hK _ ?_; clear hK K
        iterate 3 (refine pc_pure rfl rfl (fun K hK => ?_); go_simp; refine hK _ ?_; clear hK K)
        refine pc_call rfl rfl (fun K hK => ?_); go_simp; refine ⟨_, _, ⟨rfl, rfl⟩, hK _ _ _ ?_⟩; clear hK K
        refine (wtold_any H6.out.2 _).mono ?_
        rintro r w7 ⟨rfl, m7⟩
        have hb7 := hb6.mod m7 (fun f => f)
        have H7 := Lib.hid (And.intro (H6.out.1.nn_ m7) (show HT w7 hb sb rv (T.length : Int) D from Blk.mod H6.out.2 m7 (fun f => f)))
        clear m7 hb6
        refine ⟨_, rfl, hb7, ?_⟩
        iterate 4 (refine pc_pure rfl rfl (fun K hK => ?_); go_simp; refine hK _ ?_; clear hK K)
        refine pc_take _ rfl rfl (fun w' hS => exec_load_row (P := Tryd.prog) 26 _ rfl rfl hS Tryd.underlying26 rfl (by rw [sizeK]; simp [H3.out.2.2.2.2.1])) (fun K hK => ?_); go_simp; refine hK _ ?_; clear hK K
        refine pc_call rfl rfl (fun K hK => ?_); go_simp; refine ⟨_, _, ⟨rfl, rfl⟩, hK _ _ _ ?_⟩; clear hK K
        refine (sum_again H7.out.2 HD.out.2.1).mono ?_
        rintro r w8 ⟨rfl, -, m8⟩
        have hb8 := hb7.mod m8 (fun f => f)
        have H8 := Lib.hid (H7.out.1.nn_ m8)
        clear m8 hb7
        refine ⟨_, rfl, hb8, ?_⟩
        refine pc_take _ rfl rfl (fun w' _ => exec_eqK _ _ rfl rfl rfl HD.out.2.1 HD.out.2.2) (fun K hK => ?_); go_simp; refine hK _ ?_; clear hK K
        iterate 2 (refine pc_pure rfl rfl (fun K hK => ?_); go_simp; refine hK _ ?_; clear hK K)
        refine pc_nil ?_
        go_wp2
        go_ret
        exact ⟨rfl, H8.out⟩
end Go.Proofs.YtbocdgmkiajihaaDoor
