/- (*loader).part: inners (printed by wip/gen/ldpart.py). -/
import Derived.Test.YtkcpmkeckcnobaaLdB
import Derived.Test.YtkcpmkeckcnobaaTrH
namespace Go.Proofs.Ytkcpmkeckcnobaa
open Go.RowKit

theorem info_spanz : (Try.prog.info? 130).map (fun i => (i.zero, i.size)) = some (some (.agg #[.pointer none, .pointer none]), 2) := by kernel_rfl
theorem size_keyp : (Try.prog.info? 128).map (·.size) = some 1 := by kernel_rfl
theorem size_slP5 : (Try.prog.info? 104).map (·.size) = some 1 := by kernel_rfl
theorem exec_bpart1 {w : World} {o : Oper} {a : Act} {x : Operand} {v : Value} (ho : o.op = .buildSlice 104 1 #[(0, x)]) (hx : a.eval x = v) (hv : v.cells = #[v]) :
    (execOp a.eval o).run Try.prog w = .ok (.value (.slice (some ⟨w.heap.size, 0, none⟩) 1 1)) (w.alloc (.cells #[v] 37)) := by
  have := exec_bsliceN (P := Try.prog) (w := w) (a := a) 104 37 1 _ [v] ho uuP info_partz (by omega) (by omega) (by simp [hx, List.zipIdx]) rfl (by intro q hq; simp only [List.mem_cons, List.not_mem_nil, or_false] at hq; subst hq; simp [hv])
  simpa [hv] using this
theorem lkids_step {V : Int → Spn → List Bool → UR} {s : Spn} {keys : List (List Nat)} {kids : List Int} {q dd : Nat} {z : Int} {out : List (List Nat)} {σ : List Bool} (hz : kids[q]? = some z) :
    lkidsM V s keys (kids.drop q) q out dd σ = match V z (s.kid keys q) σ with
      | none => none
      | some (l, d, σ') => if (decide (0 < q) && decide (d ≠ dd)) then none else lkidsM V s keys (kids.drop (q + 1)) (q + 1) (out ++ l) d σ' := by
  obtain ⟨h1, rfl⟩ := List.getElem?_eq_some_iff.1 hz
  rw [List.drop_eq_getElem_cons h1]
  rfl
theorem keyPtr {w : World} {gK kc i : Nat} {ks : List (List Nat)} {k : List Nat} (h : Hold w 23 40 (some ⟨gK, 0, none⟩) ks.length kc (bv ks.flatten)) (hr : Rows 40 ks) (hi : ks[i]? = some k) : PtrAt w (some ⟨gK, i * 40, none⟩) (some k) := by
  obtain ⟨g, off, e, hc⟩ := row_cells h.rd hr hi rfl (by omega)
  obtain ⟨g', e'⟩ := h.of_ (by have := (List.getElem?_eq_some_iff.1 hi).1; omega)
  injection e with e; injection e with e1 e2 _
  subst e1 e2
  have hk := hr k (List.mem_of_getElem? hi)
  exact ⟨gK, i * 40, rfl, hk.1, hk.2, fun j v hv => by have := hc j v hv; rwa [Nat.zero_add] at this⟩
theorem entsOf_snoc (ts : List Kid) (t : Kid) : entsOf (ts ++ [t]) = entsOf ts ++ t.L := by
  unfold entsOf
  rw [List.flatMap_append]; simp
section
variable {w0 w : World} {lb gs k gA oA n c cs cnt : Nat} {σ : List Bool} {N : Nd} {EA KA CA : Option Addr} {en ec kn kc cn cc : Nat} {pl ph : Option Addr} {s : Spn} {top : Bool} {V : Int → Spn → List Bool → UR} {f : Nat}
set_option maxRecDepth 100000 in
set_option maxHeartbeats 25600000 in
theorem part_inner (h : PartH w0 w lb gs k gA oA n c cs cnt σ N EA KA CA en ec kn kc cn cc pl ph s) (hrt : N.right = true) (hleaf : N.leaf = false) (hus : unseen σ ≤ f + 1)
    (hVF : ∀ a s' σ1 L d σ2, V a s' σ1 = some (L, d, σ2) → d ≤ 2000 ∧ s'.all L = true ∧ unseen σ2 ≤ unseen σ1)
    (ih : ∀ (w : World) (a : Int) (s' : Spn) (pl ph : Option Addr) (σ1 : List Bool) (cnt1 : Nat), Mod Nn w0 w → Ldr w lb gs (some ⟨gA, oA, none⟩) n c cs cnt1 σ1 → unseen σ1 ≤ f → PtrAt w pl s'.lo → PtrAt w ph s'.hi → (∀ g, Of pl g → g ≠ lb ∧ g ≠ gs) → (∀ g, Of ph g → g ≠ lb ∧ g ≠ gs) → Calls Try.prog 56 #[.pointer (some ⟨lb, 0, none⟩), .int .i64 a, spV pl ph, .bool false] w (PartP w lb gs (some ⟨gA, oA, none⟩) n c cs false (V a s' σ1))) :
    Calls Try.prog 56 #[.pointer (some ⟨lb, 0, none⟩), .int .i64 (k : Int), spV pl ph, .bool top] w (PartP w lb gs (some ⟨gA, oA, none⟩) n c cs top (lastM (N.little && !top) (lkidsM V s N.keys N.kids 0 [] 0 (σ.set k true)))) := by
  have hif := right_inner_facts hrt hleaf
  have hlit : N.little = decide (cn < 10) := by unfold Nd.little; rw [if_neg (by rw [hleaf]; decide), h.nd.cl]
  have hcl1 : N.kids.length = cn := h.nd.cl
  have hkl1 : N.keys.length = kn := h.nd.kl
  rw [hcl1, hkl1] at hif
  have hcn2 : 2 ≤ cn := hif.1
  have hcn20 : cn ≤ 20 := hif.2.1
  have hkn1 : kn + 1 ≤ cn := by omega
  have hkn2 : cn ≤ kn + 1 := by omega
  have hu1 : unseen (σ.set k true) ≤ f := by have := unseen_set h.un; omega
  have HIH := Lib.hid ih
  have HVF := Lib.hid hVF
  have HIF := Lib.hid (And.intro hif.2.2.2 (And.intro hlit (And.intro hcl1 (And.intro hkl1 hu1))))
  have hleaf2 := hleaf
  obtain ⟨resK, hres⟩ : ∃ resK, lkidsM V s N.keys N.kids 0 [] 0 (σ.set k true) = resK := ⟨_, rfl⟩
  rw [hres]
  have HRES := Lib.hid hres
  obtain ⟨res, hres2⟩ : ∃ res, lastM (N.little && !top) resK = res := ⟨_, rfl⟩
  rw [hres2]
  have HRS := Lib.hid hres2
  clear hres2
  clear hif hlit hcl1 hkl1 hu1 ih hVF hus hres
  have hk' : (k : Int) < n := by have := h.lt; omega
  have hklt : k < n := h.lt
  have hg0 : ¬ (k : Int) < 0 := by omega
  have hg1 : ¬ (n : Int) ≤ k := by omega
  obtain ⟨lf, hlf⟩ : ∃ lf, N.leaf = lf := ⟨_, rfl⟩
  obtain rfl : lf = false := hlf.symm.trans hleaf2
  clear hleaf2 hleaf
  have hga : gA < w0.heap.size := World.block_lt_of_cell? w0 _ (h.cl 0 _ rfl)
  have hcl := h.cl
  rw [hlf] at hcl
  have hb0 := h.b0
  have hgg0 := h.g0
  have hne := h.ne
  have h0w : w0.heap.size ≤ w.heap.size := h.m0.size
  have hlbw : lb < w.heap.size := h.ldr.blk.lt
  have hgsw : gs < w.heap.size := h.ldr.row.lt
  have hcnt : cnt ≤ 1000 := by have := h.ldr.num; have := h.le; omega
  have HH := Lib.hid h
  have HCL := Lib.hid hcl
  have HLF := Lib.hid hlf
  have HRT := Lib.hid hrt
  have HSEE := Lib.hid (fun (w' : World) (hm : Mod Nn w w') => (h.ldr.nn hm).see h.ne h.un)
  clear h hcl hlf hrt
  unfold spV
  go_enter Try.func56, Try.ntmps56
  go_upto_region 1 with (first
    | (with_reducible change wpList _ _ _ (⟨some 6, Op.box _ _, _, _, _, _⟩ :: _) _ _
       go_must (refine wpList_box_var 130 _ rfl rfl #[.pointer pl, .pointer ph] rfl ?_)
       intro w1 b1 m1 z1
       clear z1
       have hs1 : w.heap.size < w1.heap.size := b1.lt
       have H1 := Lib.hid (And.intro b1 m1)
       clear b1 m1))
  go_simp
  have hR1 := HH.out.ldr.nn H1.out.2
  have hc0 : w1.cell? ⟨lb, 0, none⟩ = some (.slice (some ⟨gA, oA, none⟩) n c) := hR1.blk.cell 0
  have hc1 : w1.cell? ⟨lb, 1, none⟩ = some (.slice (some ⟨gs, 0, none⟩) n cs) := hR1.blk.cell 1
  have hcs : w1.cell? ⟨gs, k, none⟩ = some (.bool false) := (hR1.row.cell k).trans (by simp [HH.out.un])
  clear hR1
  (try dsimp only); (try go_simp); repeat' (first | ((fail_if_success (with_reducible change Oper.wp _ ⟨some 45, _, _, _, _, _⟩ _ _ _ _)); first | go_values | go_skip | go_guarded | go_step | go_upon | go_back))
  refine wp_valL (exec_elem (P := Try.prog) (g := gA) (off := oA) (q := k) 72 _ _ rfl 77 4 uuN sizeN rfl rfl hklt) ?_
  (try dsimp only); (try go_simp); repeat' (first | ((fail_if_success (with_reducible change Oper.wp _ ⟨some 46, _, _, _, _, _⟩ _ _ _ _)); first | go_values | go_skip | go_guarded | go_step | go_upon | go_back))
  refine wp_valL (exec_load_cells (P := Try.prog) (b := gA) (off := oA + k * 4) (cs := [.bool false, .slice EA en ec, .slice KA kn kc, .slice CA cn cc]) 77 _ rfl rfl (fun j v hv => by
    have h1 := HCL.out j v hv
    rw [(HH.out.m0.nn_ H1.out.2).cell (p := ⟨gA, oA + k * 4 + j, none⟩) (World.block_lt_of_cell? w0 _ h1) (fun f => f)]
    exact h1) Try.underlying77 rfl sizeN) ?_
  have hright := nright_any (ec := ec) (kc := kc) (cc := cc) (HH.out.nd.nn (HH.out.m0.nn_ H1.out.2))
  rw [HLF.out, HRT.out] at hright
  go_wp2_with fail
  refine hright.mono ?_
  rintro r w2 ⟨rfl, m2⟩
  have H2 := Lib.hid (And.intro (H1.out.2.nn_ m2) (H1.out.1.mod m2 (fun f => f)))
  have hs2 : w1.heap.size ≤ w2.heap.size := m2.size
  clear m2 hright hc0 hc1 hcs
  have hR2 := HH.out.ldr.nn H2.out.1
  have hc0 : w2.cell? ⟨lb, 0, none⟩ = some (.slice (some ⟨gA, oA, none⟩) n c) := hR2.blk.cell 0
  have hc1 : w2.cell? ⟨lb, 1, none⟩ = some (.slice (some ⟨gs, 0, none⟩) n cs) := hR2.blk.cell 1
  have hcs : w2.cell? ⟨gs, k, none⟩ = some (.bool false) := (hR2.row.cell k).trans (by simp [HH.out.un])
  have hfs : w2.frozen? ⟨gs, k, none⟩ = false := hR2.row.frozen k
  have hc2 : w2.cell? ⟨lb, 2, none⟩ = some (.int .i64 (cnt : Int)) := hR2.blk.cell 2
  have hcL := HSEE.out w2 H2.out.1
  have hf2 : (w2.setCell ⟨gs, k, none⟩ (.bool true)).frozen? ⟨lb, 2, none⟩ = false := (hR2.blk.mod (Mod.cellAt _ _ _ _ : Mod (At gs) w2 (w2.setCell ⟨gs, k, none⟩ (.bool true))) (fun e => hne e)).frozen 2
  have hc2' : (w2.setCell ⟨gs, k, none⟩ (.bool true)).cell? ⟨lb, 2, none⟩ = some (.int .i64 (cnt : Int)) := (hR2.blk.mod (Mod.cellAt _ _ _ _ : Mod (At gs) w2 (w2.setCell ⟨gs, k, none⟩ (.bool true))) (fun e => hne e)).cell 2
  have HL3 := Lib.hid (And.intro hcL (And.intro hf2 hc2'))
  clear hR2 hcL hf2 hc2' hc2
  go_upto_region 6 with (first
    | (with_reducible change wpList _ _ _ (⟨some 55, _, _, _, _, _⟩ :: _) _ _
       go_must (refine wpList_val rfl (exec_elem (P := Try.prog) (g := gs) (off := 0) (q := k) 80 _ _ rfl 4 1 uuB size_boolu rfl rfl hklt) ?_)
       rw [show 0 + k * 1 = k from by omega])
    | (with_reducible change wpList _ _ _ (⟨none, Op.store _ (Operand.tmp 55) _, _, _, _, _⟩ :: _) _ _
       go_must (refine wpList_unit rfl (exec_store1 (P := Try.prog) (ad := ⟨gs, k, none⟩) (v := .bool true) (u := .bool false) 4 _ _ rfl rfl rfl hcs hfs rfl rfl rfl size_boolu) ?_)
       have m3 : Mod (At gs) w2 (w2.setCell ⟨gs, k, none⟩ (.bool true)) := Mod.cellAt _ _ _ _
       generalize w2.setCell ⟨gs, k, none⟩ (.bool true) = w3 at *
       have M3 := Lib.hid m3
       clear m3)
    | (with_reducible change wpList _ _ _ (⟨some 59, _, _, _, _, _⟩ :: _) _ _
       go_must (refine wpList_val rfl (exec_load1 (P := Try.prog) (v := .int .i64 (cnt : Int)) (ad := ⟨lb, 2, none⟩) 3 _ rfl rfl HL3.out.2.2 Try.underlying3 rfl) ?_))
    | (with_reducible change wpList _ _ _ (⟨none, Op.store _ (Operand.tmp 62) _, _, _, _, _⟩ :: _) _ _
       go_must (refine wpList_unit rfl (exec_store1 (P := Try.prog) (ad := ⟨lb, 2, none⟩) (v := .int .i64 ((cnt + 1 : Nat) : Int)) (u := .int .i64 (cnt : Int)) 3 _ _ rfl rfl (by go_num) HL3.out.2.2 HL3.out.2.1 rfl rfl rfl size_intL) ?_)
       have hR4 := HL3.out.1
       have m4 : Mod (At lb) w3 (w3.setCell ⟨lb, 2, none⟩ (.int .i64 ((cnt + 1 : Nat) : Int))) := Mod.cellAt _ _ _ _
       generalize w3.setCell ⟨lb, 2, none⟩ (.int .i64 ((cnt + 1 : Nat) : Int)) = w4 at *
       have m24 : Mod (fun g => g = lb ∨ g = gs) w2 w4 := (M3.out.mono (fun _ _ e => .inr e)).trans (m4.mono (fun _ _ e => .inl e))
       have H4 := Lib.hid (And.intro hR4 (And.intro (H2.out.1.nn.trans m24) (And.intro (H2.out.2.mod m24 (fun e => by rcases e with e | e <;> omega)) (HH.out.m0.then_ (H2.out.1.nn.trans m24) (fun g hg e => by rcases e with rfl | rfl <;> omega)))))
       have hs4 : w2.heap.size ≤ w4.heap.size := m24.size
       clear hR4 m4 m24)
    | (with_reducible change wpList _ _ _ (⟨some 66, _, _, _, _, _⟩ :: _) _ _
       go_must (refine wpList_val rfl (exec_load1 (P := Try.prog) (v := .slice (some ⟨gA, oA, none⟩) n c) (ad := ⟨lb, 0, none⟩) 72 _ rfl rfl (H4.out.1.blk.cell 0) Try.underlying72 rfl) ?_))
    | (with_reducible change wpList _ _ _ (⟨some 68, _, _, _, _, _⟩ :: _) _ _
       go_must (refine wpList_val rfl (exec_elem (P := Try.prog) (g := gA) (off := oA) (q := k) 72 _ _ rfl 77 4 uuN sizeN rfl rfl hklt) ?_))
    | (with_reducible change wpList _ _ _ (⟨some 69, _, _, _, _, _⟩ :: _) _ _
       go_must (refine wpList_val rfl (exec_load_cells (P := Try.prog) (b := gA) (off := oA + k * 4) (cs := [.bool false, .slice EA en ec, .slice KA kn kc, .slice CA cn cc]) 77 _ rfl rfl (fun j v hv => by
         have h1 := HCL.out j v hv
         rw [H4.out.2.2.2.cell (p := ⟨gA, oA + k * 4 + j, none⟩) (World.block_lt_of_cell? w0 _ h1) (fun f => f)]
         exact h1) Try.underlying77 rfl sizeN) ?_))
    | (with_reducible change wpList _ _ _ (⟨some 10, Op.alloc _, _, _, _, _⟩ :: _) _ _
       go_must (refine wpList_alloc_var 77 rfl rfl infoN2 ?_)
       intro w5 b5 m5 z5
       clear z5
       have H5 := Lib.hid (And.intro m5 b5)
       have hs5 : w4.heap.size < w5.heap.size := b5.lt
       clear m5 b5)
    | (with_reducible change wpList _ _ _ (⟨none, Op.store _ (Operand.tmp 10) _, _, _, _, _⟩ :: _) _ _
       go_must (refine wpList_store_var 77 _ _ rfl rfl w4.heap.size #[.bool false, .slice EA en ec, .slice KA kn kc, .slice CA cn cc] _ _ rfl rfl H5.out.2 sizeN rfl (by simp [Value.oneCell']) ?_)
       intro w6 b6 m6 z6
       clear z6
       have h46 : Mod Nn w4 w6 := H5.out.1.new_ m6 (Nat.le_refl _)
       have H6 := Lib.hid (And.intro (H4.out.1.nn h46) (And.intro b6 (And.intro (H4.out.2.1.nn_ h46) (And.intro (H4.out.2.2.1.mod h46 (fun f => f)) (H4.out.2.2.2.nn_ h46)))))
       have hs6 : w4.heap.size < w6.heap.size := b6.lt
       clear m6 b6 h46))
  go_simp
  obtain ⟨nb, hnb⟩ : ∃ nb, w4.heap.size = nb := ⟨_, rfl⟩
  rw [hnb] at H6 hs6 ⊢
  have hnbw : w.heap.size < nb := by omega
  clear hcs hfs H5
  have hl0 : w6.cell? ⟨nb, 0, none⟩ = some (.bool false) := H6.out.2.1.cell 0
  have hl2 : w6.cell? ⟨nb, 2, none⟩ = some (.slice KA kn kc) := H6.out.2.1.cell 2
  go_wp2_with fail
  refine (scloneK_any (c := kc) (HH.out.nd.k.md (by omega) H6.out.2.2.2.2 (fun _ _ f => f)) (bv_one _) (by omega)).mono ?_
  rintro r w7 ⟨K', kc', rfl, hh, m7, hK'⟩
  have hs7 : w6.heap.size ≤ w7.heap.size := m7.size
  rw [← HIF.out.2.2.2.1] at hh
  obtain ⟨gK, rfl⟩ := hh.of_ (by rw [HIF.out.2.2.2.1]; omega)
  have hgK : w6.heap.size ≤ gK := hK' gK ⟨_, rfl, rfl⟩
  have hgK7 : gK < w7.heap.size := hh.lt ⟨_, rfl, rfl⟩
  have H7 := Lib.hid (And.intro (H6.out.1.nn m7) (And.intro hh (And.intro (H6.out.2.2.1.nn_ m7) (And.intro (H6.out.2.2.2.1.mod m7 (fun f => f)) (And.intro (H6.out.2.2.2.2.nn_ m7) (H6.out.2.1.mod m7 (fun f => f)))))))
  clear hh m7 hK' hl0 hl2
  go_upto_region 12 with (first
    | (with_reducible change wpList _ _ _ (⟨some 96, _, _, _, _, _⟩ :: _) _ _
       go_must (refine wpList_val rfl (exec_innerc (A := some ⟨gK, 0, none⟩) (n := kn) (c := kc') rfl rfl) ?_))
    | (with_reducible change wpList _ _ _ (⟨some 97, Op.box _ _, _, _, _, _⟩ :: _) _ _
       go_must (refine wpList_box_var 106 _ rfl rfl #[.slice (some ⟨gK, 0, none⟩) kn kc', .slice none 0 0] rfl ?_)
       intro w8 b8 m8 z8
       clear z8
       have hs8 : w7.heap.size < w8.heap.size := b8.lt
       have H8 := Lib.hid (And.intro (H7.out.1.nn m8) (And.intro (H7.out.2.1.nn m8) (And.intro (H7.out.2.2.1.nn_ m8) (And.intro (H7.out.2.2.2.1.mod m8 (fun f => f)) (And.intro (H7.out.2.2.2.2.1.nn_ m8) (And.intro b8 (H7.out.2.2.2.2.2.mod m8 (fun f => f))))))))
       clear b8 m8))
  go_simp
  -- zzA
  have hl3 : w8.cell? ⟨nb, 3, none⟩ = some (.slice CA cn cc) := H8.out.2.2.2.2.2.2.cell 3
  have HGK := Lib.hid (show gK ≠ lb ∧ gK ≠ gs from ⟨by omega, by omega⟩)
  have HGK2 := Lib.hid (show w.heap.size ≤ gK ∧ gK < w8.heap.size ∧ gK ≠ w7.heap.size from ⟨by omega, by omega, by omega⟩)
  have HM0 := Lib.hid HH.out.m0
  have HKY := Lib.hid (show ∀ i, i < kn → N.keys[i]? = some (N.keys.getD i []) from fun i hi => by rw [List.getD_eq_getElem?_getD, List.getElem?_eq_getElem (by rw [HIF.out.2.2.2.1]; exact hi)]; rfl)
  have hkl1 : N.keys.length ≤ kn := Nat.le_of_eq HIF.out.2.2.2.1
  have hkl2 : kn ≤ N.keys.length := Nat.le_of_eq HIF.out.2.2.2.1.symm
  have hb8 := H8.out.2.2.2.2.2.1
  rw [← HIF.out.2.2.2.1] at hb8
  have hM8 : LdM w w8 w8 lb gs nb w.heap.size w7.heap.size (some ⟨gA, oA, none⟩) n c cs (cnt + 1) (σ.set k true) #[.bool false, .slice EA en ec, .slice KA kn kc, .slice CA cn cc] #[.pointer pl, .pointer ph] (some ⟨gK, 0, none⟩) kc' N.keys 0 [] none 0 0 :=
    ⟨H8.out.1, H8.out.2.2.2.2.2.2, H8.out.2.2.2.1, hb8, H8.out.2.1, Hold.nil _ _ _, rfl, (fun t ht => (by cases ht)), (fun g hg => (by obtain ⟨_, e, _⟩ := hg; cases e)), (fun g hg => (by cases hg)), List.nodup_nil, H8.out.2.2.1, Nat.le_refl _⟩
  have HM8 := Lib.hid hM8
  clear hM8 hb8
  go_wp2_with fail
  -- zzL
  clear hl3
  go_loopw [13, 101] (fun dp i wr => ∃ (q dd cntq : Nat) (D : Nat) (ts : List Kid) (σq : List Bool) (C : Option Addr) (cq : Nat), q ≤ cn ∧ dd ≤ 2000 ∧ dp = .int .i64 (dd : Int) ∧ i = .int .i64 (q : Int) ∧ Hid (LdM w w8 wr lb gs nb w.heap.size w7.heap.size (some ⟨gA, oA, none⟩) n c cs cntq σq #[.bool false, .slice EA en ec, .slice KA kn kc, .slice CA cn cc] #[.pointer pl, .pointer ph] (some ⟨gK, 0, none⟩) kc' N.keys D ts C q cq ∧ (ts ≠ [] → dd = D + 1) ∧ unseen σq ≤ f ∧ resK = lkidsM V s N.keys (N.kids.drop q) q (entsOf ts) dd σq ∧ (∀ j t, ts[j]? = some t → (s.kid N.keys j).all t.L = true))) (fun _ i _ => cn - (intOf i).toNat)
  case atStart => exact ⟨0, 0, cnt + 1, 0, [], σ.set k true, none, 0, Nat.zero_le _, by omega, rfl, rfl, Lib.hid ⟨HM8.out, fun h => absurd rfl h, HIF.out.2.2.2.2, HRES.out.symm, fun j t ht => by simp at ht⟩⟩
  case round =>
    obtain ⟨q, dd, cntq, D, ts, σq, C, cq, hq, hdd2, rfl, rfl, HR⟩ := hrel
    have h8r : w8.heap.size ≤ wr.heap.size := HR.out.1.sz
    by_cases hlt : q < cn
    · have hlt' : (q : Int) < cn := by omega
      obtain ⟨g, off, v, rfl, hv, hc⟩ := (HH.out.nd.c.mod (HM0.out.then_ HR.out.1.md (fun g hg e => by rcases e with rfl | rfl <;> omega)) (fun _ _ f => f)).at_ hlt
      rw [List.getElem?_map] at hv
      obtain ⟨z, hz, rfl⟩ := Option.map_eq_some_iff.1 hv
      have HZ := Lib.hid hz
      clear hv hz
      have htl := HR.out.1.tl
      cases q with
      | zero =>
        have hts : ts = [] := List.eq_nil_of_length_eq_zero htl
        have hkq' : (0 : Int) < (N.keys.length : Int) := by omega
        rw [Nat.add_zero] at hc
        clear htl
        go_wp2_with (first
        | (with_reducible change wpList _ _ _ (⟨some 106, _, _, _, _, _⟩ :: _) _ _
           go_must (refine wpList_val rfl (exec_load_row (P := Try.prog) (g := w.heap.size) (cs := #[.pointer pl, .pointer ph]) 130 _ rfl rfl HR.out.1.sblk Try.underlying130 rfl size_span) ?_))
        | (with_reducible change wpList _ _ _ (⟨some 16, Op.alloc _, _, _, _, _⟩ :: _) _ _
           go_must (refine wpList_alloc_var 130 rfl rfl info_spanz ?_)
           intro w10 b10 m10 z10
           clear z10
           have H10 := Lib.hid (And.intro m10 b10)
           have hs10 : wr.heap.size < w10.heap.size := b10.lt
           clear m10 b10)
        | (with_reducible change wpList _ _ _ (⟨none, Op.store _ (Operand.tmp 16) _, _, _, _, _⟩ :: _) _ _
           go_must (refine wpList_store_var 130 _ _ rfl rfl wr.heap.size #[.pointer pl, .pointer ph] _ _ rfl rfl H10.out.2 size_span rfl (by simp [Value.oneCell']) ?_)
           intro w11 b11 m11 z11
           clear z11
           have M11 := Lib.hid (H10.out.1.new_ m11 (Nat.le_refl _))
           have HM11 := Lib.hid (HR.out.1.nn M11.out)
           have B11 := Lib.hid b11
           clear m11 b11)
        | (with_reducible change wpList _ _ _ (⟨some 121, _, _, _, _, _⟩ :: _) _ _
           go_must (refine wpList_val rfl (exec_load1 (P := Try.prog) (v := .slice (some ⟨gK, 0, none⟩) N.keys.length kc') (ad := ⟨w7.heap.size, 0, none⟩) 75 _ rfl rfl (HM11.out.pblk.cell 0) Try.underlying75 rfl) ?_))
        | (with_reducible change wpList _ _ _ (⟨some 127, _, _, _, _, _⟩ :: _) _ _
           go_must (refine wpList_val rfl (exec_load1 (P := Try.prog) (v := .slice (some ⟨gK, 0, none⟩) N.keys.length kc') (ad := ⟨w7.heap.size, 0, none⟩) 75 _ rfl rfl (HM11.out.pblk.cell 0) Try.underlying75 rfl) ?_))
        | (with_reducible change wpList _ _ _ (⟨some 129, _, _, _, _, _⟩ :: _) _ _
           go_must (refine wpList_val rfl (exec_elem (P := Try.prog) (g := gK) (off := 0) (q := 0) 75 _ _ rfl 23 40 Try.underlying75 size_keyT rfl rfl (by omega)) ?_))
        | (with_reducible change wpList _ _ _ (⟨none, Op.store _ (Operand.tmp 130) _, _, _, _, _⟩ :: _) _ _
           go_must (refine wpList_unit rfl (exec_store1 (P := Try.prog) (ad := ⟨wr.heap.size, 1, none⟩) (v := .pointer (some ⟨gK, 0, none⟩)) (u := .pointer ph) 128 _ _ rfl rfl rfl (B11.out.cell 1) (B11.out.frozen 1) rfl rfl rfl size_keyp) ?_)
           have b13 : Blk (w11.setCell ⟨wr.heap.size, 1, none⟩ (.pointer (some ⟨gK, 0, none⟩))) wr.heap.size 130 #[.pointer pl, .pointer (some ⟨gK, 0, none⟩)] := B11.out.set_ 1 _
           have m13 : Mod (At wr.heap.size) w11 (w11.setCell ⟨wr.heap.size, 1, none⟩ (.pointer (some ⟨gK, 0, none⟩))) := Mod.cellAt _ _ _ _
           generalize w11.setCell ⟨wr.heap.size, 1, none⟩ (.pointer (some ⟨gK, 0, none⟩)) = w13 at *
           have M13 := Lib.hid (M11.out.new_ m13 (Nat.le_refl _))
           have HM13 := Lib.hid (HR.out.1.nn M13.out)
           have B13 := Lib.hid b13
           clear b13 m13)
        | (with_reducible change wpList _ _ _ (⟨some 134, _, _, _, _, _⟩ :: _) _ _
           go_must (refine wpList_val rfl (exec_load_row (P := Try.prog) (g := wr.heap.size) (cs := #[.pointer pl, .pointer (some ⟨gK, 0, none⟩)]) 130 _ rfl rfl B13.out Try.underlying130 rfl size_span) ?_)))
        refine (HIH.out w13 z (s.kid N.keys 0) pl (some ⟨gK, 0, none⟩) σq cntq (HM0.out.then_ HM13.out.md (fun g hg e => by rcases e with rfl | rfl <;> omega)) HM13.out.ldr HR.out.2.2.1 (by simp only [Spn.kid]; rw [if_neg (by omega)]; exact HH.out.lo.mod HM13.out.md (fun g hg e => by have := HH.out.los g hg; rcases e with e | e <;> omega)) (by simp only [Spn.kid]; rw [if_pos (by omega)]; exact keyPtr HM13.out.krow HH.out.nd.ok.k (HKY.out 0 (by omega))) HH.out.los (fun g hg => by obtain ⟨a, e, rfl⟩ := hg; injection e with e; subst e; exact HGK.out)).mono ?_
        rintro r w14 ⟨m14, hr14⟩
        have hst := lkids_step (V := V) (s := s) (keys := N.keys) (dd := dd) (out := entsOf ts) (σ := σq) HZ.out
        rw [← HR.out.2.2.2.1] at hst
        obtain ⟨vres, hvres⟩ : ∃ vres, V z (s.kid N.keys 0) σq = vres := ⟨_, rfl⟩
        rw [hvres] at hr14 hst
        have HST := Lib.hid hst
        have HVR := Lib.hid hvres
        clear hst hvres
        rcases vres with _ | ⟨l, d, σ'⟩
        · -- the kid is none
          obtain rfl := hr14
          have hrk : resK = none := HST.out
          have H14 := Lib.hid (HM13.out.md.trans m14)
          clear m14 HST
          go_wp2
          go_ret2
          exact ⟨H14.out, by rw [← HRS.out, hrk]; rfl⟩
        obtain ⟨D', v, k', F', cnt', rfl, rfl, ht', hk', -, hlo', hF', hL'⟩ := hr14
        obtain ⟨T, gt, rfl⟩ := tree_iface ht'
        have hVF := HVF.out z (s.kid N.keys 0) σq l (D' + 1) σ' HVR.out
        have hd2000 : D' + 1 ≤ 2000 := hVF.1
        have hs14 : w13.heap.size ≤ w14.heap.size := m14.size
        have hM14 := HM13.out.call hlbw hgsw (by omega) (by omega) (Nat.le_refl _) (by omega) (fun g hg => by obtain ⟨a, e, rfl⟩ := hg; injection e with e; subst e; exact HGK2.out.1) hL' m14
        have H14 := Lib.hid (And.intro hM14 (And.intro ht' (And.intro hk' (And.intro (hlo' rfl) (And.intro hF' hVF)))))
        clear hM14 ht' hk' hlo' hF' hVF m14 hL'
        have hst2 : resK = lkidsM V s N.keys (N.kids.drop 1) 1 (entsOf ts ++ l) (D' + 1) σ' := HST.out
        have HST2 := Lib.hid hst2
        clear hst2 HST
        -- zzT
        go_wp2_with (first
          | (with_reducible change wpList _ _ _ (⟨some 154, _, _, _, _, _⟩ :: _) _ _
             go_must (refine wpList_val rfl (exec_load1 (P := Try.prog) (v := .slice C 0 cq) (ad := ⟨w7.heap.size, 1, none⟩) 104 _ rfl rfl (H14.out.1.pblk.cell 1) Try.underlying104 rfl) ?_))
          | (with_reducible change wpList _ _ _ (⟨some 156, _, _, _, _, _⟩ :: _) _ _
             go_must (refine wpList_val rfl (exec_bpart1 (v := .iface T (.pointer (some ⟨gt, 0, none⟩))) rfl rfl rfl) ?_)
             have b15 : Blk (w14.alloc (.cells #[.iface T (.pointer (some ⟨gt, 0, none⟩))] 37)) w14.heap.size 37 #[.iface T (.pointer (some ⟨gt, 0, none⟩))] := Blk.new _ _ _
             have m15 : Mod Nn w14 (w14.alloc (.cells #[.iface T (.pointer (some ⟨gt, 0, none⟩))] 37)) := (Mod.refl _ _).alloc _
             generalize w14.alloc (.cells #[.iface T (.pointer (some ⟨gt, 0, none⟩))] 37) = w15 at *
             have H15 := Lib.hid (And.intro (H14.out.1.nn m15) (And.intro b15 m15))
             have hs15 : w14.heap.size ≤ w15.heap.size := m15.size
             clear b15 m15)
          | (with_reducible change wpList _ _ _ (⟨some 157, _, _, _, _, _⟩ :: _) _ _
             go_must (refine wpList_append_hold 1 104 _ _ rfl rfl zP 16 uuP infoP zsP (by omega) rfl H15.out.1.crow rfl (RdC.of_blk (m := 1) H15.out.2.1 rfl) (by simp [Value.oneCell']) (by omega) (by omega) ?_)
             intro C' cq' w16 h16 m16 hC'
             have hp16 := H15.out.1.pblk.mod m16 (fun ho => by have := H15.out.1.cf _ ho; omega)
             have hpc := hp16.cell 1
             have hpf := hp16.frozen 1
             have H16 := Lib.hid (And.intro h16 (And.intro m16 (And.intro hC' (And.intro hpc hpf))))
             clear h16 m16 hC' hp16 hpc hpf)
          | (with_reducible change wpList _ _ _ (⟨none, Op.store _ (Operand.tmp 159) _, _, _, _, _⟩ :: _) _ _
             go_must (refine wpList_unit rfl (exec_store1 (P := Try.prog) (ad := ⟨w7.heap.size, 1, none⟩) (v := .slice C' (1) cq') (u := .slice C 0 cq) 104 _ _ rfl rfl rfl H16.out.2.2.2.1 H16.out.2.2.2.2 rfl rfl rfl size_slP5) ?_)
             have hM17 := LdM.push (t := ⟨.iface T (.pointer (some ⟨gt, 0, none⟩)), l, k', F'⟩) (H15.out.1.anyD hts D') hlbw hgsw (by omega) (by omega) (by omega) (by omega) (by omega) (by omega) (by omega) (fun g hg => by obtain ⟨a, e, rfl⟩ := hg; injection e with e; subst e; exact HGK2.out) (H14.out.2.1.nn H15.out.2.2) ⟨H14.out.2.2.2.1, H14.out.2.2.1⟩ (fun g hg => by
               have h1 := H14.out.2.2.2.2.1 g hg
               have h2 := HM13.out
               have h3 := h2.sz
               refine ⟨by omega, fun hf => ?_, fun ho => ?_⟩
               · obtain ⟨u, hu, hgu⟩ := mem_foot.1 hf
                 have := (h2.kids u hu).1.lt g hgu
                 omega
               · have := h2.crow.lt ho
                 omega) H16.out.1 H16.out.2.1 H16.out.2.2.1
             simp only [Nat.zero_add] at hM17
             generalize w16.setCell ⟨w7.heap.size, 1, none⟩ (.slice C' (1) cq') = w17 at *
             have H17 := Lib.hid hM17
             clear hM17))
        -- zzU
        exact ⟨⟨1, D' + 1, cnt', D', ts ++ [⟨.iface T (.pointer (some ⟨gt, 0, none⟩)), l, k', F'⟩], σ', C', cq', by omega, hd2000, rfl, by go_num, Lib.hid ⟨H17.out, fun _ => rfl, Nat.le_trans H14.out.2.2.2.2.2.2.2 HR.out.2.2.1, by rw [entsOf_snoc]; exact HST2.out, fun j t ht => by
          rcases Nat.lt_or_ge j ts.length with h | h
          · rw [List.getElem?_append_left h] at ht
            exact HR.out.2.2.2.2 j t ht
          · have hjl := (List.getElem?_eq_some_iff.1 ht).1
            rw [List.length_append, List.length_singleton] at hjl
            have htl := HR.out.1.tl
            obtain rfl : j = ts.length := by omega
            rw [List.getElem?_append_right (Nat.le_refl _), Nat.sub_self] at ht
            injection ht with ht
            subst ht
            rw [htl]
            exact H14.out.2.2.2.2.2.2.1⟩⟩, by simp [intOf]; omega⟩
      | succ p =>
        have hq0 : (0 : Int) < ((p + 1 : Nat) : Int) := by omega
        have hts : ts ≠ [] := fun e => by rw [e] at htl; simp at htl
        clear htl
        by_cases hkq : p + 1 < kn
        · have hkq' : (p : Int) + 1 < (N.keys.length : Int) := by omega
          go_wp2_with (first
          | (with_reducible change wpList _ _ _ (⟨some 106, _, _, _, _, _⟩ :: _) _ _
             go_must (refine wpList_val rfl (exec_load_row (P := Try.prog) (g := w.heap.size) (cs := #[.pointer pl, .pointer ph]) 130 _ rfl rfl HR.out.1.sblk Try.underlying130 rfl size_span) ?_))
          | (with_reducible change wpList _ _ _ (⟨some 16, Op.alloc _, _, _, _, _⟩ :: _) _ _
             go_must (refine wpList_alloc_var 130 rfl rfl info_spanz ?_)
             intro w10 b10 m10 z10
             clear z10
             have H10 := Lib.hid (And.intro m10 b10)
             have hs10 : wr.heap.size < w10.heap.size := b10.lt
             clear m10 b10)
          | (with_reducible change wpList _ _ _ (⟨none, Op.store _ (Operand.tmp 16) _, _, _, _, _⟩ :: _) _ _
             go_must (refine wpList_store_var 130 _ _ rfl rfl wr.heap.size #[.pointer pl, .pointer ph] _ _ rfl rfl H10.out.2 size_span rfl (by simp [Value.oneCell']) ?_)
             intro w11 b11 m11 z11
             clear z11
             have M11 := Lib.hid (H10.out.1.new_ m11 (Nat.le_refl _))
             have HM11 := Lib.hid (HR.out.1.nn M11.out)
             have B11 := Lib.hid b11
             clear m11 b11)
          | (with_reducible change wpList _ _ _ (⟨some 112, _, _, _, _, _⟩ :: _) _ _
             go_must (refine wpList_val rfl (exec_load1 (P := Try.prog) (v := .slice (some ⟨gK, 0, none⟩) N.keys.length kc') (ad := ⟨w7.heap.size, 0, none⟩) 75 _ rfl rfl (HM11.out.pblk.cell 0) Try.underlying75 rfl) ?_))
          | (with_reducible change wpList _ _ _ (⟨some 115, _, _, _, _, _⟩ :: _) _ _
             go_must (refine wpList_val rfl (exec_elem (P := Try.prog) (g := gK) (off := 0) (q := p) 75 _ _ rfl 23 40 Try.underlying75 size_keyT rfl (by go_num) (by omega)) ?_))
          | (with_reducible change wpList _ _ _ (⟨none, Op.store _ (Operand.tmp 116) _, _, _, _, _⟩ :: _) _ _
             go_must (refine wpList_unit rfl (exec_store1 (P := Try.prog) (ad := ⟨wr.heap.size, 0, none⟩) (v := .pointer (some ⟨gK, p * 40, none⟩)) (u := .pointer pl) 128 _ _ rfl rfl rfl (B11.out.cell 0) (B11.out.frozen 0) rfl rfl rfl size_keyp) ?_)
             have b12 : Blk (w11.setCell ⟨wr.heap.size, 0, none⟩ (.pointer (some ⟨gK, p * 40, none⟩))) wr.heap.size 130 #[.pointer (some ⟨gK, p * 40, none⟩), .pointer ph] := B11.out.set_ 0 _
             have m12 : Mod (At wr.heap.size) w11 (w11.setCell ⟨wr.heap.size, 0, none⟩ (.pointer (some ⟨gK, p * 40, none⟩))) := Mod.cellAt _ _ _ _
             generalize w11.setCell ⟨wr.heap.size, 0, none⟩ (.pointer (some ⟨gK, p * 40, none⟩)) = w12 at *
             have M12 := Lib.hid (M11.out.new_ m12 (Nat.le_refl _))
             have HM12 := Lib.hid (HR.out.1.nn M12.out)
             have B12 := Lib.hid b12
             clear b12 m12)
          | (with_reducible change wpList _ _ _ (⟨some 121, _, _, _, _, _⟩ :: _) _ _
             go_must (refine wpList_val rfl (exec_load1 (P := Try.prog) (v := .slice (some ⟨gK, 0, none⟩) N.keys.length kc') (ad := ⟨w7.heap.size, 0, none⟩) 75 _ rfl rfl (HM12.out.pblk.cell 0) Try.underlying75 rfl) ?_))
          | (with_reducible change wpList _ _ _ (⟨some 127, _, _, _, _, _⟩ :: _) _ _
             go_must (refine wpList_val rfl (exec_load1 (P := Try.prog) (v := .slice (some ⟨gK, 0, none⟩) N.keys.length kc') (ad := ⟨w7.heap.size, 0, none⟩) 75 _ rfl rfl (HM12.out.pblk.cell 0) Try.underlying75 rfl) ?_))
          | (with_reducible change wpList _ _ _ (⟨some 129, _, _, _, _, _⟩ :: _) _ _
             go_must (refine wpList_val rfl (exec_elem (P := Try.prog) (g := gK) (off := 0) (q := (p + 1)) 75 _ _ rfl 23 40 Try.underlying75 size_keyT rfl rfl (by omega)) ?_))
          | (with_reducible change wpList _ _ _ (⟨none, Op.store _ (Operand.tmp 130) _, _, _, _, _⟩ :: _) _ _
             go_must (refine wpList_unit rfl (exec_store1 (P := Try.prog) (ad := ⟨wr.heap.size, 1, none⟩) (v := .pointer (some ⟨gK, (p + 1) * 40, none⟩)) (u := .pointer ph) 128 _ _ rfl rfl rfl (B12.out.cell 1) (B12.out.frozen 1) rfl rfl rfl size_keyp) ?_)
             have b13 : Blk (w12.setCell ⟨wr.heap.size, 1, none⟩ (.pointer (some ⟨gK, (p + 1) * 40, none⟩))) wr.heap.size 130 #[.pointer (some ⟨gK, p * 40, none⟩), .pointer (some ⟨gK, (p + 1) * 40, none⟩)] := B12.out.set_ 1 _
             have m13 : Mod (At wr.heap.size) w12 (w12.setCell ⟨wr.heap.size, 1, none⟩ (.pointer (some ⟨gK, (p + 1) * 40, none⟩))) := Mod.cellAt _ _ _ _
             generalize w12.setCell ⟨wr.heap.size, 1, none⟩ (.pointer (some ⟨gK, (p + 1) * 40, none⟩)) = w13 at *
             have M13 := Lib.hid (M12.out.new_ m13 (Nat.le_refl _))
             have HM13 := Lib.hid (HR.out.1.nn M13.out)
             have B13 := Lib.hid b13
             clear b13 m13)
          | (with_reducible change wpList _ _ _ (⟨some 134, _, _, _, _, _⟩ :: _) _ _
             go_must (refine wpList_val rfl (exec_load_row (P := Try.prog) (g := wr.heap.size) (cs := #[.pointer (some ⟨gK, p * 40, none⟩), .pointer (some ⟨gK, (p + 1) * 40, none⟩)]) 130 _ rfl rfl B13.out Try.underlying130 rfl size_span) ?_)))
          refine (HIH.out w13 z (s.kid N.keys (p + 1)) (some ⟨gK, p * 40, none⟩) (some ⟨gK, (p + 1) * 40, none⟩) σq cntq (HM0.out.then_ HM13.out.md (fun g hg e => by rcases e with rfl | rfl <;> omega)) HM13.out.ldr HR.out.2.2.1 (by simp only [Spn.kid]; rw [if_pos (by omega), show p + 1 - 1 = p from rfl]; exact keyPtr HM13.out.krow HH.out.nd.ok.k (HKY.out p (by omega))) (by simp only [Spn.kid]; rw [if_pos (by omega)]; exact keyPtr HM13.out.krow HH.out.nd.ok.k (HKY.out (p + 1) (by omega))) (fun g hg => by obtain ⟨a, e, rfl⟩ := hg; injection e with e; subst e; exact HGK.out) (fun g hg => by obtain ⟨a, e, rfl⟩ := hg; injection e with e; subst e; exact HGK.out)).mono ?_
          rintro r w14 ⟨m14, hr14⟩
          have hst := lkids_step (V := V) (s := s) (keys := N.keys) (dd := dd) (out := entsOf ts) (σ := σq) HZ.out
          rw [← HR.out.2.2.2.1] at hst
          obtain ⟨vres, hvres⟩ : ∃ vres, V z (s.kid N.keys (p + 1)) σq = vres := ⟨_, rfl⟩
          rw [hvres] at hr14 hst
          have HST := Lib.hid hst
          have HVR := Lib.hid hvres
          clear hst hvres
          rcases vres with _ | ⟨l, d, σ'⟩
          · -- the kid is none
            obtain rfl := hr14
            have hrk : resK = none := HST.out
            have H14 := Lib.hid (HM13.out.md.trans m14)
            clear m14 HST
            go_wp2
            go_ret2
            exact ⟨H14.out, by rw [← HRS.out, hrk]; rfl⟩
          obtain ⟨D', v, k', F', cnt', rfl, rfl, ht', hk', -, hlo', hF', hL'⟩ := hr14
          obtain ⟨T, gt, rfl⟩ := tree_iface ht'
          have hVF := HVF.out z (s.kid N.keys (p + 1)) σq l (D' + 1) σ' HVR.out
          have hd2000 : D' + 1 ≤ 2000 := hVF.1
          have hs14 : w13.heap.size ≤ w14.heap.size := m14.size
          have hM14 := HM13.out.call hlbw hgsw (by omega) (by omega) (Nat.le_refl _) (by omega) (fun g hg => by obtain ⟨a, e, rfl⟩ := hg; injection e with e; subst e; exact HGK2.out.1) hL' m14
          have H14 := Lib.hid (And.intro hM14 (And.intro ht' (And.intro hk' (And.intro (hlo' rfl) (And.intro hF' hVF)))))
          clear hM14 ht' hk' hlo' hF' hVF m14 hL'
          by_cases hdd : D' + 1 = dd
          · have hb1 : ((((D' + 1 : Nat) : Int) != (dd : Int))) = false := by rw [hdd]; simp
            have hb2 : ¬ ((D' + 1 : Nat) : Int) ≠ (dd : Int) := by omega
            have hDD : D = D' := by have := HR.out.2.1 hts; omega
            subst hDD
            have hst2 : resK = lkidsM V s N.keys (N.kids.drop (p + 1 + 1)) (p + 1 + 1) (entsOf ts ++ l) (D + 1) σ' := HST.out.trans (if_neg (by rw [hdd]; simp))
            subst hdd
            have HST2 := Lib.hid hst2
            clear hst2 HST
            -- zzT
            go_wp2_with (first
              | (with_reducible change wpList _ _ _ (⟨some 154, _, _, _, _, _⟩ :: _) _ _
                 go_must (refine wpList_val rfl (exec_load1 (P := Try.prog) (v := .slice C (p + 1) cq) (ad := ⟨w7.heap.size, 1, none⟩) 104 _ rfl rfl (H14.out.1.pblk.cell 1) Try.underlying104 rfl) ?_))
              | (with_reducible change wpList _ _ _ (⟨some 156, _, _, _, _, _⟩ :: _) _ _
                 go_must (refine wpList_val rfl (exec_bpart1 (v := .iface T (.pointer (some ⟨gt, 0, none⟩))) rfl rfl rfl) ?_)
                 have b15 : Blk (w14.alloc (.cells #[.iface T (.pointer (some ⟨gt, 0, none⟩))] 37)) w14.heap.size 37 #[.iface T (.pointer (some ⟨gt, 0, none⟩))] := Blk.new _ _ _
                 have m15 : Mod Nn w14 (w14.alloc (.cells #[.iface T (.pointer (some ⟨gt, 0, none⟩))] 37)) := (Mod.refl _ _).alloc _
                 generalize w14.alloc (.cells #[.iface T (.pointer (some ⟨gt, 0, none⟩))] 37) = w15 at *
                 have H15 := Lib.hid (And.intro (H14.out.1.nn m15) (And.intro b15 m15))
                 have hs15 : w14.heap.size ≤ w15.heap.size := m15.size
                 clear b15 m15)
              | (with_reducible change wpList _ _ _ (⟨some 157, _, _, _, _, _⟩ :: _) _ _
                 go_must (refine wpList_append_hold 1 104 _ _ rfl rfl zP 16 uuP infoP zsP (by omega) rfl H15.out.1.crow rfl (RdC.of_blk (m := 1) H15.out.2.1 rfl) (by simp [Value.oneCell']) (by omega) (by omega) ?_)
                 intro C' cq' w16 h16 m16 hC'
                 have hp16 := H15.out.1.pblk.mod m16 (fun ho => by have := H15.out.1.cf _ ho; omega)
                 have hpc := hp16.cell 1
                 have hpf := hp16.frozen 1
                 have H16 := Lib.hid (And.intro h16 (And.intro m16 (And.intro hC' (And.intro hpc hpf))))
                 clear h16 m16 hC' hp16 hpc hpf)
              | (with_reducible change wpList _ _ _ (⟨none, Op.store _ (Operand.tmp 159) _, _, _, _, _⟩ :: _) _ _
                 go_must (refine wpList_unit rfl (exec_store1 (P := Try.prog) (ad := ⟨w7.heap.size, 1, none⟩) (v := .slice C' ((p + 1) + 1) cq') (u := .slice C (p + 1) cq) 104 _ _ rfl rfl rfl H16.out.2.2.2.1 H16.out.2.2.2.2 rfl rfl rfl size_slP5) ?_)
                 have hM17 := LdM.push (t := ⟨.iface T (.pointer (some ⟨gt, 0, none⟩)), l, k', F'⟩) (H15.out.1) hlbw hgsw (by omega) (by omega) (by omega) (by omega) (by omega) (by omega) (by omega) (fun g hg => by obtain ⟨a, e, rfl⟩ := hg; injection e with e; subst e; exact HGK2.out) (H14.out.2.1.nn H15.out.2.2) ⟨H14.out.2.2.2.1, H14.out.2.2.1⟩ (fun g hg => by
                   have h1 := H14.out.2.2.2.2.1 g hg
                   have h2 := HM13.out
                   have h3 := h2.sz
                   refine ⟨by omega, fun hf => ?_, fun ho => ?_⟩
                   · obtain ⟨u, hu, hgu⟩ := mem_foot.1 hf
                     have := (h2.kids u hu).1.lt g hgu
                     omega
                   · have := h2.crow.lt ho
                     omega) H16.out.1 H16.out.2.1 H16.out.2.2.1
                 generalize w16.setCell ⟨w7.heap.size, 1, none⟩ (.slice C' ((p + 1) + 1) cq') = w17 at *
                 have H17 := Lib.hid hM17
                 clear hM17))
            -- zzU
            exact ⟨⟨(p + 1) + 1, D + 1, cnt', D, ts ++ [⟨.iface T (.pointer (some ⟨gt, 0, none⟩)), l, k', F'⟩], σ', C', cq', by omega, hd2000, rfl, by go_num, Lib.hid ⟨H17.out, fun _ => rfl, Nat.le_trans H14.out.2.2.2.2.2.2.2 HR.out.2.2.1, by rw [entsOf_snoc]; exact HST2.out, fun j t ht => by
              rcases Nat.lt_or_ge j ts.length with h | h
              · rw [List.getElem?_append_left h] at ht
                exact HR.out.2.2.2.2 j t ht
              · have hjl := (List.getElem?_eq_some_iff.1 ht).1
                rw [List.length_append, List.length_singleton] at hjl
                have htl := HR.out.1.tl
                obtain rfl : j = ts.length := by omega
                rw [List.getElem?_append_right (Nat.le_refl _), Nat.sub_self] at ht
                injection ht with ht
                subst ht
                rw [htl]
                exact H14.out.2.2.2.2.2.2.1⟩⟩, by simp [intOf]; omega⟩
          · have hb1 : ((((D' + 1 : Nat) : Int) != (dd : Int))) = true := by simp; omega
            have hb2 : ((D' + 1 : Nat) : Int) ≠ (dd : Int) := by omega
            have hrk : resK = none := HST.out.trans (if_pos (by simp; omega))
            go_wp2
            go_ret2
            exact ⟨H14.out.1.md, by rw [← HRS.out, hrk]; rfl⟩
        · have hkq' : ¬ (p : Int) + 1 < (N.keys.length : Int) := by omega
          go_wp2_with (first
          | (with_reducible change wpList _ _ _ (⟨some 106, _, _, _, _, _⟩ :: _) _ _
             go_must (refine wpList_val rfl (exec_load_row (P := Try.prog) (g := w.heap.size) (cs := #[.pointer pl, .pointer ph]) 130 _ rfl rfl HR.out.1.sblk Try.underlying130 rfl size_span) ?_))
          | (with_reducible change wpList _ _ _ (⟨some 16, Op.alloc _, _, _, _, _⟩ :: _) _ _
             go_must (refine wpList_alloc_var 130 rfl rfl info_spanz ?_)
             intro w10 b10 m10 z10
             clear z10
             have H10 := Lib.hid (And.intro m10 b10)
             have hs10 : wr.heap.size < w10.heap.size := b10.lt
             clear m10 b10)
          | (with_reducible change wpList _ _ _ (⟨none, Op.store _ (Operand.tmp 16) _, _, _, _, _⟩ :: _) _ _
             go_must (refine wpList_store_var 130 _ _ rfl rfl wr.heap.size #[.pointer pl, .pointer ph] _ _ rfl rfl H10.out.2 size_span rfl (by simp [Value.oneCell']) ?_)
             intro w11 b11 m11 z11
             clear z11
             have M11 := Lib.hid (H10.out.1.new_ m11 (Nat.le_refl _))
             have HM11 := Lib.hid (HR.out.1.nn M11.out)
             have B11 := Lib.hid b11
             clear m11 b11)
          | (with_reducible change wpList _ _ _ (⟨some 112, _, _, _, _, _⟩ :: _) _ _
             go_must (refine wpList_val rfl (exec_load1 (P := Try.prog) (v := .slice (some ⟨gK, 0, none⟩) N.keys.length kc') (ad := ⟨w7.heap.size, 0, none⟩) 75 _ rfl rfl (HM11.out.pblk.cell 0) Try.underlying75 rfl) ?_))
          | (with_reducible change wpList _ _ _ (⟨some 115, _, _, _, _, _⟩ :: _) _ _
             go_must (refine wpList_val rfl (exec_elem (P := Try.prog) (g := gK) (off := 0) (q := p) 75 _ _ rfl 23 40 Try.underlying75 size_keyT rfl (by go_num) (by omega)) ?_))
          | (with_reducible change wpList _ _ _ (⟨none, Op.store _ (Operand.tmp 116) _, _, _, _, _⟩ :: _) _ _
             go_must (refine wpList_unit rfl (exec_store1 (P := Try.prog) (ad := ⟨wr.heap.size, 0, none⟩) (v := .pointer (some ⟨gK, p * 40, none⟩)) (u := .pointer pl) 128 _ _ rfl rfl rfl (B11.out.cell 0) (B11.out.frozen 0) rfl rfl rfl size_keyp) ?_)
             have b12 : Blk (w11.setCell ⟨wr.heap.size, 0, none⟩ (.pointer (some ⟨gK, p * 40, none⟩))) wr.heap.size 130 #[.pointer (some ⟨gK, p * 40, none⟩), .pointer ph] := B11.out.set_ 0 _
             have m12 : Mod (At wr.heap.size) w11 (w11.setCell ⟨wr.heap.size, 0, none⟩ (.pointer (some ⟨gK, p * 40, none⟩))) := Mod.cellAt _ _ _ _
             generalize w11.setCell ⟨wr.heap.size, 0, none⟩ (.pointer (some ⟨gK, p * 40, none⟩)) = w12 at *
             have M12 := Lib.hid (M11.out.new_ m12 (Nat.le_refl _))
             have HM12 := Lib.hid (HR.out.1.nn M12.out)
             have B12 := Lib.hid b12
             clear b12 m12)
          | (with_reducible change wpList _ _ _ (⟨some 121, _, _, _, _, _⟩ :: _) _ _
             go_must (refine wpList_val rfl (exec_load1 (P := Try.prog) (v := .slice (some ⟨gK, 0, none⟩) N.keys.length kc') (ad := ⟨w7.heap.size, 0, none⟩) 75 _ rfl rfl (HM12.out.pblk.cell 0) Try.underlying75 rfl) ?_))
          | (with_reducible change wpList _ _ _ (⟨some 134, _, _, _, _, _⟩ :: _) _ _
             go_must (refine wpList_val rfl (exec_load_row (P := Try.prog) (g := wr.heap.size) (cs := #[.pointer (some ⟨gK, p * 40, none⟩), .pointer ph]) 130 _ rfl rfl B12.out Try.underlying130 rfl size_span) ?_)))
          refine (HIH.out w12 z (s.kid N.keys (p + 1)) (some ⟨gK, p * 40, none⟩) ph σq cntq (HM0.out.then_ HM12.out.md (fun g hg e => by rcases e with rfl | rfl <;> omega)) HM12.out.ldr HR.out.2.2.1 (by simp only [Spn.kid]; rw [if_pos (by omega), show p + 1 - 1 = p from rfl]; exact keyPtr HM12.out.krow HH.out.nd.ok.k (HKY.out p (by omega))) (by simp only [Spn.kid]; rw [if_neg (by omega)]; exact HH.out.hi.mod HM12.out.md (fun g hg e => by have := HH.out.his g hg; rcases e with e | e <;> omega)) (fun g hg => by obtain ⟨a, e, rfl⟩ := hg; injection e with e; subst e; exact HGK.out) HH.out.his).mono ?_
          rintro r w14 ⟨m14, hr14⟩
          have hst := lkids_step (V := V) (s := s) (keys := N.keys) (dd := dd) (out := entsOf ts) (σ := σq) HZ.out
          rw [← HR.out.2.2.2.1] at hst
          obtain ⟨vres, hvres⟩ : ∃ vres, V z (s.kid N.keys (p + 1)) σq = vres := ⟨_, rfl⟩
          rw [hvres] at hr14 hst
          have HST := Lib.hid hst
          have HVR := Lib.hid hvres
          clear hst hvres
          rcases vres with _ | ⟨l, d, σ'⟩
          · -- the kid is none
            obtain rfl := hr14
            have hrk : resK = none := HST.out
            have H14 := Lib.hid (HM12.out.md.trans m14)
            clear m14 HST
            go_wp2
            go_ret2
            exact ⟨H14.out, by rw [← HRS.out, hrk]; rfl⟩
          obtain ⟨D', v, k', F', cnt', rfl, rfl, ht', hk', -, hlo', hF', hL'⟩ := hr14
          obtain ⟨T, gt, rfl⟩ := tree_iface ht'
          have hVF := HVF.out z (s.kid N.keys (p + 1)) σq l (D' + 1) σ' HVR.out
          have hd2000 : D' + 1 ≤ 2000 := hVF.1
          have hs14 : w12.heap.size ≤ w14.heap.size := m14.size
          have hM14 := HM12.out.call hlbw hgsw (by omega) (by omega) (Nat.le_refl _) (by omega) (fun g hg => by obtain ⟨a, e, rfl⟩ := hg; injection e with e; subst e; exact HGK2.out.1) hL' m14
          have H14 := Lib.hid (And.intro hM14 (And.intro ht' (And.intro hk' (And.intro (hlo' rfl) (And.intro hF' hVF)))))
          clear hM14 ht' hk' hlo' hF' hVF m14 hL'
          by_cases hdd : D' + 1 = dd
          · have hb1 : ((((D' + 1 : Nat) : Int) != (dd : Int))) = false := by rw [hdd]; simp
            have hb2 : ¬ ((D' + 1 : Nat) : Int) ≠ (dd : Int) := by omega
            have hDD : D = D' := by have := HR.out.2.1 hts; omega
            subst hDD
            have hst2 : resK = lkidsM V s N.keys (N.kids.drop (p + 1 + 1)) (p + 1 + 1) (entsOf ts ++ l) (D + 1) σ' := HST.out.trans (if_neg (by rw [hdd]; simp))
            subst hdd
            have HST2 := Lib.hid hst2
            clear hst2 HST
            -- zzT
            go_wp2_with (first
              | (with_reducible change wpList _ _ _ (⟨some 154, _, _, _, _, _⟩ :: _) _ _
                 go_must (refine wpList_val rfl (exec_load1 (P := Try.prog) (v := .slice C (p + 1) cq) (ad := ⟨w7.heap.size, 1, none⟩) 104 _ rfl rfl (H14.out.1.pblk.cell 1) Try.underlying104 rfl) ?_))
              | (with_reducible change wpList _ _ _ (⟨some 156, _, _, _, _, _⟩ :: _) _ _
                 go_must (refine wpList_val rfl (exec_bpart1 (v := .iface T (.pointer (some ⟨gt, 0, none⟩))) rfl rfl rfl) ?_)
                 have b15 : Blk (w14.alloc (.cells #[.iface T (.pointer (some ⟨gt, 0, none⟩))] 37)) w14.heap.size 37 #[.iface T (.pointer (some ⟨gt, 0, none⟩))] := Blk.new _ _ _
                 have m15 : Mod Nn w14 (w14.alloc (.cells #[.iface T (.pointer (some ⟨gt, 0, none⟩))] 37)) := (Mod.refl _ _).alloc _
                 generalize w14.alloc (.cells #[.iface T (.pointer (some ⟨gt, 0, none⟩))] 37) = w15 at *
                 have H15 := Lib.hid (And.intro (H14.out.1.nn m15) (And.intro b15 m15))
                 have hs15 : w14.heap.size ≤ w15.heap.size := m15.size
                 clear b15 m15)
              | (with_reducible change wpList _ _ _ (⟨some 157, _, _, _, _, _⟩ :: _) _ _
                 go_must (refine wpList_append_hold 1 104 _ _ rfl rfl zP 16 uuP infoP zsP (by omega) rfl H15.out.1.crow rfl (RdC.of_blk (m := 1) H15.out.2.1 rfl) (by simp [Value.oneCell']) (by omega) (by omega) ?_)
                 intro C' cq' w16 h16 m16 hC'
                 have hp16 := H15.out.1.pblk.mod m16 (fun ho => by have := H15.out.1.cf _ ho; omega)
                 have hpc := hp16.cell 1
                 have hpf := hp16.frozen 1
                 have H16 := Lib.hid (And.intro h16 (And.intro m16 (And.intro hC' (And.intro hpc hpf))))
                 clear h16 m16 hC' hp16 hpc hpf)
              | (with_reducible change wpList _ _ _ (⟨none, Op.store _ (Operand.tmp 159) _, _, _, _, _⟩ :: _) _ _
                 go_must (refine wpList_unit rfl (exec_store1 (P := Try.prog) (ad := ⟨w7.heap.size, 1, none⟩) (v := .slice C' ((p + 1) + 1) cq') (u := .slice C (p + 1) cq) 104 _ _ rfl rfl rfl H16.out.2.2.2.1 H16.out.2.2.2.2 rfl rfl rfl size_slP5) ?_)
                 have hM17 := LdM.push (t := ⟨.iface T (.pointer (some ⟨gt, 0, none⟩)), l, k', F'⟩) (H15.out.1) hlbw hgsw (by omega) (by omega) (by omega) (by omega) (by omega) (by omega) (by omega) (fun g hg => by obtain ⟨a, e, rfl⟩ := hg; injection e with e; subst e; exact HGK2.out) (H14.out.2.1.nn H15.out.2.2) ⟨H14.out.2.2.2.1, H14.out.2.2.1⟩ (fun g hg => by
                   have h1 := H14.out.2.2.2.2.1 g hg
                   have h2 := HM12.out
                   have h3 := h2.sz
                   refine ⟨by omega, fun hf => ?_, fun ho => ?_⟩
                   · obtain ⟨u, hu, hgu⟩ := mem_foot.1 hf
                     have := (h2.kids u hu).1.lt g hgu
                     omega
                   · have := h2.crow.lt ho
                     omega) H16.out.1 H16.out.2.1 H16.out.2.2.1
                 generalize w16.setCell ⟨w7.heap.size, 1, none⟩ (.slice C' ((p + 1) + 1) cq') = w17 at *
                 have H17 := Lib.hid hM17
                 clear hM17))
            -- zzU
            exact ⟨⟨(p + 1) + 1, D + 1, cnt', D, ts ++ [⟨.iface T (.pointer (some ⟨gt, 0, none⟩)), l, k', F'⟩], σ', C', cq', by omega, hd2000, rfl, by go_num, Lib.hid ⟨H17.out, fun _ => rfl, Nat.le_trans H14.out.2.2.2.2.2.2.2 HR.out.2.2.1, by rw [entsOf_snoc]; exact HST2.out, fun j t ht => by
              rcases Nat.lt_or_ge j ts.length with h | h
              · rw [List.getElem?_append_left h] at ht
                exact HR.out.2.2.2.2 j t ht
              · have hjl := (List.getElem?_eq_some_iff.1 ht).1
                rw [List.length_append, List.length_singleton] at hjl
                have htl := HR.out.1.tl
                obtain rfl : j = ts.length := by omega
                rw [List.getElem?_append_right (Nat.le_refl _), Nat.sub_self] at ht
                injection ht with ht
                subst ht
                rw [htl]
                exact H14.out.2.2.2.2.2.2.1⟩⟩, by simp [intOf]; omega⟩
          · have hb1 : ((((D' + 1 : Nat) : Int) != (dd : Int))) = true := by simp; omega
            have hb2 : ((D' + 1 : Nat) : Int) ≠ (dd : Int) := by omega
            have hrk : resK = none := HST.out.trans (if_pos (by simp; omega))
            go_wp2
            go_ret2
            exact ⟨H14.out.1.md, by rw [← HRS.out, hrk]; rfl⟩
    · have hlt' : ¬ (q : Int) < cn := by omega
      obtain rfl : cn = q := by omega
      -- zzE
      have hdr : N.kids.drop cn = [] := List.drop_of_length_le (by rw [HIF.out.2.2.1]; exact Nat.le_refl _)
      have hrk := HR.out.2.2.2.1
      rw [hdr] at hrk
      have hrk2 : resK = some (entsOf ts, dd + 1, σq) := hrk
      have HRK := Lib.hid hrk2
      have hts : ts ≠ [] := fun e => by have := HR.out.1.tl; rw [e] at this; simp at this; omega
      have HDD := Lib.hid (HR.out.2.1 hts)
      clear hdr hrk hrk2
      go_wp2_with fail
      refine (little_inner (kc := 0) HR.out.1.pblk).mono ?_
      rintro r w10 ⟨rfl, m10⟩
      rw [← HIF.out.2.1]
      obtain ⟨lt, hlt9⟩ : ∃ lt, N.little = lt := ⟨_, rfl⟩
      have HLT := Lib.hid hlt9
      rw [hlt9]
      clear hlt9
      have H10 := Lib.hid (HR.out.1.nn m10)
      clear m10
      have hno : ∀ w', Mod Nn w10 w' → (lt && !top) = true → PartP w lb gs (some ⟨gA, oA, none⟩) n c cs top res (.returned (.tuple #[.nilIface, .int .i64 0])) w' := fun w' hm hb => by
        have hr : res = none := by rw [← HRS.out, HRK.out, HLT.out, hb]; rfl
        rw [hr]
        exact ⟨H10.out.md.nn_ hm, rfl⟩
      have hyes : ∀ w', Mod Nn w10 w' → (lt && !top) = false → PartP w lb gs (some ⟨gA, oA, none⟩) n c cs top res (.returned (.tuple #[innerV w7.heap.size, .int .i64 ((dd : Int) + 1)])) w' := fun w' hm hlt2 => by
        have hM := H10.out.nn hm
        have hr : res = some (entsOf ts, dd + 1, σq) := by rw [← HRS.out, HRK.out, HLT.out, hlt2]; rfl
        rw [hr]
        have hin : ∀ j t, ts[j]? = some t → inK N.keys j t.L := fun j t ht => inK_of (kid_all s N.keys j t.L (HR.out.2.2.2.2 j t ht))
        have hks := kids_srt HIF.out.1 (by rw [HIF.out.2.2.2.1, hM.tl]; omega) (fun t ht => (hM.kids t ht).1.srt) hin
        have hnd := List.nodup_append.1 hM.nd
        have hpb : Blk w' w7.heap.size 106 #[.slice (some ⟨gK, 0, none⟩) N.keys.length kc', .slice C ts.length cq] := by rw [hM.tl]; exact hM.pblk
        refine ⟨hM.md, D + 1, innerV w7.heap.size, ts.length, w7.heap.size :: (blks (some ⟨gK, 0, none⟩) ++ (blks C ++ foot ts)), cntq, by rw [HDD.out], by rfl, ⟨w7.heap.size, N.keys, ts, some ⟨gK, 0, none⟩, kc', C, cq, ⟨hpb, hM.krow, HH.out.nd.ok.k, HIF.out.1, by rw [hM.tl]; exact hM.crow, by rw [HIF.out.2.2.2.1, hM.tl]; omega, fun t ht => (hM.kids t ht).1, hks.1, hks.2, rfl, inner_nd ?_ ?_ ?_ ?_ hnd.2.1⟩, rfl, rfl, rfl, fun t ht => (hM.kids t ht).2⟩, by rw [hM.tl]; exact hcn20, .inr (by rw [hM.tl]; exact hcn2), fun ht => ?_, fun g hg => ?_, hM.ldr⟩
        · rintro g (hg | hg | hg) e
          · obtain ⟨a, e', rfl⟩ := hg; injection e' with e'; subst e'; exact HGK2.out.2.2 e
          · have := hM.cf g hg; omega
          · have := hM.ff g hg; omega
        · rintro g ⟨a, e', rfl⟩ hC
          injection e' with e'; subst e'
          have h9 : w8.heap.size ≤ gK := hM.cf _ hC
          have := HGK2.out.2.1; omega
        · rintro g ⟨a, e', rfl⟩ hC
          injection e' with e'; subst e'
          have h9 : w8.heap.size ≤ gK := hM.ff _ hC
          have := HGK2.out.2.1; omega
        · exact fun g hg hg' => hnd.2.2 g (mem_blks.2 hg) g hg' rfl
        · rw [ht, Bool.not_false, Bool.and_true, ← HLT.out, HIF.out.2.1, decide_eq_false_iff_not] at hlt2
          show 10 ≤ ts.length
          rw [hM.tl]; omega
        · rcases List.mem_cons.1 hg with rfl | hg
          · omega
          · rcases List.mem_append.1 hg with hg | hg
            · obtain ⟨a, e', rfl⟩ := mem_blks.1 hg; injection e' with e'; subst e'; exact HGK2.out.1
            · rcases List.mem_append.1 hg with hg | hg
              · have := hM.cf g (mem_blks.1 hg); omega
              · have := hM.ff g hg; omega
      have HNO := Lib.hid hno
      have HYES := Lib.hid hyes
      clear hno hyes
      unfold innerV at HYES
      cases lt
      · go_wp2
        go_ret2
        exact HYES.out _ (Mod.refl _ _) (Bool.false_and _)
      · cases top
        · go_wp2
          go_ret2
          exact HNO.out _ (Mod.refl _ _) rfl
        · go_wp2
          go_ret2
          exact HYES.out _ (Mod.refl _ _) rfl
end
end Go.Proofs.Ytkcpmkeckcnobaa
