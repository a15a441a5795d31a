/- node.Put of what is right. -/
import Derived.Test.YtfoldjnmknaklaaGreatNdF
import Derived.Test.YtfoldjnmknaklaaGreatKitD
namespace Go.Proofs.YtfoldjnmknaklaaGreat
open Go.RowKit

theorem info_u8n : (Tryz.prog.info? 5).map (fun i => (i.zero, i.size, i.bytes)) = some (some (.int .u8 0), 1, 1) := by kernel_rfl
theorem sub_at (g q c l : Nat) (h : l < c) : subA (some ⟨g, q, none⟩) c l 1 = some ⟨g, q + l, none⟩ := by
  unfold subA
  rw [if_neg (by omega)]
  simp [Addr.add]
theorem slc_step {g q r a b : Nat} (h : q = r) (h2 : a = b) : Value.slice (some ⟨g, q, none⟩) a a = .slice (some ⟨g, r, none⟩) b b := by rw [h, h2]
/-- kids as bytes -/
def kidsB (l : List Int) : List Nat := (l.map (fun k => num k.toNat 4)).flatten
theorem kidsB_len : ∀ l : List Int, (kidsB l).length = 4 * l.length
  | [] => rfl
  | k :: l => by
    unfold kidsB
    rw [List.map_cons, List.flatten_cons, List.length_append, num_len, show (l.map (fun k => num k.toNat 4)).flatten = kidsB l from rfl, kidsB_len l, List.length_cons]
    omega
theorem kidsB_snoc (l : List Int) (k : Int) : kidsB (l ++ [k]) = kidsB l ++ num k.toNat 4 := by unfold kidsB; simp
theorem kidsB_lt (l : List Int) : ∀ z ∈ kidsB l, z < 256 := by
  intro z hz
  unfold kidsB at hz
  obtain ⟨r, hr, hz⟩ := List.mem_flatten.1 hz
  obtain ⟨k, _, rfl⟩ := List.mem_map.1 hr
  exact num_lt _ _ z hz
theorem rows_lt {k : Nat} {L : List (List Nat)} (h : Rows k L) : ∀ z ∈ L.flatten, z < 256 := by
  intro z hz
  obtain ⟨r, hr, hz⟩ := List.mem_flatten.1 hz
  exact (h r hr).2 z hz
/-- a node's bytes under way: what has changed since w, the node's cells, the bytes so far -/
structure PutN (w wr : World) (cs : Array Value) (g : Nat) (L : List Nat) : Prop where
  m : Mod Nn w wr
  box : Blk wr w.heap.size 32 cs
  out : Out wr g 5 1024 L
  gb : w.heap.size < g
section
variable {w wr w' : World} {N : Nd} {cs : Array Value} {g : Nat} {L L' : List Nat} {EA KA CA : Option Addr} {en ec kn kc cn cc : Nat} {S : Nat → Prop}
theorem PutN.nn (h : PutN w wr cs g L) (hm : Mod Nn wr w') : PutN w w' cs g L := ⟨h.m.trans hm, h.box.mod hm (fun f => f), h.out.mod hm (fun f => f), h.gb⟩
theorem PutN.at_ (h : PutN w wr cs g L) (hm : Mod (At g) wr w') (ho : Out w' g 5 1024 L') : PutN w w' cs g L' :=
  ⟨h.m.new_ hm (Nat.le_of_lt h.gb), h.box.mod hm (fun e => by have e : w.heap.size = g := e; have := h.gb; omega), ho, h.gb⟩
theorem PutN.drew (h : PutN w wr cs g L) : PutN w wr.drew cs g L := ⟨h.m.drew, h.box.drew, h.out.mod ((Mod.refl Nn wr).drew) (fun f => f), h.gb⟩
def Nd.hdr (N : Nd) : List Nat := if N.leaf then [1, N.ents.length % 256, 0, 0] else [2, N.kids.length % 256, 0, 0]
def PutN6 (w : World) (N : Nd) (e : Ending) (w' : World) : Prop := ∃ g, e = .returned (.tuple #[.slice (some ⟨g, 0, none⟩) 1024 1024, .int .i64 0]) ∧ Out w' g 5 1024 N.bytes ∧ Mod Nn w w' ∧ w.heap.size ≤ g
set_option maxRecDepth 100000 in
set_option maxHeartbeats 3200000 in
theorem nput_ok (h : NdR w N EA en KA kn CA cn) (hr : N.right = true) :
    Calls Tryz.prog 5 #[ndV N.leaf EA en ec KA kn kc CA cn cc] w (PutN6 w N) := by
  obtain ⟨hen, hkn, hcn, hlf, hin⟩ := nd_kids h hr
  have hn := nright_any (ec := ec) (kc := kc) (cc := cc) (h.nn ((Mod.refl Nn w).alloc (.cells #[.bool N.leaf, .slice EA en ec, .slice KA kn kc, .slice CA cn cc] 32)))
  have M : Mod Nn w (w.alloc (.cells #[.bool N.leaf, .slice EA en ec, .slice KA kn kc, .slice CA cn cc] 32)) := (Mod.refl Nn w).alloc _
  have B : Blk (w.alloc (.cells #[.bool N.leaf, .slice EA en ec, .slice KA kn kc, .slice CA cn cc] 32)) w.heap.size 32 #[.bool N.leaf, .slice EA en ec, .slice KA kn kc, .slice CA cn cc] := Blk.new w _ _
  unfold ndV at hn ⊢
  have hlf0 : ∃ b, N.leaf = b := ⟨_, rfl⟩
  have hz0 : w.heap.size < (w.alloc (.cells #[.bool N.leaf, .slice EA en ec, .slice KA kn kc, .slice CA cn cc] 32)).heap.size := by simp
  have HN := Lib.hid (And.intro hn (And.intro M (And.intro B hz0)))
  have HR := Lib.hid h
  have HK := Lib.hid (And.intro hlf hin)
  clear hn M B h hlf hin hz0
  obtain ⟨lf, hlf⟩ := hlf0
  rw [hlf] at HN ⊢
  have HLF := Lib.hid hlf
  clear hlf
  go_enter Tryz.func5, Tryz.ntmps5
  go_wp2_with (first
    | (with_reducible change wpList _ _ _ (⟨_, Op.load _ _, _, _, _, _⟩ :: _) _ _
       go_must (refine wpList_load_var 32 _ rfl rfl w.heap.size #[.bool lf, .slice EA en ec, .slice KA kn kc, .slice CA cn cc] _ _ rfl HN.out.2.2.1 Tryz.underlying32 rfl size_node ?_)))
  refine HN.out.1.mono ?_
  rintro r w1 ⟨rfl, m1⟩
  rw [hr]
  have HP1 := Lib.hid (And.intro (HN.out.2.1.trans m1) (And.intro (HN.out.2.2.1.mod m1 (fun f => f)) (show w.heap.size < w1.heap.size from by have := HN.out.2.2.2; have := m1.size; omega)))
  clear m1
  have ecn : IntKind.u8.wrap (cn : Int) = (cn : Int) := by rw [IntKind.wrap_u8]; omega
  have een : IntKind.u8.wrap (en : Int) = (en : Int) := by rw [IntKind.wrap_u8]; omega
  go_wp2_with (first
    | (with_reducible change wpList _ _ _ (⟨_, Op.makeSlice _ _ _, _, _, _, _⟩ :: _) _ _
       go_must (refine wpList_make1 24 _ _ rfl rfl 5 (.int .u8 0) 1 Tryz.underlying24 info_u8n rfl _ _ 1024 1024 rfl rfl rfl rfl (Nat.le_refl _) (by omega) (by omega) ?_)
       intro w2 b2 m2 z2
       have p2 := PutN.mk (HP1.out.1.trans m2) (HP1.out.2.1.mod m2 (fun f => f)) (Out.new b2) HP1.out.2.2
       generalize w1.heap.size = g at *
       have HB := Lib.hid p2
       clear b2 m2 z2 p2))
  have hkid : w2.drew.cell? ⟨w.heap.size, 3, none⟩ = some (.slice CA cn cc) := HB.out.box.cell 3
  refine wp_region_planV (fun w' => w'.cell? ⟨w.heap.size, 3, none⟩ = some (.slice CA cn cc)) 9 (.pure 0 (.pure 1 (.pure 2 (.read 3 (.pure 4 (.pure 5 (.pure 6 (.alone 7 (.pure 8 (.alone 9 .nil)))))))))) (by kernel_rfl) (by kernel_rfl) hkid ?_
  iterate 3 (refine pv_pure rfl rfl (fun K hK => ?_); go_simp; refine hK _ ?_; clear hK K)
  refine pv_take _ rfl rfl (fun w' hS => exec_load1 (P := Tryz.prog) 30 _ rfl rfl hS Tryz.underlying30 rfl) (fun K hK => ?_); go_simp; refine hK _ ?_; clear hK K
  iterate 3 (refine pv_pure rfl rfl (fun K hK => ?_); go_simp; refine hK _ ?_; clear hK K)
  have o1 : Out (w2.drew.setCell ⟨g, 0, none⟩ (.int .u8 2)) g 5 1024 [2] := HB.out.drew.out.put1 (q := 0) rfl (by omega) 2
  have p1 := HB.out.drew.at_ (Mod.cellAt _ _ _ _) o1
  have o2 := p1.out.put1 (q := 1) rfl (by omega) cn
  have p2 := p1.at_ (Mod.cellAt _ _ _ _) o2
  have H1 := Lib.hid p1
  have H2 := Lib.hid p2
  clear o1 o2 p1 p2
  refine pv_unit (w1 := w2.drew.setCell ⟨g, 0, none⟩ (.int .u8 2)) rfl rfl (exec_store1 (P := Tryz.prog) 5 _ _ rfl rfl rfl (HB.out.drew.out.get (by omega)) (HB.out.drew.out.blk.frozen _) rfl rfl rfl size_u8n) (fun _ => H1.out.box.cell 3) (fun K hK => ?_); go_simp; refine hK _ ?_; clear hK K
  iterate 1 (refine pv_pure rfl rfl (fun K hK => ?_); go_simp; refine hK _ ?_; clear hK K)
  refine pv_unit (w1 := (w2.drew.setCell ⟨g, 0, none⟩ (.int .u8 2)).setCell ⟨g, 1, none⟩ (.int .u8 (cn : Int))) rfl rfl (exec_store1 (P := Tryz.prog) 5 _ _ rfl rfl rfl (H1.out.out.get (by omega)) (H1.out.out.blk.frozen _) rfl rfl rfl size_u8n) (fun h => by simp at h) (fun K hK => ?_); go_simp; refine hK _ ?_; clear hK K
  refine pv_nil ?_
  generalize (w2.drew.setCell ⟨g, 0, none⟩ (.int .u8 2)).setCell ⟨g, 1, none⟩ (.int .u8 (cn : Int)) = w4 at *
  clear H1 HB hkid
  have C0 := H2.out.box.cell 0
  go_upto_if 25 with fail
  go_cut [4] from 24 to 33 (fun v wx => v = .slice (some ⟨g, 0, none⟩) 1024 1024 ∧ PutN w wx #[.bool lf, .slice EA en ec, .slice KA kn kc, .slice CA cn cc] g (N.hdr.take 2))
  case first =>
    cases lf
    case false =>
      have hl := HLF.out
      have HE := Lib.hid (show N.hdr.take 2 = [2, cn] by unfold Nd.hdr; rw [hl, HR.out.cl, Nat.mod_eq_of_lt (show cn < 256 by omega)]; rfl)
      clear hl
      go_wp2
      go_meet
      rw [HE.out]
      exact ⟨rfl, H2.out⟩
    case true =>
      have hl := HLF.out
      have HE := Lib.hid (show N.hdr.take 2 = [1, en] by unfold Nd.hdr; rw [hl, HR.out.el, Nat.mod_eq_of_lt (show en < 256 by omega)]; rfl)
      clear hl
      go_wp2_with fail
      have hent : w4.drew.cell? ⟨w.heap.size, 1, none⟩ = some (.slice EA en ec) := H2.out.box.cell 1
      have H3 := Lib.hid H2.out.drew
      have o1 : Out (w4.drew.setCell ⟨g, 0, none⟩ (.int .u8 1)) g 5 1024 [1, cn] := H3.out.out.set (i := 0) (by simp) 1
      have p1 := H3.out.at_ (Mod.cellAt _ _ _ _) o1
      have o2 : Out ((w4.drew.setCell ⟨g, 0, none⟩ (.int .u8 1)).setCell ⟨g, 1, none⟩ (.int .u8 (en : Int))) g 5 1024 [1, en] := p1.out.set (i := 1) (by simp) en
      have p2 := p1.at_ (Mod.cellAt _ _ _ _) o2
      have H4 := Lib.hid p1
      have H5 := Lib.hid p2
      clear o1 o2 p1 p2
      refine wp_region_planV (fun w' => w'.cell? ⟨w.heap.size, 1, none⟩ = some (.slice EA en ec)) 9 (.pure 0 (.pure 1 (.pure 2 (.read 3 (.pure 4 (.pure 5 (.pure 6 (.alone 7 (.pure 8 (.alone 9 .nil)))))))))) (by kernel_rfl) (by kernel_rfl) hent ?_
      iterate 3 (refine pv_pure rfl rfl (fun K hK => ?_); go_simp; refine hK _ ?_; clear hK K)
      refine pv_take _ rfl rfl (fun w' hS => exec_load1 (P := Tryz.prog) 28 _ rfl rfl hS Tryz.underlying28 rfl) (fun K hK => ?_); go_simp; refine hK _ ?_; clear hK K
      iterate 3 (refine pv_pure rfl rfl (fun K hK => ?_); go_simp; refine hK _ ?_; clear hK K)
      refine pv_unit (w1 := w4.drew.setCell ⟨g, 0, none⟩ (.int .u8 1)) rfl rfl (exec_store1 (P := Tryz.prog) 5 _ _ rfl rfl rfl (H3.out.out.get (by omega)) (H3.out.out.blk.frozen _) rfl rfl rfl size_u8n) (fun _ => H4.out.box.cell 1) (fun K hK => ?_); go_simp; refine hK _ ?_; clear hK K
      iterate 1 (refine pv_pure rfl rfl (fun K hK => ?_); go_simp; refine hK _ ?_; clear hK K)
      refine pv_unit (w1 := (w4.drew.setCell ⟨g, 0, none⟩ (.int .u8 1)).setCell ⟨g, 1, none⟩ (.int .u8 (en : Int))) rfl rfl (exec_store1 (P := Tryz.prog) 5 _ _ rfl rfl rfl (H4.out.out.get (by omega)) (H4.out.out.blk.frozen _) rfl rfl rfl size_u8n) (fun h => by simp at h) (fun K hK => ?_); go_simp; refine hK _ ?_; clear hK K
      refine pv_nil ?_
      go_wp2
      go_meet
      rw [HE.out]
      exact ⟨rfl, H5.out⟩
  case rest =>
    obtain ⟨rfl, hp⟩ := hcut
    have hh : N.hdr.take 2 ++ List.replicate 2 0 = N.hdr := by unfold Nd.hdr; split <;> rfl
    have hl2 : (N.hdr.take 2).length = 2 := by unfold Nd.hdr; split <;> rfl
    have ho := hp.out.pad (k := 2) (by rw [hl2]; omega)
    rw [hh] at ho
    have hl4 : N.hdr.length = 4 := by unfold Nd.hdr; split <;> rfl
    have HP := Lib.hid (show PutN w wc #[.bool lf, .slice EA en ec, .slice KA kn kc, .slice CA cn cc] g N.hdr from ⟨hp.m, hp.box, ho, hp.gb⟩)
    clear hp hh hl2 ho H2 C0
    have C1 := HP.out.box.cell 1
    go_wp2_with (first
      | (with_reducible change wpList _ _ _ (⟨some 35, Op.slice _ _ _ _ _, _, _, _, _⟩ :: _) _ _
         go_must (refine wpList_sub_l 24 _ _ rfl rfl 5 1 Tryz.underlying24 size_u8n (l := 4) rfl rfl (by omega) ?_)
         rw [sub_at g 0 1024 4 (by omega)]))
    generalize hB0 : N.hdr = B0 at *
    have HL0 := Lib.hid hl4
    clear hl4
    go_loopw [5, 39] (fun v i wr => ∃ k q : Nat, k ≤ en ∧ q = 4 + 80 * k ∧ i = .int .i64 k ∧ v = .slice (some ⟨g, q, none⟩) ((1024 - q : Nat)) ((1024 - q : Nat)) ∧ PutN w wr #[.bool lf, .slice EA en ec, .slice KA kn kc, .slice CA cn cc] g (B0 ++ (N.ents.take k).flatten)) (fun _ i _ => en - (intOf i).toNat)
    case atStart => exact ⟨0, 4, by omega, rfl, rfl, rfl, by simpa using HP.out⟩
    case round =>
      obtain ⟨k, q, hk, rfl, rfl, rfl, hp⟩ := hrel
      have HB := Lib.hid hp
      have hlB : (B0 ++ (N.ents.take k).flatten).length = 4 + 80 * k := by
        rw [List.length_append, HL0.out, rows_len (fun x hx => HR.out.ok.e x (List.mem_of_mem_take hx)), List.length_take, HR.out.el]; omega
      have HLB := Lib.hid hlB
      clear hp hlB
      by_cases hlt : k < en
      · have hlt' : (k : Int) < en := by omega
        have hk1 : k < N.ents.length := by rw [HR.out.el]; exact hlt
        have i1 : N.ents[k]? = some N.ents[k] := List.getElem?_eq_getElem hk1
        have ht1 : N.ents.take (k + 1) = N.ents.take k ++ [N.ents[k]] := List.take_succ_eq_append_getElem hk1
        generalize N.ents[k] = r1 at i1 ht1
        obtain ⟨l1, z1⟩ := HR.out.ok.e r1 (List.mem_of_getElem? i1)
        obtain ⟨g0, off, hEA, hc1⟩ := (HR.out.nn HB.out.m).e.row HR.out.ok.e i1 (by omega)
        subst hEA
        have HC := Lib.hid (And.intro hc1 (And.intro l1 (And.intro ht1 z1)))
        clear hc1 l1 ht1 i1 hk1 z1
        go_upto_region 12 with (first
          | (with_reducible change wpList _ _ _ (⟨_, Op.load _ _, _, _, _, _⟩ :: _) _ _
             go_must (refine wpList_val rfl (exec_load_cells (P := Tryz.prog) 43 _ rfl (cs := bv r1) rfl HC.out.1 Tryz.underlying43 rfl (by rw [size_ent, bv_len, HC.out.2.1])) ?_))
          | (with_reducible change wpList _ _ _ (⟨_, Op.alloc _, _, _, _, _⟩ :: _) _ _
             go_must (refine wpList_alloc_var 43 rfl rfl info_ent ?_)
             intro w5 b5 m5 z5
             have A5 := Lib.hid (And.intro b5 (And.intro m5 z5))
             clear b5 m5 z5)
          | (with_reducible change wpList _ _ _ (⟨none, Op.store _ _ _, _, _, _, _⟩ :: _) _ _
             go_must (refine wpList_store_var 43 _ _ rfl rfl wr.heap.size (bv r1).toArray (bv (List.replicate 80 0)).toArray _ rfl rfl A5.out.1 (by rw [size_ent, bv_size, HC.out.2.1]) (by rw [bv_size, bv_size, HC.out.2.1]; rfl) (bv_all _) ?_)
             intro w6 b6 m6 z6
             have p6 := HB.out.nn (A5.out.2.1.new_ m6 (Nat.le_refl _))
             have A6 := Lib.hid (And.intro b6 p6)
             clear b6 m6 z6 p6)
          | (with_reducible change wpList _ _ _ (⟨some 46, _, _, _, _, _⟩ :: _) _ _
             have r6 := Rd.of_bytes A6.out.1 0 40 (by have := HC.out.2.1; omega)
             go_must (refine wpList_copy_out 24 24 _ _ rfl rfl Tryz.underlying24 size_u8n A6.out.2.out (q := 4 + 80 * k) HLB.out (dl := 1024 - (4 + 80 * k)) (dc := 1024 - (4 + 80 * k)) rfl (m := 40) (c := 40) rfl r6 (by omega) (by omega) (by omega) ?_)
             intro w7 o7 m7 z7
             have p7 := A6.out.2.at_ m7 o7
             have A7 := Lib.hid (And.intro p7 (A6.out.1.mod m7 (fun e => by have e : wr.heap.size = g := e; have := HB.out.out.blk.lt; omega)))
             clear r6 o7 m7 z7 p7))
        have p7 := A7.out.1.drew
        have r7 := Rd.of_bytes A7.out.2.drew 40 40 (by rw [HC.out.2.1]; omega)
        have hl7 : (B0 ++ (N.ents.take k).flatten ++ List.take 40 (List.drop 0 r1)).length = 4 + 80 * k + 40 := by rw [List.length_append, HLB.out, List.length_take, List.drop_zero, HC.out.2.1]; rfl
        have H7 := Lib.hid (And.intro p7 (And.intro r7 hl7))
        clear p7 r7 hl7
        refine wp_region_planV (fun _ => True) 4 (.pure 0 (.pure 1 (.pure 2 (.pure 3 (.alone 4 .nil))))) (by kernel_rfl) (by kernel_rfl) trivial ?_
        iterate 1 (refine pv_pure rfl rfl (fun K hK => ?_); go_simp; refine hK _ ?_; clear hK K)
        refine pv_is (.slice (some ⟨g, 4 + 80 * k + 40, none⟩) (1024 - (4 + 80 * k) - 40) (1024 - (4 + 80 * k) - 40)) rfl rfl (fun w' => by rw [← sub_at g (4 + 80 * k) (1024 - (4 + 80 * k)) 40 (by omega)]; exact exec_sub_l (P := Tryz.prog) 24 _ _ rfl 5 1 Tryz.underlying24 size_u8n (l := 40) rfl rfl (by omega)) (fun K hK => ?_); go_simp; refine hK _ ?_; clear hK K
        iterate 2 (refine pv_pure rfl rfl (fun K hK => ?_); go_simp; refine hK _ ?_; clear hK K)
        refine pv_copy_out 24 24 _ _ rfl rfl rfl Tryz.underlying24 size_u8n H7.out.1.out (q := 4 + 80 * k + 40) H7.out.2.2 rfl rfl H7.out.2.1 (by omega) (by omega) (by omega) ?_
        intro w8 o8 m8 z8
        have p8 := H7.out.1.at_ m8 o8
        have q8 : PutN w w8 #[.bool lf, .slice (some ⟨g0, off, none⟩) en ec, .slice KA kn kc, .slice CA cn cc] g (B0 ++ (N.ents.take (k + 1)).flatten) := by
          have e : B0 ++ (N.ents.take k).flatten ++ List.take 40 (List.drop 0 r1) ++ List.take 40 (List.drop 40 r1) = B0 ++ (N.ents.take (k + 1)).flatten := by
            rw [HC.out.2.2.1, List.flatten_append, List.drop_zero, List.append_assoc, List.append_assoc, List.take_of_length_le (l := List.drop 40 r1) (by rw [List.length_drop, HC.out.2.1]; omega), List.take_append_drop]
            simp
          rw [e] at p8
          exact p8
        have H8 := Lib.hid q8
        clear o8 m8 z8 p8 q8
        refine ⟨fun h => by simp at h, fun K hK => ?_⟩
        go_simp
        refine hK _ ?_
        clear hK K
        refine pv_nil ?_
        go_wp2_with (first
          | (with_reducible change wpList _ _ _ (⟨some 53, Op.slice _ _ _ _ _, _, _, _, _⟩ :: _) _ _
             go_must (refine wpList_sub_l 24 _ _ rfl rfl 5 1 Tryz.underlying24 size_u8n (l := 80) rfl rfl (by omega) ?_)
             rw [sub_at g (4 + 80 * k) (1024 - (4 + 80 * k)) 80 (by omega)]))
        go_roundw
        case rel => exact ⟨k + 1, 4 + 80 * (k + 1), by omega, rfl, by go_num, slc_step (by omega) (by omega), H8.out⟩
        case measure => simp [intOf]; omega
      · have hke : k = en := by omega
        subst hke
        have htk : N.ents.take k = N.ents := List.take_of_length_le (by rw [HR.out.el]; omega)
        have HTK := Lib.hid htk
        clear htk
        have C3 := HB.out.box.cell 3
        have hlt' : ¬ (k : Int) < (k : Int) := by omega
        have hroom : 4 + 80 * k + 4 * cn + 40 * kn ≤ 964 := by
          cases hl : N.leaf with
          | true => have := HK.out.1 hl; omega
          | false => have := HK.out.2 hl; omega
        generalize hB1 : B0 ++ (N.ents.take k).flatten = B1 at *
        generalize hq2 : 4 + 80 * k = q2 at *
        have HE1 := Lib.hid (And.intro hB1 hq2)
        clear C1 HP hB1 hq2
        go_wp2
        go_loopw [5, 58] (fun v i wx => ∃ j q : Nat, j ≤ cn ∧ q = q2 + 4 * j ∧ i = .int .i64 j ∧ v = .slice (some ⟨g, q, none⟩) ((1024 - q : Nat)) ((1024 - q : Nat)) ∧ PutN w wx #[.bool lf, .slice EA k ec, .slice KA kn kc, .slice CA cn cc] g (B1 ++ kidsB (N.kids.take j))) (fun _ i _ => cn - (intOf i).toNat)
        case atStart => exact ⟨0, q2, by omega, rfl, rfl, rfl, by simpa [kidsB] using HB.out⟩
        case round =>
          obtain ⟨j, q, hj, rfl, rfl, rfl, hp⟩ := hrel
          have HB2 := Lib.hid hp
          have hlB : (B1 ++ kidsB (N.kids.take j)).length = q2 + 4 * j := by
            rw [List.length_append, HLB.out, kidsB_len, List.length_take, HR.out.cl]; omega
          have HLB2 := Lib.hid hlB
          clear hp hlB
          by_cases hjt : j < cn
          · have hjt' : (j : Int) < cn := by omega
            obtain ⟨g1, off1, v, rfl, hv, hc⟩ := (HR.out.nn HB2.out.m).c.at_ hjt
            rw [List.getElem?_map] at hv
            obtain ⟨z, hz, rfl⟩ := Option.map_eq_some_iff.1 hv
            have hkz : kidOk z = true := by
              cases hl : N.leaf with
              | true => have := HK.out.1 hl; omega
              | false => exact List.all_eq_true.1 (HK.out.2 hl).2.2 z (List.mem_of_getElem? hz)
            unfold kidOk at hkz
            have hz0 := of_decide_eq_true hkz
            obtain ⟨Z, rfl⟩ : ∃ Z : Nat, z = Z := ⟨z.toNat, by omega⟩
            have hZ : Z ≤ 1048576 := by omega
            have hsn : N.kids.take (j + 1) = N.kids.take j ++ [(Z : Int)] := by
              have h1 : j < N.kids.length := (List.getElem?_eq_some_iff.1 hz).1
              rw [List.take_succ_eq_append_getElem h1, (List.getElem?_eq_some_iff.1 hz).2]
            have HS := Lib.hid hsn
            have eZ : IntKind.u32.wrap (Z : Int) = (Z : Int) := by rw [IntKind.wrap_u32]; omega
            clear hv hz hkz hz0 hsn
            go_wp2_with fail
            refine (nfour_any HB2.out.out (q := q2 + 4 * j) HLB2.out (by omega) (by omega) Z (by omega)).mono ?_
            rintro r w9 ⟨rfl, o9, m9⟩
            have p9 := HB2.out.at_ m9 o9
            have q9 : PutN w w9 #[.bool lf, .slice EA k ec, .slice KA kn kc, .slice (some ⟨g1, off1, none⟩) cn cc] g (B1 ++ kidsB (N.kids.take (j + 1))) := by
              rw [HS.out, kidsB_snoc, ← List.append_assoc]
              exact p9
            have H9 := Lib.hid q9
            clear o9 m9 p9 q9
            go_wp2_with (first
              | (with_reducible change wpList _ _ _ (⟨some 67, Op.slice _ _ _ _ _, _, _, _, _⟩ :: _) _ _
                 go_must (refine wpList_sub_l 24 _ _ rfl rfl 5 1 Tryz.underlying24 size_u8n (l := 4) rfl rfl (by omega) ?_)
                 rw [sub_at g (q2 + 4 * j) (1024 - (q2 + 4 * j)) 4 (by omega)]))
            go_roundw
            case rel => exact ⟨j + 1, q2 + 4 * (j + 1), by omega, rfl, by go_num, slc_step (by omega) (by omega), H9.out⟩
            case measure => simp [intOf]; omega
          · have hje : j = cn := by omega
            have htk : N.kids.take j = N.kids := List.take_of_length_le (by rw [HR.out.cl]; omega)
            have hq3 : q2 + 4 * j + 40 * kn ≤ 964 := by omega
            have HTK2 := Lib.hid (And.intro htk hje)
            clear htk
            have D2 := HB2.out.box.cell 2
            have hjt' : ¬ (j : Int) < (cn : Int) := by omega
            generalize hB2 : B1 ++ kidsB (N.kids.take j) = B2 at *
            generalize hq3 : q2 + 4 * j = q3 at *
            have HE2 := Lib.hid hB2
            clear hB2 C3 hje hroom HB
            go_wp2
            go_loopw [5, 72] (fun v i wx => ∃ j q : Nat, j ≤ kn ∧ q = q3 + 40 * j ∧ i = .int .i64 j ∧ v = .slice (some ⟨g, q, none⟩) ((1024 - q : Nat)) ((1024 - q : Nat)) ∧ PutN w wx #[.bool lf, .slice EA k ec, .slice KA kn kc, .slice CA cn cc] g (B2 ++ (N.keys.take j).flatten)) (fun _ i _ => kn - (intOf i).toNat)
            case atStart => exact ⟨0, q3, by omega, rfl, rfl, rfl, by simpa using HB2.out⟩
            case round =>
              obtain ⟨i, q, hi, rfl, rfl, rfl, hp⟩ := hrel
              have HB3 := Lib.hid hp
              have hlB : (B2 ++ (N.keys.take i).flatten).length = q3 + 40 * i := by
                rw [List.length_append, HLB2.out, rows_len (fun x hx => HR.out.ok.k x (List.mem_of_mem_take hx)), List.length_take, HR.out.kl]; omega
              have HLB3 := Lib.hid hlB
              clear hp hlB
              by_cases hit : i < kn
              · have hit' : (i : Int) < kn := by omega
                have hk1 : i < N.keys.length := by rw [HR.out.kl]; exact hit
                have i1 : N.keys[i]? = some N.keys[i] := List.getElem?_eq_getElem hk1
                have ht1 : N.keys.take (i + 1) = N.keys.take i ++ [N.keys[i]] := List.take_succ_eq_append_getElem hk1
                generalize N.keys[i] = r1 at i1 ht1
                obtain ⟨l1, z1⟩ := HR.out.ok.k r1 (List.mem_of_getElem? i1)
                obtain ⟨g0, off, hKA, hc1⟩ := (HR.out.nn HB3.out.m).k.row HR.out.ok.k i1 (by omega)
                subst hKA
                have HC := Lib.hid (And.intro hc1 (And.intro l1 (And.intro ht1 z1)))
                clear hc1 l1 ht1 i1 hk1 z1
                go_wp2_with (first
                  | (with_reducible change wpList _ _ _ (⟨_, Op.load _ _, _, _, _, _⟩ :: _) _ _
                     go_must (refine wpList_val rfl (exec_load_cells (P := Tryz.prog) 40 _ rfl (cs := bv r1) rfl HC.out.1 Tryz.underlying40 rfl (by rw [size_tk, bv_len, HC.out.2.1])) ?_))
                  | (with_reducible change wpList _ _ _ (⟨_, Op.alloc _, _, _, _, _⟩ :: _) _ _
                     go_must (refine wpList_alloc_var 40 rfl rfl info_tk ?_)
                     intro w5 b5 m5 z5
                     have A5 := Lib.hid (And.intro b5 (And.intro m5 z5))
                     clear b5 m5 z5)
                  | (with_reducible change wpList _ _ _ (⟨none, Op.store _ _ _, _, _, _, _⟩ :: _) _ _
                     go_must (refine wpList_store_var 40 _ _ rfl rfl wr.heap.size (bv r1).toArray (bv (List.replicate 40 0)).toArray _ rfl rfl A5.out.1 (by rw [size_tk, bv_size, HC.out.2.1]) (by rw [bv_size, bv_size, HC.out.2.1]; rfl) (bv_all _) ?_)
                     intro w6 b6 m6 z6
                     have p6 := HB3.out.nn (A5.out.2.1.new_ m6 (Nat.le_refl _))
                     have A6 := Lib.hid (And.intro b6 p6)
                     clear b6 m6 z6 p6)
                  | (with_reducible change wpList _ _ _ (⟨some 79, _, _, _, _, _⟩ :: _) _ _
                     have r6 := Rd.of_bytes A6.out.1 0 40 (by have := HC.out.2.1; omega)
                     go_must (refine wpList_copy_out 24 24 _ _ rfl rfl Tryz.underlying24 size_u8n A6.out.2.out (q := q3 + 40 * i) HLB3.out (dl := 1024 - (q3 + 40 * i)) (dc := 1024 - (q3 + 40 * i)) rfl (m := 40) (c := 40) rfl r6 (by omega) (by omega) (by omega) ?_)
                     intro w7 o7 m7 z7
                     have p7 := A6.out.2.at_ m7 o7
                     have q7 : PutN w w7 #[.bool lf, .slice EA k ec, .slice (some ⟨g0, off, none⟩) kn kc, .slice CA cn cc] g (B2 ++ (N.keys.take (i + 1)).flatten) := by
                       have e : B2 ++ (N.keys.take i).flatten ++ List.take 40 (List.drop 0 r1) = B2 ++ (N.keys.take (i + 1)).flatten := by
                         rw [HC.out.2.2.1, List.flatten_append, List.drop_zero, List.append_assoc, List.take_of_length_le (l := r1) (by have := HC.out.2.1; omega)]
                         simp
                       rw [e] at p7
                       exact p7
                     have A7 := Lib.hid q7
                     clear r6 o7 m7 z7 p7 q7)
                  | (with_reducible change wpList _ _ _ (⟨some 80, Op.slice _ _ _ _ _, _, _, _, _⟩ :: _) _ _
                     go_must (refine wpList_sub_l 24 _ _ rfl rfl 5 1 Tryz.underlying24 size_u8n (l := 40) rfl rfl (by omega) ?_)
                     rw [sub_at g (q3 + 40 * i) (1024 - (q3 + 40 * i)) 40 (by omega)]))
                go_roundw
                case rel => exact ⟨i + 1, q3 + 40 * (i + 1), by omega, rfl, by go_num, slc_step (by omega) (by omega), A7.out⟩
                case measure => simp [intOf]; omega
              · have hie : i = kn := by omega
                have htk : N.keys.take i = N.keys := List.take_of_length_le (by rw [HR.out.kl]; omega)
                have hit' : ¬ (i : Int) < (kn : Int) := by omega
                have hbody : ∀ b : List Nat, B2 ++ (N.keys.take i).flatten = b → b ++ List.replicate (1020 - b.length) 0 = N.body ∧ N.body.length = 1020 ∧ ∀ z ∈ N.body, z < 256 := by
                  intro b hb
                  have e : (if N.leaf then [1, N.ents.length % 256, 0, 0] else [2, N.kids.length % 256, 0, 0]) ++ N.ents.flatten ++ (N.kids.map (fun k => num k.toNat 4)).flatten ++ N.keys.flatten = b := by
                    rw [← hb, htk, ← HE2.out, HTK2.out.1, ← HE1.out.1, HTK.out, ← hB0]
                    rfl
                  have e2 : N.body = b ++ List.replicate (1020 - b.length) 0 := by unfold Nd.body; rw [e]
                  have e3 : b.length ≤ 1020 := by rw [← hb, HLB3.out]; omega
                  have hz : ∀ z ∈ b, z < 256 := by
                    intro z hz
                    rw [← e] at hz
                    rcases List.mem_append.1 hz with hz | hz
                    · rcases List.mem_append.1 hz with hz | hz
                      · rcases List.mem_append.1 hz with hz | hz
                        · have : N.ents.length % 256 < 256 := by omega
                          have : N.kids.length % 256 < 256 := by omega
                          split at hz <;> simp at hz <;> omega
                        · exact rows_lt HR.out.ok.e z hz
                      · exact kidsB_lt N.kids z hz
                    · exact rows_lt HR.out.ok.k z hz
                  refine ⟨e2.symm, by rw [e2, List.length_append, List.length_replicate]; omega, ?_⟩
                  rw [e2]
                  intro z hzz
                  rcases List.mem_append.1 hzz with h | h
                  · exact hz z h
                  · rw [List.eq_of_mem_replicate h]; omega
                generalize hB3 : B2 ++ (N.keys.take i).flatten = B3 at *
                obtain ⟨e1, e2, e3⟩ := hbody B3 rfl
                have op := HB3.out.out.pad (k := 1020 - B3.length) (by have := HLB3.out; omega)
                rw [e1] at op
                have pp : PutN w wr #[.bool lf, .slice EA k ec, .slice KA kn kc, .slice CA cn cc] g N.body := ⟨HB3.out.m, HB3.out.box, op, HB3.out.gb⟩
                have HF := Lib.hid (And.intro pp.drew (And.intro e2 e3))
                clear hbody op pp e1 e2 e3 hB3 hB0 hie D2 htk
                go_wp2_with fail
                refine wp_region_planV (fun _ => True) 5 (.pure 0 (.pure 1 (.pure 2 (.pure 3 (.alone 4 (.alone 5 .nil)))))) (by kernel_rfl) (by kernel_rfl) trivial ?_
                iterate 1 (refine pv_pure rfl rfl (fun K hK => ?_); go_simp; refine hK _ ?_; clear hK K)
                refine pv_is (.slice (some ⟨g, 1020, none⟩) 4 4) rfl rfl (fun w' => exec_sub_l (P := Tryz.prog) (A := some ⟨g, 0, none⟩) 24 _ _ rfl 5 1 Tryz.underlying24 size_u8n (n := 1024) (c := 1024) (l := 1020) rfl rfl (by omega)) (fun K hK => ?_); go_simp; refine hK _ ?_; clear hK K
                iterate 1 (refine pv_pure rfl rfl (fun K hK => ?_); go_simp; refine hK _ ?_; clear hK K)
                refine pv_is (.slice (some ⟨g, 0, none⟩) 1020 1024) rfl rfl (fun w' => exec_sub_h (P := Tryz.prog) (A := some ⟨g, 0, none⟩) 24 _ _ rfl 5 1 Tryz.underlying24 size_u8n (n := 1024) (c := 1024) (h := 1020) rfl rfl (by omega)) (fun K hK => ?_); go_simp; refine hK _ ?_; clear hK K
                refine pv_call rfl rfl (fun K hK => ?_); go_simp; refine ⟨_, _, ⟨rfl, rfl⟩, hK _ _ _ ?_⟩; clear hK K
                refine (crc_sum (HF.out.1.out.rd HF.out.2.1) HF.out.2.2 (by omega)).mono ?_
                rintro r w8 ⟨rfl, m8⟩
                have p8 := HF.out.1.nn m8
                have hS0 : (crcS cas 0#32 N.body).toNat = N.sum := rfl
                have hSl : N.sum < 4294967296 := (crcS cas 0#32 N.body).isLt
                rw [hS0]
                have HS := Lib.hid p8
                generalize hS : N.sum = S at *
                have HSS := Lib.hid hS
                clear m8 p8 hS0 hS
                refine ⟨_, rfl, fun _ => trivial, ?_⟩
                refine pv_call rfl rfl (fun K hK => ?_); go_simp; refine ⟨_, _, ⟨rfl, rfl⟩, hK _ _ _ ?_⟩; clear hK K
                refine (nfour_any HS.out.out (q := 1020) HF.out.2.1 (by omega) (by omega) S hSl).mono ?_
                rintro r w9 ⟨rfl, o9, m9⟩
                have p9 := HS.out.at_ m9 o9
                have HP9 := Lib.hid p9
                clear o9 m9 p9
                refine ⟨_, rfl, fun _ => trivial, ?_⟩
                refine pv_nil ?_
                go_wp2
                go_ret2
                refine ⟨g, rfl, ?_, HP9.out.m, Nat.le_of_lt HP9.out.gb⟩
                unfold Nd.bytes
                rw [HSS.out]
                exact HP9.out.out
end
end Go.Proofs.YtfoldjnmknaklaaGreat
