/- Own lemmas of several kinds, put together: NdM0, NdM, NdL. -/
import Derived.Test.YtfoldjnmknaklaaGreatNdAw
import Derived.Test.YtfoldjnmknaklaaGreatBytesS
import Derived.Test.YtfoldjnmknaklaaGreatKitB
import Derived.Test.YtfoldjnmknaklaaGreatNdRb
import Derived.Test.YtfoldjnmknaklaaGreatNdSx
import Derived.Test.YtfoldjnmknaklaaGreatRwL
/- node.Put of any node: one contract. -/
namespace Go.Proofs.YtfoldjnmknaklaaGreat
open Go.RowKit

def Nd.perr (N : Nd) : Int := if N.right = true then 0 else 4
def Nd.pbytes (N : Nd) : List Nat := if N.right = true then N.bytes else []
theorem nd_pb {N : Nd} (hok : N.ok) : N.pbytes.length ≤ 1024 ∧ ∀ z ∈ N.pbytes, z < 256 := by
  unfold Nd.pbytes
  split
  · next h => exact ⟨by rw [(bytes_ok hok h).1]; exact Nat.le_refl _, (bytes_ok hok h).2⟩
  · exact ⟨Nat.zero_le _, (fun z hz => by cases hz)⟩
/-- what Put tells -/
def NPut (w : World) (N : Nd) (r : Ending) (w' : World) : Prop :=
  ∃ (A' : Option Addr) (c' : Nat), r = .returned (.tuple #[.slice A' N.pbytes.length c', .int .i64 N.perr]) ∧ w'.ownsRow w.heap.size 5 1 (.slice A' N.pbytes.length c') N.pbytes.length (bv N.pbytes) ∧ Mod Nn w w'
section
variable {w w' : World} {N : Nd} {EA KA CA : Option Addr} {en ec kn kc cn cc : Nat}
theorem nput_all (h : NdR w N EA en KA kn CA cn) : Calls Tryz.prog 5 #[ndV N.leaf EA en ec KA kn kc CA cn cc] w (NPut w N) := by
  cases hr : N.right with
  | true =>
    refine (nput_ok h hr).mono fun r w' ⟨g, h1, h2, h3, h4⟩ => ?_
    unfold NPut Nd.pbytes Nd.perr
    rw [if_pos hr, if_pos hr]
    have hl := (bytes_ok h.ok hr).1
    refine ⟨some ⟨g, 0, none⟩, 1024, by rw [hl]; exact h1, ?_, h3⟩
    have hb := h2.blk
    rw [hl, Nat.sub_self, List.replicate_zero, List.append_nil] at hb
    rw [hl]
    exact own_of_blk hb h4 (by rw [bv_size, hl]) (by decide) (Nat.le_refl _) (by
      show (bv N.bytes).take 1024 = bv N.bytes
      rw [List.take_of_length_le (by rw [bv_len, hl]; exact Nat.le_refl _)])
  | false =>
    refine (nput_bad h hr).mono fun r w' ⟨h1, h2⟩ => ?_
    unfold NPut Nd.pbytes Nd.perr
    rw [if_neg (by rw [hr]; exact Bool.false_ne_true), if_neg (by rw [hr]; exact Bool.false_ne_true)]
    exact ⟨none, 0, h1, own_nil _ _ _ _, h2⟩
/-- the slices read as a node, of whatever size -/
structure NdQ (w : World) (N : Nd) (EA : Option Addr) (en : Nat) (KA : Option Addr) (kn : Nat) (CA : Option Addr) (cn : Nat) : Prop where
  e : RdC w EA en 80 (bv N.ents.flatten)
  k : RdC w KA kn 40 (bv N.keys.flatten)
  c : Rd w CA cn (N.kids.map (Value.int .i64))
  el : N.ents.length = en
  kl : N.keys.length = kn
  cl : N.kids.length = cn
  ok : N.ok
theorem NdQ.r (h : NdQ w N EA en KA kn CA cn) (hs : ¬ 3000 < en + kn + cn) : NdR w N EA en KA kn CA cn := ⟨h.e, h.k, h.c, h.el, h.kl, h.cl, h.ok, by omega, by omega, by omega⟩
end
end Go.Proofs.YtfoldjnmknaklaaGreat

/- The document's Put of any node: one contract. -/
namespace Go.Proofs.YtfoldjnmknaklaaGreat
open Go.RowKit

section
variable {w w' : World} {N : Nd} {EA KA CA : Option Addr} {en ec kn kc cn cc : Nat}
theorem rput_all (h : NdR w N EA en KA kn CA cn) : Calls Tryz.prog 32 #[ndV N.leaf EA en ec KA kn kc CA cn cc] w (NPut w N) := by
  cases hr : N.right with
  | true =>
    refine (rput_ok h hr).mono fun r w' ⟨v, h1, h2, h3⟩ => ?_
    obtain ⟨A', c', rfl, _, _⟩ := own_form h2
    unfold NPut Nd.pbytes Nd.perr
    rw [if_pos hr, if_pos hr]
    have hl := (bytes_ok h.ok hr).1
    rw [hl]
    exact ⟨A', c', h1, h2, h3⟩
  | false =>
    refine (rput_bad h hr).mono fun r w' ⟨h1, h2⟩ => ?_
    unfold NPut Nd.pbytes Nd.perr
    rw [if_neg (by rw [hr]; exact Bool.false_ne_true), if_neg (by rw [hr]; exact Bool.false_ne_true)]
    exact ⟨none, 0, h1, own_nil _ _ _ _, h2⟩
end
end Go.Proofs.YtfoldjnmknaklaaGreat

/- peatbankkit over nodes: LentNode, KeptNode, OverNode. -/
namespace Go.Proofs.YtfoldjnmknaklaaGreat
open Go.RowKit

theorem size_nodeL : (Tryz.prog.info? 32).map (·.size) = some 4 := by kernel_rfl
/-- a node's rows lent out: with marks behind their ends -/
structure LentB (w : World) (base : Nat) (N : Nd) (g1 g2 g3 : Nat) : Prop where
  e : Blk w g1 43 (bv (N.ents ++ mkRows 80 1 12).flatten).toArray
  k : Blk w g2 40 (bv (N.keys ++ mkRows 40 1 12).flatten).toArray
  c : Blk w g3 3 ((N.kids ++ mki 1 12).map (Value.int .i64)).toArray
  b1 : base ≤ g1
  b2 : base ≤ g2
  b3 : base ≤ g3
section
variable {w w' : World} {N : Nd} {EA KA CA : Option Addr} {en ec kn kc cn cc base g1 g2 g3 : Nat} {S : Nat → Prop}
theorem LentB.mod (h : LentB w base N g1 g2 g3) (hm : Mod S w w') (h1 : ¬ S g1) (h2 : ¬ S g2) (h3 : ¬ S g3) : LentB w' base N g1 g2 g3 := ⟨h.e.mod hm h1, h.k.mod hm h2, h.c.mod hm h3, h.b1, h.b2, h.b3⟩
theorem LentB.nn (h : LentB w base N g1 g2 g3) (hm : Mod Nn w w') : LentB w' base N g1 g2 g3 := h.mod hm (fun f => f) (fun f => f) (fun f => f)
theorem LentB.nd (h : LentB w base N g1 g2 g3) (hn : NdR w' N EA en KA kn CA cn) : NdR w N (some ⟨g1, 0, none⟩) en (some ⟨g2, 0, none⟩) kn (some ⟨g3, 0, none⟩) cn :=
  ⟨rdc_of_blk h.e hn.ok.e hn.el, rdc_of_blk h.k hn.ok.k hn.kl, Rd.of_blk h.c 0 (by rw [List.length_map]; exact hn.cl) (fun j v hv => by
    rw [Nat.zero_add, List.getElem?_toArray, List.map_append, List.getElem?_append_left (List.getElem?_eq_some_iff.1 hv).1]; exact hv), hn.el, hn.kl, hn.cl, hn.ok, hn.be, hn.bk, hn.bc⟩
theorem CopW.farB {wr : World} {p q i g : Nat} {cs ds : Array Value} {t : TypeId} {u : Value} (h : CopW w wr p q cs) (hb : Blk wr g t ds) (hg : q < g) : Blk (wr.setCell ⟨p, i, none⟩ u) g t ds :=
  hb.mod (Mod.cellAt _ _ _ _) (fun e => by have e : g = p := e; have := h.pq; omega)
set_option maxRecDepth 100000 in
set_option maxHeartbeats 3200000 in
theorem lentN_any {lf : Bool} (h : NdR w N EA en KA kn CA cn) :
    Calls Tryz.prog 28 #[ndV lf EA en ec KA kn kc CA cn cc] w fun r w' => ∃ g1 g2 g3, r = .returned (ndV lf (some ⟨g1, 0, none⟩) en (en + 12) (some ⟨g2, 0, none⟩) kn (kn + 12) (some ⟨g3, 0, none⟩) cn (cn + 12)) ∧ LentB w' w.heap.size N g1 g2 g3 ∧ Mod Nn w w' := by
  unfold ndV
  have m1 : Mod Nn w (w.alloc (.cells #[.bool lf, .slice EA en ec, .slice KA kn kc, .slice CA cn cc] 32)) := (Mod.refl Nn w).alloc _
  have b1 : Blk (w.alloc (.cells #[.bool lf, .slice EA en ec, .slice KA kn kc, .slice CA cn cc] 32)) w.heap.size 32 #[.bool lf, .slice EA en ec, .slice KA kn kc, .slice CA cn cc] := Blk.new _ _ _
  have z1 : (w.alloc (.cells #[.bool lf, .slice EA en ec, .slice KA kn kc, .slice CA cn cc] 32)).heap.size = w.heap.size + 1 := by simp
  have HM := Lib.hid (And.intro m1 (And.intro b1 (And.intro h z1)))
  clear m1 b1 h z1
  go_enter Tryz.func28, Tryz.ntmps28
  go_wp2_with (first
    | (with_reducible change wpList _ _ _ (⟨some 2, Op.alloc _, _, _, _, _⟩ :: _) _ _
       go_must (refine wpList_alloc_var 32 rfl rfl info_node ?_)
       intro w2 b2 m2 z2
       rw [HM.out.2.2.2] at b2 z2 ⊢
       have HB : Hid (CopW w w2 w.heap.size (w.heap.size + 1) #[.bool lf, .slice EA en ec, .slice KA kn kc, .slice CA cn cc]) := Lib.hid ⟨HM.out.1.nn_ m2, HM.out.2.1.mod m2 (fun f => f), b2, by omega, by omega⟩
       have Z2 := Lib.hid z2
       have C1 : w2.cell? ⟨w.heap.size, 1, none⟩ = some (.slice EA en ec) := HB.out.box.cell 1
       clear b2 m2 z2))
  refine (lentE_any (HM.out.2.2.1.nn HB.out.m).e HM.out.2.2.1.be).mono ?_
  rintro r w3 ⟨g1, rfl, o3, m3, hg1⟩
  have H3 := Lib.hid (And.intro (HB.out.nn m3) (And.intro o3 (And.intro m3.size (show w.heap.size + 1 < g1 by have := Z2.out; omega))))
  have F3 := H3.out.1.box.frozen 1
  have C3 := H3.out.1.box.cell 1
  clear m3 o3 C1 hg1
  go_wp2_with (first
    | (with_reducible change wpList _ _ _ (⟨some 8, Op.load _ _, _, _, _, _⟩ :: _) _ _
       have H4 := Lib.hid (And.intro (H3.out.1.set 1 (.slice (some ⟨g1, 0, none⟩) en (en + 12))) (And.intro (H3.out.1.farB (i := 1) (u := .slice (some ⟨g1, 0, none⟩) en (en + 12)) H3.out.2.1 H3.out.2.2.2) (show w.heap.size + 1 < (w3.setCell ⟨w.heap.size, 1, none⟩ (.slice (some ⟨g1, 0, none⟩) en (en + 12))).heap.size from by have := H3.out.2.2.1; have := Z2.out; simp; omega)))
       clear F3 C3
       generalize w3.setCell ⟨w.heap.size, 1, none⟩ (.slice (some ⟨g1, 0, none⟩) en (en + 12)) = w4 at *
       have C4 : w4.cell? ⟨w.heap.size, 2, none⟩ = some (.slice KA kn kc) := H4.out.1.box.cell 2
       go_must (refine wpList_val rfl (exec_load1 (P := Tryz.prog) 29 _ rfl rfl C4 Tryz.underlying29 rfl) ?_)))
  refine (lentK_any (HM.out.2.2.1.nn H4.out.1.m).k HM.out.2.2.1.bk).mono ?_
  rintro r w5 ⟨g2, rfl, o5, m5, hg2⟩
  have H5 := Lib.hid (And.intro (H4.out.1.nn m5) (And.intro (H4.out.2.1.mod m5 (fun f => f)) (And.intro o5 (And.intro m5.size (show w.heap.size + 1 < g2 by have := H4.out.2.2; omega)))))
  have F5 := H5.out.1.box.frozen 2
  have C5 := H5.out.1.box.cell 2
  clear m5 o5 C4 hg2
  go_wp2_with (first
    | (with_reducible change wpList _ _ _ (⟨some 12, Op.load _ _, _, _, _, _⟩ :: _) _ _
       have H6 := Lib.hid (And.intro (H5.out.1.set 2 (.slice (some ⟨g2, 0, none⟩) kn (kn + 12))) (And.intro (H5.out.1.farB (i := 2) (u := .slice (some ⟨g2, 0, none⟩) kn (kn + 12)) H5.out.2.1 H3.out.2.2.2) (And.intro (H5.out.1.farB (i := 2) (u := .slice (some ⟨g2, 0, none⟩) kn (kn + 12)) H5.out.2.2.1 H5.out.2.2.2.2) (show w.heap.size + 1 < (w5.setCell ⟨w.heap.size, 2, none⟩ (.slice (some ⟨g2, 0, none⟩) kn (kn + 12))).heap.size from by have := H5.out.2.2.2.1; have := H4.out.2.2; simp; omega))))
       clear F5 C5
       generalize w5.setCell ⟨w.heap.size, 2, none⟩ (.slice (some ⟨g2, 0, none⟩) kn (kn + 12)) = w6 at *
       have C6 : w6.cell? ⟨w.heap.size, 3, none⟩ = some (.slice CA cn cc) := H6.out.1.box.cell 3
       go_must (refine wpList_val rfl (exec_load1 (P := Tryz.prog) 30 _ rfl rfl C6 Tryz.underlying30 rfl) ?_)))
  refine (lentI_any (HM.out.2.2.1.nn H6.out.1.m).c (by have := HM.out.2.2.1.bc; omega)).mono ?_
  rintro r w7 ⟨g3, rfl, o7, m7, hg3⟩
  have H7 := Lib.hid (And.intro (H6.out.1.nn m7) (And.intro (H6.out.2.1.mod m7 (fun f => f)) (And.intro (H6.out.2.2.1.mod m7 (fun f => f)) (And.intro o7 (show w.heap.size + 1 < g3 by have := H6.out.2.2.2; omega)))))
  have F7 := H7.out.1.box.frozen 3
  have C7 := H7.out.1.box.cell 3
  clear m7 o7 C6 hg3
  go_wp2_with (first
    | (with_reducible change wpList _ _ _ (⟨some 15, Op.load _ _, _, _, _, _⟩ :: _) _ _
       have H8 := Lib.hid (And.intro (H7.out.1.set 3 (.slice (some ⟨g3, 0, none⟩) cn (cn + 12))) (And.intro (H7.out.1.farB (i := 3) (u := .slice (some ⟨g3, 0, none⟩) cn (cn + 12)) H7.out.2.1 H3.out.2.2.2) (And.intro (H7.out.1.farB (i := 3) (u := .slice (some ⟨g3, 0, none⟩) cn (cn + 12)) H7.out.2.2.1 H5.out.2.2.2.2) (H7.out.1.farB (i := 3) (u := .slice (some ⟨g3, 0, none⟩) cn (cn + 12)) H7.out.2.2.2.1 H7.out.2.2.2.2))))
       clear F7 C7
       generalize w7.setCell ⟨w.heap.size, 3, none⟩ (.slice (some ⟨g3, 0, none⟩) cn (cn + 12)) = w8 at *
       have b8 : Blk w8 w.heap.size 32 #[.bool lf, .slice (some ⟨g1, 0, none⟩) en (en + 12), .slice (some ⟨g2, 0, none⟩) kn (kn + 12), .slice (some ⟨g3, 0, none⟩) cn (cn + 12)] := H8.out.1.box
       go_must (refine wpList_load_var 32 _ rfl rfl w.heap.size _ _ _ rfl b8 Tryz.underlying32 rfl size_nodeL ?_))
    | (with_reducible change wpList _ _ _ (⟨none, Op.store _ (.tmp 2) _, _, _, _, _⟩ :: _) _ _
       go_must (refine wpList_store_var 32 _ _ rfl rfl (w.heap.size + 1) #[.bool lf, .slice (some ⟨g1, 0, none⟩) en (en + 12), .slice (some ⟨g2, 0, none⟩) kn (kn + 12), .slice (some ⟨g3, 0, none⟩) cn (cn + 12)] _ _ rfl rfl H8.out.1.res size_nodeL rfl (one_nd _ _ _ _ _ _ _ _ _ _) ?_)
       intro w9 b9 m9 z9
       have h1 := H3.out.2.2.2; have h2 := H5.out.2.2.2.2; have h3 := H7.out.2.2.2.2
       have H9 : Hid (Mod Nn w w9 ∧ LentB w9 w.heap.size N g1 g2 g3) := Lib.hid ⟨H8.out.1.m.new_ m9 (by omega), H8.out.2.1.mod m9 (fun e => by have e : g1 = w.heap.size + 1 := e; omega), H8.out.2.2.1.mod m9 (fun e => by have e : g2 = w.heap.size + 1 := e; omega), H8.out.2.2.2.mod m9 (fun e => by have e : g3 = w.heap.size + 1 := e; omega), by omega, by omega, by omega⟩
       have C0 := b9.cell 0; have C1 := b9.cell 1; have C2 := b9.cell 2; have C3 := b9.cell 3
       clear m9 b9 z9 h1 h2 h3))
  refine bodyPost_ret (v := .agg #[.bool lf, .slice (some ⟨g1, 0, none⟩) en (en + 12), .slice (some ⟨g2, 0, none⟩) kn (kn + 12), .slice (some ⟨g3, 0, none⟩) cn (cn + 12)]) (by simp [results, Tryz.results28, go_sem, C0, C1, C2, C3]) rfl ⟨_, _, _, rfl, H9.out.2, H9.out.1⟩
set_option maxRecDepth 100000 in
set_option maxHeartbeats 3200000 in
theorem keptN_any {lf : Bool} (hl : LentB w base N g1 g2 g3) (hn : NdR w N EA en KA kn CA cn) :
    Calls Tryz.prog 30 #[ndV lf (some ⟨g1, 0, none⟩) en (en + 12) (some ⟨g2, 0, none⟩) kn (kn + 12) (some ⟨g3, 0, none⟩) cn (cn + 12), ndV lf EA en ec KA kn kc CA cn cc] w fun r w' => r = .returned (.bool true) ∧ Mod Nn w w' := by
  have hs : ∀ w', Mod Nn w w' → _ := fun w' hm => sameN_yes (lf := lf) (ec := en + 12) (kc := kn + 12) (cc := cn + 12) (ed := ec) (kd := kc) (cd := cc) ((hl.nd hn).nn hm) (hn.nn hm)
  unfold ndV at *
  have m1 : Mod Nn w ((w.alloc (.cells #[.bool lf, .slice (some ⟨g1, 0, none⟩) en (en + 12), .slice (some ⟨g2, 0, none⟩) kn (kn + 12), .slice (some ⟨g3, 0, none⟩) cn (cn + 12)] 32)).alloc (.cells #[.bool lf, .slice EA en ec, .slice KA kn kc, .slice CA cn cc] 32)) := ((Mod.refl Nn w).alloc _).alloc _
  have b1 : Blk ((w.alloc (.cells #[.bool lf, .slice (some ⟨g1, 0, none⟩) en (en + 12), .slice (some ⟨g2, 0, none⟩) kn (kn + 12), .slice (some ⟨g3, 0, none⟩) cn (cn + 12)] 32)).alloc (.cells #[.bool lf, .slice EA en ec, .slice KA kn kc, .slice CA cn cc] 32)) w.heap.size 32 #[.bool lf, .slice (some ⟨g1, 0, none⟩) en (en + 12), .slice (some ⟨g2, 0, none⟩) kn (kn + 12), .slice (some ⟨g3, 0, none⟩) cn (cn + 12)] := (Blk.new w _ _).alloc _
  have b2 : Blk ((w.alloc (.cells #[.bool lf, .slice (some ⟨g1, 0, none⟩) en (en + 12), .slice (some ⟨g2, 0, none⟩) kn (kn + 12), .slice (some ⟨g3, 0, none⟩) cn (cn + 12)] 32)).alloc (.cells #[.bool lf, .slice EA en ec, .slice KA kn kc, .slice CA cn cc] 32)) (w.heap.size + 1) 32 #[.bool lf, .slice EA en ec, .slice KA kn kc, .slice CA cn cc] := by
    have := Blk.new (w.alloc (.cells #[.bool lf, .slice (some ⟨g1, 0, none⟩) en (en + 12), .slice (some ⟨g2, 0, none⟩) kn (kn + 12), .slice (some ⟨g3, 0, none⟩) cn (cn + 12)] 32)) 32 #[.bool lf, .slice EA en ec, .slice KA kn kc, .slice CA cn cc]
    rwa [show (w.alloc (.cells #[.bool lf, .slice (some ⟨g1, 0, none⟩) en (en + 12), .slice (some ⟨g2, 0, none⟩) kn (kn + 12), .slice (some ⟨g3, 0, none⟩) cn (cn + 12)] 32)).heap.size = w.heap.size + 1 from by simp] at this
  have HS := Lib.hid hs
  have H := Lib.hid (And.intro m1 (And.intro b1 (And.intro b2 (And.intro hl hn))))
  clear m1 b1 b2 hl hn hs
  go_enter Tryz.func30, Tryz.ntmps30
  go_wp2_with (first
    | (with_reducible change wpList _ _ _ (⟨some 5, Op.load _ _, _, _, _, _⟩ :: _) _ _
       go_must (refine wpList_load_var 32 _ rfl rfl w.heap.size _ _ _ rfl H.out.2.1 Tryz.underlying32 rfl size_nodeL ?_))
    | (with_reducible change wpList _ _ _ (⟨some 6, Op.load _ _, _, _, _, _⟩ :: _) _ _
       go_must (refine wpList_load_var 32 _ rfl rfl (w.heap.size + 1) _ _ _ rfl H.out.2.2.1 Tryz.underlying32 rfl size_nodeL ?_)))
  refine (HS.out _ H.out.1).mono ?_
  rintro r w2 ⟨rfl, m2⟩
  have M2 := Lib.hid (And.intro (H.out.1.nn_ m2) (And.intro (H.out.2.1.mod m2 (fun f => f)) (H.out.2.2.1.mod m2 (fun f => f))))
  have C2 : w2.cell? ⟨w.heap.size, 1, none⟩ = some (.slice (some ⟨g1, 0, none⟩) en (en + 12)) := M2.out.2.1.cell 1
  have D2 : w2.cell? ⟨w.heap.size + 1, 1, none⟩ = some (.slice EA en ec) := M2.out.2.2.cell 1
  clear m2
  go_wp2_with fail
  refine (keptE_any (H.out.2.2.2.2.nn M2.out.1).e H.out.2.2.2.2.ok.e H.out.2.2.2.2.el (H.out.2.2.2.1.nn M2.out.1).e H.out.2.2.2.2.be).mono ?_
  rintro r w3 ⟨rfl, m3⟩
  have M3 := Lib.hid (And.intro (M2.out.1.nn_ m3) (And.intro (M2.out.2.1.mod m3 (fun f => f)) (M2.out.2.2.mod m3 (fun f => f))))
  have C3 : w3.cell? ⟨w.heap.size, 2, none⟩ = some (.slice (some ⟨g2, 0, none⟩) kn (kn + 12)) := M3.out.2.1.cell 2
  have D3 : w3.cell? ⟨w.heap.size + 1, 2, none⟩ = some (.slice KA kn kc) := M3.out.2.2.cell 2
  clear m3 C2 D2
  go_wp2_with fail
  refine (keptK_any (H.out.2.2.2.2.nn M3.out.1).k H.out.2.2.2.2.ok.k H.out.2.2.2.2.kl (H.out.2.2.2.1.nn M3.out.1).k H.out.2.2.2.2.bk).mono ?_
  rintro r w4 ⟨rfl, m4⟩
  have M4 := Lib.hid (And.intro (M3.out.1.nn_ m4) (And.intro (M3.out.2.1.mod m4 (fun f => f)) (M3.out.2.2.mod m4 (fun f => f))))
  have C4 : w4.cell? ⟨w.heap.size, 3, none⟩ = some (.slice (some ⟨g3, 0, none⟩) cn (cn + 12)) := M4.out.2.1.cell 3
  have D4 : w4.cell? ⟨w.heap.size + 1, 3, none⟩ = some (.slice CA cn cc) := M4.out.2.2.cell 3
  clear m4 C3 D3
  go_wp2_with fail
  refine (keptI_any (H.out.2.2.2.2.nn M4.out.1).c (H.out.2.2.2.1.nn M4.out.1).c (by have := H.out.2.2.2.2.bc; omega)).mono ?_
  rintro r w5 ⟨rfl, m5⟩
  have M5 := Lib.hid (M4.out.1.nn_ m5)
  clear m5 C4 D4
  go_wp2
  go_ret
  exact ⟨rfl, M5.out⟩
set_option maxRecDepth 100000 in
set_option maxHeartbeats 3200000 in
theorem overN_any {lf : Bool} (hl : LentB w base N g1 g2 g3) (hn : NdR w' N EA en KA kn CA cn) :
    Calls Tryz.prog 31 #[ndV lf (some ⟨g1, 0, none⟩) en (en + 12) (some ⟨g2, 0, none⟩) kn (kn + 12) (some ⟨g3, 0, none⟩) cn (cn + 12)] w fun r w' => r = .returned (.tuple #[]) ∧ Mod (fun g => g = g1 ∨ g = g2 ∨ g = g3) w w' := by
  unfold ndV
  have m1 : Mod Nn w (w.alloc (.cells #[.bool lf, .slice (some ⟨g1, 0, none⟩) en (en + 12), .slice (some ⟨g2, 0, none⟩) kn (kn + 12), .slice (some ⟨g3, 0, none⟩) cn (cn + 12)] 32)) := (Mod.refl Nn w).alloc _
  have b1 : Blk (w.alloc (.cells #[.bool lf, .slice (some ⟨g1, 0, none⟩) en (en + 12), .slice (some ⟨g2, 0, none⟩) kn (kn + 12), .slice (some ⟨g3, 0, none⟩) cn (cn + 12)] 32)) w.heap.size 32 #[.bool lf, .slice (some ⟨g1, 0, none⟩) en (en + 12), .slice (some ⟨g2, 0, none⟩) kn (kn + 12), .slice (some ⟨g3, 0, none⟩) cn (cn + 12)] := Blk.new _ _ _
  have s1 : (bv (N.ents ++ mkRows 80 1 12).flatten).toArray.size = (en + 12) * 80 := by rw [bv_size, rows_len (hn.ok.e.append (mkRows_ok (by omega) 1 12)), List.length_append, mkRows_len, hn.el]
  have s2 : (bv (N.keys ++ mkRows 40 1 12).flatten).toArray.size = (kn + 12) * 40 := by rw [bv_size, rows_len (hn.ok.k.append (mkRows_ok (by omega) 1 12)), List.length_append, mkRows_len, hn.kl]
  have s3 : ((N.kids ++ mki 1 12).map (Value.int .i64)).toArray.size = cn + 12 := by rw [List.size_toArray, List.length_map, List.length_append, mki_len, hn.cl]
  have hg1 := hl.e.lt; have hg2 := hl.k.lt; have hg3 := hl.c.lt
  have n12 : g1 ≠ g2 := hl.e.ne_ hl.k (by decide)
  have n13 : g1 ≠ g3 := hl.e.ne_ hl.c (by decide)
  have n23 : g2 ≠ g3 := hl.k.ne_ hl.c (by decide)
  have H := Lib.hid (And.intro m1 (And.intro b1 (And.intro (hl.nn m1) (And.intro s1 (And.intro s2 (And.intro s3 (And.intro hn.be (And.intro hn.bk hn.bc))))))))
  have HG := Lib.hid (And.intro (And.intro hg1 (And.intro hg2 hg3)) (And.intro n12 (And.intro n13 n23)))
  clear m1 b1 s1 s2 s3 hl hn hg1 hg2 hg3 n12 n13 n23
  go_enter Tryz.func31, Tryz.ntmps31
  go_wp2_with fail
  refine (overE_any H.out.2.2.1.e H.out.2.2.2.1 H.out.2.2.2.2.2.2.1).mono ?_
  rintro r w2 ⟨rfl, m2⟩
  have M2 : Hid (Mod (fun g => g = g1 ∨ g = g2 ∨ g = g3) w w2 ∧ Blk w2 w.heap.size 32 #[.bool lf, .slice (some ⟨g1, 0, none⟩) en (en + 12), .slice (some ⟨g2, 0, none⟩) kn (kn + 12), .slice (some ⟨g3, 0, none⟩) cn (cn + 12)] ∧ Blk w2 g2 40 (bv (N.keys ++ mkRows 40 1 12).flatten).toArray ∧ Blk w2 g3 3 ((N.kids ++ mki 1 12).map (Value.int .i64)).toArray) :=
    Lib.hid ⟨H.out.1.nn.then_ m2 (fun g _ e => .inl e), H.out.2.1.mod m2 (fun e => by have e : w.heap.size = g1 := e; have := HG.out.1.1; omega), H.out.2.2.1.k.mod m2 (fun e => HG.out.2.1 e.symm), H.out.2.2.1.c.mod m2 (fun e => HG.out.2.2.1 e.symm)⟩
  have C2 : w2.cell? ⟨w.heap.size, 2, none⟩ = some (.slice (some ⟨g2, 0, none⟩) kn (kn + 12)) := M2.out.2.1.cell 2
  clear m2
  go_wp2_with fail
  refine (overK_any M2.out.2.2.1 H.out.2.2.2.2.1 H.out.2.2.2.2.2.2.2.1).mono ?_
  rintro r w3 ⟨rfl, m3⟩
  have M3 : Hid (Mod (fun g => g = g1 ∨ g = g2 ∨ g = g3) w w3 ∧ Blk w3 w.heap.size 32 #[.bool lf, .slice (some ⟨g1, 0, none⟩) en (en + 12), .slice (some ⟨g2, 0, none⟩) kn (kn + 12), .slice (some ⟨g3, 0, none⟩) cn (cn + 12)] ∧ Blk w3 g3 3 ((N.kids ++ mki 1 12).map (Value.int .i64)).toArray) :=
    Lib.hid ⟨M2.out.1.then_ m3 (fun g _ e => .inr (.inl e)), M2.out.2.1.mod m3 (fun e => by have e : w.heap.size = g2 := e; have := HG.out.1.2.1; omega), M2.out.2.2.2.mod m3 (fun e => HG.out.2.2.2 e.symm)⟩
  have C3 : w3.cell? ⟨w.heap.size, 3, none⟩ = some (.slice (some ⟨g3, 0, none⟩) cn (cn + 12)) := M3.out.2.1.cell 3
  clear m3 C2
  go_wp2_with fail
  refine (overI_any M3.out.2.2 H.out.2.2.2.2.2.1 (by have := H.out.2.2.2.2.2.2.2.2; omega)).mono ?_
  rintro r w4 ⟨rfl, m4⟩
  have M4 := Lib.hid (M3.out.1.then_ m4 (fun g _ e => .inr (.inr e)))
  clear m4 C3
  go_wp2
  go_end0
  exact ⟨rfl, M4.out⟩
end
end Go.Proofs.YtfoldjnmknaklaaGreat
