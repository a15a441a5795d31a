/- Own lemmas of several kinds, put together: RwSI, NdS0, RwCE, RwCK, RwCI, NdS. -/
import Derived.Test.YtfoldjnmknaklaaGreatMark0
import Derived.Test.YtfoldjnmknaklaaGreatNdA
import Derived.Test.YtfoldjnmknaklaaGreatRwS
import Derived.Test.YtfoldjnmknaklaaGreatNd7
/- peatbankkit over rows of int: SameInts, CopyInts (printed by wip/gen/kitints.py). -/
namespace Go.Proofs.YtfoldjnmknaklaaGreat
open Go.RowKit

theorem info_i64 : (Tryz.prog.info? 3).map (fun i => (i.zero, i.size, i.bytes)) = some (some (.int .i64 0), 1, 8) := by kernel_rfl
theorem eq_of_preI {xs ys : List Int} {n : Nat} (hx : xs.length = n) (hy : ys.length = n) (h : ∀ j : Nat, j < n → xs[j]? = ys[j]?) : xs = ys := by
  apply List.ext_getElem?
  intro j
  by_cases hj : j < n
  · exact h j hj
  · rw [List.getElem?_eq_none (by omega), List.getElem?_eq_none (by omega)]

set_option maxRecDepth 100000 in
set_option maxHeartbeats 1600000 in
theorem sameI_any {w : World} {A B : Option Addr} {n m ca cb : Nat} {xs ys : List Int} (ha : Rd w A n (xs.map (Value.int .i64))) (hb : Rd w B m (ys.map (Value.int .i64))) (hn : n ≤ 140737488355328) (hm : m ≤ 140737488355328) :
    Calls Tryz.prog 46 #[.slice A n ca, .slice B m cb] w fun e w' => e = .returned (.bool (decide (xs = ys))) ∧ Mod Nn w w' := by
  have hx : xs.length = n := by simpa using ha.1
  have hy : ys.length = m := by simpa using hb.1
  by_cases hnm : n = m
  · subst hnm
    have h0 : ((n : Int) != n) = false := by simp
    have HX := Lib.hid hx; have HY := Lib.hid hy; clear hx hy
    go_enter Tryz.func46, Tryz.ntmps46
    go_wp2
    go_loopw [5] (fun i wr => ∃ k : Nat, k ≤ n ∧ i = .int .i64 k ∧ Hid (∀ j : Nat, j < k → xs[j]? = ys[j]?) ∧ Mod Nn w wr) (fun i _ => n - (intOf i).toNat)
    case atStart => exact ⟨0, Nat.zero_le _, rfl, Lib.hid (fun j hj => absurd hj (by omega)), Mod.refl _ _⟩
    case round =>
      obtain ⟨k, hk, rfl, hpre, hmr⟩ := hrel
      by_cases hlt : k < n
      · obtain ⟨g, off, v, rfl, hv, hc⟩ := (ha.mod hmr (fun _ _ f => f)).at_ hlt
        obtain ⟨g', off', v', rfl, hv', hc'⟩ := (hb.mod hmr (fun _ _ f => f)).at_ hlt
        rw [List.getElem?_map] at hv hv'
        obtain ⟨x, hx, rfl⟩ := Option.map_eq_some_iff.1 hv
        obtain ⟨y, hy, rfl⟩ := Option.map_eq_some_iff.1 hv'
        have hlt' : (k : Int) < n := by omega
        have H1 := Lib.hid hx; have H2 := Lib.hid hy
        clear hv hv' ha hb hx hy
        go_wp2
        go_quiet (fail)
        by_cases hxy : x = y
        · have hb1 : (x != y) = false := by simp [hxy]
          have HB := Lib.hid hxy; clear hxy
          go_wp2
          go_roundw
          case rel =>
            refine ⟨k + 1, by omega, by go_num, Lib.hid (fun j hj => ?_), hmr.drewN nq⟩
            by_cases hjk : j = k
            · subst hjk; rw [H1.out, H2.out, HB.out]
            · exact hpre.out j (by omega)
          case measure => simp [intOf]; omega
        · have hb1 : (x != y) = true := by simp [hxy]
          have HF := Lib.hid (show decide (xs = ys) = false by
            rw [decide_eq_false_iff_not]; intro e; subst e
            rw [H1.out] at H2; have := H2.out; injection this with this; exact hxy this)
          clear hxy
          go_wp2
          go_ret
          exact ⟨by rw [HF.out]; rfl, hmr.drewN nq⟩
      · have hkn : k = n := by omega
        have HF := Lib.hid (show decide (xs = ys) = true by
          rw [decide_eq_true_iff]; exact eq_of_preI HX.out HY.out (fun j hj => hpre.out j (by omega)))
        clear hkn
        go_wp2
        go_ret
        exact ⟨by rw [HF.out]; rfl, hmr⟩
  · have h0 : ((n : Int) != m) = true := by rw [bne_iff_ne]; omega
    have HF := Lib.hid (show decide (xs = ys) = false by
      rw [decide_eq_false_iff_not]; intro e; subst e; omega)
    clear hnm hx hy ha hb
    go_enter Tryz.func46, Tryz.ntmps46
    go_wp2
    go_ret
    exact ⟨by rw [HF.out]; rfl, Mod.refl _ _⟩
end Go.Proofs.YtfoldjnmknaklaaGreat

/- peatbankkit over nodes: SameNode (of a node and itself). -/
namespace Go.Proofs.YtfoldjnmknaklaaGreat
open Go.RowKit

theorem info_node : (Tryz.prog.info? 32).map (fun i => (i.zero, i.size)) = some (some (.agg #[.bool false, .slice none 0 0, .slice none 0 0, .slice none 0 0]), 4) := by kernel_rfl
theorem one_nd (lf : Bool) (A B C : Option Addr) (a b c d e f : Nat) : (#[.bool lf, .slice A a b, .slice B c d, .slice C e f] : Array Value).all (·.oneCell') = true := by simp [Value.oneCell']
section
variable {w : World} {N : Nd} {EA KA CA EB KB CB : Option Addr} {en ec kn kc cn cc ed kd cd : Nat}
set_option maxRecDepth 100000 in
set_option maxHeartbeats 3200000 in
theorem sameN_yes {lf : Bool} (ha : NdR w N EA en KA kn CA cn) (hb : NdR w N EB en KB kn CB cn) :
    Calls Tryz.prog 25 #[ndV lf EA en ec KA kn kc CA cn cc, ndV lf EB en ed KB kn kd CB cn cd] w fun r w' => r = .returned (.bool true) ∧ Mod Nn w w' := by
  unfold ndV
  have m1 : Mod Nn w ((w.alloc (.cells #[.bool lf, .slice EA en ec, .slice KA kn kc, .slice CA cn cc] 32)).alloc (.cells #[.bool lf, .slice EB en ed, .slice KB kn kd, .slice CB cn cd] 32)) := ((Mod.refl Nn w).alloc _).alloc _
  have b1 : Blk ((w.alloc (.cells #[.bool lf, .slice EA en ec, .slice KA kn kc, .slice CA cn cc] 32)).alloc (.cells #[.bool lf, .slice EB en ed, .slice KB kn kd, .slice CB cn cd] 32)) w.heap.size 32 #[.bool lf, .slice EA en ec, .slice KA kn kc, .slice CA cn cc] := (Blk.new w _ _).alloc _
  have b2 : Blk ((w.alloc (.cells #[.bool lf, .slice EA en ec, .slice KA kn kc, .slice CA cn cc] 32)).alloc (.cells #[.bool lf, .slice EB en ed, .slice KB kn kd, .slice CB cn cd] 32)) (w.heap.size + 1) 32 #[.bool lf, .slice EB en ed, .slice KB kn kd, .slice CB cn cd] := by
    have := Blk.new (w.alloc (.cells #[.bool lf, .slice EA en ec, .slice KA kn kc, .slice CA cn cc] 32)) 32 #[.bool lf, .slice EB en ed, .slice KB kn kd, .slice CB cn cd]
    rwa [show (w.alloc (.cells #[.bool lf, .slice EA en ec, .slice KA kn kc, .slice CA cn cc] 32)).heap.size = w.heap.size + 1 from by simp] at this
  have H := Lib.hid (And.intro m1 (And.intro b1 (And.intro b2 (And.intro ha hb))))
  clear m1 b1 b2 ha hb
  go_enter Tryz.func25, Tryz.ntmps25
  go_wp2_with fail
  refine (sameE_yes_ (H.out.2.2.2.1.nn H.out.1).e (H.out.2.2.2.2.nn H.out.1).e H.out.2.2.2.1.ok.e H.out.2.2.2.1.el H.out.2.2.2.1.be).mono ?_
  rintro r w2 ⟨rfl, m2⟩
  have M2 := Lib.hid (H.out.1.nn_ m2)
  have C2 : w2.cell? ⟨w.heap.size, 2, none⟩ = some (.slice KA kn kc) := (H.out.2.1.mod m2 (fun f => f)).cell 2
  have D2 : w2.cell? ⟨w.heap.size + 1, 2, none⟩ = some (.slice KB kn kd) := (H.out.2.2.1.mod m2 (fun f => f)).cell 2
  have B2 := Lib.hid (And.intro (H.out.2.1.mod m2 (fun f => f)) (H.out.2.2.1.mod m2 (fun f => f)))
  clear m2
  go_wp2_with fail
  refine (sameK_yes (H.out.2.2.2.1.nn M2.out).k (H.out.2.2.2.2.nn M2.out).k H.out.2.2.2.1.ok.k H.out.2.2.2.1.kl H.out.2.2.2.1.bk).mono ?_
  rintro r w3 ⟨rfl, m3⟩
  have M3 := Lib.hid (M2.out.nn_ m3)
  have C3 : w3.cell? ⟨w.heap.size, 3, none⟩ = some (.slice CA cn cc) := (B2.out.1.mod m3 (fun f => f)).cell 3
  have D3 : w3.cell? ⟨w.heap.size + 1, 3, none⟩ = some (.slice CB cn cd) := (B2.out.2.mod m3 (fun f => f)).cell 3
  clear m3 C2 D2
  go_wp2_with fail
  refine (sameI_any (H.out.2.2.2.1.nn M3.out).c (H.out.2.2.2.2.nn M3.out).c (by have := H.out.2.2.2.1.bc; omega) (by have := H.out.2.2.2.1.bc; omega)).mono ?_
  rintro r w4 ⟨rfl, m4⟩
  rw [decide_eq_true rfl]
  have M4 := Lib.hid (M3.out.nn_ m4)
  clear m4 C3 D3
  go_wp2
  go_ret
  exact ⟨rfl, M4.out⟩
/-- a node copied: its rows new memory -/
structure CopW (w wr : World) (p q : Nat) (cs : Array Value) : Prop where
  m : Mod Nn w wr
  box : Blk wr p 32 cs
  res : Blk wr q 32 #[.bool false, .slice none 0 0, .slice none 0 0, .slice none 0 0]
  wp : w.heap.size ≤ p
  pq : p < q
theorem CopW.nn {wr w' : World} {p q : Nat} {cs : Array Value} (h : CopW w wr p q cs) (hm : Mod Nn wr w') : CopW w w' p q cs := ⟨h.m.nn_ hm, h.box.mod hm (fun f => f), h.res.mod hm (fun f => f), h.wp, h.pq⟩
theorem CopW.set {wr : World} {p q : Nat} {cs : Array Value} (h : CopW w wr p q cs) (i : Nat) (v : Value) : CopW w (wr.setCell ⟨p, i, none⟩ v) p q (cs.setIfInBounds i v) :=
  ⟨h.m.new_ (Mod.cellAt _ _ _ _) h.wp, h.box.set_ i v, h.res.mod (Mod.cellAt _ _ _ _) (fun e => by have e : q = p := e; have := h.pq; omega), h.wp, h.pq⟩
theorem CopW.far {wr : World} {p q i base s n : Nat} {cs : Array Value} {e : TypeId} {u v : Value} {xs : List Value} (h : CopW w wr p q cs) (ho : wr.ownsRow base e s v n xs) (hb : q < base) : (wr.setCell ⟨p, i, none⟩ u).ownsRow base e s v n xs :=
  own_mod ho (Mod.cellAt _ _ _ _) (fun g hg e => by have e : g = p := e; have := own_ge ho g hg; have := h.pq; omega)
end
end Go.Proofs.YtfoldjnmknaklaaGreat

/- peatbankkit.CopyEntries. -/
namespace Go.Proofs.YtfoldjnmknaklaaGreat
open Go.RowKit

set_option maxRecDepth 100000 in
set_option maxHeartbeats 800000 in
theorem copyE_any {w : World} {A : Option Addr} {n c : Nat} {L : List (List Nat)} (hr : RdC w A n 80 (bv L.flatten)) (hn : n ≤ 1000000000) :
    Calls Tryz.prog 37 #[.slice A n c] w fun r w' => ∃ v, r = .returned v ∧ w'.ownsRow w.heap.size 43 80 v n (bv L.flatten) ∧ Mod Nn w w' := by
  have hown := World.ownsRow_nil w w.heap.size 43 80
  go_enter Tryz.func37, Tryz.ntmps37
  go_wp2_with (first
    | (with_reducible change wpList _ _ _ (⟨some 6, _, _, _, _, _⟩ :: _) _ _
       go_must (refine wpList_append_rd 28 _ _ rfl rfl w.heap.size 43 _ 80 80 Tryz.underlying28 infoE_ (by rw [Value.cells, bv_size, List.length_replicate]) (by omega) (.slice none 0 0) 0 [] rfl hown A n c (bv L.flatten) rfl hr (bv_one _) (by omega) (by omega) (Nat.le_refl _) ?_)
       intro v w2 own2 gr2 ob2))
  have M2 : Mod Nn w w2 := (Mod.refl _ _).grown gr2 (fun g h => by cases h)
  simp only [Nat.zero_add, List.nil_append] at own2
  clear hown
  go_ret
  exact ⟨v, rfl, own2, M2⟩
end Go.Proofs.YtfoldjnmknaklaaGreat

/- peatbankkit.CopyTreeKeys. -/
namespace Go.Proofs.YtfoldjnmknaklaaGreat
open Go.RowKit

set_option maxRecDepth 100000 in
set_option maxHeartbeats 800000 in
theorem copyK_any {w : World} {A : Option Addr} {n c : Nat} {L : List (List Nat)} (hr : RdC w A n 40 (bv L.flatten)) (hn : n ≤ 1000000000) :
    Calls Tryz.prog 38 #[.slice A n c] w fun r w' => ∃ v, r = .returned v ∧ w'.ownsRow w.heap.size 40 40 v n (bv L.flatten) ∧ Mod Nn w w' := by
  have hown := World.ownsRow_nil w w.heap.size 40 40
  go_enter Tryz.func38, Tryz.ntmps38
  go_wp2_with (first
    | (with_reducible change wpList _ _ _ (⟨some 6, _, _, _, _, _⟩ :: _) _ _
       go_must (refine wpList_append_rd 29 _ _ rfl rfl w.heap.size 40 _ 40 40 Tryz.underlying29 infoK_ (by rw [Value.cells, bv_size, List.length_replicate]) (by omega) (.slice none 0 0) 0 [] rfl hown A n c (bv L.flatten) rfl hr (bv_one _) (by omega) (by omega) (Nat.le_refl _) ?_)
       intro v w2 own2 gr2 ob2))
  have M2 : Mod Nn w w2 := (Mod.refl _ _).grown gr2 (fun g h => by cases h)
  simp only [Nat.zero_add, List.nil_append] at own2
  clear hown
  go_ret
  exact ⟨v, rfl, own2, M2⟩
end Go.Proofs.YtfoldjnmknaklaaGreat

/- peatbankkit.CopyInts. -/
namespace Go.Proofs.YtfoldjnmknaklaaGreat
open Go.RowKit

set_option maxRecDepth 100000 in
set_option maxHeartbeats 800000 in
theorem copyI_any {w : World} {A : Option Addr} {n c : Nat} {xs : List Int} (hr : Rd w A n (xs.map (Value.int .i64))) (hn : n ≤ 1099511627776) :
    Calls Tryz.prog 39 #[.slice A n c] w fun r w' => ∃ v, r = .returned v ∧ w'.ownsRow w.heap.size 3 1 v n (xs.map (Value.int .i64)) ∧ Mod Nn w w' := by
  have hown := World.ownsRow_nil w w.heap.size 3 1
  go_enter Tryz.func39, Tryz.ntmps39
  go_wp2_with (first
    | (with_reducible change wpList _ _ _ (⟨some 6, _, _, _, _, _⟩ :: _) _ _
       go_must (refine wpList_append_rd 30 _ _ rfl rfl w.heap.size 3 (.int .i64 0) 1 8 Tryz.underlying30 info_i64 rfl (by omega) (.slice none 0 0) 0 [] rfl hown A n c (xs.map (Value.int .i64)) rfl hr.toC (ints_oneCell _ _) (by omega) (by omega) (Nat.le_refl _) ?_)
       intro v w2 own2 gr2 ob2))
  have M2 : Mod Nn w w2 := (Mod.refl _ _).grown gr2 (fun g h => by cases h)
  simp only [Nat.zero_add, List.nil_append] at own2
  clear hown
  go_ret
  exact ⟨v, rfl, own2, M2⟩
end Go.Proofs.YtfoldjnmknaklaaGreat

/- peatbankkit over nodes: CopyNode. -/
namespace Go.Proofs.YtfoldjnmknaklaaGreat
open Go.RowKit

section
variable {w : World} {N : Nd} {EA KA CA EB KB CB : Option Addr} {en ec kn kc cn cc ed kd cd : Nat}
set_option maxRecDepth 100000 in
set_option maxHeartbeats 3200000 in
theorem copyN_any {lf : Bool} (h : NdR w N EA en KA kn CA cn) :
    Calls Tryz.prog 12 #[ndV lf EA en ec KA kn kc CA cn cc] w fun r w' => ∃ ev kv cv, r = .returned (.agg #[.bool lf, ev, kv, cv]) ∧ NdH w' w.heap.size N ev kv cv ∧ Mod Nn w w' := by
  unfold ndV
  have m1 : Mod Nn w (w.alloc (.cells #[.bool lf, .slice EA en ec, .slice KA kn kc, .slice CA cn cc] 32)) := (Mod.refl Nn w).alloc _
  have b1 : Blk (w.alloc (.cells #[.bool lf, .slice EA en ec, .slice KA kn kc, .slice CA cn cc] 32)) w.heap.size 32 #[.bool lf, .slice EA en ec, .slice KA kn kc, .slice CA cn cc] := Blk.new _ _ _
  have z1 : (w.alloc (.cells #[.bool lf, .slice EA en ec, .slice KA kn kc, .slice CA cn cc] 32)).heap.size = w.heap.size + 1 := by simp
  have HM := Lib.hid (And.intro m1 (And.intro b1 (And.intro h z1)))
  clear m1 b1 h z1
  go_enter Tryz.func12, Tryz.ntmps12
  go_wp2_with (first
    | (with_reducible change wpList _ _ _ (⟨some 2, Op.alloc _, _, _, _, _⟩ :: _) _ _
       go_must (refine wpList_alloc_var 32 rfl rfl info_node ?_)
       intro w2 b2 m2 z2
       rw [HM.out.2.2.2] at b2 z2 ⊢
       have HB : Hid (CopW w w2 w.heap.size (w.heap.size + 1) #[.bool lf, .slice EA en ec, .slice KA kn kc, .slice CA cn cc]) := Lib.hid ⟨HM.out.1.nn_ m2, HM.out.2.1.mod m2 (fun f => f), b2, by omega, by omega⟩
       have Z2 := Lib.hid z2
       have C1 : w2.cell? ⟨w.heap.size, 1, none⟩ = some (.slice EA en ec) := HB.out.box.cell 1
       clear b2 m2 z2))
  refine (copyE_any (HM.out.2.2.1.nn HB.out.m).e HM.out.2.2.1.be).mono ?_
  rintro r w3 ⟨v3, rfl, o3, m3⟩
  obtain ⟨A1, c1, rfl, -, -⟩ := own_form o3
  have H3 := Lib.hid (And.intro (HB.out.nn m3) (And.intro (own_base (base' := w.heap.size + 2) o3 (fun g hg => by have := own_ge o3 g hg; have := Z2.out; omega)) m3.size))
  have F3 := H3.out.1.box.frozen 1
  have C3 := H3.out.1.box.cell 1
  clear m3 o3 C1
  go_wp2_with (first
    | (with_reducible change wpList _ _ _ (⟨some 8, Op.load _ _, _, _, _, _⟩ :: _) _ _
       have H4 := Lib.hid (And.intro (H3.out.1.set 1 (.slice A1 en c1)) (And.intro (H3.out.1.far (i := 1) (u := .slice A1 en c1) H3.out.2.1 (by omega)) (show w.heap.size + 1 < (w3.setCell ⟨w.heap.size, 1, none⟩ (.slice A1 en c1)).heap.size from by have := H3.out.2.2; have := Z2.out; simp; omega)))
       clear F3 C3
       generalize w3.setCell ⟨w.heap.size, 1, none⟩ (.slice A1 en c1) = w4 at *
       have C4 : w4.cell? ⟨w.heap.size, 2, none⟩ = some (.slice KA kn kc) := H4.out.1.box.cell 2
       go_must (refine wpList_val rfl (exec_load1 (P := Tryz.prog) 29 _ rfl rfl C4 Tryz.underlying29 rfl) ?_)))
  refine (copyK_any (HM.out.2.2.1.nn H4.out.1.m).k HM.out.2.2.1.bk).mono ?_
  rintro r w5 ⟨v5, rfl, o5, m5⟩
  obtain ⟨A2, c2, rfl, -, -⟩ := own_form o5
  have H5 := Lib.hid (And.intro (H4.out.1.nn m5) (And.intro (own_mod H4.out.2.1 m5 (fun _ _ f => f)) (And.intro (own_base (base' := w.heap.size + 2) o5 (fun g hg => by have := own_ge o5 g hg; have := H4.out.2.2; omega)) m5.size)))
  have F5 := H5.out.1.box.frozen 2
  have C5 := H5.out.1.box.cell 2
  clear m5 o5 C4
  go_wp2_with (first
    | (with_reducible change wpList _ _ _ (⟨some 12, Op.load _ _, _, _, _, _⟩ :: _) _ _
       have H6 := Lib.hid (And.intro (H5.out.1.set 2 (.slice A2 kn c2)) (And.intro (H5.out.1.far (i := 2) (u := .slice A2 kn c2) H5.out.2.1 (by omega)) (And.intro (H5.out.1.far (i := 2) (u := .slice A2 kn c2) H5.out.2.2.1 (by omega)) (show w.heap.size + 1 < (w5.setCell ⟨w.heap.size, 2, none⟩ (.slice A2 kn c2)).heap.size from by have := H5.out.2.2.2; have := H4.out.2.2; simp; omega))))
       clear F5 C5
       generalize w5.setCell ⟨w.heap.size, 2, none⟩ (.slice A2 kn c2) = w6 at *
       have C6 : w6.cell? ⟨w.heap.size, 3, none⟩ = some (.slice CA cn cc) := H6.out.1.box.cell 3
       go_must (refine wpList_val rfl (exec_load1 (P := Tryz.prog) 30 _ rfl rfl C6 Tryz.underlying30 rfl) ?_)))
  refine (copyI_any (HM.out.2.2.1.nn H6.out.1.m).c (by have := HM.out.2.2.1.bc; omega)).mono ?_
  rintro r w7 ⟨v7, rfl, o7, m7⟩
  obtain ⟨A3, c3, rfl, -, -⟩ := own_form o7
  have H7 := Lib.hid (And.intro (H6.out.1.nn m7) (And.intro (own_mod H6.out.2.1 m7 (fun _ _ f => f)) (And.intro (own_mod H6.out.2.2.1 m7 (fun _ _ f => f)) (own_base (base' := w.heap.size + 2) o7 (fun g hg => by have := own_ge o7 g hg; have := H6.out.2.2.2; omega)))))
  have F7 := H7.out.1.box.frozen 3
  have C7 := H7.out.1.box.cell 3
  clear m7 o7 C6
  go_wp2_with (first
    | (with_reducible change wpList _ _ _ (⟨some 15, Op.load _ _, _, _, _, _⟩ :: _) _ _
       have H8 := Lib.hid (And.intro (H7.out.1.set 3 (.slice A3 cn c3)) (And.intro (H7.out.1.far (i := 3) (u := .slice A3 cn c3) H7.out.2.1 (by omega)) (And.intro (H7.out.1.far (i := 3) (u := .slice A3 cn c3) H7.out.2.2.1 (by omega)) (H7.out.1.far (i := 3) (u := .slice A3 cn c3) H7.out.2.2.2 (by omega)))))
       clear F7 C7
       generalize w7.setCell ⟨w.heap.size, 3, none⟩ (.slice A3 cn c3) = w8 at *
       have b8 : Blk w8 w.heap.size 32 #[.bool lf, .slice A1 en c1, .slice A2 kn c2, .slice A3 cn c3] := H8.out.1.box
       go_must (refine wpList_load_var 32 _ rfl rfl w.heap.size _ _ _ rfl b8 Tryz.underlying32 rfl size_node ?_))
    | (with_reducible change wpList _ _ _ (⟨none, Op.store _ (.tmp 2) _, _, _, _, _⟩ :: _) _ _
       go_must (refine wpList_store_var 32 _ _ rfl rfl (w.heap.size + 1) #[.bool lf, .slice A1 en c1, .slice A2 kn c2, .slice A3 cn c3] _ _ rfl rfl H8.out.1.res size_node rfl (one_nd _ _ _ _ _ _ _ _ _ _) ?_)
       intro w9 b9 m9 z9
       have H9 := Lib.hid (And.intro (H8.out.1.m.new_ m9 (by have := H8.out.1.wp; omega)) (And.intro (own_mod H8.out.2.1 m9 (fun g hg e => by have e : g = w.heap.size + 1 := e; have := own_ge H8.out.2.1 g hg; omega)) (And.intro (own_mod H8.out.2.2.1 m9 (fun g hg e => by have e : g = w.heap.size + 1 := e; have := own_ge H8.out.2.2.1 g hg; omega)) (own_mod H8.out.2.2.2 m9 (fun g hg e => by have e : g = w.heap.size + 1 := e; have := own_ge H8.out.2.2.2 g hg; omega)))))
       have C0 := b9.cell 0; have C1 := b9.cell 1; have C2 := b9.cell 2; have C3 := b9.cell 3
       clear m9 b9 z9))
  have hwp : w.heap.size ≤ w.heap.size + 2 := by omega
  have hN := HM.out.2.2.1
  refine bodyPost_ret (v := .agg #[.bool lf, .slice A1 en c1, .slice A2 kn c2, .slice A3 cn c3]) (by simp [results, Tryz.results12, go_sem, C0, C1, C2, C3]) rfl ⟨_, _, _, rfl, ⟨?_, ?_, ?_⟩, H9.out.1⟩
  · rw [hN.el]; exact own_base H9.out.2.1 (fun g hg => by have := own_ge H9.out.2.1 g hg; omega)
  · rw [hN.kl]; exact own_base H9.out.2.2.1 (fun g hg => by have := own_ge H9.out.2.2.1 g hg; omega)
  · rw [hN.cl]; exact own_base H9.out.2.2.2 (fun g hg => by have := own_ge H9.out.2.2.2 g hg; omega)
end
end Go.Proofs.YtfoldjnmknaklaaGreat
