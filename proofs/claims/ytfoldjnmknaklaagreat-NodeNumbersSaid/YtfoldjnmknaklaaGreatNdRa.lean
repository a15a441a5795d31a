/- Own lemmas of several kinds, put together: NdR1, NdR2. -/
import Derived.Test.YtfoldjnmknaklaaGreatNdA
import Derived.Test.YtfoldjnmknaklaaGreatNd3
/- peatbankref14.Compare. -/
namespace Go.Proofs.YtfoldjnmknaklaaGreat
open Go.RowKit

theorem lexc_step : ∀ (i : Nat) (l k : List Nat), l.length = k.length → i ≤ l.length → (∀ j, j < i → l.getD j 0 = k.getD j 0) → lexc l k = lexc (l.drop i) (k.drop i)
  | 0, _, _, _, _, _ => rfl
  | i + 1, [], [], _, h, _ => by simp at h
  | i + 1, [], _ :: _, h, _, _ => by simp at h
  | i + 1, _ :: _, [], h, _, _ => by simp at h
  | i + 1, a :: l, b :: k, hl, hi, h => by
    have h0 := h 0 (by omega)
    simp at h0
    subst h0
    rw [lexc_cons, if_neg (Nat.lt_irrefl a), if_neg (Nat.lt_irrefl a)]
    exact lexc_step i l k (by simpa using hl) (by simpa using hi) (fun j hj => by have := h (j + 1) (by omega); simpa using this)
theorem lexc_diff {i : Nat} {l k : List Nat} (hlk : l.length = k.length) (hi : i < l.length) (h : ∀ j, j < i → l.getD j 0 = k.getD j 0) :
    (l.getD i 0 < k.getD i 0 → lexc l k = -1) ∧ (k.getD i 0 < l.getD i 0 → lexc l k = 1) := by
  have e1 : l.drop i = l.getD i 0 :: l.drop (i + 1) := by
    rw [List.drop_eq_getElem_cons hi, List.getD_eq_getElem?_getD, List.getElem?_eq_getElem hi]; rfl
  have e2 : k.drop i = k.getD i 0 :: k.drop (i + 1) := by
    rw [List.drop_eq_getElem_cons (by omega), List.getD_eq_getElem?_getD, List.getElem?_eq_getElem (by omega)]; rfl
  rw [lexc_step i l k hlk (by omega) h, e1, e2, lexc_cons]
  exact ⟨fun h => by rw [if_pos h], fun h => by rw [if_neg (by omega), if_pos h]⟩
set_option maxRecDepth 100000 in
set_option maxHeartbeats 1600000 in
theorem rcompare_any (w : World) {l k : List Nat} (hl : ∀ z ∈ l, z < 256) (hk : ∀ z ∈ k, z < 256) (h1 : l.length = 40) (h2 : k.length = 40) :
    Calls Tryz.prog 52 #[.agg (bv l).toArray, .agg (bv k).toArray] w fun e w' => e = .returned (.int .i64 (lexc l k)) ∧ Mod Nn w w' := by
  have B1 : Blk ((w.alloc (.cells (bv l).toArray 40)).alloc (.cells (bv k).toArray 40)) w.heap.size 40 (bv l).toArray := (Blk.new w _ _).alloc _
  have B2 : Blk ((w.alloc (.cells (bv l).toArray 40)).alloc (.cells (bv k).toArray 40)) (w.alloc (.cells (bv l).toArray 40)).heap.size 40 (bv k).toArray := Blk.new _ _ _
  have hz : (w.alloc (.cells (bv l).toArray 40)).heap.size = w.heap.size + 1 := by simp
  rw [hz] at B2
  have M : Mod Nn w ((w.alloc (.cells (bv l).toArray 40)).alloc (.cells (bv k).toArray 40)) := ((Mod.refl Nn w).alloc _).alloc _
  have HB := Lib.hid (And.intro B1 (And.intro B2 M))
  have HL := Lib.hid (And.intro h1 (And.intro h2 (And.intro hl hk)))
  clear B1 B2 hz M h1 h2 hl hk
  go_enter Tryz.func52, Tryz.ntmps52
  go_wp2
  generalize hwa : (w.alloc (.cells (bv l).toArray 40)).alloc (.cells (bv k).toArray 40) = wa at *
  clear hwa
  go_loopw [5] (fun i wr => ∃ n : Nat, n ≤ 40 ∧ i = .int .i64 n ∧ Hid (∀ j, j < n → l.getD j 0 = k.getD j 0) ∧ Mod Nn wa wr) (fun i _ => 40 - (intOf i).toNat)
  case atStart => exact ⟨0, by omega, rfl, Lib.hid (fun j h => by omega), Mod.refl _ _⟩
  case round =>
    obtain ⟨n, hn, rfl, hrel, hm⟩ := hrel
    by_cases hlt : n < 40
    · have hlt' : (n : Int) < 40 := by omega
      have hd := lexc_diff (l := l) (k := k) (i := n) (by rw [HL.out.1, HL.out.2.1]) (by rw [HL.out.1]; exact hlt) hrel.out
      have ha : ∀ w', Mod Nn wa w' → w'.cell? ⟨w.heap.size, n, none⟩ = some (.int .u8 ((l.getD n 0 : Nat) : Int)) := fun w' m => by
        refine ((HB.out.1.mod m (fun f => f)).cell n).trans ?_
        rw [List.getElem?_toArray, bv_at, List.getD_eq_getElem?_getD, List.getElem?_eq_getElem (by rw [HL.out.1]; exact hlt)]
        rfl
      have hb : ∀ w', Mod Nn wa w' → w'.cell? ⟨w.heap.size + 1, n, none⟩ = some (.int .u8 ((k.getD n 0 : Nat) : Int)) := fun w' m => by
        refine ((HB.out.2.1.mod m (fun f => f)).cell n).trans ?_
        rw [List.getElem?_toArray, bv_at, List.getD_eq_getElem?_getD, List.getElem?_eq_getElem (by rw [HL.out.2.1]; exact hlt)]
        rfl
      have hsn : l.getD n 0 = k.getD n 0 → ∀ j, j < n + 1 → l.getD j 0 = k.getD j 0 := fun h j hj => by
        rcases Nat.lt_or_ge j n with h' | h'
        · exact hrel.out j h'
        · have : j = n := by omega
          rw [this]; exact h
      generalize l.getD n 0 = a at *
      generalize k.getD n 0 = b at *
      have HX := Lib.hid (And.intro ha (And.intro hb (And.intro hd hsn)))
      clear ha hb hd hsn hrel
      go_wp2_with fail
      have hm1 := hm.drew
      have HM := Lib.hid (HB.out.2.2.trans hm1)
      by_cases hab : a < b
      · have HR := Lib.hid (HX.out.2.2.1.1 hab)
        have hab' : decide (a < b) = true := decide_eq_true hab
        clear hab
        refine wp_region_planV (fun w' => Mod Nn wa w') 6 (.pure 0 (.pure 1 (.read 2 (.pure 3 (.pure 4 (.read 5 (.alone 6 .nil))))))) (by kernel_rfl) (by kernel_rfl) hm1 ?_
        iterate 2 (refine pv_pure rfl rfl (fun K hK => ?_); go_simp; refine hK _ ?_; clear hK K)
        refine pv_take _ rfl rfl (fun w' hS => exec_load1 (P := Tryz.prog) 5 _ rfl rfl (HX.out.1 w' hS) Tryz.underlying5 rfl) (fun K hK => ?_); go_simp; refine hK _ ?_; clear hK K
        iterate 2 (refine pv_pure rfl rfl (fun K hK => ?_); go_simp; refine hK _ ?_; clear hK K)
        refine pv_take _ rfl rfl (fun w' hS => exec_load1 (P := Tryz.prog) 5 _ rfl rfl (HX.out.2.1 w' hS) Tryz.underlying5 rfl) (fun K hK => ?_); go_simp; refine hK _ ?_; clear hK K
        refine pv_mem rfl rfl (fun K hK => ?_); go_simp; refine ⟨_, _, ⟨rfl, rfl⟩, hK _ _ ?_ ?_⟩; clear hK K
        · intro h; simp at h
        refine pv_nil ?_
        go_wp2
        go_ret
        exact ⟨by rw [HR.out]; rfl, HM.out⟩
      · have hab' : decide (a < b) = false := decide_eq_false hab
        refine wp_region_planV (fun w' => Mod Nn wa w') 6 (.pure 0 (.pure 1 (.read 2 (.pure 3 (.pure 4 (.read 5 (.alone 6 .nil))))))) (by kernel_rfl) (by kernel_rfl) hm1 ?_
        iterate 2 (refine pv_pure rfl rfl (fun K hK => ?_); go_simp; refine hK _ ?_; clear hK K)
        refine pv_take _ rfl rfl (fun w' hS => exec_load1 (P := Tryz.prog) 5 _ rfl rfl (HX.out.1 w' hS) Tryz.underlying5 rfl) (fun K hK => ?_); go_simp; refine hK _ ?_; clear hK K
        iterate 2 (refine pv_pure rfl rfl (fun K hK => ?_); go_simp; refine hK _ ?_; clear hK K)
        refine pv_take _ rfl rfl (fun w' hS => exec_load1 (P := Tryz.prog) 5 _ rfl rfl (HX.out.2.1 w' hS) Tryz.underlying5 rfl) (fun K hK => ?_); go_simp; refine hK _ ?_; clear hK K
        refine pv_mem rfl rfl (fun K hK => ?_); go_simp; refine ⟨_, _, ⟨rfl, rfl⟩, hK _ _ ?_ ?_⟩; clear hK K
        · intro h; simp at h
        refine pv_nil ?_
        have hm2 := hm1.drew
        have HM2 := Lib.hid (HB.out.2.2.trans hm2)
        by_cases hba : b < a
        · have HR := Lib.hid (HX.out.2.2.1.2 hba)
          have hba' : decide (b < a) = true := decide_eq_true hba
          clear hab hba
          go_wp2_with fail
          refine wp_region_planV (fun w' => Mod Nn wa w') 6 (.pure 0 (.pure 1 (.read 2 (.pure 3 (.pure 4 (.read 5 (.alone 6 .nil))))))) (by kernel_rfl) (by kernel_rfl) hm2 ?_
          iterate 2 (refine pv_pure rfl rfl (fun K hK => ?_); go_simp; refine hK _ ?_; clear hK K)
          refine pv_take _ rfl rfl (fun w' hS => exec_load1 (P := Tryz.prog) 5 _ rfl rfl (HX.out.1 w' hS) Tryz.underlying5 rfl) (fun K hK => ?_); go_simp; refine hK _ ?_; clear hK K
          iterate 2 (refine pv_pure rfl rfl (fun K hK => ?_); go_simp; refine hK _ ?_; clear hK K)
          refine pv_take _ rfl rfl (fun w' hS => exec_load1 (P := Tryz.prog) 5 _ rfl rfl (HX.out.2.1 w' hS) Tryz.underlying5 rfl) (fun K hK => ?_); go_simp; refine hK _ ?_; clear hK K
          refine pv_mem rfl rfl (fun K hK => ?_); go_simp; refine ⟨_, _, ⟨rfl, rfl⟩, hK _ _ ?_ ?_⟩; clear hK K
          · intro h; simp at h
          refine pv_nil ?_
          go_wp2
          go_ret
          exact ⟨by rw [HR.out]; rfl, HM2.out⟩
        · have hba' : decide (b < a) = false := decide_eq_false hba
          have HE := Lib.hid (HX.out.2.2.2 (by omega))
          clear hab hba
          go_wp2_with fail
          refine wp_region_planV (fun w' => Mod Nn wa w') 6 (.pure 0 (.pure 1 (.read 2 (.pure 3 (.pure 4 (.read 5 (.alone 6 .nil))))))) (by kernel_rfl) (by kernel_rfl) hm2 ?_
          iterate 2 (refine pv_pure rfl rfl (fun K hK => ?_); go_simp; refine hK _ ?_; clear hK K)
          refine pv_take _ rfl rfl (fun w' hS => exec_load1 (P := Tryz.prog) 5 _ rfl rfl (HX.out.1 w' hS) Tryz.underlying5 rfl) (fun K hK => ?_); go_simp; refine hK _ ?_; clear hK K
          iterate 2 (refine pv_pure rfl rfl (fun K hK => ?_); go_simp; refine hK _ ?_; clear hK K)
          refine pv_take _ rfl rfl (fun w' hS => exec_load1 (P := Tryz.prog) 5 _ rfl rfl (HX.out.2.1 w' hS) Tryz.underlying5 rfl) (fun K hK => ?_); go_simp; refine hK _ ?_; clear hK K
          refine pv_mem rfl rfl (fun K hK => ?_); go_simp; refine ⟨_, _, ⟨rfl, rfl⟩, hK _ _ ?_ ?_⟩; clear hK K
          · intro h; simp at h
          refine pv_nil ?_
          go_wp2
          go_roundw
          case rel => exact ⟨n + 1, by omega, by go_num, HE, hm2⟩
          case measure => simp [intOf]; omega
    · have hn40 : n = 40 := by omega
      have HE := Lib.hid (show lexc l k = 0 by
        rw [lexc_step n l k (by rw [HL.out.1, HL.out.2.1]) (by rw [HL.out.1]; exact hn) hrel.out, List.drop_of_length_le (by rw [HL.out.1]; omega), List.drop_of_length_le (by rw [HL.out.2.1]; omega)]
        rfl)
      have HM := Lib.hid (HB.out.2.2.trans hm)
      have hlt' : ¬ (n : Int) < 40 := by omega
      clear hrel hn40
      go_wp2
      go_ret
      exact ⟨by rw [HE.out]; rfl, HM.out⟩
end Go.Proofs.YtfoldjnmknaklaaGreat

/- peatbankref15.Right. Printed by gen/ndrright.py. -/
namespace Go.Proofs.YtfoldjnmknaklaaGreat
open Go.RowKit

theorem rise_len {L : List (List Nat)} (h : riseB L = false) : 2 ≤ L.length := by
  match L, h with
  | [], h => cases h
  | [_], h => cases h
  | _ :: _ :: _, _ => simp
theorem right_ents {N : Nd} (h : riseB (N.ents.map keyOf) = false) : N.right = false := by
  have := rise_len h
  rw [List.length_map] at this
  unfold Nd.right
  split
  · rw [h]; simp
  · have : (N.ents.length == 0) = false := by simp; intro e; rw [e] at this; simp at this
    rw [this]; simp
theorem right_keys {N : Nd} (h : riseB N.keys = false) : N.right = false := by
  have := rise_len h
  unfold Nd.right
  split
  · have : (N.keys.length == 0) = false := by simp; intro e; rw [e] at this; simp at this
    rw [this]; simp
  · rw [h]; simp
theorem right_kids {N : Nd} (h : N.kids.all kidOk = false) : N.right = false := by
  unfold Nd.right
  split
  · have : (N.kids.length == 0) = false := by
      cases hk : N.kids with
      | nil => rw [hk] at h; cases h
      | cons _ _ => rfl
    rw [this]; simp
  · have e : N.kids.all (fun k => decide (0 ≤ k ∧ k ≤ 1048576)) = false := h
    rw [e]; simp
section
variable {w w' : World} {N : Nd} {EA KA CA : Option Addr} {en ec kn kc cn cc : Nat} {S : Nat → Prop}
theorem right_leaf (h : NdR w N EA en KA kn CA cn) (hl : N.leaf = true) : N.right = ((kn == 0) && (cn == 0) && decide (en ≤ 12) && riseB (N.ents.map keyOf)) := by
  unfold Nd.right
  rw [if_pos hl, h.kl, h.cl, h.el]
set_option maxRecDepth 100000 in
set_option maxHeartbeats 6400000 in
theorem rright_any (h : NdR w N EA en KA kn CA cn) : Calls Tryz.prog 29 #[ndV N.leaf EA en ec KA kn kc CA cn cc] w fun e w' => e = .returned (.bool N.right) ∧ Mod Nn w w' := by
  have M : Mod Nn w (w.alloc (.cells #[.bool N.leaf, .slice EA en ec, .slice KA kn kc, .slice CA cn cc] 32)) := (Mod.refl Nn w).alloc _
  have B : Blk (w.alloc (.cells #[.bool N.leaf, .slice EA en ec, .slice KA kn kc, .slice CA cn cc] 32)) w.heap.size 32 #[.bool N.leaf, .slice EA en ec, .slice KA kn kc, .slice CA cn cc] := Blk.new w _ _
  have C1 := B.cell 1
  have HB := Lib.hid B
  have HM := Lib.hid M
  have HR := Lib.hid (And.intro (h.nn M) h.ok)
  have hbc := h.bc
  have hbk := h.bk
  have hbe := h.be
  clear h M B
  unfold ndV
  obtain ⟨lf, hlf⟩ : ∃ b, N.leaf = b := ⟨_, rfl⟩
  rw [hlf] at C1 HB HM HR ⊢
  have HLF := Lib.hid hlf
  clear hlf
  go_enter Tryz.func29, Tryz.ntmps29
  go_wp2
  clear C1
  generalize hwa : w.alloc (.cells #[.bool lf, .slice EA en ec, .slice KA kn kc, .slice CA cn cc] 32) = wa at *
  clear hwa
  go_loopw [3] (fun i wr => ∃ k : Nat, 1 ≤ k ∧ (k ≤ en ∨ k = 1) ∧ i = .int .i64 k ∧ Hid (∀ i, i + 1 < k → lexc ((N.ents.map keyOf).getD i []) ((N.ents.map keyOf).getD (i + 1) []) < 0) ∧ Mod Nn wa wr) (fun i _ => en + 1 - (intOf i).toNat)
  case atStart => exact ⟨1, by omega, .inr rfl, rfl, Lib.hid (fun i hi => by omega), Mod.refl _ _⟩
  case round =>
    obtain ⟨k, hk1, hkn, rfl, hrel, hm⟩ := hrel
    have C1 := (HB.out.mod hm (fun f => f)).cell 1
    by_cases hlt : k < en
    · have hlt' : (k : Int) < en := by omega
      obtain ⟨p, hpk⟩ : ∃ p, p + 1 = k := ⟨k - 1, by omega⟩
      have hp1 : p < N.ents.length := by rw [HR.out.1.el]; omega
      have hp2 : k < N.ents.length := by rw [HR.out.1.el]; omega
      have i1 : N.ents[p]? = some N.ents[p] := List.getElem?_eq_getElem hp1
      have i2 : N.ents[k]? = some N.ents[k] := List.getElem?_eq_getElem hp2
      generalize N.ents[p] = r1 at i1
      generalize N.ents[k] = r2 at i2
      obtain ⟨l1, z1⟩ := HR.out.2.e r1 (List.mem_of_getElem? i1)
      obtain ⟨l2, z2⟩ := HR.out.2.e r2 (List.mem_of_getElem? i2)
      obtain ⟨g, off, rfl, hc1⟩ := HR.out.1.e.row HR.out.2.e i1 (by omega)
      obtain ⟨_, _, hA, hc2⟩ := HR.out.1.e.row HR.out.2.e i2 (by omega)
      injection hA with hA; injection hA with e1 e2 _; subst e1; subst e2
      have hin : g < wa.heap.size := by
        have h0 : 0 < (bv r1).length := by rw [bv_len, l1]; omega
        exact World.block_lt_of_cell? wa _ (hc1 0 (bv r1)[0] (List.getElem?_eq_getElem h0))
      have hq : ∀ r : List Nat, r.length = 80 → ∀ q, (∀ j v, (bv r)[j]? = some v → wa.cell? ⟨g, off + q * 80 + j, none⟩ = some v) → ∀ j v, (bv (keyOf r))[j]? = some v → wa.cell? ⟨g, off + q * 80 + j, none⟩ = some v := fun r hr q hc j v hv => by
        refine hc j v ?_
        have hj := (List.getElem?_eq_some_iff.1 hv).1
        rw [bv_len, keyOf_len hr] at hj
        unfold keyOf at hv
        rw [bv_at, List.getElem?_take, if_pos hj] at hv
        rw [bv_at]
        exact hv
      have hc1 := hq r1 l1 p hc1
      have hc2 := hq r2 l2 k hc2
      have l1 := keyOf_len l1
      have l2 := keyOf_len l2
      have z1 := keyOf_lt z1
      have z2 := keyOf_lt z2
      clear hq
      have HX := Lib.hid (And.intro (show ∀ w', Mod Nn wa w' → ∀ j v, (bv (keyOf r1))[j]? = some v → w'.cell? ⟨g, off + p * 80 + j, none⟩ = some v from fun w' hS j v hv => (hS.cell (p := ⟨g, off + p * 80 + j, none⟩) hin (fun f => f)).trans (hc1 j v hv)) (show ∀ w', Mod Nn wa w' → ∀ j v, (bv (keyOf r2))[j]? = some v → w'.cell? ⟨g, off + k * 80 + j, none⟩ = some v from fun w' hS j v hv => (hS.cell (p := ⟨g, off + k * 80 + j, none⟩) hin (fun f => f)).trans (hc2 j v hv)))
      have HL := Lib.hid (And.intro l1 (And.intro l2 (And.intro z1 z2)))
      have hlex : (lexc ((N.ents.map keyOf).getD p []) ((N.ents.map keyOf).getD (p + 1) [])) = lexc (keyOf r1) (keyOf r2) := by
        rw [hpk]
        simp [List.getD_eq_getElem?_getD, i1, i2]
      have hi1 : p + 1 < (N.ents.map keyOf).length := by (try simp only [List.length_map]); omega
      have HQ := Lib.hid (And.intro hlex hi1)
      have e1 : (k : Int) - 1 = (p : Int) := by omega
      have e2 : IntKind.i64.wrap (p : Int) = p := by rw [IntKind.wrap_i64]; omega
      have e3 : (p : Int) < en := by omega
      have HI := Lib.hid (And.intro hk1 hpk)
      clear hlex hi1 hc1 hc2 hin l1 l2 z1 z2 i1 i2 hp1 hp2 hpk
      go_wp2_with fail
      clear C1
      have hm := hm.drew
      refine wp_region_planV (fun w' => Mod Nn wa w') 13 (.pure 0 (.read 1 (.pure 2 (.pure 3 (.pure 4 (.pure 5 (.read 6 (.pure 7 (.read 8 (.pure 9 (.pure 10 (.pure 11 (.read 12 (.alone 13 (.pure 14 .nil))))))))))))))) (by kernel_rfl) (by kernel_rfl) hm ?_
      iterate 1 (refine pv_pure rfl rfl (fun K hK => ?_); go_simp; refine hK _ ?_; clear hK K)
      refine pv_take _ rfl rfl (fun w' hS => exec_load1 (P := Tryz.prog) 28 _ rfl rfl ((HB.out.mod hS (fun f => f)).cell 1) Tryz.underlying28 rfl) (fun K hK => ?_); go_simp; refine hK _ ?_; clear hK K
      iterate 4 (refine pv_pure rfl rfl (fun K hK => ?_); go_simp; refine hK _ ?_; clear hK K)
      refine pv_take _ rfl rfl (fun w' hS => exec_load_cells (P := Tryz.prog) 40 _ rfl (cs := bv (keyOf r1)) rfl (HX.out.1 w' hS) Tryz.underlying40 rfl (by rw [size_tk, bv_len, HL.out.1])) (fun K hK => ?_); go_simp; refine hK _ ?_; clear hK K
      iterate 1 (refine pv_pure rfl rfl (fun K hK => ?_); go_simp; refine hK _ ?_; clear hK K)
      refine pv_take _ rfl rfl (fun w' hS => exec_load1 (P := Tryz.prog) 28 _ rfl rfl ((HB.out.mod hS (fun f => f)).cell 1) Tryz.underlying28 rfl) (fun K hK => ?_); go_simp; refine hK _ ?_; clear hK K
      iterate 3 (refine pv_pure rfl rfl (fun K hK => ?_); go_simp; refine hK _ ?_; clear hK K)
      refine pv_take _ rfl rfl (fun w' hS => exec_load_cells (P := Tryz.prog) 40 _ rfl (cs := bv (keyOf r2)) rfl (HX.out.2 w' hS) Tryz.underlying40 rfl (by rw [size_tk, bv_len, HL.out.2.1])) (fun K hK => ?_); go_simp; refine hK _ ?_; clear hK K
      refine pv_call rfl rfl (fun K hK => ?_); go_simp; refine ⟨_, _, ⟨rfl, rfl⟩, hK _ _ _ ?_⟩; clear hK K
      refine (rcompare_any _ HL.out.2.2.1 HL.out.2.2.2 HL.out.1 HL.out.2.1).mono ?_
      rintro r w5 ⟨rfl, m5⟩
      have hm5 := hm.trans m5
      refine ⟨_, rfl, fun h => by simp at h, ?_⟩
      generalize hX : lexc (keyOf r1) (keyOf r2) = X at *
      have HXX := Lib.hid hX
      clear hX
      iterate 1 (refine pv_pure rfl rfl (fun K hK => ?_); go_simp; refine hK _ ?_; clear hK K)
      refine pv_nil ?_
      clear m5
      by_cases hx : X < 0
      · have hx' : ¬ X ≥ 0 := by omega
        have HN := Lib.hid hx
        clear hx
        go_wp2
        go_roundw
        case rel =>
          refine ⟨k + 1, by omega, .inl (by omega), by go_num, Lib.hid (fun i hi => ?_), hm5⟩
          rcases Nat.lt_or_ge (i + 1) k with h | h
          · exact hrel.out i h
          · have : i = p := by have := HI.out.2; omega
            subst this
            rw [HQ.out.1]
            exact HN.out
        case measure => simp [intOf]; omega
      · have HF := Lib.hid (show N.right = false from right_ents (rise_false HQ.out.2 (by rw [HQ.out.1]; exact hx)))
        have hx' : X ≥ 0 := by omega
        clear hx
        go_wp2
        go_ret
        exact ⟨by rw [HF.out]; rfl, HM.out.trans hm5⟩
    · have hlt' : ¬ (k : Int) < en := by omega
      have HF1 := Lib.hid (show riseB (N.ents.map keyOf) = true from (rise_iff _).2 (fun i hi => hrel.out i (by (try rw [List.length_map] at hi); have := HR.out.1.el; omega)))
      have HH := Lib.hid hm
      clear hrel hkn hk1
      go_wp2
      clear C1
      go_loopw [4] (fun i wr => ∃ k : Nat, 1 ≤ k ∧ (k ≤ kn ∨ k = 1) ∧ i = .int .i64 k ∧ Hid (∀ i, i + 1 < k → lexc (N.keys.getD i []) (N.keys.getD (i + 1) []) < 0) ∧ Mod Nn wa wr) (fun i _ => kn + 1 - (intOf i).toNat)
      case atStart => exact ⟨1, by omega, .inr rfl, rfl, Lib.hid (fun i hi => by omega), HH.out⟩
      case round =>
        obtain ⟨k, hk1, hkn, rfl, hrel, hm⟩ := hrel
        have C2 := (HB.out.mod hm (fun f => f)).cell 2
        by_cases hlt : k < kn
        · have hlt' : (k : Int) < kn := by omega
          obtain ⟨p, hpk⟩ : ∃ p, p + 1 = k := ⟨k - 1, by omega⟩
          have hp1 : p < N.keys.length := by rw [HR.out.1.kl]; omega
          have hp2 : k < N.keys.length := by rw [HR.out.1.kl]; omega
          have i1 : N.keys[p]? = some N.keys[p] := List.getElem?_eq_getElem hp1
          have i2 : N.keys[k]? = some N.keys[k] := List.getElem?_eq_getElem hp2
          generalize N.keys[p] = r1 at i1
          generalize N.keys[k] = r2 at i2
          obtain ⟨l1, z1⟩ := HR.out.2.k r1 (List.mem_of_getElem? i1)
          obtain ⟨l2, z2⟩ := HR.out.2.k r2 (List.mem_of_getElem? i2)
          obtain ⟨g, off, rfl, hc1⟩ := HR.out.1.k.row HR.out.2.k i1 (by omega)
          obtain ⟨_, _, hA, hc2⟩ := HR.out.1.k.row HR.out.2.k i2 (by omega)
          injection hA with hA; injection hA with e1 e2 _; subst e1; subst e2
          have hin : g < wa.heap.size := by
            have h0 : 0 < (bv r1).length := by rw [bv_len, l1]; omega
            exact World.block_lt_of_cell? wa _ (hc1 0 (bv r1)[0] (List.getElem?_eq_getElem h0))
          have HX := Lib.hid (And.intro (show ∀ w', Mod Nn wa w' → ∀ j v, (bv r1)[j]? = some v → w'.cell? ⟨g, off + p * 40 + j, none⟩ = some v from fun w' hS j v hv => (hS.cell (p := ⟨g, off + p * 40 + j, none⟩) hin (fun f => f)).trans (hc1 j v hv)) (show ∀ w', Mod Nn wa w' → ∀ j v, (bv r2)[j]? = some v → w'.cell? ⟨g, off + k * 40 + j, none⟩ = some v from fun w' hS j v hv => (hS.cell (p := ⟨g, off + k * 40 + j, none⟩) hin (fun f => f)).trans (hc2 j v hv)))
          have HL := Lib.hid (And.intro l1 (And.intro l2 (And.intro z1 z2)))
          have hlex : (lexc (N.keys.getD p []) (N.keys.getD (p + 1) [])) = lexc r1 r2 := by
            rw [hpk]
            simp [List.getD_eq_getElem?_getD, i1, i2]
          have hi1 : p + 1 < N.keys.length := by (try simp only [List.length_map]); omega
          have HQ := Lib.hid (And.intro hlex hi1)
          have e1 : (k : Int) - 1 = (p : Int) := by omega
          have e2 : IntKind.i64.wrap (p : Int) = p := by rw [IntKind.wrap_i64]; omega
          have e3 : (p : Int) < kn := by omega
          have HI := Lib.hid (And.intro hk1 hpk)
          clear hlex hi1 hc1 hc2 hin l1 l2 z1 z2 i1 i2 hp1 hp2 hpk
          go_wp2_with fail
          clear C2
          have hm := hm.drew
          refine wp_region_planV (fun w' => Mod Nn wa w') 11 (.pure 0 (.read 1 (.pure 2 (.pure 3 (.pure 4 (.read 5 (.pure 6 (.read 7 (.pure 8 (.pure 9 (.read 10 (.alone 11 (.pure 12 .nil))))))))))))) (by kernel_rfl) (by kernel_rfl) hm ?_
          iterate 1 (refine pv_pure rfl rfl (fun K hK => ?_); go_simp; refine hK _ ?_; clear hK K)
          refine pv_take _ rfl rfl (fun w' hS => exec_load1 (P := Tryz.prog) 29 _ rfl rfl ((HB.out.mod hS (fun f => f)).cell 2) Tryz.underlying29 rfl) (fun K hK => ?_); go_simp; refine hK _ ?_; clear hK K
          iterate 3 (refine pv_pure rfl rfl (fun K hK => ?_); go_simp; refine hK _ ?_; clear hK K)
          refine pv_take _ rfl rfl (fun w' hS => exec_load_cells (P := Tryz.prog) 40 _ rfl (cs := bv r1) rfl (HX.out.1 w' hS) Tryz.underlying40 rfl (by rw [size_tk, bv_len, HL.out.1])) (fun K hK => ?_); go_simp; refine hK _ ?_; clear hK K
          iterate 1 (refine pv_pure rfl rfl (fun K hK => ?_); go_simp; refine hK _ ?_; clear hK K)
          refine pv_take _ rfl rfl (fun w' hS => exec_load1 (P := Tryz.prog) 29 _ rfl rfl ((HB.out.mod hS (fun f => f)).cell 2) Tryz.underlying29 rfl) (fun K hK => ?_); go_simp; refine hK _ ?_; clear hK K
          iterate 2 (refine pv_pure rfl rfl (fun K hK => ?_); go_simp; refine hK _ ?_; clear hK K)
          refine pv_take _ rfl rfl (fun w' hS => exec_load_cells (P := Tryz.prog) 40 _ rfl (cs := bv r2) rfl (HX.out.2 w' hS) Tryz.underlying40 rfl (by rw [size_tk, bv_len, HL.out.2.1])) (fun K hK => ?_); go_simp; refine hK _ ?_; clear hK K
          refine pv_call rfl rfl (fun K hK => ?_); go_simp; refine ⟨_, _, ⟨rfl, rfl⟩, hK _ _ _ ?_⟩; clear hK K
          refine (rcompare_any _ HL.out.2.2.1 HL.out.2.2.2 HL.out.1 HL.out.2.1).mono ?_
          rintro r w5 ⟨rfl, m5⟩
          have hm5 := hm.trans m5
          refine ⟨_, rfl, fun h => by simp at h, ?_⟩
          generalize hX : lexc r1 r2 = X at *
          have HXX := Lib.hid hX
          clear hX
          iterate 1 (refine pv_pure rfl rfl (fun K hK => ?_); go_simp; refine hK _ ?_; clear hK K)
          refine pv_nil ?_
          clear m5
          by_cases hx : X < 0
          · have hx' : ¬ X ≥ 0 := by omega
            have HN := Lib.hid hx
            clear hx
            go_wp2
            go_roundw
            case rel =>
              refine ⟨k + 1, by omega, .inl (by omega), by go_num, Lib.hid (fun i hi => ?_), hm5⟩
              rcases Nat.lt_or_ge (i + 1) k with h | h
              · exact hrel.out i h
              · have : i = p := by have := HI.out.2; omega
                subst this
                rw [HQ.out.1]
                exact HN.out
            case measure => simp [intOf]; omega
          · have HF := Lib.hid (show N.right = false from right_keys (rise_false HQ.out.2 (by rw [HQ.out.1]; exact hx)))
            have hx' : X ≥ 0 := by omega
            clear hx
            go_wp2
            go_ret
            exact ⟨by rw [HF.out]; rfl, HM.out.trans hm5⟩
        · have hlt' : ¬ (k : Int) < kn := by omega
          have HF2 := Lib.hid (show riseB N.keys = true from (rise_iff _).2 (fun i hi => hrel.out i (by (try rw [List.length_map] at hi); have := HR.out.1.kl; omega)))
          have HH := Lib.hid hm
          clear hrel hkn hk1
          have C3 := (HB.out.mod hm (fun f => f)).cell 3
          go_wp2
          clear C2 C3
          go_loopw [5] (fun i wr => ∃ k : Nat, k ≤ cn ∧ i = .int .i64 k ∧ Hid (∀ (i : Nat) (z : Int), i < k → N.kids[i]? = some z → kidOk z = true) ∧ Mod Nn wa wr) (fun i _ => cn - (intOf i).toNat)
          case atStart => exact ⟨0, by omega, rfl, Lib.hid (fun i z hi => by omega), hm⟩
          case round =>
            clear hm
            obtain ⟨k, hk, rfl, hrel, hm⟩ := hrel
            have C3 := (HB.out.mod hm (fun f => f)).cell 3
            by_cases hlt : k < cn
            · have hlt' : (k : Int) < cn := by omega
              obtain ⟨g, off, v, rfl, hv, hc⟩ := (HR.out.1.c.mod hm (fun _ _ f => f)).at_ hlt
              rw [List.getElem?_map] at hv
              obtain ⟨z, hz, rfl⟩ := Option.map_eq_some_iff.1 hv
              have HZ := Lib.hid hz
              clear hv hz
              by_cases z0 : z < 0
              · have HF := Lib.hid (show N.right = false from right_kids (kids_bad HZ.out (by unfold kidOk; exact decide_eq_false (fun h => by omega))))
                have d0 : decide (z < 0) = true := decide_eq_true z0
                go_wp2
                go_ret
                exact ⟨by rw [HF.out]; rfl, HM.out.trans hm⟩
              by_cases z1 : z > 1048576
              · have HF := Lib.hid (show N.right = false from right_kids (kids_bad HZ.out (by unfold kidOk; exact decide_eq_false (fun h => by omega))))
                have d0 : decide (z < 0) = false := decide_eq_false z0
                have d1 : decide (z > 1048576) = true := decide_eq_true z1
                go_wp2
                go_ret
                exact ⟨by rw [HF.out]; rfl, HM.out.trans hm⟩
              have HV := Lib.hid (show kidOk z = true by unfold kidOk; exact decide_eq_true (by omega))
              have d0 : decide (z < 0) = false := decide_eq_false z0
              have d1 : decide (z > 1048576) = false := decide_eq_false z1
              go_wp2
              go_roundw
              case rel =>
                refine ⟨k + 1, by omega, by go_num, Lib.hid (fun i y hi hy => ?_), hm⟩
                rcases Nat.lt_or_ge i k with h | h
                · exact hrel.out i y h hy
                · have hik : i = k := by omega
                  subst hik
                  rw [HZ.out] at hy
                  injection hy with hy
                  subst hy
                  exact HV.out
              case measure => simp [intOf]; omega
            · have HF3 := Lib.hid (kids_all (fun i z hz => hrel.out i z (by have := (List.getElem?_eq_some_iff.1 hz).1; have := HR.out.1.cl; omega) hz))
              have hbw := HB.out.mod hm (fun f => f)
              have C0 := hbw.cell 0; have C1 := hbw.cell 1; have C2 := hbw.cell 2
              have hlt' : ¬ (k : Int) < cn := by omega
              have HH := Lib.hid hm
              clear hbw hrel hm
              cases lf with
              | true =>
                have HA := Lib.hid (show N.right = (decide (en ≤ 12) && (kn == 0) && (cn == 0)) by
                  rw [right_leaf HR.out.1 HLF.out, HF1.out, Bool.and_true, Bool.and_comm, Bool.and_assoc])
                by_cases h1 : en ≤ 12
                · have b1 : (en : Int) ≤ 12 := by omega
                  by_cases h2 : kn = 0
                  · have b2 : ((kn : Int) == 0) = true := by simp [h2]
                    by_cases h3 : cn = 0
                    · have b3 : ((cn : Int) == 0) = true := by simp [h3]
                      have HF := Lib.hid (show N.right = true by rw [HA.out]; simp [h1, h2, h3])
                      clear h1 h2 h3
                      go_wp2
                      go_ret
                      exact ⟨by rw [HF.out]; rfl, HM.out.trans HH.out⟩
                    · have b3 : ((cn : Int) == 0) = false := by simp [h3]
                      have HF := Lib.hid (show N.right = false by rw [HA.out]; simp [h3])
                      clear h1 h2 h3
                      go_wp2
                      go_ret
                      exact ⟨by rw [HF.out]; rfl, HM.out.trans HH.out⟩
                  · have b2 : ((kn : Int) == 0) = false := by simp [h2]
                    have HF := Lib.hid (show N.right = false by rw [HA.out]; simp [h2])
                    clear h1 h2
                    go_wp2
                    go_ret
                    exact ⟨by rw [HF.out]; rfl, HM.out.trans HH.out⟩
                · have b1 : ¬ (en : Int) ≤ 12 := by omega
                  have HF := Lib.hid (show N.right = false by rw [HA.out]; simp [h1])
                  clear h1
                  go_wp2
                  go_ret
                  exact ⟨by rw [HF.out]; rfl, HM.out.trans HH.out⟩
              | false =>
                have HA := Lib.hid (show N.right = ((en == 0) && decide (2 ≤ cn) && decide (cn ≤ 20) && (kn + 1 == cn)) by
                  rw [right_inner HR.out.1 HLF.out, HF2.out, HF3.out, Bool.and_true, Bool.true_and])
                have e3 : 2 ≤ cn → IntKind.i64.wrap ((cn : Int) - 1) = ((cn - 1 : Nat) : Int) := fun h => by rw [IntKind.wrap_i64]; omega
                by_cases h1 : en = 0
                · have b1 : ((en : Int) == 0) = true := by simp [h1]
                  by_cases h2 : 2 ≤ cn
                  · have b2 : (cn : Int) ≥ 2 := by omega
                    have e3 := e3 h2
                    by_cases h3 : cn ≤ 20
                    · have b3 : (cn : Int) ≤ 20 := by omega
                      by_cases h4 : kn + 1 = cn
                      · have HF := Lib.hid (show N.right = true by rw [HA.out]; simp [h1, h2, h3, h4])
                        have b4 : ((kn : Int) == ((cn - 1 : Nat) : Int)) = true := by simp; omega
                        clear h1 h2 h3 h4
                        go_wp2
                        go_ret
                        exact ⟨by rw [HF.out]; rfl, HM.out.trans HH.out⟩
                      · have HF := Lib.hid (show N.right = false by rw [HA.out]; simp [h4])
                        have b4 : ((kn : Int) == ((cn - 1 : Nat) : Int)) = false := by simp; omega
                        clear h1 h2 h3 h4
                        go_wp2
                        go_ret
                        exact ⟨by rw [HF.out]; rfl, HM.out.trans HH.out⟩
                    · have HF := Lib.hid (show N.right = false by rw [HA.out]; simp [h3])
                      have b3 : ¬ (cn : Int) ≤ 20 := by omega
                      clear h1 h2 h3 e3
                      go_wp2
                      go_ret
                      exact ⟨by rw [HF.out]; rfl, HM.out.trans HH.out⟩
                  · have HF := Lib.hid (show N.right = false by rw [HA.out]; simp [h2])
                    have b2 : ¬ (cn : Int) ≥ 2 := by omega
                    clear h1 h2 e3
                    go_wp2
                    go_ret
                    exact ⟨by rw [HF.out]; rfl, HM.out.trans HH.out⟩
                · have HF := Lib.hid (show N.right = false by rw [HA.out]; simp [h1])
                  have b1 : ((en : Int) == 0) = false := by simp [h1]
                  clear h1 e3
                  go_wp2
                  go_ret
                  exact ⟨by rw [HF.out]; rfl, HM.out.trans HH.out⟩
end
end Go.Proofs.YtfoldjnmknaklaaGreat
