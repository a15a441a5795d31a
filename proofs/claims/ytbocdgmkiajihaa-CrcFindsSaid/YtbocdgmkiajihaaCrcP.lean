/- peatbanklaw02.CrcParts: the walk. -/
import Derived.Test.YtbocdgmkiajihaaCrcS
import Derived.Test.YtbocdgmkiajihaaBytesP
import Derived.Test.YtbocdgmkiajihaaCrc7
import Derived.Test.YtbocdgmkiajihaaKit9
namespace Go.Proofs.Ytbocdgmkiajihaa
open Go.RowKit

theorem size_u8 : (Try.prog.info? 5).map (·.size) = some 1 := by kernel_rfl
theorem parts_eq (p s : BitVec 32) (l : List Nat) (k : Nat) : crcS p (crcS p s (l.take k)) (l.drop k) = crcS p s l := by rw [← crcS_append, List.take_append_drop]
theorem bv_sub (l : List Nat) (a b : Nat) : ((bv l).drop a).take b = bv ((l.drop a).take b) := by unfold bv; rw [← List.map_drop, ← List.map_take]
theorem bv_pre (l : List Nat) (b : Nat) : (bv l).take b = bv (l.take b) := by unfold bv; rw [← List.map_take]
theorem bv_post (l : List Nat) (b : Nat) : (bv l).drop b = bv (l.drop b) := by unfold bv; rw [← List.map_drop]
theorem xor_u8 (c d : Nat) (hc : c < 256) (hd : d < 256) : bits .xor .u8 (c : Int) (d : Int) = ((c ^^^ d : Nat) : Int) := by
  show IntKind.u8.wrap ((BitVec.ofInt 8 (c : Int) ^^^ BitVec.ofInt 8 (d : Int)).toNat : Int) = _
  have := xor8_lt c d hc hd
  rw [BitVec.ofInt_natCast, BitVec.ofInt_natCast, BitVec.toNat_xor, BitVec.toNat_ofNat, BitVec.toNat_ofNat, Nat.mod_eq_of_lt (show c < 2 ^ 8 by omega), Nat.mod_eq_of_lt (show d < 2 ^ 8 by omega), IntKind.wrap_u8]
  omega

theorem bv_zeros' (a b c : List Nat) (q : Nat) : Array.replicate q (Value.int .u8 0) = (bv (odd3 a b c 0 ++ List.replicate (q - 0) 0)).toArray := by
  unfold bv odd3
  simp
theorem odd3_set (a b c : List Nat) (q j : Nat) (h : j < q) : (odd3 a b c j ++ List.replicate (q - j) 0).set j (a.getD j 0 ^^^ b.getD j 0 ^^^ c.getD j 0) = odd3 a b c (j + 1) ++ List.replicate (q - (j + 1)) 0 := by
  have e1 : q - j = (q - (j + 1)) + 1 := by omega
  have e2 : odd3 a b c (j + 1) = odd3 a b c j ++ [a.getD j 0 ^^^ b.getD j 0 ^^^ c.getD j 0] := by unfold odd3; rw [List.range_succ, List.map_append]; rfl
  rw [e1, List.replicate_succ, e2, List.set_append_right _ _ (by rw [odd3_len]; omega), odd3_len, Nat.sub_self, List.append_assoc]
  rfl
/-- a table that was made behind w -/
structure TI (w w' : World) (b : Nat) (p : BitVec 32) : Prop where
  tb : TblAt w' b p
  md : Mod Nn w w'
  hb : w.heap.size ≤ b
section
variable {w w1 w2 : World} {b : Nat} {p : BitVec 32}
theorem TI.nn (h : TI w w1 b p) (m : Mod Nn w1 w2) : TI w w2 b p := ⟨h.tb.mod m (fun f => f), h.md.nn_ m, h.hb⟩
theorem TI.drew (h : TI w w1 b p) : TI w w1.drew b p := h.nn (Mod.refl _ _).drew
theorem ti_add (h : TI w w1 b p) (s : BitVec 32) {A : Option Addr} {n c : Nat} {l : List Nat} (hr : Rd w A n (bv l)) (hl : ∀ z ∈ l, z < 256) (hn : n ≤ 140737488355328) :
    Calls Try.prog 18 #[.pointer (some ⟨b, 0, none⟩), .int .u32 (s.toNat : Int), .slice A n c] w1 fun r w' => r = .returned (.int .u32 ((crcS p s l).toNat : Int)) ∧ TI w w' b p :=
  (add_any0 h.tb s (hr.mod h.md (fun _ _ f => f)) (fun g hg hp e => by have := hr.in_ hp hg; have := h.hb; omega) hl hn).mono fun _ _ ⟨h1, h2, h3⟩ => ⟨h1, h2, h.md.new_ h3 h.hb, h.hb⟩
theorem ti_cadd (h : TI w w1 b p) (s : BitVec 32) {A : Option Addr} {n c : Nat} {l : List Nat} (hr : Rd w A n (bv l)) (hl : ∀ z ∈ l, z < 256) (hn : n ≤ 140737488355328) :
    Calls Try.prog 13 #[.int .u32 (s.toNat : Int), .slice A n c] w1 fun r w' => r = .returned (.int .u32 ((crcS cas s l).toNat : Int)) ∧ TI w w' b p :=
  (crc_add s (hr.mod h.md (fun _ _ f => f)) hl hn).mono fun _ _ ⟨h1, h2⟩ => ⟨h1, h.nn h2⟩
theorem ti_csum (h : TI w w1 b p) {A : Option Addr} {n c : Nat} {l : List Nat} (hr : Rd w A n (bv l)) (hl : ∀ z ∈ l, z < 256) (hn : n ≤ 140737488355328) :
    Calls Try.prog 11 #[.slice A n c] w1 fun r w' => r = .returned (.int .u32 ((crcS cas 0#32 l).toNat : Int)) ∧ TI w w' b p :=
  (crc_sum (hr.mod h.md (fun _ _ f => f)) hl hn).mono fun _ _ ⟨h1, h2⟩ => ⟨h1, h.nn h2⟩
end

set_option maxRecDepth 100000 in
set_option maxHeartbeats 6400000 in
theorem parts_any {w : World} (p s : BitVec 32) {A B C : Option Addr} {n m o ca cb cc : Nat} {a b c : List Nat} (x : Int) (ha : Rd w A n (bv a)) (hb : Rd w B m (bv b)) (hc : Rd w C o (bv c))
    (la : ∀ z ∈ a, z < 256) (lb : ∀ z ∈ b, z < 256) (lc : ∀ z ∈ c, z < 256) (hca : n ≤ ca) (hcb : m ≤ cb) (hcc : o ≤ cc) (hma : ca ≤ maxLen) (hmb : cb ≤ maxLen) (hmc : cc ≤ maxLen) :
    Calls Try.prog 7 #[.int .u32 (p.toNat : Int), .int .u32 (s.toNat : Int), .slice A n ca, .slice B m cb, .slice C o cc, .int .i64 x] w fun r w' => r = .returned (.bool true) ∧ Mod Nn w w' := by
  unfold maxLen at hma hmb hmc
  obtain ⟨q, hqn, hqm, hqo, hq⟩ : ∃ q : Nat, q ≤ n ∧ q ≤ m ∧ q ≤ o ∧ (q : Int) = min (n : Int) (min (m : Int) (o : Int)) := ⟨min n (min m o), by omega, by omega, by omega, by omega⟩
  have HQ := Lib.hid hq; clear hq
  have HLA := Lib.hid la; have HLB := Lib.hid lb; have HLC := Lib.hid lc; clear la lb lc
  go_enter Try.func7, Try.ntmps7
  go_wp2_with fail
  refine (crc_awake _).mono ?_
  rintro r w1 ⟨rfl, m1⟩
  by_cases hn : (50000 : Int) < n
  · go_wp2_with (first
      | (with_reducible change wpList _ _ _ (⟨some 25, _, _, _, _, _⟩ :: _) _ _
         go_must (refine wpList_min3 3 _ _ _ rfl rfl n m o q rfl rfl rfl HQ.out ?_)))
    go_ret
    exact ⟨rfl, m1⟩
  · go_wp2_with (first
      | (with_reducible change wpList _ _ _ (⟨some 25, _, _, _, _, _⟩ :: _) _ _
         go_must (refine wpList_min3 3 _ _ _ rfl rfl n m o q rfl rfl rfl HQ.out ?_)))
    refine (new_any p _).mono ?_
    rintro r w2 ⟨bt, rfl, ht, m2, hbt⟩
    have T2 : TI w w2 bt p := ⟨ht, m1.nn_ m2, by have := m1.size; omega⟩
    clear ht m1 m2 hbt
    have hn' : (n : Int) ≤ 50000 := by omega
    have hq' : (q : Int) ≤ 50000 := by omega
    go_wp2_with fail
    refine (pick_any x _ _ (by omega)).mono ?_
    rintro r w3 ⟨rfl, rfl⟩
    have hpk := pick_range x ((n : Int) + 1) (by omega)
    obtain ⟨k, hk⟩ : ∃ k : Nat, pick x ((n : Int) + 1) = k := ⟨(pick x ((n : Int) + 1)).toNat, by omega⟩
    rw [hk] at hpk ⊢
    clear hk
    have hkn : k ≤ n := by omega
    clear hpk
    have rA1 := ha.pre (c := ca) k hkn hca
    have rA2 := ha.post (c := ca) k hkn hca
    rw [bv_pre] at rA1
    rw [bv_post] at rA2
    have HR1 := Lib.hid rA1; have HR2 := Lib.hid rA2
    clear rA1 rA2
    have hkc : k ≤ ca := by omega
    have hE1 := congrArg BitVec.toNat (parts_eq p s a k)
    have hE2 := congrArg BitVec.toNat (parts_eq cas s a k)
    generalize hX1 : (crcS p s a).toNat = X1 at *
    generalize hX2 : (crcS cas s a).toNat = X2 at *
    generalize hX3 : (crcS cas 0#32 a).toNat = X3 at *
    have HX := Lib.hid (And.intro hX1 (And.intro hX2 (And.intro hX3 (And.intro hE1 hE2))))
    clear hX1 hX2 hX3 hE1 hE2
    go_upto_region 8 with fail
    refine wp_region_planC (fun _ => True) [(0, true), (1, true), (2, true), (3, true), (4, true), (5, true), (7, true), (8, true), (9, true), (11, true), (12, true), (13, true), (6, false), (10, false), (14, false), (15, true), (16, true), (17, true), (18, true), (19, true), (20, true), (22, true), (23, true), (24, true), (26, true), (27, true), (21, false), (25, false), (28, false), (29, true), (30, true), (31, true), (32, true), (34, true), (33, false), (35, false), (36, true), (37, true)] (by kernel_rfl) (by kernel_rfl) trivial ?_
    iterate 5 (refine pc_pure rfl rfl (fun K hK => ?_); go_simp; refine hK _ ?_; clear hK K)
    refine pc_take _ rfl rfl (fun w' _ => exec_sub_h (P := Try.prog) 23 _ _ rfl 5 1 Try.underlying23 size_u8 (A := A) (n := n) (c := ca) (h := k) rfl rfl hkc) (fun K hK => ?_); go_simp; refine hK _ ?_; clear hK K
    iterate 2 (refine pc_pure rfl rfl (fun K hK => ?_); go_simp; refine hK _ ?_; clear hK K)
    refine pc_take _ rfl rfl (fun w' _ => exec_sub_l (P := Try.prog) 23 _ _ rfl 5 1 Try.underlying23 size_u8 (A := A) (n := n) (c := ca) (l := k) rfl rfl hkn) (fun K hK => ?_); go_simp; refine hK _ ?_; clear hK K
    iterate 3 (refine pc_pure rfl rfl (fun K hK => ?_); go_simp; refine hK _ ?_; clear hK K)
    refine pc_call rfl rfl (fun K hK => ?_); go_simp; refine ⟨_, _, ⟨rfl, rfl⟩, hK _ _ _ ?_⟩; clear hK K
    refine (ti_add T2.drew s HR1.out (take_lt k HLA.out) (by omega)).mono ?_
    rintro r w4 ⟨rfl, T4⟩
    refine ⟨_, rfl, trivial, ?_⟩
    refine pc_call rfl rfl (fun K hK => ?_); go_simp; refine ⟨_, _, ⟨rfl, rfl⟩, hK _ _ _ ?_⟩; clear hK K
    refine (ti_add T4 _ HR2.out (drop_lt k HLA.out) (by omega)).mono ?_
    rintro r w5 ⟨rfl, T5⟩
    rw [HX.out.2.2.2.1]
    refine ⟨_, rfl, trivial, ?_⟩
    refine pc_call rfl rfl (fun K hK => ?_); go_simp; refine ⟨_, _, ⟨rfl, rfl⟩, hK _ _ _ ?_⟩; clear hK K
    refine (ti_add T5 s ha HLA.out (by omega)).mono ?_
    rintro r w6 ⟨rfl, T6⟩
    rw [HX.out.1]
    refine ⟨_, rfl, trivial, ?_⟩
    iterate 5 (refine pc_pure rfl rfl (fun K hK => ?_); go_simp; refine hK _ ?_; clear hK K)
    refine pc_take _ rfl rfl (fun w' _ => exec_sub_h (P := Try.prog) 23 _ _ rfl 5 1 Try.underlying23 size_u8 (A := A) (n := n) (c := ca) (h := k) rfl rfl hkc) (fun K hK => ?_); go_simp; refine hK _ ?_; clear hK K
    iterate 2 (refine pc_pure rfl rfl (fun K hK => ?_); go_simp; refine hK _ ?_; clear hK K)
    refine pc_take _ rfl rfl (fun w' _ => exec_sub_l (P := Try.prog) 23 _ _ rfl 5 1 Try.underlying23 size_u8 (A := A) (n := n) (c := ca) (l := k) rfl rfl hkn) (fun K hK => ?_); go_simp; refine hK _ ?_; clear hK K
    iterate 2 (refine pc_pure rfl rfl (fun K hK => ?_); go_simp; refine hK _ ?_; clear hK K)
    refine pc_call rfl rfl (fun K hK => ?_); go_simp; refine ⟨_, _, ⟨rfl, rfl⟩, hK _ _ _ ?_⟩; clear hK K
    refine (ti_cadd T6 s HR1.out (take_lt k HLA.out) (by omega)).mono ?_
    rintro r w7 ⟨rfl, T7⟩
    refine ⟨_, rfl, trivial, ?_⟩
    refine pc_call rfl rfl (fun K hK => ?_); go_simp; refine ⟨_, _, ⟨rfl, rfl⟩, hK _ _ _ ?_⟩; clear hK K
    refine (ti_cadd T7 _ HR2.out (drop_lt k HLA.out) (by omega)).mono ?_
    rintro r w8 ⟨rfl, T8⟩
    rw [HX.out.2.2.2.2]
    refine ⟨_, rfl, trivial, ?_⟩
    refine pc_call rfl rfl (fun K hK => ?_); go_simp; refine ⟨_, _, ⟨rfl, rfl⟩, hK _ _ _ ?_⟩; clear hK K
    refine (ti_cadd T8 s ha HLA.out (by omega)).mono ?_
    rintro r w9 ⟨rfl, T9⟩
    rw [HX.out.2.1]
    refine ⟨_, rfl, trivial, ?_⟩
    iterate 5 (refine pc_pure rfl rfl (fun K hK => ?_); go_simp; refine hK _ ?_; clear hK K)
    refine pc_call rfl rfl (fun K hK => ?_); go_simp; refine ⟨_, _, ⟨rfl, rfl⟩, hK _ _ _ ?_⟩; clear hK K
    refine (ti_csum T9 ha HLA.out (by omega)).mono ?_
    rintro r w10 ⟨rfl, T10⟩
    rw [HX.out.2.2.1]
    refine ⟨_, rfl, trivial, ?_⟩
    refine pc_call rfl rfl (fun K hK => ?_); go_simp; refine ⟨_, _, ⟨rfl, rfl⟩, hK _ _ _ ?_⟩; clear hK K
    refine (ti_cadd T10 0#32 ha HLA.out (by omega)).mono ?_
    rintro r w11 ⟨rfl, T11⟩
    rw [HX.out.2.2.1]
    refine ⟨_, rfl, trivial, ?_⟩
    iterate 2 (refine pc_pure rfl rfl (fun K hK => ?_); go_simp; refine hK _ ?_; clear hK K)
    refine pc_nil ?_
    clear T2 T4 T5 T6 T7 T8 T9 T10
    go_wp2_with (first
      | (with_reducible change wpList _ _ _ (⟨_, Op.makeSlice _ _ _, _, _, _, _⟩ :: _) _ _
         go_must (refine wpList_make1 23 _ _ rfl rfl 5 (.int .u8 0) 1 Try.underlying23 info_u8 rfl (q : Int) (q : Int) q q rfl rfl rfl rfl (by omega) (by omega) (by omega) ?_)
         intro w12 b12 m12 z12))
    generalize hg : w11.heap.size = g at *
    have HG := Lib.hid hg; clear hg
    have T12 : TI w w12 bt p := T11.nn m12
    have hgb : g ≠ bt := by have := T11.tb.lt; have := HG.out; omega
    have hgw : w.heap.size ≤ g := by have := T11.md.size; have := HG.out; omega
    have HGB := Lib.hid hgb; clear hgb
    have D12 : Blk w12 g 5 (bv (odd3 a b c 0 ++ List.replicate (q - 0) 0)).toArray := by
      rw [bv_zeros'] at b12; exact b12
    clear T11 b12 m12 z12
    go_loopw [16] (fun i wr => ∃ j : Nat, j ≤ q ∧ i = .int .i64 j ∧ TI w wr bt p ∧ Blk wr g 5 (bv (odd3 a b c j ++ List.replicate (q - j) 0)).toArray) (fun i _ => q - (intOf i).toNat)
    case atStart => exact ⟨0, Nat.zero_le _, rfl, T12, D12⟩
    case round =>
      clear T12 D12
      obtain ⟨j, hj, rfl, T, D⟩ := hrel
      obtain ⟨wo, rfl⟩ : ∃ wo : World, wo = wr := ⟨_, rfl⟩
      by_cases hlt : j < q
      · have hlt' : (j : Int) < q := by omega
        have hR := T.md
        obtain ⟨ga, oa, va, rfl, hva, cA⟩ := (ha.mod hR (fun _ _ f => f)).at_ (show j < n by omega)
        obtain ⟨gb, ob, vb, rfl, hvb, cB⟩ := (hb.mod hR (fun _ _ f => f)).at_ (show j < m by omega)
        obtain ⟨gc, oc, vc, rfl, hvc, cC⟩ := (hc.mod hR (fun _ _ f => f)).at_ (show j < o by omega)
        rw [bv_at] at hva hvb hvc
        obtain ⟨za, hza, rfl⟩ := Option.map_eq_some_iff.1 hva
        obtain ⟨zb, hzb, rfl⟩ := Option.map_eq_some_iff.1 hvb
        obtain ⟨zc, hzc, rfl⟩ := Option.map_eq_some_iff.1 hvc
        have za8 : za < 256 := HLA.out za (List.mem_of_getElem? hza)
        have zb8 : zb < 256 := HLB.out zb (List.mem_of_getElem? hzb)
        have zc8 : zc < 256 := HLC.out zc (List.mem_of_getElem? hzc)
        have hx1 := xor_u8 za zb za8 zb8
        have hx2 := xor_u8 (za ^^^ zb) zc (xor8_lt _ _ za8 zb8) zc8
        have hset := odd3_set a b c q j hlt
        rw [List.getD_eq_getElem?_getD, List.getD_eq_getElem?_getD, List.getD_eq_getElem?_getD, hza, hzb, hzc] at hset
        simp only [Option.getD_some] at hset
        generalize za ^^^ zb ^^^ zc = y2 at *
        generalize za ^^^ zb = y1 at *
        have HSET := Lib.hid hset
        have hAg : ga ≠ g := by have := ha.in_ (show 0 < n by omega) (g := ga) ⟨_, rfl, rfl⟩; omega
        have hBg : gb ≠ g := by have := hb.in_ (show 0 < m by omega) (g := gb) ⟨_, rfl, rfl⟩; omega
        have hCg : gc ≠ g := by have := hc.in_ (show 0 < o by omega) (g := gc) ⟨_, rfl, rfl⟩; omega
        have cD : wo.cell? ⟨g, j, none⟩ = some ((bv (odd3 a b c j ++ List.replicate (q - j) 0))[j]'(by simp [bv, odd3]; omega)) := by
          rw [D.cell j, List.getElem?_toArray]; exact List.getElem?_eq_getElem _
        generalize ((bv (odd3 a b c j ++ List.replicate (q - j) 0))[j]'(by simp [bv, odd3]; omega)) = vd at *
        have HNE := Lib.hid (And.intro hAg (And.intro hBg hCg))
        have hfz := D.frozen j
        have HD := Lib.hid D
        have HTT := Lib.hid T
        have HC := Lib.hid (And.intro cA (And.intro cB (And.intro cC (And.intro cD hfz))))
        clear hR hva hvb hvc hza hzb hzc za8 zb8 zc8 hset hAg hBg hCg D T cA cB cC cD hfz
        have hjn : (j : Int) < n := by omega
        have hjm : (j : Int) < m := by omega
        have hjo : (j : Int) < o := by omega
        go_upto_region 14 with fail
        refine wp_region_planC (fun w' => w'.cell? ⟨ga, oa + j, none⟩ = some (.int .u8 za) ∧ w'.cell? ⟨gb, ob + j, none⟩ = some (.int .u8 zb) ∧ w'.cell? ⟨gc, oc + j, none⟩ = some (.int .u8 zc))
          ((List.range 17).map (fun i => (i, true)) ++ [(17, false)]) (by kernel_rfl) (by kernel_rfl) ⟨HC.out.1, HC.out.2.1, HC.out.2.2.1⟩ ?_
        simp only [List.range, List.range.loop, List.map_cons, List.map_nil, List.cons_append, List.nil_append]
        iterate 5 (refine pc_pure rfl rfl (fun K hK => ?_); go_simp; refine hK _ ?_; clear hK K)
        refine pc_take _ rfl rfl (fun w' hS => exec_load1 (P := Try.prog) 5 _ rfl rfl hS.1 Try.underlying5 rfl) (fun K hK => ?_); go_simp; refine hK _ ?_; clear hK K
        iterate 3 (refine pc_pure rfl rfl (fun K hK => ?_); go_simp; refine hK _ ?_; clear hK K)
        refine pc_take _ rfl rfl (fun w' hS => exec_load1 (P := Try.prog) 5 _ rfl rfl hS.2.1 Try.underlying5 rfl) (fun K hK => ?_); go_simp; refine hK _ ?_; clear hK K
        iterate 4 (refine pc_pure rfl rfl (fun K hK => ?_); go_simp; refine hK _ ?_; clear hK K)
        refine pc_take _ rfl rfl (fun w' hS => exec_load1 (P := Try.prog) 5 _ rfl rfl hS.2.2 Try.underlying5 rfl) (fun K hK => ?_); go_simp; refine hK _ ?_; clear hK K
        iterate 2 (refine pc_pure rfl rfl (fun K hK => ?_); go_simp; refine hK _ ?_; clear hK K)
        refine pc_unit (w1 := wo.drew.setCell ⟨g, j, none⟩ (.int .u8 y2)) rfl rfl (exec_store1 (P := Try.prog) 5 _ _ rfl rfl rfl HC.out.2.2.2.1 HC.out.2.2.2.2 rfl rfl rfl size_u8) ?_ (fun K hK => ?_)
        · refine ⟨?_, ?_, ?_⟩
          · rw [cell_far (fun e => HNE.out.1 e.symm)]; exact HC.out.1
          · rw [cell_far (fun e => HNE.out.2.1 e.symm)]; exact HC.out.2.1
          · rw [cell_far (fun e => HNE.out.2.2 e.symm)]; exact HC.out.2.2.1
        go_simp; refine hK _ ?_; clear hK K
        refine pc_nil ?_
        have D' : Blk (wo.drew.setCell ⟨g, j, none⟩ (.int .u8 y2)) g 5 (bv (odd3 a b c (j + 1) ++ List.replicate (q - (j + 1)) 0)).toArray := by
          have := HD.out.drew.set_ j (.int .u8 y2)
          rw [List.setIfInBounds_toArray] at this
          rw [← HSET.out]
          unfold bv at this ⊢
          rwa [List.map_set]
        have T' : TI w (wo.drew.setCell ⟨g, j, none⟩ (.int .u8 y2)) bt p :=
          ⟨(HTT.out.drew).tb.mod ((Mod.refl (At g) _).setCell (p := ⟨g, j, none⟩) (.inr rfl) _) (fun e => HGB.out e.symm), HTT.out.md.drew.setCell (.inl hgw) _, HTT.out.hb⟩
        generalize wo.drew.setCell ⟨g, j, none⟩ (.int .u8 y2) = w' at *
        clear HC HD HTT hx1 hx2
        go_wp2
        exact ⟨⟨j + 1, by omega, by go_num, T', D'⟩, by simp [intOf]; omega⟩
      · have hlt' : ¬ (j : Int) < q := by omega
        have hjq : j = q := by omega
        subst hjq
        have r1 := ha.pre (c := ca) j hqn hca
        have r2 := hb.pre (c := cb) j hqm hcb
        have r3 := hc.pre (c := cc) j hqo hcc
        rw [bv_pre] at r1 r2 r3
        have HR := Lib.hid (And.intro r1 (And.intro r2 r3)); clear r1 r2 r3
        rw [Nat.sub_self, List.replicate_zero, List.append_nil] at D
        have hz := odd_sums p s j HLA.out HLB.out HLC.out (by have := ha.1; simp [bv] at this; omega) (by have := hb.1; simp [bv] at this; omega) (by have := hc.1; simp [bv] at this; omega)
        generalize hY1 : crcS p s (a.take j) = Y1 at *
        generalize hY2 : crcS p s (b.take j) = Y2 at *
        generalize hY3 : crcS p s (c.take j) = Y3 at *
        generalize hY4 : crcS p s (odd3 a b c j) = Y4 at *
        have HY := Lib.hid (And.intro hY1 (And.intro hY2 (And.intro hY3 hY4)))
        have hx1 := b_xor Y1 Y2
        have hx2 := b_xor (Y1 ^^^ Y2) Y3
        have hx3 := b_xor (Y1 ^^^ Y2 ^^^ Y3) Y4
        rw [hz] at hx3
        generalize Y1 ^^^ Y2 ^^^ Y3 = Z2 at *
        generalize Y1 ^^^ Y2 = Z1 at *
        have HX3 := Lib.hid (And.intro hx1 (And.intro hx2 hx3))
        have HD := Lib.hid D
        clear hz hx1 hx2 hx3 hY1 hY2 hY3 hY4 D
        have c1 : j ≤ ca := by omega
        have c2 : j ≤ cb := by omega
        have c3 : j ≤ cc := by omega
        go_upto_region 15 with fail
        refine wp_region_planC (fun _ => True) [(0, true), (1, true), (2, true), (3, true), (4, true), (6, true), (7, true), (8, true), (9, true), (10, true), (13, true), (14, true), (15, true), (16, true), (17, true), (20, true), (21, true), (22, true), (5, false), (11, false), (12, true), (18, false), (19, true), (23, false), (24, true), (25, true), (26, true)] (by kernel_rfl) (by kernel_rfl) trivial ?_
        iterate 4 (refine pc_pure rfl rfl (fun K hK => ?_); go_simp; refine hK _ ?_; clear hK K)
        refine pc_take _ rfl rfl (fun w' _ => exec_sub_h (P := Try.prog) 23 _ _ rfl 5 1 Try.underlying23 size_u8 (A := A) (n := n) (c := ca) (h := j) rfl rfl c1) (fun K hK => ?_); go_simp; refine hK _ ?_; clear hK K
        iterate 4 (refine pc_pure rfl rfl (fun K hK => ?_); go_simp; refine hK _ ?_; clear hK K)
        refine pc_take _ rfl rfl (fun w' _ => exec_sub_h (P := Try.prog) 23 _ _ rfl 5 1 Try.underlying23 size_u8 (A := B) (n := m) (c := cb) (h := j) rfl rfl c2) (fun K hK => ?_); go_simp; refine hK _ ?_; clear hK K
        iterate 4 (refine pc_pure rfl rfl (fun K hK => ?_); go_simp; refine hK _ ?_; clear hK K)
        refine pc_take _ rfl rfl (fun w' _ => exec_sub_h (P := Try.prog) 23 _ _ rfl 5 1 Try.underlying23 size_u8 (A := C) (n := o) (c := cc) (h := j) rfl rfl c3) (fun K hK => ?_); go_simp; refine hK _ ?_; clear hK K
        iterate 3 (refine pc_pure rfl rfl (fun K hK => ?_); go_simp; refine hK _ ?_; clear hK K)
        refine pc_call rfl rfl (fun K hK => ?_); go_simp; refine ⟨_, _, ⟨rfl, rfl⟩, hK _ _ _ ?_⟩; clear hK K
        refine (add_any0 T.drew.tb s (HR.out.1.mod T.drew.md (fun _ _ f => f)) (fun k hk hp e => by have := HR.out.1.in_ hp hk; have := T.hb; omega) (take_lt j HLA.out) (by omega)).mono ?_
        rintro r v1 ⟨rfl, t1, n1⟩
        rw [HY.out.1]
        refine ⟨_, rfl, trivial, ?_⟩
        have U1 : TI w v1 bt p := ⟨t1, T.drew.md.new_ n1 T.hb, T.hb⟩
        have D1 := HD.out.drew.mod n1 HGB.out
        clear t1 n1
        refine pc_call rfl rfl (fun K hK => ?_); go_simp; refine ⟨_, _, ⟨rfl, rfl⟩, hK _ _ _ ?_⟩; clear hK K
        refine (add_any0 U1.tb s (HR.out.2.1.mod U1.md (fun _ _ f => f)) (fun k hk hp e => by have := HR.out.2.1.in_ hp hk; have := T.hb; omega) (take_lt j HLB.out) (by omega)).mono ?_
        rintro r v2 ⟨rfl, t2, n2⟩
        rw [HY.out.2.1]
        refine ⟨_, rfl, trivial, ?_⟩
        have U2 : TI w v2 bt p := ⟨t2, U1.md.new_ n2 T.hb, T.hb⟩
        have D2 := D1.mod n2 HGB.out
        clear t2 n2 U1 D1
        have hx1 := HX3.out.1
        iterate 1 (refine pc_pure rfl rfl (fun K hK => ?_); go_simp; refine hK _ ?_; clear hK K)
        clear hx1
        refine pc_call rfl rfl (fun K hK => ?_); go_simp; refine ⟨_, _, ⟨rfl, rfl⟩, hK _ _ _ ?_⟩; clear hK K
        refine (add_any0 U2.tb s (HR.out.2.2.mod U2.md (fun _ _ f => f)) (fun k hk hp e => by have := HR.out.2.2.in_ hp hk; have := T.hb; omega) (take_lt j HLC.out) (by omega)).mono ?_
        rintro r v3 ⟨rfl, t3, n3⟩
        rw [HY.out.2.2.1]
        refine ⟨_, rfl, trivial, ?_⟩
        have U3 : TI w v3 bt p := ⟨t3, U2.md.new_ n3 T.hb, T.hb⟩
        have D3 := D2.mod n3 HGB.out
        clear t3 n3 U2 D2
        have hx2 := HX3.out.2.1
        iterate 1 (refine pc_pure rfl rfl (fun K hK => ?_); go_simp; refine hK _ ?_; clear hK K)
        clear hx2
        refine pc_call rfl rfl (fun K hK => ?_); go_simp; refine ⟨_, _, ⟨rfl, rfl⟩, hK _ _ _ ?_⟩; clear hK K
        refine (add_any0 U3.tb s (Rd.of_blk0 D3 (by simp [bv, odd3_len])) (fun k hk hp e => by obtain ⟨aa, haa, hkk⟩ := hk; injection haa with haa; subst haa; exact HGB.out (hkk.trans e)) (odd3_lt j HLA.out HLB.out HLC.out) (by omega)).mono ?_
        rintro r v4 ⟨rfl, t4, n4⟩
        rw [HY.out.2.2.2]
        refine ⟨_, rfl, trivial, ?_⟩
        have M4 := U3.md.new_ n4 T.hb
        clear t4 n4 U3 D3
        have hx3 := HX3.out.2.2
        iterate 3 (refine pc_pure rfl rfl (fun K hK => ?_); go_simp; refine hK _ ?_; clear hK K)
        clear hx3
        refine pc_nil ?_
        go_wp2
        go_ret
        exact ⟨rfl, M4⟩
end Go.Proofs.Ytbocdgmkiajihaa
