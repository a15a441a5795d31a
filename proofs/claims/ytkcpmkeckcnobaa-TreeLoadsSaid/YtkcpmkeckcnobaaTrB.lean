/- slices.BinarySearchFunc over entries and keys; leaf.place, inner.kid (printed by wip/gen/bsearch.py). -/
import Derived.Test.YtkcpmkeckcnobaaTr0
import Derived.Test.YtkcpmkeckcnobaaKitE
namespace Go.Proofs.Ytkcpmkeckcnobaa
open Go.RowKit

theorem size_keyT : (Try.prog.info? 23).map (·.size) = some 40 := by kernel_rfl
theorem size_entT : (Try.prog.info? 28).map (·.size) = some 80 := by kernel_rfl
/-- a row out of rows, as cells -/
theorem row_cells {w : World} {A : Option Addr} {n s i : Nat} {L : List (List Nat)} {r : List Nat} (h : RdC w A n s (bv L.flatten)) (hr : Rows s L) (hi : L[i]? = some r) (hn : L.length = n) (hs : 0 < s) :
    ∃ g off, A = some ⟨g, off, none⟩ ∧ ∀ j v, (bv r)[j]? = some v → w.cell? ⟨g, off + i * s + j, none⟩ = some v := by
  have hlt : i < L.length := (List.getElem?_eq_some_iff.1 hi).1
  obtain ⟨g, off, hA, hc⟩ := h.2 (by omega)
  refine ⟨g, off, hA, fun j v hv => ?_⟩
  have hrl := (hr r (List.mem_of_getElem? hi)).1
  have hj : j < s := by have := (List.getElem?_eq_some_iff.1 hv).1; rw [bv_len] at this; omega
  rw [Nat.add_assoc]
  refine hc _ _ ?_
  have ha := rows_at hr hi
  rw [bv_at] at hv ⊢
  rw [← ha, List.getElem?_take_of_lt hj, List.getElem?_drop] at hv
  exact hv
/-- where a key is, or would be -/
structure Place (K : List (List Nat)) (k : List Nat) (i : Nat) : Prop where
  le : i ≤ K.length
  lo : ∀ t, t < i → klt (K.getD t []) k
  hi : ∀ t, i ≤ t → t < K.length → ¬ klt (K.getD t []) k
theorem mono_getD {K : List (List Nat)} (h : K.Pairwise klt) {a b : Nat} (hab : a < b) (hb : b < K.length) : klt (K.getD a []) (K.getD b []) := by
  have := List.pairwise_iff_getElem.1 h a b (by omega) hb hab
  simpa [List.getD_eq_getElem?_getD, List.getElem?_eq_getElem hb, List.getElem?_eq_getElem (show a < K.length by omega)] using this
section
variable {w : World}
set_option maxRecDepth 100000 in
set_option maxHeartbeats 1600000 in
/-- the comparison of an entry's key -/
theorem place1_any (w : World) {r k : List Nat} (hr : r.length = 80) (hz : ∀ z ∈ r, z < 256) (hk : k.length = 40) (hkz : ∀ z ∈ k, z < 256) :
    Calls Try.prog 93 #[.agg (bv r).toArray, .agg (bv k).toArray] w fun e w' => e = .returned (.int .i64 (lexc (keyOf r) k)) ∧ Mod Nn w w' := by
  have m1 : Mod Nn w ((w.alloc (.cells (bv r).toArray 28)).alloc (.cells (bv k).toArray 23)) := ((Mod.refl Nn w).alloc _).alloc _
  have z1 : (w.alloc (.cells (bv r).toArray 28)).heap.size = w.heap.size + 1 := by simp
  have b1 : Blk ((w.alloc (.cells (bv r).toArray 28)).alloc (.cells (bv k).toArray 23)) w.heap.size 28 (bv r).toArray := (Blk.new w _ _).alloc _
  have b2 : Blk ((w.alloc (.cells (bv r).toArray 28)).alloc (.cells (bv k).toArray 23)) (w.heap.size + 1) 23 (bv k).toArray := by
    have := Blk.new (w.alloc (.cells (bv r).toArray 28)) 23 (bv k).toArray
    rwa [z1] at this
  have hc1 : ∀ j v, (bv (keyOf r))[j]? = some v → ((w.alloc (.cells (bv r).toArray 28)).alloc (.cells (bv k).toArray 23)).cell? ⟨w.heap.size, 0 + j, none⟩ = some v := fun j v hv => by
    rw [Nat.zero_add, b1.cell, List.getElem?_toArray, bv_at]
    rw [bv_at] at hv
    have hj : j < 40 := by
      refine Classical.byContradiction fun hc => ?_
      rw [List.getElem?_eq_none (by unfold keyOf; rw [List.length_take]; omega)] at hv; cases hv
    unfold keyOf at hv
    rwa [List.getElem?_take_of_lt hj] at hv
  have hl1 : (keyOf r).length = 40 := by unfold keyOf; rw [List.length_take]; omega
  have hz1 : ∀ z ∈ keyOf r, z < 256 := fun z h => hz z (List.mem_of_mem_take h)
  have HB := Lib.hid (And.intro m1 (And.intro hc1 (And.intro b2 (And.intro hl1 (And.intro hz1 (And.intro hk hkz))))))
  clear m1 z1 b1 b2 hc1 hl1 hz1 hr hz hk hkz
  go_enter Try.func93, Try.ntmps93
  go_wp2_with (first
    | (with_reducible change wpList _ _ _ (⟨some 6, _, _, _, _, _⟩ :: _) _ _
       go_must (refine wpList_val rfl (exec_load_cells (P := Try.prog) (b := w.heap.size) (off := 0) (cs := bv (keyOf r)) 23 _ rfl rfl HB.out.2.1 Try.underlying23 rfl (by rw [bv_len, HB.out.2.2.2.1]; exact size_keyT)) ?_))
    | (with_reducible change wpList _ _ _ (⟨some 7, _, _, _, _, _⟩ :: _) _ _
       go_must (refine wpList_val rfl (exec_load_row (P := Try.prog) (g := w.heap.size + 1) (cs := (bv k).toArray) 23 _ rfl rfl HB.out.2.2.1 Try.underlying23 rfl (by rw [List.size_toArray, bv_len, HB.out.2.2.2.2.2.1]; exact size_keyT)) ?_)))
  refine (ecompare_any _ HB.out.2.2.2.2.1 HB.out.2.2.2.2.2.2 HB.out.2.2.2.1 HB.out.2.2.2.2.2.1).mono ?_
  rintro e w2 ⟨rfl, m2⟩
  have M2 := Lib.hid (HB.out.1.nn_ m2)
  clear m2
  go_wp2
  go_ret
  exact ⟨rfl, M2.out⟩
set_option maxRecDepth 100000 in
set_option maxHeartbeats 6400000 in
theorem bsE_any {A : Option Addr} {n c : Nat} {L : List (List Nat)} {k : List Nat} (h : RdC w A n 80 (bv L.flatten)) (hr : Rows 80 L) (hL : L.length = n) (hk : k.length = 40) (hkz : ∀ z ∈ k, z < 256) (hn : n ≤ 1099511627776)
    (hs : (L.map keyOf).Pairwise klt) :
    Calls Try.prog 92 #[.slice A n c, .agg (bv k).toArray, .func (.func 93) #[] #[]] w fun e w' => ∃ i : Nat, e = .returned (.tuple #[.int .i64 i, .bool (decide (i < n ∧ (L.map keyOf).getD i [] = k))]) ∧ Place (L.map keyOf) k i ∧ Mod Nn w w' := by
  have m1 : Mod Nn w (w.alloc (.cells (bv k).toArray 23)) := (Mod.refl Nn w).alloc _
  have b1 : Blk (w.alloc (.cells (bv k).toArray 23)) w.heap.size 23 (bv k).toArray := Blk.new _ _ _
  obtain ⟨KK, hKK⟩ : ∃ KK : List (List Nat), KK = (L.map keyOf) := ⟨_, rfl⟩
  have hKl : KK.length = n := by rw [hKK]; rw [List.length_map]; exact hL
  have hkey : ∀ t r, L[t]? = some r → KK.getD t [] = keyOf r := fun t r ht => by rw [hKK]; rw [List.getD_eq_getElem?_getD, List.getElem?_map, ht]; rfl
  rw [← hKK] at hs ⊢
  have HH := Lib.hid (And.intro (h.md (by omega) m1 (fun _ _ f => f)) (And.intro m1 (And.intro b1 (And.intro hr (And.intro hs (And.intro hkey (And.intro hk hkz)))))))
  clear h m1 b1 hr hs hkey hkz
  clear hKK
  have hcs : (bv k).toArray.size = 40 := by rw [List.size_toArray, bv_len, hk]
  have hsk : (Try.prog.info? 23).map (·.size) = some (bv k).toArray.size := by rw [hcs]; exact size_keyT
  clear hcs hk
  go_enter Try.func92, Try.ntmps92
  go_wp2
  generalize hw0 : w.alloc (.cells (bv k).toArray 23) = w0 at *
  clear hw0
  go_loopw [9, 10] (fun i j wr => ∃ p q : Nat, p ≤ q ∧ q ≤ n ∧ i = .int .i64 p ∧ j = .int .i64 q ∧ Mod Nn w0 wr ∧ Hid ((∀ t, t < p → klt (KK.getD t []) k) ∧ (∀ t, q ≤ t → t < n → ¬ klt (KK.getD t []) k))) (fun i j _ => (intOf j).toNat - (intOf i).toNat)
  case atStart => exact ⟨0, n, by omega, Nat.le_refl _, rfl, rfl, Mod.refl _ _, Lib.hid ⟨fun t ht => by omega, fun t h1 h2 => by omega⟩⟩
  case round =>
    obtain ⟨p, q, hpq, hqn, rfl, rfl, hm, hpl⟩ := hrel
    by_cases hlt : p < q
    · have hlt' : (p : Int) < q := by omega
      obtain ⟨x, hx⟩ : ∃ x, (p + q) / 2 = x := ⟨_, rfl⟩
      have hx1 : p ≤ x ∧ x < q := by omega
      have hxi : ((p : Int) + q) / 2 = x := by omega
      have hxn : x < n := by omega
      have hxn' : (x : Int) < n := by omega
      obtain ⟨r, hrx⟩ : ∃ r, L[x]? = some r := ⟨_, List.getElem?_eq_getElem (by omega)⟩
      have hrr := HH.out.2.2.2.1 r (List.mem_of_getElem? hrx)
      have hxk := HH.out.2.2.2.2.2.1 x r hrx
      obtain ⟨g, off, rfl, hcell⟩ := row_cells HH.out.1 HH.out.2.2.2.1 hrx hL (by omega)
      have hglt : g < w0.heap.size := by
        have : 0 < (bv r).length := by rw [bv_len, hrr.1]; omega
        exact World.block_lt_of_cell? w0 _ (hcell 0 _ (List.getElem?_eq_getElem this))
      have hSS : (Try.prog.info? 28).map (·.size) = some (bv r).length := by rw [bv_len, hrr.1]; exact size_entT
      have HR := Lib.hid (And.intro hm (And.intro hcell (And.intro hrr (And.intro hxk (And.intro hpl.out hglt)))))
      clear hm hcell hrr hxk hpl hrx hx hglt
      -- zzB1
      go_wp2_with fail
      refine wp_region_planC (fun w' => Mod Nn w0 w') [(0, true), (1, true), (2, true), (3, true), (4, true), (5, true), (6, false), (7, true)] (by kernel_rfl) (by kernel_rfl) HR.out.1.drew ?_
      iterate 3 (refine pc_pure rfl rfl (fun K hK => ?_); go_simp; refine hK _ ?_; clear hK K)
      refine pc_take (.pointer (some ⟨g, off + x * 80, none⟩)) rfl rfl (fun w' hS => exec_elem 40 (.tmp 25) (.tmp 26) rfl 28 80 Try.underlying40 size_entT rfl rfl hxn) (fun K hK => ?_); go_simp; refine hK _ ?_; clear hK K
      refine pc_take (.agg (bv r).toArray) rfl rfl (fun w' hS => exec_load_cells (P := Try.prog) (b := g) (off := off + x * 80) (cs := bv r) 28 (.tmp 27) rfl rfl (fun j v hj => (hS.cell (p := ⟨g, off + x * 80 + j, none⟩) HR.out.2.2.2.2.2 (fun f => f)).trans (HR.out.2.1 j v hj)) Try.underlying28 rfl hSS) (fun K hK => ?_); go_simp; refine hK _ ?_; clear hK K
      refine pc_take (.agg (bv k).toArray) rfl rfl (fun w' hS => exec_load_row (P := Try.prog) (g := w.heap.size) (cs := (bv k).toArray) 23 (.tmp 4) rfl rfl (HH.out.2.2.1.mod hS (fun f => f)) Try.underlying23 rfl hsk) (fun K hK => ?_); go_simp; refine hK _ ?_; clear hK K
      refine pc_call rfl rfl (fun K hK => ?_); go_simp; refine ⟨_, _, ⟨rfl, rfl⟩, hK _ _ _ ?_⟩; clear hK K
      refine (place1_any _ HR.out.2.2.1.1 HR.out.2.2.1.2 HH.out.2.2.2.2.2.2.1 HH.out.2.2.2.2.2.2.2).mono ?_
      rintro e w2 ⟨rfl, m2⟩
      have H2 := Lib.hid (HR.out.1.drew.nn_ m2)
      clear m2
      refine ⟨_, rfl, H2.out, ?_⟩
      iterate 1 (refine pc_pure rfl rfl (fun K hK => ?_); go_simp; refine hK _ ?_; clear hK K)
      refine pc_nil ?_
      -- zzB2
      by_cases hc : lexc (keyOf r) k < 0
      · go_wp2
        refine ⟨⟨x + 1, q, by omega, hqn, by go_num, rfl, H2.out, Lib.hid ⟨fun t ht => ?_, HR.out.2.2.2.2.1.2⟩⟩, by simp [intOf]; omega⟩
        rcases Nat.lt_or_ge t x with h1 | h1
        · have hx := mono_getD HH.out.2.2.2.2.1 h1 (by omega)
          exact klt_trans hx (by rw [HR.out.2.2.2.1]; exact hc)
        · obtain rfl : t = x := by omega
          rw [HR.out.2.2.2.1]; exact hc
      · go_wp2
        refine ⟨⟨p, x, hx1.1, by omega, rfl, rfl, H2.out, Lib.hid ⟨HR.out.2.2.2.2.1.1, fun t h1 h2 => ?_⟩⟩, by simp [intOf]; omega⟩
        rcases Nat.lt_or_ge x t with h3 | h3
        · have hx := mono_getD HH.out.2.2.2.2.1 h3 (by omega)
          rw [HR.out.2.2.2.1] at hx
          exact fun e => hc (klt_trans hx e)
        · obtain rfl : t = x := by omega
          rw [HR.out.2.2.2.1]; exact hc
    · obtain rfl : p = q := by omega
      have hlt' : ¬ (p : Int) < p := by omega
      have hpl0 : Place KK k p := ⟨by omega, hpl.out.1, fun t h1 h2 => hpl.out.2 t h1 (by omega)⟩
      have HP := Lib.hid (And.intro hm hpl0)
      clear hm hpl hpl0
      by_cases hpn : p < n
      · have hpn' : (p : Int) < n := by omega
        obtain ⟨r, hrx⟩ : ∃ r, L[p]? = some r := ⟨_, List.getElem?_eq_getElem (by omega)⟩
        have hrr := HH.out.2.2.2.1 r (List.mem_of_getElem? hrx)
        have hxk := HH.out.2.2.2.2.2.1 p r hrx
        obtain ⟨g, off, rfl, hcell⟩ := row_cells HH.out.1 HH.out.2.2.2.1 hrx hL (by omega)
        have hglt : g < w0.heap.size := by
          have : 0 < (bv r).length := by rw [bv_len, hrr.1]; omega
          exact World.block_lt_of_cell? w0 _ (hcell 0 _ (List.getElem?_eq_getElem this))
        have hSS : (Try.prog.info? 28).map (·.size) = some (bv r).length := by rw [bv_len, hrr.1]; exact size_entT
        have HR := Lib.hid (And.intro hcell (And.intro hrr (And.intro hxk hglt)))
        clear hcell hrr hxk hrx hglt
        -- zzB3
        go_wp2_with fail
        refine wp_region_planC (fun w' => Mod Nn w0 w') [(0, true), (1, true), (2, true), (3, true), (4, true), (5, true), (6, true), (7, true), (8, true), (9, true), (10, true), (11, false), (12, true), (13, true), (14, true), (15, true)] (by kernel_rfl) (by kernel_rfl) HP.out.1.drew ?_
        iterate 8 (refine pc_pure rfl rfl (fun K hK => ?_); go_simp; refine hK _ ?_; clear hK K)
        refine pc_take (.pointer (some ⟨g, off + p * 80, none⟩)) rfl rfl (fun w' hS => exec_elem 40 (.tmp 41) (.tmp 42) rfl 28 80 Try.underlying40 size_entT rfl rfl hpn) (fun K hK => ?_); go_simp; refine hK _ ?_; clear hK K
        refine pc_take (.agg (bv r).toArray) rfl rfl (fun w' hS => exec_load_cells (P := Try.prog) (b := g) (off := off + p * 80) (cs := bv r) 28 (.tmp 43) rfl rfl (fun j v hj => (hS.cell (p := ⟨g, off + p * 80 + j, none⟩) HR.out.2.2.2 (fun f => f)).trans (HR.out.1 j v hj)) Try.underlying28 rfl hSS) (fun K hK => ?_); go_simp; refine hK _ ?_; clear hK K
        refine pc_take (.agg (bv k).toArray) rfl rfl (fun w' hS => exec_load_row (P := Try.prog) (g := w.heap.size) (cs := (bv k).toArray) 23 (.tmp 4) rfl rfl (HH.out.2.2.1.mod hS (fun f => f)) Try.underlying23 rfl hsk) (fun K hK => ?_); go_simp; refine hK _ ?_; clear hK K
        refine pc_call rfl rfl (fun K hK => ?_); go_simp; refine ⟨_, _, ⟨rfl, rfl⟩, hK _ _ _ ?_⟩; clear hK K
        refine (place1_any _ HR.out.2.1.1 HR.out.2.1.2 HH.out.2.2.2.2.2.2.1 HH.out.2.2.2.2.2.2.2).mono ?_
        rintro e w2 ⟨rfl, m2⟩
        have H2 := Lib.hid (HH.out.2.1.nn_ (HP.out.1.drew.nn_ m2))
        have H3 := Lib.hid (HP.out.1.drew.nn_ m2)
        clear m2
        refine ⟨_, rfl, H3.out, ?_⟩
        iterate 4 (refine pc_pure rfl rfl (fun K hK => ?_); go_simp; refine hK _ ?_; clear hK K)
        refine pc_nil ?_
        have hres : (lexc (keyOf r) k == 0) = decide (p < n ∧ KK.getD p [] = k) := by
          rw [HR.out.2.2.1]
          by_cases he : lexc (keyOf r) k = 0
          · rw [decide_eq_true ⟨hpn, lexc_zero he⟩, he]; rfl
          · rw [decide_eq_false (fun e => he (by rw [e.2]; exact lexc_self k))]
            simpa using he
        rw [hres]
        clear hres
        go_wp2
        go_ret2
        exact ⟨p, rfl, HP.out.2, H2.out⟩
      · obtain rfl : p = n := by omega
        have hres : decide (p < p ∧ KK.getD p [] = k) = false := decide_eq_false (fun e => by omega)
        -- zzB4
        go_wp2_with fail
        refine wp_region_planC (fun w' => True) [(0, true), (1, true), (2, true), (3, true), (4, true), (5, true), (6, true), (7, true), (8, true), (9, true), (10, true), (11, false), (12, true), (13, true), (14, true), (15, true)] (by kernel_rfl) (by kernel_rfl) trivial ?_
        iterate 3 (refine pc_pure rfl rfl (fun K hK => ?_); go_simp; refine hK _ ?_; clear hK K)
        iterate 2 (refine pc_pure rfl rfl (fun K hK => ?_); go_simp; refine hK _ ?_; clear hK K)
        iterate 6 (refine pc_skip rfl rfl (fun K hK => ?_); go_simp; refine hK _ ?_; clear hK K)
        refine pc_skipD rfl rfl (fun K hK => ?_); go_simp; refine hK _ ?_; clear hK K
        refine pc_skip rfl rfl (fun K hK => ?_); go_simp; refine hK _ ?_; clear hK K
        iterate 3 (refine pc_pure rfl rfl (fun K hK => ?_); go_simp; refine hK _ ?_; clear hK K)
        refine pc_nil ?_
        go_wp2
        go_ret2
        exact ⟨p, by rw [hres]; rfl, HP.out.2, HH.out.2.1.nn_ HP.out.1.drew⟩
set_option maxRecDepth 100000 in
set_option maxHeartbeats 6400000 in
theorem bsK_any {A : Option Addr} {n c : Nat} {L : List (List Nat)} {k : List Nat} (h : RdC w A n 40 (bv L.flatten)) (hr : Rows 40 L) (hL : L.length = n) (hk : k.length = 40) (hkz : ∀ z ∈ k, z < 256) (hn : n ≤ 1099511627776)
    (hs : (L).Pairwise klt) :
    Calls Try.prog 96 #[.slice A n c, .agg (bv k).toArray, .func (.func 42) #[] #[]] w fun e w' => ∃ i : Nat, e = .returned (.tuple #[.int .i64 i, .bool (decide (i < n ∧ (L).getD i [] = k))]) ∧ Place (L) k i ∧ Mod Nn w w' := by
  have m1 : Mod Nn w (w.alloc (.cells (bv k).toArray 23)) := (Mod.refl Nn w).alloc _
  have b1 : Blk (w.alloc (.cells (bv k).toArray 23)) w.heap.size 23 (bv k).toArray := Blk.new _ _ _
  obtain ⟨KK, hKK⟩ : ∃ KK : List (List Nat), KK = (L) := ⟨_, rfl⟩
  have hKl : KK.length = n := by rw [hKK]; exact hL
  have hkey : ∀ t r, L[t]? = some r → KK.getD t [] = r := fun t r ht => by rw [hKK]; rw [List.getD_eq_getElem?_getD, ht]; rfl
  rw [← hKK] at hs ⊢
  have HH := Lib.hid (And.intro (h.md (by omega) m1 (fun _ _ f => f)) (And.intro m1 (And.intro b1 (And.intro hr (And.intro hs (And.intro hkey (And.intro hk hkz)))))))
  clear h m1 b1 hr hs hkey hkz
  clear hKK
  have hcs : (bv k).toArray.size = 40 := by rw [List.size_toArray, bv_len, hk]
  have hsk : (Try.prog.info? 23).map (·.size) = some (bv k).toArray.size := by rw [hcs]; exact size_keyT
  clear hcs hk
  go_enter Try.func96, Try.ntmps96
  go_wp2
  generalize hw0 : w.alloc (.cells (bv k).toArray 23) = w0 at *
  clear hw0
  go_loopw [9, 10] (fun i j wr => ∃ p q : Nat, p ≤ q ∧ q ≤ n ∧ i = .int .i64 p ∧ j = .int .i64 q ∧ Mod Nn w0 wr ∧ Hid ((∀ t, t < p → klt (KK.getD t []) k) ∧ (∀ t, q ≤ t → t < n → ¬ klt (KK.getD t []) k))) (fun i j _ => (intOf j).toNat - (intOf i).toNat)
  case atStart => exact ⟨0, n, by omega, Nat.le_refl _, rfl, rfl, Mod.refl _ _, Lib.hid ⟨fun t ht => by omega, fun t h1 h2 => by omega⟩⟩
  case round =>
    obtain ⟨p, q, hpq, hqn, rfl, rfl, hm, hpl⟩ := hrel
    by_cases hlt : p < q
    · have hlt' : (p : Int) < q := by omega
      obtain ⟨x, hx⟩ : ∃ x, (p + q) / 2 = x := ⟨_, rfl⟩
      have hx1 : p ≤ x ∧ x < q := by omega
      have hxi : ((p : Int) + q) / 2 = x := by omega
      have hxn : x < n := by omega
      have hxn' : (x : Int) < n := by omega
      obtain ⟨r, hrx⟩ : ∃ r, L[x]? = some r := ⟨_, List.getElem?_eq_getElem (by omega)⟩
      have hrr := HH.out.2.2.2.1 r (List.mem_of_getElem? hrx)
      have hxk := HH.out.2.2.2.2.2.1 x r hrx
      obtain ⟨g, off, rfl, hcell⟩ := row_cells HH.out.1 HH.out.2.2.2.1 hrx hL (by omega)
      have hglt : g < w0.heap.size := by
        have : 0 < (bv r).length := by rw [bv_len, hrr.1]; omega
        exact World.block_lt_of_cell? w0 _ (hcell 0 _ (List.getElem?_eq_getElem this))
      have hSS : (Try.prog.info? 23).map (·.size) = some (bv r).length := by rw [bv_len, hrr.1]; exact size_keyT
      have HR := Lib.hid (And.intro hm (And.intro hcell (And.intro hrr (And.intro hxk (And.intro hpl.out hglt)))))
      clear hm hcell hrr hxk hpl hrx hx hglt
      -- zzB1
      go_wp2_with fail
      refine wp_region_planC (fun w' => Mod Nn w0 w') [(0, true), (1, true), (2, true), (3, true), (4, true), (5, true), (6, false), (7, true)] (by kernel_rfl) (by kernel_rfl) HR.out.1.drew ?_
      iterate 3 (refine pc_pure rfl rfl (fun K hK => ?_); go_simp; refine hK _ ?_; clear hK K)
      refine pc_take (.pointer (some ⟨g, off + x * 40, none⟩)) rfl rfl (fun w' hS => exec_elem 75 (.tmp 25) (.tmp 26) rfl 23 40 Try.underlying75 size_keyT rfl rfl hxn) (fun K hK => ?_); go_simp; refine hK _ ?_; clear hK K
      refine pc_take (.agg (bv r).toArray) rfl rfl (fun w' hS => exec_load_cells (P := Try.prog) (b := g) (off := off + x * 40) (cs := bv r) 23 (.tmp 27) rfl rfl (fun j v hj => (hS.cell (p := ⟨g, off + x * 40 + j, none⟩) HR.out.2.2.2.2.2 (fun f => f)).trans (HR.out.2.1 j v hj)) Try.underlying23 rfl hSS) (fun K hK => ?_); go_simp; refine hK _ ?_; clear hK K
      refine pc_take (.agg (bv k).toArray) rfl rfl (fun w' hS => exec_load_row (P := Try.prog) (g := w.heap.size) (cs := (bv k).toArray) 23 (.tmp 4) rfl rfl (HH.out.2.2.1.mod hS (fun f => f)) Try.underlying23 rfl hsk) (fun K hK => ?_); go_simp; refine hK _ ?_; clear hK K
      refine pc_call rfl rfl (fun K hK => ?_); go_simp; refine ⟨_, _, ⟨rfl, rfl⟩, hK _ _ _ ?_⟩; clear hK K
      refine (ecompare_any _ HR.out.2.2.1.2 HH.out.2.2.2.2.2.2.2 HR.out.2.2.1.1 HH.out.2.2.2.2.2.2.1).mono ?_
      rintro e w2 ⟨rfl, m2⟩
      have H2 := Lib.hid (HR.out.1.drew.nn_ m2)
      clear m2
      refine ⟨_, rfl, H2.out, ?_⟩
      iterate 1 (refine pc_pure rfl rfl (fun K hK => ?_); go_simp; refine hK _ ?_; clear hK K)
      refine pc_nil ?_
      -- zzB2
      by_cases hc : lexc (r) k < 0
      · go_wp2
        refine ⟨⟨x + 1, q, by omega, hqn, by go_num, rfl, H2.out, Lib.hid ⟨fun t ht => ?_, HR.out.2.2.2.2.1.2⟩⟩, by simp [intOf]; omega⟩
        rcases Nat.lt_or_ge t x with h1 | h1
        · have hx := mono_getD HH.out.2.2.2.2.1 h1 (by omega)
          exact klt_trans hx (by rw [HR.out.2.2.2.1]; exact hc)
        · obtain rfl : t = x := by omega
          rw [HR.out.2.2.2.1]; exact hc
      · go_wp2
        refine ⟨⟨p, x, hx1.1, by omega, rfl, rfl, H2.out, Lib.hid ⟨HR.out.2.2.2.2.1.1, fun t h1 h2 => ?_⟩⟩, by simp [intOf]; omega⟩
        rcases Nat.lt_or_ge x t with h3 | h3
        · have hx := mono_getD HH.out.2.2.2.2.1 h3 (by omega)
          rw [HR.out.2.2.2.1] at hx
          exact fun e => hc (klt_trans hx e)
        · obtain rfl : t = x := by omega
          rw [HR.out.2.2.2.1]; exact hc
    · obtain rfl : p = q := by omega
      have hlt' : ¬ (p : Int) < p := by omega
      have hpl0 : Place KK k p := ⟨by omega, hpl.out.1, fun t h1 h2 => hpl.out.2 t h1 (by omega)⟩
      have HP := Lib.hid (And.intro hm hpl0)
      clear hm hpl hpl0
      by_cases hpn : p < n
      · have hpn' : (p : Int) < n := by omega
        obtain ⟨r, hrx⟩ : ∃ r, L[p]? = some r := ⟨_, List.getElem?_eq_getElem (by omega)⟩
        have hrr := HH.out.2.2.2.1 r (List.mem_of_getElem? hrx)
        have hxk := HH.out.2.2.2.2.2.1 p r hrx
        obtain ⟨g, off, rfl, hcell⟩ := row_cells HH.out.1 HH.out.2.2.2.1 hrx hL (by omega)
        have hglt : g < w0.heap.size := by
          have : 0 < (bv r).length := by rw [bv_len, hrr.1]; omega
          exact World.block_lt_of_cell? w0 _ (hcell 0 _ (List.getElem?_eq_getElem this))
        have hSS : (Try.prog.info? 23).map (·.size) = some (bv r).length := by rw [bv_len, hrr.1]; exact size_keyT
        have HR := Lib.hid (And.intro hcell (And.intro hrr (And.intro hxk hglt)))
        clear hcell hrr hxk hrx hglt
        -- zzB3
        go_wp2_with fail
        refine wp_region_planC (fun w' => Mod Nn w0 w') [(0, true), (1, true), (2, true), (3, true), (4, true), (5, true), (6, true), (7, true), (8, true), (9, true), (10, true), (11, false), (12, true), (13, true), (14, true), (15, true)] (by kernel_rfl) (by kernel_rfl) HP.out.1.drew ?_
        iterate 8 (refine pc_pure rfl rfl (fun K hK => ?_); go_simp; refine hK _ ?_; clear hK K)
        refine pc_take (.pointer (some ⟨g, off + p * 40, none⟩)) rfl rfl (fun w' hS => exec_elem 75 (.tmp 41) (.tmp 42) rfl 23 40 Try.underlying75 size_keyT rfl rfl hpn) (fun K hK => ?_); go_simp; refine hK _ ?_; clear hK K
        refine pc_take (.agg (bv r).toArray) rfl rfl (fun w' hS => exec_load_cells (P := Try.prog) (b := g) (off := off + p * 40) (cs := bv r) 23 (.tmp 43) rfl rfl (fun j v hj => (hS.cell (p := ⟨g, off + p * 40 + j, none⟩) HR.out.2.2.2 (fun f => f)).trans (HR.out.1 j v hj)) Try.underlying23 rfl hSS) (fun K hK => ?_); go_simp; refine hK _ ?_; clear hK K
        refine pc_take (.agg (bv k).toArray) rfl rfl (fun w' hS => exec_load_row (P := Try.prog) (g := w.heap.size) (cs := (bv k).toArray) 23 (.tmp 4) rfl rfl (HH.out.2.2.1.mod hS (fun f => f)) Try.underlying23 rfl hsk) (fun K hK => ?_); go_simp; refine hK _ ?_; clear hK K
        refine pc_call rfl rfl (fun K hK => ?_); go_simp; refine ⟨_, _, ⟨rfl, rfl⟩, hK _ _ _ ?_⟩; clear hK K
        refine (ecompare_any _ HR.out.2.1.2 HH.out.2.2.2.2.2.2.2 HR.out.2.1.1 HH.out.2.2.2.2.2.2.1).mono ?_
        rintro e w2 ⟨rfl, m2⟩
        have H2 := Lib.hid (HH.out.2.1.nn_ (HP.out.1.drew.nn_ m2))
        have H3 := Lib.hid (HP.out.1.drew.nn_ m2)
        clear m2
        refine ⟨_, rfl, H3.out, ?_⟩
        iterate 4 (refine pc_pure rfl rfl (fun K hK => ?_); go_simp; refine hK _ ?_; clear hK K)
        refine pc_nil ?_
        have hres : (lexc (r) k == 0) = decide (p < n ∧ KK.getD p [] = k) := by
          rw [HR.out.2.2.1]
          by_cases he : lexc (r) k = 0
          · rw [decide_eq_true ⟨hpn, lexc_zero he⟩, he]; rfl
          · rw [decide_eq_false (fun e => he (by rw [e.2]; exact lexc_self k))]
            simpa using he
        rw [hres]
        clear hres
        go_wp2
        go_ret2
        exact ⟨p, rfl, HP.out.2, H2.out⟩
      · obtain rfl : p = n := by omega
        have hres : decide (p < p ∧ KK.getD p [] = k) = false := decide_eq_false (fun e => by omega)
        -- zzB4
        go_wp2_with fail
        refine wp_region_planC (fun w' => True) [(0, true), (1, true), (2, true), (3, true), (4, true), (5, true), (6, true), (7, true), (8, true), (9, true), (10, true), (11, false), (12, true), (13, true), (14, true), (15, true)] (by kernel_rfl) (by kernel_rfl) trivial ?_
        iterate 3 (refine pc_pure rfl rfl (fun K hK => ?_); go_simp; refine hK _ ?_; clear hK K)
        iterate 2 (refine pc_pure rfl rfl (fun K hK => ?_); go_simp; refine hK _ ?_; clear hK K)
        iterate 6 (refine pc_skip rfl rfl (fun K hK => ?_); go_simp; refine hK _ ?_; clear hK K)
        refine pc_skipD rfl rfl (fun K hK => ?_); go_simp; refine hK _ ?_; clear hK K
        refine pc_skip rfl rfl (fun K hK => ?_); go_simp; refine hK _ ?_; clear hK K
        iterate 3 (refine pc_pure rfl rfl (fun K hK => ?_); go_simp; refine hK _ ?_; clear hK K)
        refine pc_nil ?_
        go_wp2
        go_ret2
        exact ⟨p, by rw [hres]; rfl, HP.out.2, HH.out.2.1.nn_ HP.out.1.drew⟩
end
end Go.Proofs.Ytkcpmkeckcnobaa
