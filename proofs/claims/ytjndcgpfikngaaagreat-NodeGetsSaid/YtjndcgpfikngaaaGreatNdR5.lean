/- peatbankref15.Get: bytes that are none. Printed by gen/ndrget.py. -/
import Derived.Test.YtjndcgpfikngaaaGreatNd12
import Derived.Test.YtjndcgpfikngaaaGreatNdR4
namespace Go.Proofs.YtjndcgpfikngaaaGreat
open Go.RowKit

theorem isNd_first {l : List Nat} (h : isNd l) : l.getD 0 0 = 1 ∨ l.getD 0 0 = 2 := by
  have hb := h.2.2.2
  by_cases h1 : l.getD 0 0 = 1
  · exact .inl h1
  · right
    have e : (ndOf l).leaf = false := by unfold ndOf; rw [ndUp_lf]; exact decide_eq_false h1
    have e2 : (ndOf l).bytes.getD 0 0 = 2 := by
      unfold Nd.bytes Nd.body
      rw [if_neg (by rw [e]; exact Bool.false_ne_true)]
      simp
    rw [hb] at e2
    exact e2
section
variable {w w' : World} {A : Option Addr} {n c : Nat} {l : List Nat}
set_option maxRecDepth 100000 in
set_option maxHeartbeats 1600000 in
theorem rget_len (hr : Rd w A n (bv l)) (hn : n ≠ 1024) : Calls Tryz.prog 21 #[.slice A n c] w (GetP w l) := by
  have hb : ((n : Int) != 1024) = true := by simp; omega
  have HNO := Lib.hid (show ¬ isNd l from fun h => hn (by have := hr.1; rw [bv_len] at this; rw [← this]; exact h.1))
  clear hr hn
  go_enter Tryz.func21, Tryz.ntmps21
  go_wp2_with (first
  | (with_reducible change wpList _ _ _ (⟨some 2, Op.alloc _, _, _, _, _⟩ :: _) _ _
     go_must (refine wpList_alloc_var 26 rfl rfl info_node ?_)
     intro wa ba ma za
     have HA := Lib.hid (And.intro ba (And.intro ma za))
     clear ba ma za)
  | (with_reducible change wpList _ _ _ (⟨none, Op.store _ (Operand.tmp 2) _, _, _, _, _⟩ :: _) _ _
     go_must (refine wpList_store_var 26 _ _ rfl rfl w.heap.size #[.bool false, .slice none 0 0, .slice none 0 0, .slice none 0 0] _ _ rfl rfl HA.out.1 size_node rfl (nd4 _ _ _ _ _ _ _ _ _ _) ?_)
     intro wb bb mb zb
     have MB := HA.out.2.1.new_ mb (Nat.le_refl _)
     have C0 := bb.cell 0; have C1 := bb.cell 1; have C2 := bb.cell 2; have C3 := bb.cell 3
     clear bb mb zb))
  refine bodyPost_ret (v := .tuple #[.agg #[.bool false, .slice none 0 0, .slice none 0 0, .slice none 0 0], .int .i64 4]) (by simp [results, Tryz.results21, go_sem, C0, C1, C2, C3]) rfl (.inr ⟨HNO.out, rfl, MB⟩)
set_option maxRecDepth 100000 in
set_option maxHeartbeats 1600000 in
theorem rget_b0 (hr : Rd w A n (bv l)) (hn : n = 1024) (hc : n ≤ c) (hz : ∀ z ∈ l, z < 256) (hbad : l.getD 0 0 = 0) : Calls Tryz.prog 21 #[.slice A n c] w (GetP w l) := by
  have HNO := Lib.hid (show ¬ isNd l from fun h => by rcases isNd_first h with h | h <;> omega)
  obtain ⟨g, off, rfl, hcell⟩ := hr.2 (by rw [hn]; omega)
  subst hn
  obtain ⟨b0, hb0⟩ : ∃ b, l.getD 0 0 = b := ⟨_, rfl⟩
  obtain ⟨b1, hb1⟩ : ∃ b, l.getD 1 0 = b := ⟨_, rfl⟩
  have hL : l.length = 1024 := by have := hr.1; rwa [bv_len] at this
  have hg : g < w.heap.size := World.block_lt_of_cell? w _ (hcell 0 _ (List.getElem?_eq_getElem (by rw [bv_len]; omega)))
  have hat : ∀ w', Mod Nn w w' → ∀ i, i < 1024 → w'.cell? ⟨g, off + i, none⟩ = some (.int .u8 ((l.getD i 0 : Nat) : Int)) := fun w' hm i hi => by
    refine (hm.cell (p := ⟨g, off + i, none⟩) hg (fun f => f)).trans (hcell i _ ?_)
    rw [bv_at, List.getD_eq_getElem?_getD, List.getElem?_eq_getElem (by omega)]
    rfl
  have hrow : ∀ w', Mod Nn w w' → ∀ o m, o + m ≤ 1024 → ∀ j v, (bv ((l.drop o).take m))[j]? = some v → w'.cell? ⟨g, off + o + j, none⟩ = some v := fun w' hm o m hom j v hv => by
    refine (hm.cell (p := ⟨g, off + o + j, none⟩) hg (fun f => f)).trans ?_
    rw [Nat.add_assoc]
    refine hcell (o + j) v ?_
    rw [bv_at, List.getElem?_take] at hv
    split at hv
    · rw [List.getElem?_drop] at hv
      rw [bv_at]
      exact hv
    · cases hv
  have hpost : ∀ w', Mod Nn w w' → ∀ s, s ≤ 1024 → s < c → Rd w' (some ⟨g, off + s, none⟩) (1024 - s) (bv (l.drop s)) := fun w' hm s hs hsc => by
    have h := (hr.mod hm (fun _ _ f => f)).post (c := c) s hs hc
    rw [sub_at g off c s hsc] at h
    have e : (bv l).drop s = bv (l.drop s) := by unfold bv; rw [List.map_drop]
    rwa [e] at h
  have HPO := Lib.hid hpost
  clear hpost
  have h0 := fun w' hm => hat w' hm 0 (by omega)
  have h1 := fun w' hm => hat w' hm 1 (by omega)
  rw [hb0] at h0
  rw [hb1] at h1
  have hb0' : b0 < 256 := hb0 ▸ getD_lt hz 0
  have hb1' : b1 < 256 := hb1 ▸ getD_lt hz 1
  have HX := Lib.hid (And.intro h0 h1)
  have HR := Lib.hid hr
  have HAT := Lib.hid (And.intro hat (And.intro hL (And.intro hz (And.intro hb0 (And.intro hb1 hrow)))))
  clear h0 h1 hat hcell hb0 hb1 hz hr hL hrow
  rw [HAT.out.2.2.2.1] at hbad
  have c0 : w.cell? ⟨g, off, none⟩ = some (.int .u8 (b0 : Int)) := HX.out.1 w (Mod.refl _ _)
  have c1 : w.cell? ⟨g, off + 1, none⟩ = some (.int .u8 (b1 : Int)) := HX.out.2 w (Mod.refl _ _)
  have HC := Lib.hid (And.intro c0 c1)
  clear c0 c1
  have gd0 : decide ((b0 : Int) < 1) = true := by
    first | exact decide_eq_true (by omega) | (simp; omega)
  have gd1 : decide (b0 < 1) = true := by
    first | exact decide_eq_true (by omega) | (simp; omega)
  have gd2 : (b0 == 0) = true := by
    first | exact decide_eq_true (by omega) | (simp; omega)
  go_enter Tryz.func21, Tryz.ntmps21
  go_upto_region 1 with (first
  | (with_reducible change wpList _ _ _ (⟨some 2, Op.alloc _, _, _, _, _⟩ :: _) _ _
     go_must (refine wpList_alloc_var 26 rfl rfl info_node ?_)
     intro wa ba ma za
     have HA := Lib.hid (And.intro ba (And.intro ma za))
     clear ba ma za))
  have c0 := (HA.out.2.1.cell (p := ⟨g, off, none⟩) hg (fun f => f)).trans HC.out.1
  have c1 := (HA.out.2.1.cell (p := ⟨g, off + 1, none⟩) hg (fun f => f)).trans HC.out.2
  go_wp2_with (first
  | (with_reducible change wpList _ _ _ (⟨none, Op.store _ (Operand.tmp 2) _, _, _, _, _⟩ :: _) _ _
     go_must (refine wpList_store_var 26 _ _ rfl rfl w.heap.size #[.bool false, .slice none 0 0, .slice none 0 0, .slice none 0 0] _ _ rfl rfl HA.out.1 size_node rfl (nd4 _ _ _ _ _ _ _ _ _ _) ?_)
     intro wb bb mb zb
     have MB := HA.out.2.1.new_ mb (Nat.le_refl _)
     have C0 := bb.cell 0; have C1 := bb.cell 1; have C2 := bb.cell 2; have C3 := bb.cell 3
     clear bb mb zb))
  refine bodyPost_ret (v := .tuple #[.agg #[.bool false, .slice none 0 0, .slice none 0 0, .slice none 0 0], .int .i64 4]) (by simp [results, Tryz.results21, go_sem, C0, C1, C2, C3]) rfl (.inr ⟨HNO.out, rfl, MB⟩)
set_option maxRecDepth 100000 in
set_option maxHeartbeats 1600000 in
theorem rget_b2 (hr : Rd w A n (bv l)) (hn : n = 1024) (hc : n ≤ c) (hz : ∀ z ∈ l, z < 256) (hbad : 2 < l.getD 0 0) : Calls Tryz.prog 21 #[.slice A n c] w (GetP w l) := by
  have HNO := Lib.hid (show ¬ isNd l from fun h => by rcases isNd_first h with h | h <;> omega)
  obtain ⟨g, off, rfl, hcell⟩ := hr.2 (by rw [hn]; omega)
  subst hn
  obtain ⟨b0, hb0⟩ : ∃ b, l.getD 0 0 = b := ⟨_, rfl⟩
  obtain ⟨b1, hb1⟩ : ∃ b, l.getD 1 0 = b := ⟨_, rfl⟩
  have hL : l.length = 1024 := by have := hr.1; rwa [bv_len] at this
  have hg : g < w.heap.size := World.block_lt_of_cell? w _ (hcell 0 _ (List.getElem?_eq_getElem (by rw [bv_len]; omega)))
  have hat : ∀ w', Mod Nn w w' → ∀ i, i < 1024 → w'.cell? ⟨g, off + i, none⟩ = some (.int .u8 ((l.getD i 0 : Nat) : Int)) := fun w' hm i hi => by
    refine (hm.cell (p := ⟨g, off + i, none⟩) hg (fun f => f)).trans (hcell i _ ?_)
    rw [bv_at, List.getD_eq_getElem?_getD, List.getElem?_eq_getElem (by omega)]
    rfl
  have hrow : ∀ w', Mod Nn w w' → ∀ o m, o + m ≤ 1024 → ∀ j v, (bv ((l.drop o).take m))[j]? = some v → w'.cell? ⟨g, off + o + j, none⟩ = some v := fun w' hm o m hom j v hv => by
    refine (hm.cell (p := ⟨g, off + o + j, none⟩) hg (fun f => f)).trans ?_
    rw [Nat.add_assoc]
    refine hcell (o + j) v ?_
    rw [bv_at, List.getElem?_take] at hv
    split at hv
    · rw [List.getElem?_drop] at hv
      rw [bv_at]
      exact hv
    · cases hv
  have hpost : ∀ w', Mod Nn w w' → ∀ s, s ≤ 1024 → s < c → Rd w' (some ⟨g, off + s, none⟩) (1024 - s) (bv (l.drop s)) := fun w' hm s hs hsc => by
    have h := (hr.mod hm (fun _ _ f => f)).post (c := c) s hs hc
    rw [sub_at g off c s hsc] at h
    have e : (bv l).drop s = bv (l.drop s) := by unfold bv; rw [List.map_drop]
    rwa [e] at h
  have HPO := Lib.hid hpost
  clear hpost
  have h0 := fun w' hm => hat w' hm 0 (by omega)
  have h1 := fun w' hm => hat w' hm 1 (by omega)
  rw [hb0] at h0
  rw [hb1] at h1
  have hb0' : b0 < 256 := hb0 ▸ getD_lt hz 0
  have hb1' : b1 < 256 := hb1 ▸ getD_lt hz 1
  have HX := Lib.hid (And.intro h0 h1)
  have HR := Lib.hid hr
  have HAT := Lib.hid (And.intro hat (And.intro hL (And.intro hz (And.intro hb0 (And.intro hb1 hrow)))))
  clear h0 h1 hat hcell hb0 hb1 hz hr hL hrow
  rw [HAT.out.2.2.2.1] at hbad
  have c0 : w.cell? ⟨g, off, none⟩ = some (.int .u8 (b0 : Int)) := HX.out.1 w (Mod.refl _ _)
  have c1 : w.cell? ⟨g, off + 1, none⟩ = some (.int .u8 (b1 : Int)) := HX.out.2 w (Mod.refl _ _)
  have HC := Lib.hid (And.intro c0 c1)
  clear c0 c1
  have gd0 : decide ((b0 : Int) < 1) = false := by
    first | exact decide_eq_false (by omega) | (simp; omega)
  have gd1 : decide ((b0 : Int) > 2) = true := by
    first | exact decide_eq_true (by omega) | (simp; omega)
  go_enter Tryz.func21, Tryz.ntmps21
  go_upto_region 1 with (first
  | (with_reducible change wpList _ _ _ (⟨some 2, Op.alloc _, _, _, _, _⟩ :: _) _ _
     go_must (refine wpList_alloc_var 26 rfl rfl info_node ?_)
     intro wa ba ma za
     have HA := Lib.hid (And.intro ba (And.intro ma za))
     clear ba ma za))
  have c0 := (HA.out.2.1.cell (p := ⟨g, off, none⟩) hg (fun f => f)).trans HC.out.1
  have c1 := (HA.out.2.1.cell (p := ⟨g, off + 1, none⟩) hg (fun f => f)).trans HC.out.2
  go_wp2_with (first
  | (with_reducible change wpList _ _ _ (⟨none, Op.store _ (Operand.tmp 2) _, _, _, _, _⟩ :: _) _ _
     go_must (refine wpList_store_var 26 _ _ rfl rfl w.heap.size #[.bool false, .slice none 0 0, .slice none 0 0, .slice none 0 0] _ _ rfl rfl HA.out.1 size_node rfl (nd4 _ _ _ _ _ _ _ _ _ _) ?_)
     intro wb bb mb zb
     have MB := HA.out.2.1.new_ mb (Nat.le_refl _)
     have C0 := bb.cell 0; have C1 := bb.cell 1; have C2 := bb.cell 2; have C3 := bb.cell 3
     clear bb mb zb))
  refine bodyPost_ret (v := .tuple #[.agg #[.bool false, .slice none 0 0, .slice none 0 0, .slice none 0 0], .int .i64 4]) (by simp [results, Tryz.results21, go_sem, C0, C1, C2, C3]) rfl (.inr ⟨HNO.out, rfl, MB⟩)
set_option maxRecDepth 100000 in
set_option maxHeartbeats 1600000 in
theorem rget_b20 (hr : Rd w A n (bv l)) (hn : n = 1024) (hc : n ≤ c) (hz : ∀ z ∈ l, z < 256) (hbad : 1 ≤ l.getD 0 0 ∧ l.getD 0 0 ≤ 2 ∧ 20 < l.getD 1 0) : Calls Tryz.prog 21 #[.slice A n c] w (GetP w l) := by
  have HNO := Lib.hid (show ¬ isNd l from fun h => by have := h.2.1.1; omega)
  obtain ⟨g, off, rfl, hcell⟩ := hr.2 (by rw [hn]; omega)
  subst hn
  obtain ⟨b0, hb0⟩ : ∃ b, l.getD 0 0 = b := ⟨_, rfl⟩
  obtain ⟨b1, hb1⟩ : ∃ b, l.getD 1 0 = b := ⟨_, rfl⟩
  have hL : l.length = 1024 := by have := hr.1; rwa [bv_len] at this
  have hg : g < w.heap.size := World.block_lt_of_cell? w _ (hcell 0 _ (List.getElem?_eq_getElem (by rw [bv_len]; omega)))
  have hat : ∀ w', Mod Nn w w' → ∀ i, i < 1024 → w'.cell? ⟨g, off + i, none⟩ = some (.int .u8 ((l.getD i 0 : Nat) : Int)) := fun w' hm i hi => by
    refine (hm.cell (p := ⟨g, off + i, none⟩) hg (fun f => f)).trans (hcell i _ ?_)
    rw [bv_at, List.getD_eq_getElem?_getD, List.getElem?_eq_getElem (by omega)]
    rfl
  have hrow : ∀ w', Mod Nn w w' → ∀ o m, o + m ≤ 1024 → ∀ j v, (bv ((l.drop o).take m))[j]? = some v → w'.cell? ⟨g, off + o + j, none⟩ = some v := fun w' hm o m hom j v hv => by
    refine (hm.cell (p := ⟨g, off + o + j, none⟩) hg (fun f => f)).trans ?_
    rw [Nat.add_assoc]
    refine hcell (o + j) v ?_
    rw [bv_at, List.getElem?_take] at hv
    split at hv
    · rw [List.getElem?_drop] at hv
      rw [bv_at]
      exact hv
    · cases hv
  have hpost : ∀ w', Mod Nn w w' → ∀ s, s ≤ 1024 → s < c → Rd w' (some ⟨g, off + s, none⟩) (1024 - s) (bv (l.drop s)) := fun w' hm s hs hsc => by
    have h := (hr.mod hm (fun _ _ f => f)).post (c := c) s hs hc
    rw [sub_at g off c s hsc] at h
    have e : (bv l).drop s = bv (l.drop s) := by unfold bv; rw [List.map_drop]
    rwa [e] at h
  have HPO := Lib.hid hpost
  clear hpost
  have h0 := fun w' hm => hat w' hm 0 (by omega)
  have h1 := fun w' hm => hat w' hm 1 (by omega)
  rw [hb0] at h0
  rw [hb1] at h1
  have hb0' : b0 < 256 := hb0 ▸ getD_lt hz 0
  have hb1' : b1 < 256 := hb1 ▸ getD_lt hz 1
  have HX := Lib.hid (And.intro h0 h1)
  have HR := Lib.hid hr
  have HAT := Lib.hid (And.intro hat (And.intro hL (And.intro hz (And.intro hb0 (And.intro hb1 hrow)))))
  clear h0 h1 hat hcell hb0 hb1 hz hr hL hrow
  rw [HAT.out.2.2.2.1] at hbad
  rw [HAT.out.2.2.2.2.1] at hbad
  have c0 : w.cell? ⟨g, off, none⟩ = some (.int .u8 (b0 : Int)) := HX.out.1 w (Mod.refl _ _)
  have c1 : w.cell? ⟨g, off + 1, none⟩ = some (.int .u8 (b1 : Int)) := HX.out.2 w (Mod.refl _ _)
  have HC := Lib.hid (And.intro c0 c1)
  clear c0 c1
  have gd0 : decide ((b0 : Int) < 1) = false := by
    first | exact decide_eq_false (by omega) | (simp; omega)
  have gd1 : decide ((b0 : Int) > 2) = false := by
    first | exact decide_eq_false (by omega) | (simp; omega)
  have gd2 : decide ((b1 : Int) > 20) = true := by
    first | exact decide_eq_true (by omega) | (simp; omega)
  go_enter Tryz.func21, Tryz.ntmps21
  go_upto_region 1 with (first
  | (with_reducible change wpList _ _ _ (⟨some 2, Op.alloc _, _, _, _, _⟩ :: _) _ _
     go_must (refine wpList_alloc_var 26 rfl rfl info_node ?_)
     intro wa ba ma za
     have HA := Lib.hid (And.intro ba (And.intro ma za))
     clear ba ma za))
  have c0 := (HA.out.2.1.cell (p := ⟨g, off, none⟩) hg (fun f => f)).trans HC.out.1
  have c1 := (HA.out.2.1.cell (p := ⟨g, off + 1, none⟩) hg (fun f => f)).trans HC.out.2
  go_wp2_with (first
  | (with_reducible change wpList _ _ _ (⟨none, Op.store _ (Operand.tmp 2) _, _, _, _, _⟩ :: _) _ _
     go_must (refine wpList_store_var 26 _ _ rfl rfl w.heap.size #[.bool false, .slice none 0 0, .slice none 0 0, .slice none 0 0] _ _ rfl rfl HA.out.1 size_node rfl (nd4 _ _ _ _ _ _ _ _ _ _) ?_)
     intro wb bb mb zb
     have MB := HA.out.2.1.new_ mb (Nat.le_refl _)
     have C0 := bb.cell 0; have C1 := bb.cell 1; have C2 := bb.cell 2; have C3 := bb.cell 3
     clear bb mb zb))
  refine bodyPost_ret (v := .tuple #[.agg #[.bool false, .slice none 0 0, .slice none 0 0, .slice none 0 0], .int .i64 4]) (by simp [results, Tryz.results21, go_sem, C0, C1, C2, C3]) rfl (.inr ⟨HNO.out, rfl, MB⟩)
set_option maxRecDepth 100000 in
set_option maxHeartbeats 1600000 in
theorem rget_b12 (hr : Rd w A n (bv l)) (hn : n = 1024) (hc : n ≤ c) (hz : ∀ z ∈ l, z < 256) (hbad : l.getD 0 0 = 1 ∧ l.getD 1 0 ≤ 20 ∧ 12 < l.getD 1 0) : Calls Tryz.prog 21 #[.slice A n c] w (GetP w l) := by
  have HNO := Lib.hid (show ¬ isNd l from fun h => by have := h.2.1.2 hbad.1; omega)
  obtain ⟨g, off, rfl, hcell⟩ := hr.2 (by rw [hn]; omega)
  subst hn
  obtain ⟨b0, hb0⟩ : ∃ b, l.getD 0 0 = b := ⟨_, rfl⟩
  obtain ⟨b1, hb1⟩ : ∃ b, l.getD 1 0 = b := ⟨_, rfl⟩
  have hL : l.length = 1024 := by have := hr.1; rwa [bv_len] at this
  have hg : g < w.heap.size := World.block_lt_of_cell? w _ (hcell 0 _ (List.getElem?_eq_getElem (by rw [bv_len]; omega)))
  have hat : ∀ w', Mod Nn w w' → ∀ i, i < 1024 → w'.cell? ⟨g, off + i, none⟩ = some (.int .u8 ((l.getD i 0 : Nat) : Int)) := fun w' hm i hi => by
    refine (hm.cell (p := ⟨g, off + i, none⟩) hg (fun f => f)).trans (hcell i _ ?_)
    rw [bv_at, List.getD_eq_getElem?_getD, List.getElem?_eq_getElem (by omega)]
    rfl
  have hrow : ∀ w', Mod Nn w w' → ∀ o m, o + m ≤ 1024 → ∀ j v, (bv ((l.drop o).take m))[j]? = some v → w'.cell? ⟨g, off + o + j, none⟩ = some v := fun w' hm o m hom j v hv => by
    refine (hm.cell (p := ⟨g, off + o + j, none⟩) hg (fun f => f)).trans ?_
    rw [Nat.add_assoc]
    refine hcell (o + j) v ?_
    rw [bv_at, List.getElem?_take] at hv
    split at hv
    · rw [List.getElem?_drop] at hv
      rw [bv_at]
      exact hv
    · cases hv
  have hpost : ∀ w', Mod Nn w w' → ∀ s, s ≤ 1024 → s < c → Rd w' (some ⟨g, off + s, none⟩) (1024 - s) (bv (l.drop s)) := fun w' hm s hs hsc => by
    have h := (hr.mod hm (fun _ _ f => f)).post (c := c) s hs hc
    rw [sub_at g off c s hsc] at h
    have e : (bv l).drop s = bv (l.drop s) := by unfold bv; rw [List.map_drop]
    rwa [e] at h
  have HPO := Lib.hid hpost
  clear hpost
  have h0 := fun w' hm => hat w' hm 0 (by omega)
  have h1 := fun w' hm => hat w' hm 1 (by omega)
  rw [hb0] at h0
  rw [hb1] at h1
  have hb0' : b0 < 256 := hb0 ▸ getD_lt hz 0
  have hb1' : b1 < 256 := hb1 ▸ getD_lt hz 1
  have HX := Lib.hid (And.intro h0 h1)
  have HR := Lib.hid hr
  have HAT := Lib.hid (And.intro hat (And.intro hL (And.intro hz (And.intro hb0 (And.intro hb1 hrow)))))
  clear h0 h1 hat hcell hb0 hb1 hz hr hL hrow
  rw [HAT.out.2.2.2.1] at hbad
  rw [HAT.out.2.2.2.2.1] at hbad
  have c0 : w.cell? ⟨g, off, none⟩ = some (.int .u8 (b0 : Int)) := HX.out.1 w (Mod.refl _ _)
  have c1 : w.cell? ⟨g, off + 1, none⟩ = some (.int .u8 (b1 : Int)) := HX.out.2 w (Mod.refl _ _)
  have HC := Lib.hid (And.intro c0 c1)
  clear c0 c1
  have gd0 : decide ((b0 : Int) < 1) = false := by
    first | exact decide_eq_false (by omega) | (simp; omega)
  have gd1 : decide ((b0 : Int) > 2) = false := by
    first | exact decide_eq_false (by omega) | (simp; omega)
  have gd2 : decide ((b1 : Int) > 20) = false := by
    first | exact decide_eq_false (by omega) | (simp; omega)
  have gd3 : ((b0 : Int) == 1) = true := by
    first | exact decide_eq_true (by omega) | (simp; omega)
  have gd4 : decide ((b1 : Int) > 12) = true := by
    first | exact decide_eq_true (by omega) | (simp; omega)
  go_enter Tryz.func21, Tryz.ntmps21
  go_upto_region 1 with (first
  | (with_reducible change wpList _ _ _ (⟨some 2, Op.alloc _, _, _, _, _⟩ :: _) _ _
     go_must (refine wpList_alloc_var 26 rfl rfl info_node ?_)
     intro wa ba ma za
     have HA := Lib.hid (And.intro ba (And.intro ma za))
     clear ba ma za))
  have c0 := (HA.out.2.1.cell (p := ⟨g, off, none⟩) hg (fun f => f)).trans HC.out.1
  have c1 := (HA.out.2.1.cell (p := ⟨g, off + 1, none⟩) hg (fun f => f)).trans HC.out.2
  go_wp2_with (first
  | (with_reducible change wpList _ _ _ (⟨none, Op.store _ (Operand.tmp 2) _, _, _, _, _⟩ :: _) _ _
     go_must (refine wpList_store_var 26 _ _ rfl rfl w.heap.size #[.bool false, .slice none 0 0, .slice none 0 0, .slice none 0 0] _ _ rfl rfl HA.out.1 size_node rfl (nd4 _ _ _ _ _ _ _ _ _ _) ?_)
     intro wb bb mb zb
     have MB := HA.out.2.1.new_ mb (Nat.le_refl _)
     have C0 := bb.cell 0; have C1 := bb.cell 1; have C2 := bb.cell 2; have C3 := bb.cell 3
     clear bb mb zb))
  refine bodyPost_ret (v := .tuple #[.agg #[.bool false, .slice none 0 0, .slice none 0 0, .slice none 0 0], .int .i64 4]) (by simp [results, Tryz.results21, go_sem, C0, C1, C2, C3]) rfl (.inr ⟨HNO.out, rfl, MB⟩)
end
end Go.Proofs.YtjndcgpfikngaaaGreat
