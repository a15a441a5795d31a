/- peatbankkit: flatNodes, over rows handed out: they lie apart (printed by wip/gen/flatnodes.py). -/
import Derived.Test.YtfoldjnmknaklaaGreatFlN0
import Derived.Test.YtfoldjnmknaklaaGreatNdSx
import Derived.Test.YtfoldjnmknaklaaGreatRw0
namespace Go.Proofs.YtfoldjnmknaklaaGreat
open Go.RowKit

set_option maxRecDepth 100000 in
set_option maxHeartbeats 6400000 in
theorem flatN_any {w : World} {A0 : Option Addr} {m c0 : Nat} {L : List Row} {Y : Nat → List Value} (h0 : Rd w A0 m (L.map Row.v)) (hrows : RowsY w 32 4 L Y) (ha : AptR L)
    (hA : ∀ g, Of A0 g → ¬ Bks L g) (hm : m ≤ 400) (hn : ∀ (j : Nat) (r : Row), L[j]? = some r → r.n ≤ 1099511627776) :
    Calls Tryz.prog 79 #[.slice A0 m c0] w fun e w' => e = .returned (.bool true) ∧ Mod (Bks L) w w' := by
  have hml : L.length = m := by simpa using h0.1
  have HL := Lib.hid hml; clear hml
  have H0 := Lib.hid h0; clear h0
  have HAP := Lib.hid (And.intro ha (And.intro hA hn)); clear ha hA hn
  have HLT := Lib.hid hrows.lt
  have HR := Lib.hid hrows; clear hrows
  go_enter Tryz.func79, Tryz.ntmps79
  go_wp2
  go_loopw [3] (fun i wr => ∃ (k : Nat) (Y : Nat → List Value) (f : Nat → Nat → Nat), k ≤ m ∧ i = .int .i64 k ∧ RowsY wr 32 4 L Y ∧ (∀ j, j < k → ∀ r, L[j]? = some r → Y j = mkR (EN f) j r.n ∧ ∀ i, i < r.n → Gd wr f j i) ∧ Mod (Bks L) w wr) (fun i _ => m - (intOf i).toNat)
  case atStart => exact ⟨0, Y, fun _ _ => 0, Nat.zero_le _, rfl, HR.out, fun j hj => absurd hj (by omega), Mod.refl _ _⟩
  case round =>
    clear HR
    obtain ⟨k, Y, f, hk, rfl, hY, hdone, hmd⟩ := hrel
    obtain ⟨wo, rfl⟩ : ∃ wo : World, wo = wr := ⟨_, rfl⟩
    by_cases hlt : k < m
    · have hlt' : (k : Int) < m := by omega
      obtain ⟨g0, off, ⟨rA, rn, rc⟩, rfl, hr, hc0⟩ := rowv_at (H0.out.mod hmd HAP.out.2.1) hlt
      have hrn : rn ≤ 1099511627776 := HAP.out.2.2 k _ hr
      change _ = some (Value.slice rA rn rc) at hc0
      have hg0 : ¬ Bks L g0 := HAP.out.2.1 g0 ⟨_, rfl, rfl⟩
      have HS := Lib.hid (And.intro hr (And.intro hdone (And.intro hrn hg0)))
      have HY := Lib.hid (And.intro hY hmd)
      clear hr hdone hrn hg0 hY hmd
      go_wp2
      go_loopw [4] (fun i wx => ∃ (q : Nat) (Y : Nat → List Value) (f : Nat → Nat → Nat), q ≤ rn ∧ i = .int .i64 q ∧ RowsY wx 32 4 L Y ∧ (∀ j, j < k → ∀ r, L[j]? = some r → Y j = mkR (EN f) j r.n ∧ ∀ i, i < r.n → Gd wx f j i) ∧ (Y k).take (q * 4) = mkR (EN f) k q ∧ (∀ i, i < q → Gd wx f k i) ∧ Mod (Bks L) w wx) (fun i _ => rn - (intOf i).toNat)
      case atStart => exact ⟨0, Y, f, Nat.zero_le _, rfl, HY.out.1, HS.out.2.1, (by rw [Nat.zero_mul]; rfl), (fun i hi => absurd hi (by omega)), HY.out.2⟩
      case round =>
        clear HY hc0
        obtain ⟨q, Y, f, hq, rfl, hY, hdone, htk, hgd, hmd⟩ := hrel
        obtain ⟨wx, rfl⟩ : ∃ wx : World, wx = wr := ⟨_, rfl⟩
        obtain ⟨g0', off', r', hA', hr', hc0⟩ := rowv_at (H0.out.mod hmd HAP.out.2.1) hlt
        rw [HS.out.1] at hr'
        injection hr' with hr'
        subst hr'
        injection hA' with hA'
        injection hA' with e1 e2 _
        subst e1; subst e2
        change _ = some (Value.slice rA rn rc) at hc0
        have hown := hY k _ HS.out.1
        change wx.ownsRow 0 32 4 (.slice rA rn rc) rn (Y k) at hown
        have hyl : (Y k).length = rn * 4 := hown.1
        have hrn := HS.out.2.2.1
        by_cases hlq : q < rn
        · have hlq' : (q : Int) < rn := by omega
          obtain ⟨g, cap, cur, hv, _, hb, hnc, _, _, _⟩ := own_blk hown (by omega)
          injection hv with hv1 hv2 hv3
          subst hv1; subst hv3
          have hgB : Bks L g := ⟨k, _, HS.out.1, rfl⟩
          have hgg : g0 ≠ g := fun e => HS.out.2.2.2 (e ▸ hgB)
          have hS1 : ∀ w', Mod Nn wx w' → w'.cell? ⟨g0, off + k, none⟩ = some (Value.slice (some ⟨g, 0, none⟩) rn rc) := fun w' hm => by
            have hg0l : g0 < wx.heap.size := World.block_lt_of_cell? wx _ hc0
            rw [hm.cell (p := ⟨g0, off + k, none⟩) hg0l (fun f => f)]; exact hc0
          have HH := Lib.hid (And.intro hY (And.intro hdone (And.intro htk (And.intro hmd (And.intro hown (And.intro hyl hgd))))))
          have HC := Lib.hid hS1
          have HGG := Lib.hid (And.intro hgB hgg)
          clear hY hdone htk hmd hown hyl hb hS1 hgd
          go_wp2_with fail
          clear hc0
          refine wp_region_planC (fun w' => w'.cell? ⟨g0, off + k, none⟩ = some (Value.slice (some ⟨g, 0, none⟩) rn rc)) [(0, true), (1, true), (2, true), (3, true), (4, true), (5, true), (6, true), (7, false), (8, true), (9, false)] (by kernel_rfl) (by kernel_rfl) (HC.out _ (Mod.refl Nn wx).drew) ?_
          iterate 3 (refine pc_pure rfl rfl (fun K hK => ?_); go_simp; refine hK _ ?_; clear hK K)
          refine pc_take _ rfl rfl (fun w' hS => exec_load1 (P := Tryz.prog) 22 _ rfl rfl hS Tryz.underlying22 rfl) (fun K hK => ?_); go_simp; refine hK _ ?_; clear hK K
          iterate 3 (refine pc_pure rfl rfl (fun K hK => ?_); go_simp; refine hK _ ?_; clear hK K)
          refine pc_call rfl rfl (fun K hK => ?_); go_simp; refine ⟨_, _, ⟨rfl, rfl⟩, hK _ _ _ ?_⟩; clear hK K
          refine (markN_any k q _ (by omega) (by omega) (by omega) (by omega)).mono ?_
          rintro r w9 ⟨g9, rfl, b9, m9⟩
          have q9 : Mod Nn wx w9 := (Mod.refl Nn wx).drew.nn_ m9
          refine ⟨_, rfl, HC.out _ q9, ?_⟩
          iterate 1 (refine pc_pure rfl rfl (fun K hK => ?_); go_simp; refine hK _ ?_; clear hK K)
          refine pc_store_own 32 _ _ rfl rfl rfl (i := q) (X := ndX g9) rfl rfl (own_mod HH.out.2.2.2.2.1 q9 (fun _ _ f => f)) hlq (ndX_len g9) size_node (ndX_all g9) (fun w5 own5 m5 z5 => ?_)
          have hY' := (HH.out.1.mod q9 (fun _ _ f => f)).set HAP.out.1 HS.out.1 (g := g) rfl m5 own5
          obtain ⟨cur9, _, hb9, _⟩ := own_parts (own_mod HH.out.2.2.2.2.1 q9 (fun _ _ f => f))
          have hni := no_int hb9 (by decide : 32 ≠ 3)
          have htk' : (((Y k).take (q * 4) ++ ndX g9 ++ (Y k).drop (q * 4 + 4))).take ((q + 1) * 4) = mkR (EN (upd f k q g9)) k (q + 1) := by
            rw [HH.out.2.2.1, mkR_succ, mkN_re (fun i hi => upd_ne (by omega))]
            have e : EN (upd f k q g9) k q = ndX g9 := by unfold EN; rw [upd_eq]
            rw [e]
            exact List.take_left' (by rw [List.length_append, mkN_len, ndX_len, Nat.add_mul, Nat.one_mul])
          have hmd' : Mod (Bks L) w w5 := (HH.out.2.2.2.1.nn_ q9).at_ m5 HGG.out.1
          have hc5 : w5.cell? ⟨g0, off + k, none⟩ = some (Value.slice (some ⟨g, 0, none⟩) rn rc) := by
            have hg0l : g0 < w9.heap.size := World.block_lt_of_cell? w9 _ (HC.out _ q9)
            rw [m5.cell (p := ⟨g0, off + k, none⟩) hg0l (fun e => HGG.out.2 e)]; exact HC.out _ q9
          have hgd' : ∀ i, i < q + 1 → Gd w5 (upd f k q g9) k i := fun i hi => by
            by_cases hiq : i = q
            · subst hiq
              have h9 : Gd w9 (upd f k i g9) k i := by unfold Gd; rw [upd_eq]; exact b9
              exact h9.mod m5 hni
            · exact (((HH.out.2.2.2.2.2.2 i (by omega)).nn q9).mod m5 hni).re (upd_ne (by omega))
          have hdn' : ∀ j, j < k → ∀ r, L[j]? = some r → Y j = mkR (EN (upd f k q g9)) j r.n ∧ ∀ i, i < r.n → Gd w5 (upd f k q g9) j i := fun j hj r hr =>
            ⟨by rw [mkN_re (fun i hi => upd_ne (by omega))]; exact (HH.out.2.1 j hj r hr).1, fun i hi => ((((HH.out.2.1 j hj r hr).2 i hi).nn q9).mod m5 hni).re (upd_ne (by omega))⟩
          have HE : Hid (∃ (Y' : Nat → List Value) (f' : Nat → Nat → Nat), RowsY w5 32 4 L Y' ∧ (∀ j, j < k → ∀ r, L[j]? = some r → Y' j = mkR (EN f') j r.n ∧ ∀ i, i < r.n → Gd w5 f' j i) ∧ (Y' k).take ((q + 1) * 4) = mkR (EN f') k (q + 1) ∧ (∀ i, i < q + 1 → Gd w5 f' k i) ∧ Mod (Bks L) w w5) :=
            Lib.hid ⟨_, _, hY', fun j hj r hr => by simp only [if_neg (show ¬ j = k by omega)]; exact hdn' j hj r hr, by simp only [if_true]; exact htk', hgd', hmd'⟩
          clear own5 m5 z5 hY' htk' hmd' q9 m9 b9 hb9 hni hgd' hdn'
          refine ⟨hc5, fun K hK => ?_⟩
          go_simp
          refine hK _ ?_
          clear hK K hc5
          refine pc_nil ?_
          go_wp2
          obtain ⟨Y', f', h1, h2, h3, h4, h5⟩ := HE.out
          exact ⟨⟨q + 1, Y', f', by omega, by go_num, h1, h2, h3, h4, h5⟩, by simp [intOf]; omega⟩
        · have hlq' : ¬ (q : Int) < rn := by omega
          have hqe : q = rn := by omega
          subst hqe
          rw [List.take_of_length_le (by rw [hyl]; exact Nat.le_refl _)] at htk
          have HE := Lib.hid (show ∀ j, j < k + 1 → ∀ r, L[j]? = some r → Y j = mkR (EN f) j r.n ∧ ∀ i, i < r.n → Gd wx f j i from fun j hj r hr => by
            by_cases hjk : j = k
            · subst hjk
              rw [HS.out.1] at hr; injection hr with hr; subst hr
              exact ⟨htk, hgd⟩
            · exact hdone j (by omega) r hr)
          have HY := Lib.hid (And.intro hY hmd)
          clear htk hdone hY hmd hown hyl hgd
          go_wp2
          exact ⟨⟨k + 1, Y, f, by omega, by go_num, HY.out.1, HE.out, HY.out.2⟩, by simp [intOf]; omega⟩
    · have hlt' : ¬ (k : Int) < m := by omega
      have hkm : k = m := by omega
      subst hkm
      have hM : RowsM wo 32 4 L (EN f) := hY.done (fun j hj r hr => (hdone j (by rw [HL.out] at hj; omega) r hr).1)
      have hgdA : ∀ j r, L[j]? = some r → ∀ i, i < r.n → Gd wo f j i := fun j r hr => (hdone j (by have := (List.getElem?_eq_some_iff.1 hr).1; rw [HL.out] at this; omega) r hr).2
      have HM := Lib.hid (And.intro hM (And.intro hmd hgdA))
      have HL0 := Lib.hid (show ∀ g, Bks L g → g < w.heap.size from fun g hg => by
        obtain ⟨j, r, hr, hg⟩ := hg
        exact HLT.out g ⟨j, r, hr, hg⟩)
      clear hM hmd hY hdone hgdA
      go_wp2_with (first
        | (with_reducible change wpList _ _ _ (⟨some 42, _, _, _, _, _⟩ :: _) _ _
           go_must (refine wpList_make1 57 _ _ rfl rfl 22 (.slice none 0 0) 24 Tryz.underlying57 info_slN rfl (k : Int) (k : Int) k k rfl rfl rfl rfl (by omega) (by omega) (by omega) ?_)
           intro w1 b1 m1 z1
           rw [rows_nil] at b1
           have B1 := Lib.hid (And.intro b1 m1)
           clear b1 m1 z1))
      generalize hGw : wo.heap.size = G at *
      have HG := Lib.hid (show w.heap.size ≤ G from by have := HM.out.2.1.size; omega)
      clear hGw hlt hlt'
      go_loopw [6] (fun i wr => ∃ (j : Nat) (H : List Row) (f : Nat → Nat → Nat), j ≤ k ∧ i = .int .i64 j ∧ H.length = k ∧ Blk wr G 22 (H.map Row.v).toArray ∧ RowsM wr 32 4 L (EN f) ∧ GRows wr 32 4 L H (ZmN f) G j ∧ Mod (Bks L) w wr ∧ (∀ j' r, L[j']? = some r → ∀ i, i < r.n ∨ (j' < j ∧ i < r.n + 64) → Gd wr f j' i)) (fun i _ => k - (intOf i).toNat)
      case atStart => exact ⟨0, _, f, Nat.zero_le _, rfl, List.length_replicate, B1.out.1, HM.out.1.mod B1.out.2 (fun _ _ f => f), GRows.zero, HM.out.2.1.nn_ B1.out.2, fun j' r hr i hi => (HM.out.2.2 j' r hr i (by omega)).nn B1.out.2⟩
      case round =>
        clear B1 HM
        obtain ⟨j, H, f, hj, rfl, hHl, hBG, hM, hGR, hmd, hgd⟩ := hrel
        obtain ⟨wa, rfl⟩ : ∃ wa : World, wa = wr := ⟨_, rfl⟩
        by_cases hlt : j < k
        · have hlt' : (j : Int) < k := by omega
          obtain ⟨g0, off, ⟨rA, rn, rc⟩, rfl, hr, hc0⟩ := rowv_at (H0.out.mod hmd HAP.out.2.1) hlt
          have hrn : rn ≤ 1099511627776 := HAP.out.2.2 j _ hr
          change _ = some (Value.slice rA rn rc) at hc0
          have hHB := hGR.blk_lt (by rw [HL.out]; omega)
          have hGb := hBG.lt
          generalize hhb : wa.heap.size = hb at *
          have HS := Lib.hid (And.intro hr (And.intro hHl (And.intro hHB (And.intro hGb hhb))))
          have HY := Lib.hid (And.intro (Grow.start hM (EN_len f) hGR hmd hr hb) (And.intro hBG hgd))
          clear hr hHl hHB hGb hhb hBG hM hGR hmd hgd
          go_wp2
          go_loopw [7, 8] (fun v i wx => ∃ (q : Nat) (f : Nat → Nat → Nat), q ≤ 64 ∧ i = .int .i64 q ∧ Grow w wx 32 4 L H (EN f) (ZmN f) G hb j ⟨rA, rn, rc⟩ v (rn + q) (mkR (EN f) j (rn + q)) ∧ Blk wx G 22 (H.map Row.v).toArray ∧ hb ≤ wx.heap.size ∧ (∀ j' r, L[j']? = some r → ∀ i, i < r.n ∨ (j' < j ∧ i < r.n + 64) ∨ (j' = j ∧ i < r.n + q) → Gd wx f j' i)) (fun _ i _ => 64 - (intOf i).toNat)
          case atStart => exact ⟨0, f, Nat.zero_le _, rfl, HY.out.1, HY.out.2.1, by rw [HS.out.2.2.2.2]; exact Nat.le_refl _, fun j' r hr i hi => HY.out.2.2 j' r hr i (by omega)⟩
          case round =>
            clear HY hc0
            obtain ⟨q, f, hq, rfl, hgw, hBG, hbx, hgd⟩ := hrel
            obtain ⟨wx, rfl⟩ : ∃ wx : World, wx = wr := ⟨_, rfl⟩
            by_cases hlq : q < 64
            · have hlq' : (q : Int) < 64 := by omega
              obtain ⟨g0', off', r', hA', hr', hc0⟩ := rowv_at (H0.out.mod hgw.md HAP.out.2.1) hlt
              rw [HS.out.1] at hr'
              injection hr' with hr'
              subst hr'
              injection hA' with hA'
              injection hA' with e1 e2 _
              subst e1; subst e2
              change _ = some (Value.slice rA rn rc) at hc0
              have HW := Lib.hid (And.intro hgw (And.intro hBG (And.intro hbx hgd)))
              clear hgw hBG hbx hgd
              go_wp2_with fail
              refine (markN_any j (rn + q) _ (by omega) (by omega) (by omega) (by omega)).mono ?_
              rintro r w9 ⟨g9, rfl, b9, m9⟩
              have HM9 := Lib.hid (And.intro m9 b9)
              clear m9 b9
              clear hc0
              go_wp2_with (first
                | (with_reducible change wpList _ _ _ (⟨some 67, _, _, _, _, _⟩ :: _) _ _
                   go_must (refine wpList_val rfl (exec_bslice1 (P := Tryz.prog) 22 32 _ rfl (s := 4) Tryz.underlying22 info_node (by omega) (by omega) rfl (X := (ndX g9).toArray) rfl rfl) ?_))
                | (with_reducible change wpList _ _ _ (⟨some 68, _, _, _, _, _⟩ :: _) _ _
                   go_must (refine wpList_append_two 22 _ _ rfl rfl 0 32 _ 4 80 Tryz.underlying22 infoN rfl (by omega) _ (rn + q) _ rfl (own_mod HW.out.1.hv (HM9.out.1.alloc _) (fun _ _ f => f)) _ 1 1 (ndX g9) rfl (RdC.of_blk (Blk.new _ _ _) rfl) (by omega) (ndX_one g9) (by omega) (by omega) (Nat.zero_le _) ?_)
                   intro v' w4 own4 two4))
              have hE' : ∀ j' r', L[j']? = some r' → mkR (EN (upd f j (rn + q) g9)) j' r'.n = mkR (EN f) j' r'.n := fun j' r' hr' => mkN_re (fun i hi => upd_ne (fun h => by
                obtain ⟨rfl, rfl⟩ := h
                rw [HS.out.1] at hr'; injection hr' with hr'; subst hr'
                have hi : rn + q < rn := hi
                omega))
              have hZ' : ∀ j' r', j' < j → L[j']? = some r' → ZmN (upd f j (rn + q) g9) j' r'.n = ZmN f j' r'.n := fun j' r' hj' _ => mkN_re (fun i hi => upd_ne (by omega))
              have hxs : mkR (EN (upd f j (rn + q) g9)) j (rn + q) = mkR (EN f) j (rn + q) := mkN_re (fun i hi => upd_ne (by omega))
              have hen : EN (upd f j (rn + q) g9) j (rn + q) = ndX g9 := by unfold EN; rw [upd_eq]
              have own4 : w4.ownsRow 0 32 4 v' (rn + q + 1) (mkR (EN (upd f j (rn + q) g9)) j (rn + q) ++ EN (upd f j (rn + q) g9) j (rn + q)) := by rw [hen, hxs]; exact own4
              have hst := ((HW.out.1.mod (HM9.out.1.alloc _)).re HS.out.1 hE' hZ' hxs).step (by omega) HAP.out.1 HS.out.1 HL0.out HG.out HS.out.2.2.2.1 (by have := HW.out.2.2.1; have := HM9.out.1.size; simp; omega) HS.out.2.2.1 (by rw [HL.out]; omega) own4 two4
              have hBa := HW.out.2.1.mod (HM9.out.1.alloc (.cells (ndX g9).toArray 32)) (fun f => f)
              have hB4 : Blk w4 G 22 (H.map Row.v).toArray := (hst.2 G (Nat.le_refl _) (fun h => by have := HL0.out G h; have := HG.out; omega) hBa.lt).trans hBa
              have hb4 : hb ≤ w4.heap.size := by
                have h1 := two4.mod.size
                have h2 := HW.out.2.2.1
                have h3 := HM9.out.1.size
                simp at h1; omega
              have hni : ∀ g cs, _ → Blk (w9.alloc (.cells (ndX g9).toArray 32)) g 3 cs → False := fun g cs hvg hbi => by
                obtain ⟨_, cur, _, _, hbn, _⟩ := own_blk_eq (own_mod HW.out.1.hv (HM9.out.1.alloc (.cells (ndX g9).toArray 32)) (fun _ _ f => f)) hvg
                exact Blk.ne_ hbn hbi (by decide) rfl
              have hgd4 : ∀ j' r, L[j']? = some r → ∀ i, i < r.n ∨ (j' < j ∧ i < r.n + 64) ∨ (j' = j ∧ i < r.n + (q + 1)) → Gd w4 (upd f j (rn + q) g9) j' i := fun j' r hr i hi => by
                by_cases hji : j' = j ∧ i = rn + q
                · obtain ⟨rfl, rfl⟩ := hji
                  have h9 : Gd w9 (upd f j' (rn + q) g9) j' (rn + q) := by unfold Gd; rw [upd_eq, Int.natCast_add]; exact HM9.out.2
                  exact (h9.nn ((Mod.refl Nn w9).alloc _)).mod two4.mod hni
                · have hold : i < r.n ∨ (j' < j ∧ i < r.n + 64) ∨ (j' = j ∧ i < r.n + q) := by
                    rcases hi with h | h | ⟨h1, h2⟩
                    · exact .inl h
                    · exact .inr (.inl h)
                    · subst h1
                      rw [HS.out.1] at hr; injection hr with hr; subst hr
                      have h2 : i < rn + (q + 1) := h2
                      have h3 : ¬ i = rn + q := fun e => hji ⟨rfl, e⟩
                      exact .inr (.inr ⟨rfl, show i < rn + q by omega⟩)
                  exact (((HW.out.2.2.2 j' r hr i hold).nn (HM9.out.1.alloc _)).mod two4.mod hni).re (upd_ne hji)
              have HE := Lib.hid (And.intro hst.1 (And.intro hB4 (And.intro hb4 hgd4)))
              rw [← mkR_succ, Nat.add_assoc] at HE
              clear own4 two4 hst hB4 hb4 hBa hni hgd4 hE' hZ' hxs hen
              go_wp2
              exact ⟨⟨q + 1, _, by omega, by go_num, HE.out⟩, by simp [intOf]; omega⟩
            · have hlq' : ¬ (q : Int) < 64 := by omega
              have hqe : q = 64 := by omega
              subst hqe
              obtain ⟨vA, vc, rfl, hvc, -⟩ := own_form hgw.hv
              have hHk : j < H.length := by rw [HS.out.2.1]; exact hlt
              have hcG : wx.cell? ⟨G, j, none⟩ = some (H[j].v) := by
                rw [hBG.cell j, List.getElem?_toArray, List.getElem?_map, List.getElem?_eq_getElem hHk]; rfl
              have hfG := hBG.frozen j
              have HE := Lib.hid (hgw.put rfl rfl hBG HS.out.1 HS.out.2.1 hlt HS.out.2.2.2.1 HG.out HL0.out)
              have HGD := Lib.hid (show ∀ j' r, L[j']? = some r → ∀ i, i < r.n ∨ (j' < j + 1 ∧ i < r.n + 64) → Gd (wx.setCell ⟨G, j, none⟩ (.slice vA (rn + 64) vc)) f j' i from fun j' r hr i hi => (hgd j' r hr i (by omega)).mod (Mod.cellAt wx G j (.slice vA (rn + 64) vc)) (no_int hBG (by decide)))
              generalize H[j].v = ov at *
              clear hgw hBG hgd
              go_wp2
              exact ⟨⟨j + 1, _, f, by omega, by go_num, HE.out.1, HE.out.2.1, HE.out.2.2.1, HE.out.2.2.2.1, HE.out.2.2.2.2, HGD.out⟩, by simp [intOf]; omega⟩
        · have hlt' : ¬ (j : Int) < k := by omega
          have hjk : j = k := by omega
          subst hjk
          have HW := Lib.hid (And.intro hBG (And.intro hM (And.intro hGR (And.intro hmd hHl))))
          have HGD := Lib.hid (show ∀ j' r, L[j']? = some r → ∀ i, i < r.n + 64 → Gd wa f j' i from fun j' r hr i hi => hgd j' r hr i (.inr ⟨by have := (List.getElem?_eq_some_iff.1 hr).1; rw [HL.out] at this; exact this, hi⟩))
          clear hBG hM hGR hmd hHl hlt hlt' hgd
          go_wp2
          go_loopw [9] (fun i wr => ∃ k : Nat, k ≤ j ∧ i = .int .i64 k ∧ Mod Nn wa wr) (fun i _ => j - (intOf i).toNat)
          case atStart => exact ⟨0, Nat.zero_le _, rfl, Mod.refl _ _⟩
          case round =>
            obtain ⟨k, hk, rfl, hmk⟩ := hrel
            obtain ⟨wo, rfl⟩ : ∃ wo : World, wo = wr := ⟨_, rfl⟩
            by_cases hlt : k < j
            · have hlt' : (k : Int) < j := by omega
              obtain ⟨g0, off, ⟨rA, rn, rc⟩, rfl, hr, hc0⟩ := rowv_at (H0.out.mod (HW.out.2.2.2.1.nn_ hmk) HAP.out.2.1) hlt
              have hrn : rn ≤ 1099511627776 := HAP.out.2.2 k _ hr
              obtain ⟨⟨qA, qn, qc⟩, hq⟩ : ∃ q, H[k]? = some q := ⟨_, List.getElem?_eq_getElem (by rw [HW.out.2.2.2.2]; exact hlt)⟩
              obtain ⟨hqn, hqo, -⟩ := HW.out.2.2.1 k hlt _ _ hr hq
              have hqn : qn = rn + 64 := hqn
              subst hqn
              have hqo : wa.ownsRow 0 32 4 (.slice qA (rn + 64) qc) (rn + 64) (mkR (EN f) k (rn + 64)) := hqo
              have hro : wa.ownsRow 0 32 4 (.slice rA rn rc) rn (mkR (EN f) k rn) := HW.out.2.1 k _ hr
              have HS := Lib.hid (And.intro hr (And.intro hq (And.intro hqo hro)))
              clear hr hc0 hqo hro
              go_wp2
              go_loopw [10] (fun i wr => ∃ q : Nat, q ≤ rn + 64 ∧ i = .int .i64 q ∧ Mod Nn wa wr) (fun i _ => rn + 64 - (intOf i).toNat)
              case atStart => exact ⟨0, Nat.zero_le _, rfl, hmk⟩
              case round =>
                clear hmk
                obtain ⟨q, hqle, rfl, hmk⟩ := hrel
                obtain ⟨wx, rfl⟩ : ∃ wx : World, wx = wr := ⟨_, rfl⟩
                have hcG : wx.cell? ⟨G, k, none⟩ = some (.slice qA (rn + 64) qc) := by
                  rw [(HW.out.1.mod hmk (fun f => f)).cell k, List.getElem?_toArray, List.getElem?_map, HS.out.2.1]; rfl
                by_cases hlq : q < rn + 64
                · have hlq' : (q : Int) < (rn : Int) + 64 := by omega
                  obtain ⟨z, hz⟩ : ∃ z, f k q = z := ⟨_, rfl⟩
                  obtain ⟨g, cap, cur, hv, _, hb, hnc, _, _, _⟩ := own_blk HS.out.2.2.1 (by omega)
                  injection hv with hv1 _ hv3
                  subst hv1; subst hv3
                  have hcz := own_elem (own_mod HS.out.2.2.1 hmk (fun _ _ f => f)) (i := q) (X := ndX z) (by rw [← hz]; exact mkN_at f k hlq)
                  obtain ⟨g0', off', r', hA', hr', hc0⟩ := rowv_at (H0.out.mod (HW.out.2.2.2.1.nn_ hmk) HAP.out.2.1) hlt
                  rw [HS.out.1] at hr'
                  injection hr' with hr'
                  subst hr'
                  injection hA' with hA'
                  injection hA' with e1 e2 _
                  subst e1; subst e2
                  change _ = some (Value.slice rA rn rc) at hc0
                  have hGl : G < wx.heap.size := World.block_lt_of_cell? wx _ hcG
                  have hgl : g < wx.heap.size := (hb.mod hmk (fun f => f)).lt
                  have hg0l : g0 < wx.heap.size := World.block_lt_of_cell? wx _ hc0
                  have hr0 := HS.out.1
                  have HZ := Lib.hid hz
                  have HZG := Lib.hid (show ∀ w', Mod Nn wx w' → Blk w' z 3 #[.int .i64 (mk0 k q)] from fun w' hm => by
                    have h := ((HGD.out k _ hr0 q hlq).nn hmk).nn hm
                    unfold Gd at h
                    rwa [hz] at h)
                  have HM' := Lib.hid hmk
                  clear hb hq
                  by_cases hqr : q < rn
                  · have hqr' : (q : Int) < rn := by omega
                    obtain ⟨gl, capl, curl, hvl, _, hbl, hncl, _, _, _⟩ := own_blk HS.out.2.2.2 (by omega)
                    injection hvl with hvl1 _ hvl3
                    subst hvl1; subst hvl3
                    have hcl := own_elem (own_mod HS.out.2.2.2 HM'.out (fun _ _ f => f)) (i := q) (X := ndX z) (by rw [← HZ.out]; exact mkN_at f k hqr)
                    have hgll : gl < wx.heap.size := (hbl.mod hmk (fun f => f)).lt
                    have HF := Lib.hid (show ∀ w', Mod Nn wx w' → w'.cell? ⟨G, k, none⟩ = some (.slice (some ⟨g, 0, none⟩) (rn + 64) qc) ∧ (∀ j v, (ndX z)[j]? = some v → w'.cell? ⟨g, q * 4 + j, none⟩ = some v) ∧ w'.cell? ⟨g0, off + k, none⟩ = some (Value.slice (some ⟨gl, 0, none⟩) rn rc) ∧ (∀ j v, (ndX z)[j]? = some v → w'.cell? ⟨gl, q * 4 + j, none⟩ = some v) from fun w' hm =>
                      ⟨(hm.cell (p := ⟨G, k, none⟩) hGl (fun f => f)).trans hcG, fun j v hv => (hm.cell (p := ⟨g, q * 4 + j, none⟩) hgl (fun f => f)).trans (hcz j v hv), (hm.cell (p := ⟨g0, off + k, none⟩) hg0l (fun f => f)).trans hc0, fun j v hv => (hm.cell (p := ⟨gl, q * 4 + j, none⟩) hgll (fun f => f)).trans (hcl j v hv)⟩)
                    clear hbl hcl hcz hGl hgl hg0l hgll hz hmk hc0
                    go_wp2_with fail
                    clear hcG
                    refine wp_region_planC (fun w' => Mod Nn wx w') [(0, true), (1, true), (2, true), (3, true), (4, true), (5, true), (6, true), (7, true), (8, true), (9, false), (10, false), (11, true), (12, true), (13, true), (14, true), (15, true), (16, true), (17, true), (18, true), (19, true), (20, true), (21, true), (22, true), (23, true), (24, true), (25, true), (26, true), (27, true), (28, true), (29, true), (30, false), (31, false), (32, true), (33, true), (34, true)] (by kernel_rfl) (by kernel_rfl) (Mod.refl Nn wx).drew ?_
                    iterate 3 (refine pc_pure rfl rfl (fun K hK => ?_); go_simp; refine hK _ ?_; clear hK K)
                    refine pc_take _ rfl rfl (fun w' hS => exec_load1 (P := Tryz.prog) 22 _ rfl rfl (HF.out w' hS).1 Tryz.underlying22 rfl) (fun K hK => ?_); go_simp; refine hK _ ?_; clear hK K
                    iterate 2 (refine pc_pure rfl rfl (fun K hK => ?_); go_simp; refine hK _ ?_; clear hK K)
                    refine pc_take _ rfl rfl (fun w' hS => exec_load_cells (P := Tryz.prog) 32 _ rfl (cs := ndX z) rfl (by have := (HF.out w' hS).2.1; simpa using this) Tryz.underlying32 rfl size_node) (fun K hK => ?_); go_simp; refine hK _ ?_; clear hK K
                    iterate 2 (refine pc_pure rfl rfl (fun K hK => ?_); go_simp; refine hK _ ?_; clear hK K)
                    refine pc_call rfl rfl (fun K hK => ?_); go_simp; refine ⟨_, _, ⟨rfl, rfl⟩, hK _ _ _ ?_⟩; clear hK K
                    refine (markN_any k q _ (by omega) (by omega) (by omega) (by omega)).mono ?_
                    rintro r w9 ⟨g9, rfl, b9, m9⟩
                    have HA9 := Lib.hid (And.intro ((Mod.refl Nn wx).drew.nn_ m9) b9)
                    clear m9 b9
                    refine ⟨_, rfl, HA9.out.1, ?_⟩
                    refine pc_call rfl rfl (fun K hK => ?_); go_simp; refine ⟨_, _, ⟨rfl, rfl⟩, hK _ _ _ ?_⟩; clear hK K
                    refine (sameN_yes (lf := false) (N := ⟨false, [], [], [mk0 k q]⟩) (ec := 0) (kc := 0) (cc := 1) (ed := 0) (kd := 0) (cd := 1) (ndX_ndr (HZG.out w9 HA9.out.1)) (ndX_ndr HA9.out.2)).mono ?_
                    rintro r w9s ⟨rfl, ms⟩
                    have H9 := Lib.hid (HA9.out.1.nn_ ms)
                    clear ms
                    refine ⟨_, rfl, H9.out, ?_⟩
                    iterate 6 (refine pc_pure rfl rfl (fun K hK => ?_); go_simp; refine hK _ ?_; clear hK K)
                    refine pc_take _ rfl rfl (fun w' hS => exec_load1 (P := Tryz.prog) 22 _ rfl rfl (HF.out w' hS).2.2.1 Tryz.underlying22 rfl) (fun K hK => ?_); go_simp; refine hK _ ?_; clear hK K
                    iterate 6 (refine pc_pure rfl rfl (fun K hK => ?_); go_simp; refine hK _ ?_; clear hK K)
                    refine pc_take _ rfl rfl (fun w' hS => exec_load1 (P := Tryz.prog) 22 _ rfl rfl (HF.out w' hS).2.2.1 Tryz.underlying22 rfl) (fun K hK => ?_); go_simp; refine hK _ ?_; clear hK K
                    iterate 2 (refine pc_pure rfl rfl (fun K hK => ?_); go_simp; refine hK _ ?_; clear hK K)
                    refine pc_take _ rfl rfl (fun w' hS => exec_load_cells (P := Tryz.prog) 32 _ rfl (cs := ndX z) rfl (by have := (HF.out w' hS).2.2.2; simpa using this) Tryz.underlying32 rfl size_node) (fun K hK => ?_); go_simp; refine hK _ ?_; clear hK K
                    iterate 2 (refine pc_pure rfl rfl (fun K hK => ?_); go_simp; refine hK _ ?_; clear hK K)
                    refine pc_call rfl rfl (fun K hK => ?_); go_simp; refine ⟨_, _, ⟨rfl, rfl⟩, hK _ _ _ ?_⟩; clear hK K
                    refine (markN_any k q _ (by omega) (by omega) (by omega) (by omega)).mono ?_
                    rintro r w10 ⟨g10, rfl, b10, m10⟩
                    have HA10 := Lib.hid (And.intro (H9.out.nn_ m10) b10)
                    clear m10 b10
                    refine ⟨_, rfl, HA10.out.1, ?_⟩
                    refine pc_call rfl rfl (fun K hK => ?_); go_simp; refine ⟨_, _, ⟨rfl, rfl⟩, hK _ _ _ ?_⟩; clear hK K
                    refine (sameN_yes (lf := false) (N := ⟨false, [], [], [mk0 k q]⟩) (ec := 0) (kc := 0) (cc := 1) (ed := 0) (kd := 0) (cd := 1) (ndX_ndr (HZG.out w10 HA10.out.1)) (ndX_ndr HA10.out.2)).mono ?_
                    rintro r w10s ⟨rfl, ms⟩
                    have H10 := Lib.hid (HA10.out.1.nn_ ms)
                    clear ms
                    refine ⟨_, rfl, H10.out, ?_⟩
                    iterate 3 (refine pc_pure rfl rfl (fun K hK => ?_); go_simp; refine hK _ ?_; clear hK K)
                    refine pc_nil ?_
                    clear HF
                    go_wp2
                    exact ⟨⟨q + 1, by omega, by go_num, HM'.out.nn_ H10.out⟩, by simp [intOf]; omega⟩
                  · have hqr' : ¬ (q : Int) < rn := by omega
                    have hd : decide ((q : Int) < (rn : Int)) = false := by simpa using hqr
                    have HF := Lib.hid (show ∀ w', Mod Nn wx w' → w'.cell? ⟨G, k, none⟩ = some (.slice (some ⟨g, 0, none⟩) (rn + 64) qc) ∧ (∀ j v, (ndX z)[j]? = some v → w'.cell? ⟨g, q * 4 + j, none⟩ = some v) ∧ w'.cell? ⟨g0, off + k, none⟩ = some (Value.slice rA rn rc) from fun w' hm =>
                      ⟨(hm.cell (p := ⟨G, k, none⟩) hGl (fun f => f)).trans hcG, fun j v hv => (hm.cell (p := ⟨g, q * 4 + j, none⟩) hgl (fun f => f)).trans (hcz j v hv), (hm.cell (p := ⟨g0, off + k, none⟩) hg0l (fun f => f)).trans hc0⟩)
                    clear hcz hGl hgl hg0l hz hmk hc0
                    go_wp2_with fail
                    clear hcG
                    refine wp_region_planC (fun w' => Mod Nn wx w') [(0, true), (1, true), (2, true), (3, true), (4, true), (5, true), (6, true), (7, true), (8, true), (9, false), (10, false), (11, true), (12, true), (13, true), (14, true), (15, true), (16, true), (17, true), (18, true), (19, true), (20, true), (21, true), (22, true), (23, true), (24, true), (25, true), (26, true), (27, true), (28, true), (29, true), (30, true), (31, true), (32, true), (33, true), (34, true)] (by kernel_rfl) (by kernel_rfl) (Mod.refl Nn wx).drew ?_
                    iterate 3 (refine pc_pure rfl rfl (fun K hK => ?_); go_simp; refine hK _ ?_; clear hK K)
                    refine pc_take _ rfl rfl (fun w' hS => exec_load1 (P := Tryz.prog) 22 _ rfl rfl (HF.out w' hS).1 Tryz.underlying22 rfl) (fun K hK => ?_); go_simp; refine hK _ ?_; clear hK K
                    iterate 2 (refine pc_pure rfl rfl (fun K hK => ?_); go_simp; refine hK _ ?_; clear hK K)
                    refine pc_take _ rfl rfl (fun w' hS => exec_load_cells (P := Tryz.prog) 32 _ rfl (cs := ndX z) rfl (by have := (HF.out w' hS).2.1; simpa using this) Tryz.underlying32 rfl size_node) (fun K hK => ?_); go_simp; refine hK _ ?_; clear hK K
                    iterate 2 (refine pc_pure rfl rfl (fun K hK => ?_); go_simp; refine hK _ ?_; clear hK K)
                    refine pc_call rfl rfl (fun K hK => ?_); go_simp; refine ⟨_, _, ⟨rfl, rfl⟩, hK _ _ _ ?_⟩; clear hK K
                    refine (markN_any k q _ (by omega) (by omega) (by omega) (by omega)).mono ?_
                    rintro r w9 ⟨g9, rfl, b9, m9⟩
                    have HA9 := Lib.hid (And.intro ((Mod.refl Nn wx).drew.nn_ m9) b9)
                    clear m9 b9
                    refine ⟨_, rfl, HA9.out.1, ?_⟩
                    refine pc_call rfl rfl (fun K hK => ?_); go_simp; refine ⟨_, _, ⟨rfl, rfl⟩, hK _ _ _ ?_⟩; clear hK K
                    refine (sameN_yes (lf := false) (N := ⟨false, [], [], [mk0 k q]⟩) (ec := 0) (kc := 0) (cc := 1) (ed := 0) (kd := 0) (cd := 1) (ndX_ndr (HZG.out w9 HA9.out.1)) (ndX_ndr HA9.out.2)).mono ?_
                    rintro r w9s ⟨rfl, ms⟩
                    have H9 := Lib.hid (HA9.out.1.nn_ ms)
                    clear ms
                    refine ⟨_, rfl, H9.out, ?_⟩
                    iterate 6 (refine pc_pure rfl rfl (fun K hK => ?_); go_simp; refine hK _ ?_; clear hK K)
                    refine pc_take _ rfl rfl (fun w' hS => exec_load1 (P := Tryz.prog) 22 _ rfl rfl (HF.out w' hS).2.2 Tryz.underlying22 rfl) (fun K hK => ?_); go_simp; refine hK _ ?_; clear hK K
                    iterate 3 (refine pc_pure rfl rfl (fun K hK => ?_); go_simp; refine hK _ ?_; clear hK K)
                    iterate 12 (refine pc_skip rfl rfl (fun K hK => ?_); go_simp; refine hK _ ?_; clear hK K)
                    iterate 2 (refine pc_pure rfl rfl (fun K hK => ?_); go_simp; refine hK _ ?_; clear hK K)
                    refine pc_nil ?_
                    clear HF
                    go_wp2
                    exact ⟨⟨q + 1, by omega, by go_num, HM'.out.nn_ H9.out⟩, by simp [intOf]; omega⟩
                · have hlq' : ¬ (q : Int) < (rn : Int) + 64 := by omega
                  go_wp2
                  exact ⟨⟨k + 1, by omega, by go_num, hmk⟩, by simp [intOf]; omega⟩
            · have hlt' : ¬ (k : Int) < j := by omega
              have hkj : k = j := by omega
              subst hkj
              have HX := Lib.hid (And.intro (HW.out.1.mod hmk (fun f => f)) (And.intro (HW.out.2.1.mod hmk (fun _ _ f => f)) (And.intro (HW.out.2.2.2.1.nn_ hmk) (And.intro HW.out.2.2.2.2 (show ∀ j' r, L[j']? = some r → ∀ i, i < r.n → Gd wo f j' i from fun j' r hr i hi => (HGD.out j' r hr i (by omega)).nn hmk)))))
              clear hlt hlt' hmk HW HGD
              go_wp2
              go_loopw [11] (fun i wr => ∃ (j : Nat) (H : List Row) (f : Nat → Nat → Nat), j ≤ k ∧ i = .int .i64 j ∧ H.length = k ∧ Blk wr G 22 (H.map Row.v).toArray ∧ RowsM wr 32 4 L (EN f) ∧ GRows wr 32 4 L H (ZnN f k) G j ∧ Mod (Bks L) w wr ∧ (∀ j' r, L[j']? = some r → ∀ i, i < r.n → Gd wr f j' i)) (fun i _ => k - (intOf i).toNat)
              case atStart => exact ⟨0, _, f, Nat.zero_le _, rfl, HX.out.2.2.2.1, HX.out.1, HX.out.2.1, GRows.zero, HX.out.2.2.1, HX.out.2.2.2.2⟩
              case round =>
                clear HX
                obtain ⟨j, H, f, hj, rfl, hHl, hBG, hM, hGR, hmd, hgd⟩ := hrel
                obtain ⟨wa, rfl⟩ : ∃ wa : World, wa = wr := ⟨_, rfl⟩
                by_cases hlt : j < k
                · have hlt' : (j : Int) < k := by omega
                  have HW := Lib.hid (And.intro hBG (And.intro hM (And.intro hGR (And.intro hmd hHl))))
                  have HGD := Lib.hid hgd
                  clear hBG hM hGR hmd hHl hgd
                  go_wp2_with (first
                    | (with_reducible change wpList _ _ _ (⟨some 129, _, _, _, _, _⟩ :: _) _ _
                       go_must (refine wpList_make_n 22 _ _ rfl rfl 32 _ 4 80 Tryz.underlying22 infoN 64 64 64 64 rfl rfl rfl rfl (by omega) (by omega) (by omega) ?_)
                       intro w1 b1 m1 z1
                       have B1 := Lib.hid (And.intro b1 (And.intro m1 z1))
                       clear b1 m1 z1))
                  generalize hBe : wa.heap.size = B at *
                  have HB := Lib.hid (show G < B ∧ (∀ g, Bks L g → g ≠ B) from ⟨by have := HW.out.1.lt; omega, fun g hg e => by have := HW.out.2.1.lt g hg; omega⟩)
                  have HHB := Lib.hid (show ∀ j', j' < j → ∀ q, H[j']? = some q → ∀ g, q.v.ownBlock = some g → g < B from by
                    rw [← hBe]; exact HW.out.2.2.1.blk_lt (by rw [HL.out]; omega))
                  have HP := Lib.hid (And.intro (HW.out.1.mod B1.out.2.1 (fun f => f)) (And.intro (HW.out.2.1.mod B1.out.2.1 (fun _ _ f => f)) (And.intro (HW.out.2.2.1.mod B1.out.2.1 (fun _ _ _ f => f)) (And.intro (HW.out.2.2.2.1.nn_ B1.out.2.1) HW.out.2.2.2.2))))
                  have HB1 := Lib.hid B1.out.1
                  have HB1' := Lib.hid B1.out.1
                  have HGD1 := Lib.hid (show ∀ j' r, L[j']? = some r → ∀ i, i < r.n → Gd w1 f j' i from fun j' r hr i hi => (HGD.out j' r hr i hi).nn B1.out.2.1)
                  clear B1 HW hBe HGD
                  go_loopw [13] (fun i wx => ∃ (q : Nat) (f1 : Nat → Nat → Nat) (cur : Array Value), q ≤ 64 ∧ i = .int .i64 q ∧ Blk wx B 32 cur ∧ cur.size = 64 * 4 ∧ cur.toList.take (q * 4) = mkR (EN f1) (j + k) q ∧ (∀ k' i', k' ≠ j + k → f1 k' i' = f k' i') ∧ Mod (At B) w1 wx) (fun i _ => 64 - (intOf i).toNat)
                  case atStart => exact ⟨0, f, _, Nat.zero_le _, rfl, HB1.out, by unfold madeCells; simp, (by rw [Nat.zero_mul]; rfl), fun _ _ _ => rfl, Mod.refl _ _⟩
                  case round =>
                    clear HB1
                    obtain ⟨q, f1, cur, hq, rfl, hb, hcs, hct, hfa, hmb⟩ := hrel
                    obtain ⟨wx, rfl⟩ : ∃ wx : World, wx = wr := ⟨_, rfl⟩
                    by_cases hlq : q < 64
                    · have hlq' : (q : Int) < 64 := by omega
                      have HBB := Lib.hid (And.intro hb (And.intro hmb (And.intro hcs (And.intro hct hfa))))
                      clear hb hmb hcs hct hfa
                      go_wp2_with fail
                      refine (markN_any ((j : Int) + k) q _ (by omega) (by omega) (by omega) (by omega)).mono ?_
                      rintro r w9 ⟨g9, rfl, b9, m9⟩
                      have HB9 := Lib.hid (And.intro (HBB.out.1.mod m9 (fun f => f)) (HBB.out.2.1.nn_ m9))
                      have HFT := Lib.hid (show q * 4 + (ndX g9).toArray.size ≤ cur.size by rw [HBB.out.2.2.1]; show q * 4 + 4 ≤ _; omega)
                      clear m9 b9
                      go_wp2_with (first
                        | (with_reducible change wpList _ _ _ (⟨none, Op.store _ _ _, _, _, _, _⟩ :: _) _ _
                           go_must (refine wpList_store_at 32 _ _ rfl rfl B (q * 4) (ndX g9).toArray cur _ rfl rfl HB9.out.1 size_node HFT.out (ndX_all g9) ?_)
                           intro w5 b5 m5 z5
                           have hs5 : ((cur.toList.take (q * 4) ++ (ndX g9).toArray.toList ++ cur.toList.drop (q * 4 + (ndX g9).toArray.size)).toArray).size = 64 * 4 := (store_size HFT.out).trans HBB.out.2.2.1
                           have ht5 : ((cur.toList.take (q * 4) ++ (ndX g9).toArray.toList ++ cur.toList.drop (q * 4 + (ndX g9).toArray.size)).toArray).toList.take ((q + 1) * 4) = mkR (EN (upd f1 (j + k) q g9)) (j + k) (q + 1) := by
                             show (cur.toList.take (q * 4) ++ ndX g9 ++ cur.toList.drop (q * 4 + 4)).take ((q + 1) * 4) = _
                             rw [HBB.out.2.2.2.1, mkR_succ, mkN_re (fun i hi => upd_ne (by omega))]
                             have e : EN (upd f1 (j + k) q g9) (j + k) q = ndX g9 := by unfold EN; rw [upd_eq]
                             rw [e]
                             exact List.take_left' (by rw [List.length_append, mkN_len, ndX_len, Nat.add_mul, Nat.one_mul])
                           have HE := Lib.hid (And.intro b5 (And.intro hs5 (And.intro ht5 (And.intro (show ∀ k' i', k' ≠ j + k → upd f1 (j + k) q g9 k' i' = f k' i' from fun k' i' hk' => by rw [upd_ne (fun h => hk' h.1)]; exact HBB.out.2.2.2.2 k' i' hk') (HB9.out.2.trans m5)))))
                           clear b5 m5 z5 hs5 ht5))
                      exact ⟨⟨q + 1, _, _, by omega, by go_num, HE.out⟩, by simp [intOf]; omega⟩
                    · have hlq' : ¬ (q : Int) < 64 := by omega
                      have hqe : q = 64 := by omega
                      subst hqe
                      have hb' : Blk wx B 32 (mkR (EN f1) (j + k) 64).toArray := by
                        rw [List.take_of_length_le (by rw [Array.length_toList, hcs]; exact Nat.le_refl _)] at hct
                        rw [← hct]
                        exact hb
                      have hE1 : ∀ j' r', L[j']? = some r' → mkR (EN f1) j' r'.n = mkR (EN f) j' r'.n := fun j' r' hr' => mkN_re (fun i hi => hfa j' i (by have := (List.getElem?_eq_some_iff.1 hr').1; rw [HL.out] at this; omega))
                      have hZ1 : ∀ j' r', j' < j → L[j']? = some r' → ZnN f1 k j' r'.n = ZnN f k j' r'.n := fun j' r' hj' hr' => by unfold ZnN; rw [hE1 j' r' hr', mkN_re (fun i hi => hfa (j' + k) i (by omega))]
                      have hBG := HP.out.1.mod hmb (fun e => by have e : G = B := e; have := HB.out.1; omega)
                      have hM := (HP.out.2.1.mod hmb (fun g hg e => HB.out.2 g hg e)).re hE1
                      have hGR0 : GRows wx 32 4 L H (ZnN f k) G j := fun j' hj' r q hr hq => by
                        obtain ⟨h1, h2, h3⟩ := HP.out.2.2.1 j' hj' r q hr hq
                        exact ⟨h1, own_mod h2 hmb (fun g hg e => by have e : g = B := e; have := HHB.out j' hj' q hq g hg; omega), h3⟩
                      have hGR := hGR0.re hZ1
                      have hBw : w.heap.size ≤ B := by have := HG.out; have := HB.out.1; omega
                      have hmd : Mod (Bks L) w wx := HP.out.2.2.2.1.new_ hmb hBw
                      obtain ⟨g0, off, ⟨rA, rn, rc⟩, rfl, hr, hc0⟩ := rowv_at (H0.out.mod hmd HAP.out.2.1) hlt
                      have hrn : rn ≤ 1099511627776 := HAP.out.2.2 j _ hr
                      change _ = some (Value.slice rA rn rc) at hc0
                      have hHk : j < H.length := by rw [HP.out.2.2.2.2]; exact hlt
                      have hgw := Grow.start hM (EN_len f1) hGR hmd hr wx.heap.size
                      have hsrc : RdC wx (some ⟨B, 0, none⟩) 64 4 (mkR (EN f1) (j + k) 64) := RdC.of_blk hb' (mkN_len _ _ _)
                      have hone := mkN_one f1 (j + k) 64
                      have HGD2 := Lib.hid (show ∀ j' r, L[j']? = some r → ∀ i, i < r.n → Gd wx f1 j' i from fun j' r hr i hi => ((HGD1.out j' r hr i hi).mod hmb (no_int HB1'.out (by decide))).re (hfa j' i (by have := (List.getElem?_eq_some_iff.1 hr).1; rw [HL.out] at this; omega)))
                      have HS := Lib.hid (And.intro hgw (And.intro hBG (And.intro hr (And.intro hHk (And.intro hsrc hone)))))
                      have HHx := Lib.hid (hGR.blk_lt (by rw [HL.out]; omega))
                      clear hb hb' hBG hM hGR hGR0 hmd hr hHk hgw hsrc hone hmb hcs hct hfa hE1 hZ1
                      go_wp2_with (first
                        | (with_reducible change wpList _ _ _ (⟨some 150, _, _, _, _, _⟩ :: _) _ _
                           go_must (refine wpList_append_two 22 _ _ rfl rfl 0 32 _ 4 80 Tryz.underlying22 infoN rfl (by omega) _ rn _ rfl HS.out.1.hv _ 64 64 _ rfl HS.out.2.2.2.2.1 (by omega) HS.out.2.2.2.2.2 (by omega) (by omega) (Nat.zero_le _) ?_)
                           intro v' w4 own4 two4
                           have hst := HS.out.1.step (by omega) HAP.out.1 HS.out.2.2.1 HL0.out HG.out HS.out.2.1.lt (Nat.le_refl _) HHx.out (by rw [HL.out]; omega) own4 two4
                           have hB4 : Blk w4 G 22 (H.map Row.v).toArray := (hst.2 G (Nat.le_refl _) (fun h => by have := HL0.out G h; have := HG.out; omega) HS.out.2.1.lt).trans HS.out.2.1
                           obtain ⟨vA, vc, rfl, hvc, -⟩ := own_form hst.1.hv
                           have hcG : w4.cell? ⟨G, j, none⟩ = some (H[j]'HS.out.2.2.2.1).v := by
                             rw [hB4.cell j, List.getElem?_toArray, List.getElem?_map, List.getElem?_eq_getElem HS.out.2.2.2.1]; rfl
                           have hfG := hB4.frozen j
                           have HGD3 := Lib.hid (show ∀ j' r, L[j']? = some r → ∀ i, i < r.n → Gd (w4.setCell ⟨G, j, none⟩ (.slice vA (rn + 64) vc)) f1 j' i from fun j' r hr i hi => ((HGD2.out j' r hr i hi).mod two4.mod (fun g cs hvg hbi => by
                             obtain ⟨_, cur, _, _, hbn, _⟩ := own_blk_eq HS.out.1.hv hvg
                             exact Blk.ne_ hbn hbi (by decide) rfl)).mod (Mod.cellAt w4 G j (.slice vA (rn + 64) vc)) (no_int hB4 (by decide)))
                           have HE := Lib.hid (hst.1.put rfl rfl hB4 HS.out.2.2.1 HP.out.2.2.2.2 hlt HS.out.2.1.lt HG.out HL0.out)
                           generalize (H[j]'HS.out.2.2.2.1).v = ov at *
                           clear own4 two4 hst hB4))
                      exact ⟨⟨j + 1, _, f1, by omega, by go_num, HE.out.1, HE.out.2.1, HE.out.2.2.1, HE.out.2.2.2.1, HE.out.2.2.2.2, HGD3.out⟩, by simp [intOf]; omega⟩
                · have hlt' : ¬ (j : Int) < k := by omega
                  have hjk : j = k := by omega
                  subst hjk
                  have HW := Lib.hid (And.intro hBG (And.intro hM (And.intro hGR (And.intro hmd hHl))))
                  have HGD9 := Lib.hid hgd
                  clear hBG hM hGR hmd hHl hlt hlt' hgd
                  go_wp2
                  go_loopw [14] (fun i wr => ∃ k : Nat, k ≤ j ∧ i = .int .i64 k ∧ Mod Nn wa wr) (fun i _ => j - (intOf i).toNat)
                  case atStart => exact ⟨0, Nat.zero_le _, rfl, Mod.refl _ _⟩
                  case round =>
                    obtain ⟨k, hk, rfl, hmk⟩ := hrel
                    obtain ⟨wo, rfl⟩ : ∃ wo : World, wo = wr := ⟨_, rfl⟩
                    by_cases hlt : k < j
                    · have hlt' : (k : Int) < j := by omega
                      obtain ⟨g0, off, ⟨rA, rn, rc⟩, rfl, hr, hc0⟩ := rowv_at (H0.out.mod (HW.out.2.2.2.1.nn_ hmk) HAP.out.2.1) hlt
                      have hrn : rn ≤ 1099511627776 := HAP.out.2.2 k _ hr
                      obtain ⟨⟨qA, qn, qc⟩, hq⟩ : ∃ q, H[k]? = some q := ⟨_, List.getElem?_eq_getElem (by rw [HW.out.2.2.2.2]; exact hlt)⟩
                      obtain ⟨hqn, hqo, -⟩ := HW.out.2.2.1 k hlt _ _ hr hq
                      have hqn : qn = rn + 64 := hqn
                      subst hqn
                      have hqo : wa.ownsRow 0 32 4 (.slice qA (rn + 64) qc) (rn + 64) (ZnN f j k rn) := hqo
                      have hro : wa.ownsRow 0 32 4 (.slice rA rn rc) rn (mkR (EN f) k rn) := HW.out.2.1 k _ hr
                      have HS := Lib.hid (And.intro hr (And.intro hq (And.intro hqo hro)))
                      clear hr hqo hro
                      change _ = some (Value.slice rA rn rc) at hc0
                      go_wp2
                      go_loopw [15] (fun i wr => ∃ q : Nat, q ≤ rn ∧ i = .int .i64 q ∧ Mod Nn wa wr) (fun i _ => rn - (intOf i).toNat)
                      case atStart => exact ⟨0, Nat.zero_le _, rfl, hmk⟩
                      case round =>
                        clear hmk hc0
                        obtain ⟨q, hqle, rfl, hmk⟩ := hrel
                        obtain ⟨wx, rfl⟩ : ∃ wx : World, wx = wr := ⟨_, rfl⟩
                        obtain ⟨g0', off', r', hA', hr', hc0⟩ := rowv_at (H0.out.mod (HW.out.2.2.2.1.nn_ hmk) HAP.out.2.1) hlt
                        rw [HS.out.1] at hr'
                        injection hr' with hr'
                        subst hr'
                        injection hA' with hA'
                        injection hA' with e1 e2 _
                        subst e1; subst e2
                        change _ = some (Value.slice rA rn rc) at hc0
                        by_cases hlq : q < rn
                        · have hlq' : (q : Int) < rn := by omega
                          have hlq2 : (q : Int) < (rn : Int) + 64 := by omega
                          have hcG : wx.cell? ⟨G, k, none⟩ = some (.slice qA (rn + 64) qc) := by
                            rw [(HW.out.1.mod hmk (fun f => f)).cell k, List.getElem?_toArray, List.getElem?_map, HS.out.2.1]; rfl
                          obtain ⟨z, hz⟩ : ∃ z, f k q = z := ⟨_, rfl⟩
                          obtain ⟨g, cap, cur, hv, _, hb, hnc, _, _, _⟩ := own_blk HS.out.2.2.1 (by omega)
                          injection hv with hv1 _ hv3
                          subst hv1; subst hv3
                          obtain ⟨gl, capl, curl, hvl, _, hbl, hncl, _, _, _⟩ := own_blk HS.out.2.2.2 (by omega)
                          injection hvl with hvl1 _ hvl3
                          subst hvl1; subst hvl3
                          have hcz := own_elem (own_mod HS.out.2.2.1 hmk (fun _ _ f => f)) (i := q) (X := ndX z) (by
                            rw [← hz]; intro i v hv
                            unfold ZnN
                            have := mkN_at f k hlq i v hv
                            rw [List.getElem?_append_left (List.getElem?_eq_some_iff.1 this).1]; exact this)
                          have hcl := own_elem (own_mod HS.out.2.2.2 hmk (fun _ _ f => f)) (i := q) (X := ndX z) (by rw [← hz]; exact mkN_at f k hlq)
                          have hGl : G < wx.heap.size := World.block_lt_of_cell? wx _ hcG
                          have hgl : g < wx.heap.size := (hb.mod hmk (fun f => f)).lt
                          have hg0l : g0 < wx.heap.size := World.block_lt_of_cell? wx _ hc0
                          have hgll : gl < wx.heap.size := (hbl.mod hmk (fun f => f)).lt
                          have HF := Lib.hid (show ∀ w', Mod Nn wx w' → w'.cell? ⟨G, k, none⟩ = some (.slice (some ⟨g, 0, none⟩) (rn + 64) qc) ∧ (∀ j v, (ndX z)[j]? = some v → w'.cell? ⟨g, q * 4 + j, none⟩ = some v) ∧ w'.cell? ⟨g0, off + k, none⟩ = some (Value.slice (some ⟨gl, 0, none⟩) rn rc) ∧ (∀ j v, (ndX z)[j]? = some v → w'.cell? ⟨gl, q * 4 + j, none⟩ = some v) from fun w' hm =>
                            ⟨(hm.cell (p := ⟨G, k, none⟩) hGl (fun f => f)).trans hcG, fun j v hv => (hm.cell (p := ⟨g, q * 4 + j, none⟩) hgl (fun f => f)).trans (hcz j v hv), (hm.cell (p := ⟨g0, off + k, none⟩) hg0l (fun f => f)).trans hc0, fun j v hv => (hm.cell (p := ⟨gl, q * 4 + j, none⟩) hgll (fun f => f)).trans (hcl j v hv)⟩)
                          have hr0 := HS.out.1
                          have HZ := Lib.hid hz
                          have HZG := Lib.hid (show ∀ w', Mod Nn wx w' → Blk w' z 3 #[.int .i64 (mk0 k q)] from fun w' hm => by
                            have h := ((HGD9.out k _ hr0 q hlq).nn hmk).nn hm
                            unfold Gd at h
                            rwa [hz] at h)
                          have HM' := Lib.hid hmk
                          clear hz hb hmk hq hbl hcz hcl hGl hgl hg0l hgll
                          go_wp2_with fail
                          clear hcG hc0
                          refine wp_region_planC (fun w' => Mod Nn wx w') [(0, true), (1, true), (2, true), (3, true), (4, true), (5, true), (6, true), (7, true), (8, true), (9, false), (10, false), (11, true), (12, true), (13, true), (14, true), (15, true), (16, true), (17, true), (18, true), (19, true), (20, true), (21, true), (22, false), (23, false), (24, true), (25, true)] (by kernel_rfl) (by kernel_rfl) (Mod.refl Nn wx).drew ?_
                          iterate 3 (refine pc_pure rfl rfl (fun K hK => ?_); go_simp; refine hK _ ?_; clear hK K)
                          refine pc_take _ rfl rfl (fun w' hS => exec_load1 (P := Tryz.prog) 22 _ rfl rfl (HF.out w' hS).2.2.1 Tryz.underlying22 rfl) (fun K hK => ?_); go_simp; refine hK _ ?_; clear hK K
                          iterate 2 (refine pc_pure rfl rfl (fun K hK => ?_); go_simp; refine hK _ ?_; clear hK K)
                          refine pc_take _ rfl rfl (fun w' hS => exec_load_cells (P := Tryz.prog) 32 _ rfl (cs := ndX z) rfl (by have := (HF.out w' hS).2.2.2; simpa using this) Tryz.underlying32 rfl size_node) (fun K hK => ?_); go_simp; refine hK _ ?_; clear hK K
                          iterate 2 (refine pc_pure rfl rfl (fun K hK => ?_); go_simp; refine hK _ ?_; clear hK K)
                          refine pc_call rfl rfl (fun K hK => ?_); go_simp; refine ⟨_, _, ⟨rfl, rfl⟩, hK _ _ _ ?_⟩; clear hK K
                          refine (markN_any k q _ (by omega) (by omega) (by omega) (by omega)).mono ?_
                          rintro r w9 ⟨g9, rfl, b9, m9⟩
                          have HA9 := Lib.hid (And.intro ((Mod.refl Nn wx).drew.nn_ m9) b9)
                          clear m9 b9
                          refine ⟨_, rfl, HA9.out.1, ?_⟩
                          refine pc_call rfl rfl (fun K hK => ?_); go_simp; refine ⟨_, _, ⟨rfl, rfl⟩, hK _ _ _ ?_⟩; clear hK K
                          refine (sameN_yes (lf := false) (N := ⟨false, [], [], [mk0 k q]⟩) (ec := 0) (kc := 0) (cc := 1) (ed := 0) (kd := 0) (cd := 1) (ndX_ndr (HZG.out w9 HA9.out.1)) (ndX_ndr HA9.out.2)).mono ?_
                          rintro r w9s ⟨rfl, ms⟩
                          have H9 := Lib.hid (HA9.out.1.nn_ ms)
                          clear ms
                          refine ⟨_, rfl, H9.out, ?_⟩
                          iterate 5 (refine pc_pure rfl rfl (fun K hK => ?_); go_simp; refine hK _ ?_; clear hK K)
                          refine pc_take _ rfl rfl (fun w' hS => exec_load1 (P := Tryz.prog) 22 _ rfl rfl (HF.out w' hS).1 Tryz.underlying22 rfl) (fun K hK => ?_); go_simp; refine hK _ ?_; clear hK K
                          iterate 2 (refine pc_pure rfl rfl (fun K hK => ?_); go_simp; refine hK _ ?_; clear hK K)
                          refine pc_take _ rfl rfl (fun w' hS => exec_load_cells (P := Tryz.prog) 32 _ rfl (cs := ndX z) rfl (by have := (HF.out w' hS).2.1; simpa using this) Tryz.underlying32 rfl size_node) (fun K hK => ?_); go_simp; refine hK _ ?_; clear hK K
                          iterate 2 (refine pc_pure rfl rfl (fun K hK => ?_); go_simp; refine hK _ ?_; clear hK K)
                          refine pc_call rfl rfl (fun K hK => ?_); go_simp; refine ⟨_, _, ⟨rfl, rfl⟩, hK _ _ _ ?_⟩; clear hK K
                          refine (markN_any k q _ (by omega) (by omega) (by omega) (by omega)).mono ?_
                          rintro r w10 ⟨g10, rfl, b10, m10⟩
                          have HA10 := Lib.hid (And.intro (H9.out.nn_ m10) b10)
                          clear m10 b10
                          refine ⟨_, rfl, HA10.out.1, ?_⟩
                          refine pc_call rfl rfl (fun K hK => ?_); go_simp; refine ⟨_, _, ⟨rfl, rfl⟩, hK _ _ _ ?_⟩; clear hK K
                          refine (sameN_yes (lf := false) (N := ⟨false, [], [], [mk0 k q]⟩) (ec := 0) (kc := 0) (cc := 1) (ed := 0) (kd := 0) (cd := 1) (ndX_ndr (HZG.out w10 HA10.out.1)) (ndX_ndr HA10.out.2)).mono ?_
                          rintro r w10s ⟨rfl, ms⟩
                          have H10 := Lib.hid (HA10.out.1.nn_ ms)
                          clear ms
                          refine ⟨_, rfl, H10.out, ?_⟩
                          iterate 2 (refine pc_pure rfl rfl (fun K hK => ?_); go_simp; refine hK _ ?_; clear hK K)
                          refine pc_nil ?_
                          clear HF
                          go_wp2
                          exact ⟨⟨q + 1, by omega, by go_num, HM'.out.nn_ H10.out⟩, by simp [intOf]; omega⟩
                        · have hlq' : ¬ (q : Int) < (rn : Int) := by omega
                          go_wp2
                          exact ⟨⟨k + 1, by omega, by go_num, hmk⟩, by simp [intOf]; omega⟩
                    · have hlt' : ¬ (k : Int) < j := by omega
                      have HF := Lib.hid (HW.out.2.2.2.1.nn_ hmk)
                      clear hmk HW
                      go_wp2
                      go_ret
                      exact ⟨rfl, HF.out⟩
end Go.Proofs.YtfoldjnmknaklaaGreat
