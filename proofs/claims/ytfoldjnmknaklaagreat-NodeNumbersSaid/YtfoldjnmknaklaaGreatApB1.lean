/- peatbankkit: flatBytes, over rows of bytes handed out: they lie apart. -/
import Derived.Test.YtfoldjnmknaklaaGreatBytes2
import Derived.Test.YtfoldjnmknaklaaGreatKitB
import Derived.Test.YtfoldjnmknaklaaGreatKitC
namespace Go.Proofs.YtfoldjnmknaklaaGreat
open Go.RowKit

def EB (k i : Nat) : List Value := [.int .u8 (mb k i)]
theorem EB_len (k i : Nat) : (EB k i).length = 1 := rfl
theorem mkB_at (k : Nat) {i n : Nat} (h : i < n) : (mkR EB k n)[i]? = some (.int .u8 (mb k i)) := by
  have := mkR_at (s := 1) EB_len k h (j := 0) (by omega)
  simpa [EB] using this
theorem mkB_len (k n : Nat) : (mkR EB k n).length = n := by rw [mkR_len EB_len]; omega
theorem info_sl8 : (Tryz.prog.info? 24).map (fun i => (i.zero, i.size, i.bytes)) = some (some (.slice none 0 0), 1, 24) := by kernel_rfl
theorem size_b1 : (Tryz.prog.info? 5).map (·.size) = some 1 := by kernel_rfl
def Zm (j n : Nat) : List Value := mkR EB j (n + 64)
def Zn (m j n : Nat) : List Value := mkR EB j n ++ mkR EB (j + m) 64
theorem rowv_at {w : World} {A : Option Addr} {m : Nat} {L : List Row} (h : Rd w A m (L.map Row.v)) {k : Nat} (hk : k < m) :
    ∃ g off r, A = some ⟨g, off, none⟩ ∧ L[k]? = some r ∧ w.cell? ⟨g, off + k, none⟩ = some r.v := by
  obtain ⟨g, off, v, hA, hv, hc⟩ := h.at_ hk
  rw [List.getElem?_map] at hv
  obtain ⟨r, hr, rfl⟩ := Option.map_eq_some_iff.1 hv
  exact ⟨g, off, r, hA, hr, hc⟩

set_option maxRecDepth 100000 in
set_option maxHeartbeats 6400000 in
theorem flatB_any {w : World} {A0 : Option Addr} {m c0 : Nat} {L : List Row} {Y : Nat → List Value} (h0 : Rd w A0 m (L.map Row.v)) (hrows : RowsY w 5 1 L Y) (ha : AptR L)
    (hA : ∀ g, Of A0 g → ¬ Bks L g) (hm : m ≤ 400) (hn : ∀ (j : Nat) (r : Row), L[j]? = some r → r.n ≤ 1099511627776) :
    Calls Tryz.prog 72 #[.slice A0 m c0] w fun e w' => e = .returned (.bool true) ∧ Mod (Bks L) w w' := by
  have hml : L.length = m := by simpa using h0.1
  have HL := Lib.hid hml; clear hml
  have H0 := Lib.hid h0; clear h0
  have HAP := Lib.hid (And.intro ha (And.intro hA hn)); clear ha hA hn
  have HLT := Lib.hid hrows.lt
  have HR := Lib.hid hrows; clear hrows
  go_enter Tryz.func72, Tryz.ntmps72
  go_wp2
  go_loopw [3] (fun i wr => ∃ (k : Nat) (Y : Nat → List Value), k ≤ m ∧ i = .int .i64 k ∧ RowsY wr 5 1 L Y ∧ (∀ j, j < k → ∀ r, L[j]? = some r → Y j = mkR EB j r.n) ∧ Mod (Bks L) w wr) (fun i _ => m - (intOf i).toNat)
  case atStart => exact ⟨0, Y, Nat.zero_le _, rfl, HR.out, fun j hj => absurd hj (by omega), Mod.refl _ _⟩
  case round =>
    clear HR
    obtain ⟨k, Y, hk, rfl, hY, hdone, hmd⟩ := hrel
    obtain ⟨wo, rfl⟩ : ∃ wo : World, wo = wr := ⟨_, rfl⟩
    by_cases hlt : k < m
    · have hlt' : (k : Int) < m := by omega
      obtain ⟨g0, off, ⟨rA, rn, rc⟩, rfl, hr, hc0⟩ := rowv_at (H0.out.mod hmd HAP.out.2.1) hlt
      have hrn : rn ≤ 1099511627776 := HAP.out.2.2 k _ hr
      change _ = some (Value.slice rA rn rc) at hc0
      have hg0 : ¬ Bks L g0 := HAP.out.2.1 g0 ⟨_, rfl, rfl⟩
      have HS := Lib.hid (And.intro hr (And.intro hdone (And.intro hrn hg0)))
      have HY := Lib.hid (And.intro hY hmd)
      clear hr hdone hrn hg0 hY hmd
      go_wp2
      go_loopw [4] (fun i wx => ∃ (q : Nat) (Y : Nat → List Value), q ≤ rn ∧ i = .int .i64 q ∧ RowsY wx 5 1 L Y ∧ (∀ j, j < k → ∀ r, L[j]? = some r → Y j = mkR EB j r.n) ∧ (Y k).take q = mkR EB k q ∧ Mod (Bks L) w wx) (fun i _ => rn - (intOf i).toNat)
      case atStart => exact ⟨0, Y, Nat.zero_le _, rfl, HY.out.1, HS.out.2.1, rfl, HY.out.2⟩
      case round =>
        clear HY hc0
        obtain ⟨q, Y, hq, rfl, hY, hdone, htk, hmd⟩ := hrel
        obtain ⟨wx, rfl⟩ : ∃ wx : World, wx = wr := ⟨_, rfl⟩
        obtain ⟨g0', off', r', hA', hr', hc0⟩ := rowv_at (H0.out.mod hmd HAP.out.2.1) hlt
        rw [HS.out.1] at hr'
        injection hr' with hr'
        subst hr'
        injection hA' with hA'
        injection hA' with e1 e2 _
        subst e1; subst e2
        change _ = some (Value.slice rA rn rc) at hc0
        have hown := hY k _ HS.out.1
        change wx.ownsRow 0 5 1 (.slice rA rn rc) rn (Y k) at hown
        have hyl : (Y k).length = rn := by have := hown.1; omega
        have hrn := HS.out.2.2.1
        by_cases hlq : q < rn
        · have hlq' : (q : Int) < rn := by omega
          obtain ⟨g, cap, cur, hv, _, hb, hnc, _, _, _⟩ := own_blk hown (by omega)
          injection hv with hv1 hv2 hv3
          subst hv1; subst hv3
          have hgB : Bks L g := ⟨k, _, HS.out.1, rfl⟩
          have hgg : g0 ≠ g := fun e => HS.out.2.2.2 (e ▸ hgB)
          obtain ⟨u, hu⟩ : ∃ u, (Y k)[q]? = some u := ⟨_, List.getElem?_eq_getElem (show q < (Y k).length by omega)⟩
          have hcell := own_cell hown hu
          have hfz := own_free hown q
          have hownD : wx.drew.ownsRow 0 5 1 (.slice (some ⟨g, 0, none⟩) rn rc) rn (Y k) := hown
          have hset := own_set hownD q (.int .u8 (mb k q))
          have hYD : RowsY wx.drew 5 1 L Y := hY
          have hY' := hYD.set HAP.out.1 HS.out.1 (g := g) rfl (Mod.cellAt wx.drew g q (.int .u8 (mb k q))) hset
          have htk' : ((Y k).set q (.int .u8 (mb k q))).take (q + 1) = mkR EB k (q + 1) := by
            rw [set_take _ _ _ (by omega), htk, mkR_succ]; rfl
          have hmd' : Mod (Bks L) w (wx.drew.setCell ⟨g, q, none⟩ (.int .u8 (mb k q))) := hmd.drew.at_ (Mod.cellAt wx.drew g q (.int .u8 (mb k q))) hgB
          have hcA : (wx.drew.setCell ⟨g, q, none⟩ (.int .u8 (mb k q))).cell? ⟨g0, off + k, none⟩ = some (Value.slice (some ⟨g, 0, none⟩) rn rc) := by
            rw [cell_far (fun e => hgg e.symm)]; exact hc0
          have HE : Hid (∃ Y' : Nat → List Value, RowsY (wx.drew.setCell ⟨g, q, none⟩ (.int .u8 (mb k q))) 5 1 L Y' ∧ (∀ j, j < k → ∀ r, L[j]? = some r → Y' j = mkR EB j r.n) ∧ (Y' k).take (q + 1) = mkR EB k (q + 1) ∧ Mod (Bks L) w (wx.drew.setCell ⟨g, q, none⟩ (.int .u8 (mb k q)))) :=
            Lib.hid ⟨_, hY', fun j hj r hr => by simp only [if_neg (show ¬ j = k by omega)]; exact hdone j hj r hr, by simp only [if_true]; exact htk', hmd'⟩
          have HCA := Lib.hid hcA
          clear hset hY' htk' hmd' hcA hY hYD hownD hdone htk hmd hown hyl hb hu
          go_wp2_with fail
          refine wp_region_planC (fun w' => w'.cell? ⟨g0, off + k, none⟩ = some (Value.slice (some ⟨g, 0, none⟩) rn rc)) [(0, true), (1, true), (2, true), (3, true), (4, true), (5, true), (6, true), (7, false), (8, true), (9, false)] (by kernel_rfl) (by kernel_rfl) hc0 ?_
          iterate 3 (refine pc_pure rfl rfl (fun K hK => ?_); go_simp; refine hK _ ?_; clear hK K)
          refine pc_take _ rfl rfl (fun w' hS => exec_load1 (P := Tryz.prog) 24 _ rfl rfl hS Tryz.underlying24 rfl) (fun K hK => ?_); go_simp; refine hK _ ?_; clear hK K
          iterate 3 (refine pc_pure rfl rfl (fun K hK => ?_); go_simp; refine hK _ ?_; clear hK K)
          refine pc_call rfl rfl (fun K hK => ?_); go_simp; refine ⟨_, _, ⟨rfl, rfl⟩, hK _ _ _ ?_⟩; clear hK K
          refine (markByte_any k q _ (by omega) (by omega) (by omega) (by omega)).mono ?_
          rintro r w9 ⟨rfl, rfl⟩
          refine ⟨_, rfl, hc0, ?_⟩
          iterate 1 (refine pc_pure rfl rfl (fun K hK => ?_); go_simp; refine hK _ ?_; clear hK K)
          refine pc_unit (w1 := wx.drew.setCell ⟨g, q, none⟩ (.int .u8 (mb k q))) rfl rfl (exec_store1 (P := Tryz.prog) 5 _ _ rfl rfl rfl hcell hfz rfl rfl rfl size_b1) HCA.out (fun K hK => ?_); go_simp; refine hK _ ?_; clear hK K
          refine pc_nil ?_
          clear hcell hfz hc0
          go_wp2
          obtain ⟨Y', h1, h2, h3, h4⟩ := HE.out
          exact ⟨⟨q + 1, Y', by omega, by go_num, h1, h2, h3, h4⟩, by simp [intOf]; omega⟩
        · have hlq' : ¬ (q : Int) < rn := by omega
          have hqe : q = rn := by omega
          subst hqe
          rw [List.take_of_length_le (by omega)] at htk
          have HE := Lib.hid (show ∀ j, j < k + 1 → ∀ r, L[j]? = some r → Y j = mkR EB j r.n from fun j hj r hr => by
            by_cases hjk : j = k
            · subst hjk
              rw [HS.out.1] at hr; injection hr with hr; subst hr
              exact htk
            · exact hdone j (by omega) r hr)
          have HY := Lib.hid (And.intro hY hmd)
          clear htk hdone hY hmd hown hyl
          go_wp2
          exact ⟨⟨k + 1, Y, by omega, by go_num, HY.out.1, HE.out, HY.out.2⟩, by simp [intOf]; omega⟩
    · have hlt' : ¬ (k : Int) < m := by omega
      have hkm : k = m := by omega
      subst hkm
      have hM : RowsM wo 5 1 L EB := hY.done (fun j hj r hr => hdone j (by rw [HL.out] at hj; omega) r hr)
      have HM := Lib.hid (And.intro hM hmd)
      have HL0 := Lib.hid (show ∀ g, Bks L g → g < w.heap.size from fun g hg => by
        obtain ⟨j, r, hr, hg⟩ := hg
        exact HLT.out g ⟨j, r, hr, hg⟩)
      clear hM hmd hY hdone
      go_wp2_with (first
        | (with_reducible change wpList _ _ _ (⟨some 42, _, _, _, _, _⟩ :: _) _ _
           go_must (refine wpList_make1 60 _ _ rfl rfl 24 (.slice none 0 0) 24 Tryz.underlying60 info_sl8 rfl (k : Int) (k : Int) k k rfl rfl rfl rfl (by omega) (by omega) (by omega) ?_)
           intro w1 b1 m1 z1
           rw [rows_nil] at b1
           have B1 := Lib.hid (And.intro b1 m1)
           clear b1 m1 z1))
      generalize hGw : wo.heap.size = G at *
      have HG := Lib.hid (show w.heap.size ≤ G from by have := HM.out.2.size; omega)
      clear hGw hlt hlt'
      go_loopw [6] (fun i wr => ∃ (j : Nat) (H : List Row), j ≤ k ∧ i = .int .i64 j ∧ H.length = k ∧ Blk wr G 24 (H.map Row.v).toArray ∧ RowsM wr 5 1 L EB ∧ GRows wr 5 1 L H Zm G j ∧ Mod (Bks L) w wr) (fun i _ => k - (intOf i).toNat)
      case atStart => exact ⟨0, _, Nat.zero_le _, rfl, List.length_replicate, B1.out.1, HM.out.1.mod B1.out.2 (fun _ _ f => f), GRows.zero, HM.out.2.nn_ B1.out.2⟩
      case round =>
        clear B1 HM
        obtain ⟨j, H, hj, rfl, hHl, hBG, hM, hGR, hmd⟩ := hrel
        obtain ⟨wa, rfl⟩ : ∃ wa : World, wa = wr := ⟨_, rfl⟩
        by_cases hlt : j < k
        · have hlt' : (j : Int) < k := by omega
          obtain ⟨g0, off, ⟨rA, rn, rc⟩, rfl, hr, hc0⟩ := rowv_at (H0.out.mod hmd HAP.out.2.1) hlt
          have hrn : rn ≤ 1099511627776 := HAP.out.2.2 j _ hr
          change _ = some (Value.slice rA rn rc) at hc0
          have hHB := hGR.blk_lt (by rw [HL.out]; omega)
          have hGb := hBG.lt
          generalize hhb : wa.heap.size = hb at *
          have HS := Lib.hid (And.intro hr (And.intro hHl (And.intro hHB (And.intro hGb hhb))))
          have HY := Lib.hid (And.intro (Grow.start hM EB_len hGR hmd hr hb) hBG)
          clear hr hHl hHB hGb hhb hBG hM hGR hmd
          go_wp2
          go_loopw [7, 8] (fun v i wx => ∃ q : Nat, q ≤ 64 ∧ i = .int .i64 q ∧ Grow w wx 5 1 L H EB Zm G hb j ⟨rA, rn, rc⟩ v (rn + q) (mkR EB j (rn + q)) ∧ Blk wx G 24 (H.map Row.v).toArray ∧ hb ≤ wx.heap.size) (fun _ i _ => 64 - (intOf i).toNat)
          case atStart => exact ⟨0, Nat.zero_le _, rfl, HY.out.1, HY.out.2, by rw [HS.out.2.2.2.2]; exact Nat.le_refl _⟩
          case round =>
            clear HY hc0
            obtain ⟨q, hq, rfl, hgw, hBG, hbx⟩ := hrel
            obtain ⟨wx, rfl⟩ : ∃ wx : World, wx = wr := ⟨_, rfl⟩
            by_cases hlq : q < 64
            · have hlq' : (q : Int) < 64 := by omega
              obtain ⟨g0', off', r', hA', hr', hc0⟩ := rowv_at (H0.out.mod hgw.md HAP.out.2.1) hlt
              rw [HS.out.1] at hr'
              injection hr' with hr'
              subst hr'
              injection hA' with hA'
              injection hA' with e1 e2 _
              subst e1; subst e2
              change _ = some (Value.slice rA rn rc) at hc0
              have HW := Lib.hid (And.intro hgw (And.intro hBG hbx))
              clear hgw hBG hbx
              go_wp2_with fail
              refine (markByte_any j (rn + q) _ (by omega) (by omega) (by omega) (by omega)).mono ?_
              rintro r w9 ⟨rfl, rfl⟩
              have HZ := Lib.hid (show EB j (rn + q) = [.int .u8 (mb j (rn + q))] from by unfold EB; rw [Int.natCast_add])
              generalize mb (j : Int) ((rn : Int) + q) = z at *
              clear hc0
              go_wp2_with (first
                | (with_reducible change wpList _ _ _ (⟨some 68, _, _, _, _, _⟩ :: _) _ _
                   go_must (refine wpList_append_two 24 _ _ rfl rfl 0 5 (.int .u8 0) 1 1 Tryz.underlying24 info_u8 rfl (by omega) _ (rn + q) _ rfl (own_mod HW.out.1.hv ((Mod.refl Nn _).alloc _) (fun _ _ f => f)) _ 1 1 ([z].map (Value.int .u8)) rfl (Rd.of_blk0 (Blk.new _ _ _) rfl).toC (by omega) (ints_oneCell _ _) (by omega) (by omega) (Nat.zero_le _) ?_)
                   intro v' w4 own4 two4))
              have own4 : w4.ownsRow 0 5 1 v' (rn + q + 1) (mkR EB j (rn + q) ++ EB j (rn + q)) := by rw [HZ.out]; exact own4
              have hst := (HW.out.1.mod ((Mod.refl Nn _).alloc _)).step (by omega) HAP.out.1 HS.out.1 HL0.out HG.out HS.out.2.2.2.1 (by have := HW.out.2.2; simp; omega) HS.out.2.2.1 (by rw [HL.out]; omega) own4 two4
              have hB4 : Blk w4 G 24 (H.map Row.v).toArray := (hst.2 G (Nat.le_refl _) (fun h => by have := HL0.out G h; have := HG.out; omega) (HW.out.2.1.alloc _).lt).trans (HW.out.2.1.alloc _)
              have hb4 : hb ≤ w4.heap.size := by
                have h1 := two4.mod.size
                have h2 := HW.out.2.2
                simp at h1; omega
              have HE := Lib.hid (And.intro hst.1 (And.intro hB4 hb4))
              rw [← mkR_succ, Nat.add_assoc] at HE
              clear own4 two4 hst hB4 hb4
              go_wp2
              exact ⟨⟨q + 1, by omega, by go_num, HE.out⟩, by simp [intOf]; omega⟩
            · have hlq' : ¬ (q : Int) < 64 := by omega
              have hqe : q = 64 := by omega
              subst hqe
              obtain ⟨vA, vc, rfl, hvc, -⟩ := own_form hgw.hv
              have hHk : j < H.length := by rw [HS.out.2.1]; exact hlt
              have hcG : wx.cell? ⟨G, j, none⟩ = some (H[j].v) := by
                rw [hBG.cell j, List.getElem?_toArray, List.getElem?_map, List.getElem?_eq_getElem hHk]; rfl
              have hfG := hBG.frozen j
              have HE := Lib.hid (hgw.put rfl rfl hBG HS.out.1 HS.out.2.1 hlt HS.out.2.2.2.1 HG.out HL0.out)
              generalize H[j].v = ov at *
              clear hgw hBG
              go_wp2
              exact ⟨⟨j + 1, _, by omega, by go_num, HE.out⟩, by simp [intOf]; omega⟩
        · have hlt' : ¬ (j : Int) < k := by omega
          have hjk : j = k := by omega
          subst hjk
          have HW := Lib.hid (And.intro hBG (And.intro hM (And.intro hGR (And.intro hmd hHl))))
          clear hBG hM hGR hmd hHl hlt hlt'
          go_wp2
          go_loopw [9] (fun i wr => ∃ k : Nat, k ≤ j ∧ i = .int .i64 k ∧ Mod Nn wa wr) (fun i _ => j - (intOf i).toNat)
          case atStart => exact ⟨0, Nat.zero_le _, rfl, Mod.refl _ _⟩
          case round =>
            obtain ⟨k, hk, rfl, hmk⟩ := hrel
            obtain ⟨wo, rfl⟩ : ∃ wo : World, wo = wr := ⟨_, rfl⟩
            by_cases hlt : k < j
            · have hlt' : (k : Int) < j := by omega
              obtain ⟨g0, off, ⟨rA, rn, rc⟩, rfl, hr, hc0⟩ := rowv_at (H0.out.mod (HW.out.2.2.2.1.nn_ hmk) HAP.out.2.1) hlt
              have hrn : rn ≤ 1099511627776 := HAP.out.2.2 k _ hr
              obtain ⟨⟨qA, qn, qc⟩, hq⟩ : ∃ q, H[k]? = some q := ⟨_, List.getElem?_eq_getElem (by rw [HW.out.2.2.2.2]; exact hlt)⟩
              obtain ⟨hqn, hqo, -⟩ := HW.out.2.2.1 k hlt _ _ hr hq
              have hqn : qn = rn + 64 := hqn
              subst hqn
              have hqo : wa.ownsRow 0 5 1 (.slice qA (rn + 64) qc) (rn + 64) (mkR EB k (rn + 64)) := hqo
              have hro : wa.ownsRow 0 5 1 (.slice rA rn rc) rn (mkR EB k rn) := HW.out.2.1 k _ hr
              have HS := Lib.hid (And.intro hr (And.intro hq (And.intro hqo hro)))
              clear hr hc0 hqo hro
              go_wp2
              go_loopw [10] (fun i wr => ∃ q : Nat, q ≤ rn + 64 ∧ i = .int .i64 q ∧ Mod Nn wa wr) (fun i _ => rn + 64 - (intOf i).toNat)
              case atStart => exact ⟨0, Nat.zero_le _, rfl, hmk⟩
              case round =>
                clear hmk
                obtain ⟨q, hqle, rfl, hmk⟩ := hrel
                obtain ⟨wx, rfl⟩ : ∃ wx : World, wx = wr := ⟨_, rfl⟩
                have hcG : wx.cell? ⟨G, k, none⟩ = some (.slice qA (rn + 64) qc) := by
                  rw [(HW.out.1.mod hmk (fun f => f)).cell k, List.getElem?_toArray, List.getElem?_map, HS.out.2.1]; rfl
                by_cases hlq : q < rn + 64
                · have hlq' : (q : Int) < (rn : Int) + 64 := by omega
                  obtain ⟨z, hz⟩ : ∃ z, mb k q = z := ⟨_, rfl⟩
                  obtain ⟨g, cap, cur, hv, _, hb, hnc, _, _, _⟩ := own_blk HS.out.2.2.1 (by omega)
                  injection hv with hv1 _ hv3
                  subst hv1; subst hv3
                  have hcz : wx.cell? ⟨g, q, none⟩ = some (.int .u8 z) := own_cell (own_mod HS.out.2.2.1 hmk (fun _ _ f => f)) (by rw [← hz]; exact mkB_at k hlq)
                  obtain ⟨g0', off', r', hA', hr', hc0⟩ := rowv_at (H0.out.mod (HW.out.2.2.2.1.nn_ hmk) HAP.out.2.1) hlt
                  rw [HS.out.1] at hr'
                  injection hr' with hr'
                  subst hr'
                  injection hA' with hA'
                  injection hA' with e1 e2 _
                  subst e1; subst e2
                  change _ = some (Value.slice rA rn rc) at hc0
                  have HZ := Lib.hid hz
                  have HM' := Lib.hid hmk
                  clear hz hb hmk hq
                  by_cases hqr : q < rn
                  · have hqr' : (q : Int) < rn := by omega
                    obtain ⟨gl, capl, curl, hvl, _, hbl, hncl, _, _, _⟩ := own_blk HS.out.2.2.2 (by omega)
                    injection hvl with hvl1 _ hvl3
                    subst hvl1; subst hvl3
                    have hcl : wx.cell? ⟨gl, q, none⟩ = some (.int .u8 z) := own_cell (own_mod HS.out.2.2.2 HM'.out (fun _ _ f => f)) (by rw [← HZ.out]; exact mkB_at k hqr)
                    clear hbl
                    go_wp2_with fail
                    refine wp_region_planC (fun w' => w'.cell? ⟨G, k, none⟩ = some (.slice (some ⟨g, 0, none⟩) (rn + 64) qc) ∧ w'.cell? ⟨g, q, none⟩ = some (.int .u8 z) ∧ w'.cell? ⟨g0, off + k, none⟩ = some (Value.slice (some ⟨gl, 0, none⟩) rn rc) ∧ w'.cell? ⟨gl, q, none⟩ = some (.int .u8 z)) [(0, true), (1, true), (2, true), (3, true), (4, true), (5, true), (6, true), (7, true), (8, true), (9, false), (10, true), (11, true), (12, true), (13, true), (14, true), (15, true), (16, true), (17, true), (18, true), (19, true), (20, true), (21, true), (22, true), (23, true), (24, true), (25, true), (26, true), (27, true), (28, true), (29, true), (30, false), (31, true), (32, true), (33, true), (34, true)] (by kernel_rfl) (by kernel_rfl) ⟨hcG, hcz, hc0, hcl⟩ ?_
                    iterate 3 (refine pc_pure rfl rfl (fun K hK => ?_); go_simp; refine hK _ ?_; clear hK K)
                    refine pc_take _ rfl rfl (fun w' hS => exec_load1 (P := Tryz.prog) 24 _ rfl rfl hS.1 Tryz.underlying24 rfl) (fun K hK => ?_); go_simp; refine hK _ ?_; clear hK K
                    iterate 2 (refine pc_pure rfl rfl (fun K hK => ?_); go_simp; refine hK _ ?_; clear hK K)
                    refine pc_take _ rfl rfl (fun w' hS => exec_load1 (P := Tryz.prog) 5 _ rfl rfl hS.2.1 Tryz.underlying5 rfl) (fun K hK => ?_); go_simp; refine hK _ ?_; clear hK K
                    iterate 2 (refine pc_pure rfl rfl (fun K hK => ?_); go_simp; refine hK _ ?_; clear hK K)
                    refine pc_call rfl rfl (fun K hK => ?_); go_simp; refine ⟨_, _, ⟨rfl, rfl⟩, hK _ _ _ ?_⟩; clear hK K
                    refine (markByte_any k q _ (by omega) (by omega) (by omega) (by omega)).mono ?_
                    rintro r w9 ⟨rfl, rfl⟩
                    rw [HZ.out]
                    refine ⟨_, rfl, ⟨hcG, hcz, hc0, hcl⟩, ?_⟩
                    iterate 7 (refine pc_pure rfl rfl (fun K hK => ?_); go_simp; refine hK _ ?_; clear hK K)
                    refine pc_take _ rfl rfl (fun w' hS => exec_load1 (P := Tryz.prog) 24 _ rfl rfl hS.2.2.1 Tryz.underlying24 rfl) (fun K hK => ?_); go_simp; refine hK _ ?_; clear hK K
                    iterate 6 (refine pc_pure rfl rfl (fun K hK => ?_); go_simp; refine hK _ ?_; clear hK K)
                    refine pc_take _ rfl rfl (fun w' hS => exec_load1 (P := Tryz.prog) 24 _ rfl rfl hS.2.2.1 Tryz.underlying24 rfl) (fun K hK => ?_); go_simp; refine hK _ ?_; clear hK K
                    iterate 2 (refine pc_pure rfl rfl (fun K hK => ?_); go_simp; refine hK _ ?_; clear hK K)
                    refine pc_take _ rfl rfl (fun w' hS => exec_load1 (P := Tryz.prog) 5 _ rfl rfl hS.2.2.2 Tryz.underlying5 rfl) (fun K hK => ?_); go_simp; refine hK _ ?_; clear hK K
                    iterate 2 (refine pc_pure rfl rfl (fun K hK => ?_); go_simp; refine hK _ ?_; clear hK K)
                    refine pc_call rfl rfl (fun K hK => ?_); go_simp; refine ⟨_, _, ⟨rfl, rfl⟩, hK _ _ _ ?_⟩; clear hK K
                    refine (markByte_any k q _ (by omega) (by omega) (by omega) (by omega)).mono ?_
                    rintro r w9 ⟨rfl, rfl⟩
                    rw [HZ.out]
                    refine ⟨_, rfl, ⟨hcG, hcz, hc0, hcl⟩, ?_⟩
                    iterate 4 (refine pc_pure rfl rfl (fun K hK => ?_); go_simp; refine hK _ ?_; clear hK K)
                    refine pc_nil ?_
                    go_wp2
                    exact ⟨⟨q + 1, by omega, by go_num, HM'.out.drew⟩, by simp [intOf]; omega⟩
                  · have hqr' : ¬ (q : Int) < rn := by omega
                    have hd : decide ((q : Int) < (rn : Int)) = false := by simpa using hqr
                    go_wp2_with fail
                    refine wp_region_planC (fun w' => w'.cell? ⟨G, k, none⟩ = some (.slice (some ⟨g, 0, none⟩) (rn + 64) qc) ∧ w'.cell? ⟨g, q, none⟩ = some (.int .u8 z) ∧ w'.cell? ⟨g0, off + k, none⟩ = some (Value.slice rA rn rc)) [(0, true), (1, true), (2, true), (3, true), (4, true), (5, true), (6, true), (7, true), (8, true), (9, false), (10, true), (11, true), (12, true), (13, true), (14, true), (15, true), (16, true), (17, true), (18, true), (19, true), (20, true), (21, true), (22, true), (23, true), (24, true), (25, true), (26, true), (27, true), (28, true), (29, true), (30, true), (31, true), (32, true), (33, true), (34, true)] (by kernel_rfl) (by kernel_rfl) ⟨hcG, hcz, hc0⟩ ?_
                    iterate 3 (refine pc_pure rfl rfl (fun K hK => ?_); go_simp; refine hK _ ?_; clear hK K)
                    refine pc_take _ rfl rfl (fun w' hS => exec_load1 (P := Tryz.prog) 24 _ rfl rfl hS.1 Tryz.underlying24 rfl) (fun K hK => ?_); go_simp; refine hK _ ?_; clear hK K
                    iterate 2 (refine pc_pure rfl rfl (fun K hK => ?_); go_simp; refine hK _ ?_; clear hK K)
                    refine pc_take _ rfl rfl (fun w' hS => exec_load1 (P := Tryz.prog) 5 _ rfl rfl hS.2.1 Tryz.underlying5 rfl) (fun K hK => ?_); go_simp; refine hK _ ?_; clear hK K
                    iterate 2 (refine pc_pure rfl rfl (fun K hK => ?_); go_simp; refine hK _ ?_; clear hK K)
                    refine pc_call rfl rfl (fun K hK => ?_); go_simp; refine ⟨_, _, ⟨rfl, rfl⟩, hK _ _ _ ?_⟩; clear hK K
                    refine (markByte_any k q _ (by omega) (by omega) (by omega) (by omega)).mono ?_
                    rintro r w9 ⟨rfl, rfl⟩
                    rw [HZ.out]
                    refine ⟨_, rfl, ⟨hcG, hcz, hc0⟩, ?_⟩
                    iterate 7 (refine pc_pure rfl rfl (fun K hK => ?_); go_simp; refine hK _ ?_; clear hK K)
                    refine pc_take _ rfl rfl (fun w' hS => exec_load1 (P := Tryz.prog) 24 _ rfl rfl hS.2.2 Tryz.underlying24 rfl) (fun K hK => ?_); go_simp; refine hK _ ?_; clear hK K
                    iterate 3 (refine pc_pure rfl rfl (fun K hK => ?_); go_simp; refine hK _ ?_; clear hK K)
                    iterate 12 (refine pc_skip rfl rfl (fun K hK => ?_); go_simp; refine hK _ ?_; clear hK K)
                    iterate 2 (refine pc_pure rfl rfl (fun K hK => ?_); go_simp; refine hK _ ?_; clear hK K)
                    refine pc_nil ?_
                    go_wp2
                    exact ⟨⟨q + 1, by omega, by go_num, HM'.out.drew⟩, by simp [intOf]; omega⟩
                · have hlq' : ¬ (q : Int) < (rn : Int) + 64 := by omega
                  go_wp2
                  exact ⟨⟨k + 1, by omega, by go_num, hmk⟩, by simp [intOf]; omega⟩
            · have hlt' : ¬ (k : Int) < j := by omega
              have hkj : k = j := by omega
              subst hkj
              have HX := Lib.hid (And.intro (HW.out.1.mod hmk (fun f => f)) (And.intro (HW.out.2.1.mod hmk (fun _ _ f => f)) (And.intro (HW.out.2.2.2.1.nn_ hmk) HW.out.2.2.2.2)))
              clear hlt hlt' hmk HW
              go_wp2
              go_loopw [11] (fun i wr => ∃ (j : Nat) (H : List Row), j ≤ k ∧ i = .int .i64 j ∧ H.length = k ∧ Blk wr G 24 (H.map Row.v).toArray ∧ RowsM wr 5 1 L EB ∧ GRows wr 5 1 L H (Zn k) G j ∧ Mod (Bks L) w wr) (fun i _ => k - (intOf i).toNat)
              case atStart => exact ⟨0, _, Nat.zero_le _, rfl, HX.out.2.2.2, HX.out.1, HX.out.2.1, GRows.zero, HX.out.2.2.1⟩
              case round =>
                clear HX
                obtain ⟨j, H, hj, rfl, hHl, hBG, hM, hGR, hmd⟩ := hrel
                obtain ⟨wa, rfl⟩ : ∃ wa : World, wa = wr := ⟨_, rfl⟩
                by_cases hlt : j < k
                · have hlt' : (j : Int) < k := by omega
                  have HW := Lib.hid (And.intro hBG (And.intro hM (And.intro hGR (And.intro hmd hHl))))
                  clear hBG hM hGR hmd hHl
                  go_wp2_with (first
                    | (with_reducible change wpList _ _ _ (⟨some 129, _, _, _, _, _⟩ :: _) _ _
                       go_must (refine wpList_make1 24 _ _ rfl rfl 5 (.int .u8 0) 1 Tryz.underlying24 info_u8 rfl 64 64 64 64 rfl rfl rfl rfl (by omega) (by omega) (by omega) ?_)
                       intro w1 b1 m1 z1
                       have B1 := Lib.hid (And.intro b1 (And.intro m1 z1))
                       clear b1 m1 z1))
                  generalize hBe : wa.heap.size = B at *
                  have HB := Lib.hid (show G < B ∧ (∀ g, Bks L g → g ≠ B) from ⟨by have := HW.out.1.lt; omega, fun g hg e => by have := HW.out.2.1.lt g hg; omega⟩)
                  have HHB := Lib.hid (show ∀ j', j' < j → ∀ q, H[j']? = some q → ∀ g, q.v.ownBlock = some g → g < B from by
                    rw [← hBe]; exact HW.out.2.2.1.blk_lt (by rw [HL.out]; omega))
                  have HP := Lib.hid (And.intro (HW.out.1.mod B1.out.2.1 (fun f => f)) (And.intro (HW.out.2.1.mod B1.out.2.1 (fun _ _ f => f)) (And.intro (HW.out.2.2.1.mod B1.out.2.1 (fun _ _ _ f => f)) (And.intro (HW.out.2.2.2.1.nn_ B1.out.2.1) HW.out.2.2.2.2))))
                  have HB1 := Lib.hid B1.out.1
                  clear B1 HW hBe
                  go_loopw [13] (fun i wx => ∃ q : Nat, q ≤ 64 ∧ i = .int .i64 q ∧ Blk wx B 5 (mkR EB (j + k) q ++ List.replicate (64 - q) (Value.int .u8 0)).toArray ∧ Mod (At B) w1 wx) (fun i _ => 64 - (intOf i).toNat)
                  case atStart => exact ⟨0, Nat.zero_le _, rfl, HB1.out, Mod.refl _ _⟩
                  case round =>
                    clear HB1
                    obtain ⟨q, hq, rfl, hb, hmb⟩ := hrel
                    obtain ⟨wx, rfl⟩ : ∃ wx : World, wx = wr := ⟨_, rfl⟩
                    by_cases hlq : q < 64
                    · have hlq' : (q : Int) < 64 := by omega
                      have hcell : wx.cell? ⟨B, q, none⟩ = some (.int .u8 0) := by
                        rw [hb.cell q, List.getElem?_toArray, List.getElem?_append_right (by rw [mkB_len]; omega), mkB_len, Nat.sub_self, List.getElem?_replicate, if_pos (by omega)]
                      have hfz := hb.frozen q
                      have hset := hb.set_ q (.int .u8 (mb ((j : Int) + k) q))
                      have he : (mkR EB (j + k) q ++ List.replicate (64 - q) (Value.int .u8 0)).set q (.int .u8 (mb ((j : Int) + k) q)) = mkR EB (j + k) (q + 1) ++ List.replicate (64 - (q + 1)) (Value.int .u8 0) := by
                        have := pad_set (mkR EB (j + k) q) (64 - q) (Value.int .u8 0) (.int .u8 (mb ((j : Int) + k) q)) (by omega)
                        rw [mkB_len] at this
                        rw [this, mkR_succ, show 64 - q - 1 = 64 - (q + 1) from by omega]
                        unfold EB
                        rw [Int.natCast_add]
                      rw [List.setIfInBounds_toArray, he] at hset
                      have HE := Lib.hid (And.intro hset (hmb.trans (Mod.cellAt wx B q (.int .u8 (mb ((j : Int) + k) q)))))
                      clear hset he hb hmb
                      go_wp2_with fail
                      refine (markByte_any ((j : Int) + k) q _ (by omega) (by omega) (by omega) (by omega)).mono ?_
                      rintro r w9 ⟨rfl, rfl⟩
                      generalize mb ((j : Int) + k) q = z at *
                      go_wp2
                      exact ⟨⟨q + 1, by omega, by go_num, HE.out⟩, by simp [intOf]; omega⟩
                    · have hlq' : ¬ (q : Int) < 64 := by omega
                      have hqe : q = 64 := by omega
                      subst hqe
                      have hb' : Blk wx B 5 (mkR EB (j + k) 64).toArray := by simpa using hb
                      have hBG := HP.out.1.mod hmb (fun e => by have e : G = B := e; have := HB.out.1; omega)
                      have hM := HP.out.2.1.mod hmb (fun g hg e => HB.out.2 g hg e)
                      have hGR : GRows wx 5 1 L H (Zn k) G j := fun j' hj' r q hr hq => by
                        obtain ⟨h1, h2, h3⟩ := HP.out.2.2.1 j' hj' r q hr hq
                        exact ⟨h1, own_mod h2 hmb (fun g hg e => by have e : g = B := e; have := HHB.out j' hj' q hq g hg; omega), h3⟩
                      have hBw : w.heap.size ≤ B := by have := HG.out; have := HB.out.1; omega
                      have hmd : Mod (Bks L) w wx := HP.out.2.2.2.1.new_ hmb hBw
                      obtain ⟨g0, off, ⟨rA, rn, rc⟩, rfl, hr, hc0⟩ := rowv_at (H0.out.mod hmd HAP.out.2.1) hlt
                      have hrn : rn ≤ 1099511627776 := HAP.out.2.2 j _ hr
                      change _ = some (Value.slice rA rn rc) at hc0
                      have hHk : j < H.length := by rw [HP.out.2.2.2.2]; exact hlt
                      have hgw := Grow.start hM EB_len hGR hmd hr wx.heap.size
                      have hsrc : RdC wx (some ⟨B, 0, none⟩) 64 1 (mkR EB (j + k) 64) := RdC.of_blk hb' (mkB_len _ _)
                      have hone : ∀ u ∈ mkR EB (j + k) 64, u.oneCell' = true := fun u hu => by
                        unfold mkR flat EB at hu
                        simp only [List.mem_flatMap, List.mem_singleton] at hu
                        obtain ⟨_, _, rfl⟩ := hu
                        rfl
                      have HS := Lib.hid (And.intro hgw (And.intro hBG (And.intro hr (And.intro hHk (And.intro hsrc hone)))))
                      have HHx := Lib.hid (hGR.blk_lt (by rw [HL.out]; omega))
                      clear hb hb' hBG hM hGR hmd hr hHk hgw hsrc hone hmb
                      go_wp2_with (first
                        | (with_reducible change wpList _ _ _ (⟨some 150, _, _, _, _, _⟩ :: _) _ _
                           go_must (refine wpList_append_two 24 _ _ rfl rfl 0 5 (.int .u8 0) 1 1 Tryz.underlying24 info_u8 rfl (by omega) _ rn _ rfl HS.out.1.hv _ 64 64 _ rfl HS.out.2.2.2.2.1 (by omega) HS.out.2.2.2.2.2 (by omega) (by omega) (Nat.zero_le _) ?_)
                           intro v' w4 own4 two4
                           have hst := HS.out.1.step (by omega) HAP.out.1 HS.out.2.2.1 HL0.out HG.out HS.out.2.1.lt (Nat.le_refl _) HHx.out (by rw [HL.out]; omega) own4 two4
                           have hB4 : Blk w4 G 24 (H.map Row.v).toArray := (hst.2 G (Nat.le_refl _) (fun h => by have := HL0.out G h; have := HG.out; omega) HS.out.2.1.lt).trans HS.out.2.1
                           obtain ⟨vA, vc, rfl, hvc, -⟩ := own_form hst.1.hv
                           have hcG : w4.cell? ⟨G, j, none⟩ = some (H[j]'HS.out.2.2.2.1).v := by
                             rw [hB4.cell j, List.getElem?_toArray, List.getElem?_map, List.getElem?_eq_getElem HS.out.2.2.2.1]; rfl
                           have hfG := hB4.frozen j
                           have HE := Lib.hid (hst.1.put rfl rfl hB4 HS.out.2.2.1 HP.out.2.2.2.2 hlt HS.out.2.1.lt HG.out HL0.out)
                           generalize (H[j]'HS.out.2.2.2.1).v = ov at *
                           clear own4 two4 hst hB4))
                      exact ⟨⟨j + 1, _, by omega, by go_num, HE.out⟩, by simp [intOf]; omega⟩
                · have hlt' : ¬ (j : Int) < k := by omega
                  have hjk : j = k := by omega
                  subst hjk
                  have HW := Lib.hid (And.intro hBG (And.intro hM (And.intro hGR (And.intro hmd hHl))))
                  clear hBG hM hGR hmd hHl hlt hlt'
                  go_wp2
                  go_loopw [14] (fun i wr => ∃ k : Nat, k ≤ j ∧ i = .int .i64 k ∧ Mod Nn wa wr) (fun i _ => j - (intOf i).toNat)
                  case atStart => exact ⟨0, Nat.zero_le _, rfl, Mod.refl _ _⟩
                  case round =>
                    obtain ⟨k, hk, rfl, hmk⟩ := hrel
                    obtain ⟨wo, rfl⟩ : ∃ wo : World, wo = wr := ⟨_, rfl⟩
                    by_cases hlt : k < j
                    · have hlt' : (k : Int) < j := by omega
                      obtain ⟨g0, off, ⟨rA, rn, rc⟩, rfl, hr, hc0⟩ := rowv_at (H0.out.mod (HW.out.2.2.2.1.nn_ hmk) HAP.out.2.1) hlt
                      have hrn : rn ≤ 1099511627776 := HAP.out.2.2 k _ hr
                      obtain ⟨⟨qA, qn, qc⟩, hq⟩ : ∃ q, H[k]? = some q := ⟨_, List.getElem?_eq_getElem (by rw [HW.out.2.2.2.2]; exact hlt)⟩
                      obtain ⟨hqn, hqo, -⟩ := HW.out.2.2.1 k hlt _ _ hr hq
                      have hqn : qn = rn + 64 := hqn
                      subst hqn
                      have hqo : wa.ownsRow 0 5 1 (.slice qA (rn + 64) qc) (rn + 64) (Zn j k rn) := hqo
                      have hro : wa.ownsRow 0 5 1 (.slice rA rn rc) rn (mkR EB k rn) := HW.out.2.1 k _ hr
                      have HS := Lib.hid (And.intro hr (And.intro hq (And.intro hqo hro)))
                      clear hr hqo hro
                      change _ = some (Value.slice rA rn rc) at hc0
                      go_wp2
                      go_loopw [15] (fun i wr => ∃ q : Nat, q ≤ rn ∧ i = .int .i64 q ∧ Mod Nn wa wr) (fun i _ => rn - (intOf i).toNat)
                      case atStart => exact ⟨0, Nat.zero_le _, rfl, hmk⟩
                      case round =>
                        clear hmk hc0
                        obtain ⟨q, hqle, rfl, hmk⟩ := hrel
                        obtain ⟨wx, rfl⟩ : ∃ wx : World, wx = wr := ⟨_, rfl⟩
                        obtain ⟨g0', off', r', hA', hr', hc0⟩ := rowv_at (H0.out.mod (HW.out.2.2.2.1.nn_ hmk) HAP.out.2.1) hlt
                        rw [HS.out.1] at hr'
                        injection hr' with hr'
                        subst hr'
                        injection hA' with hA'
                        injection hA' with e1 e2 _
                        subst e1; subst e2
                        change _ = some (Value.slice rA rn rc) at hc0
                        by_cases hlq : q < rn
                        · have hlq' : (q : Int) < rn := by omega
                          have hlq2 : (q : Int) < (rn : Int) + 64 := by omega
                          have hcG : wx.cell? ⟨G, k, none⟩ = some (.slice qA (rn + 64) qc) := by
                            rw [(HW.out.1.mod hmk (fun f => f)).cell k, List.getElem?_toArray, List.getElem?_map, HS.out.2.1]; rfl
                          obtain ⟨z, hz⟩ : ∃ z, mb k q = z := ⟨_, rfl⟩
                          obtain ⟨g, cap, cur, hv, _, hb, hnc, _, _, _⟩ := own_blk HS.out.2.2.1 (by omega)
                          injection hv with hv1 _ hv3
                          subst hv1; subst hv3
                          obtain ⟨gl, capl, curl, hvl, _, hbl, hncl, _, _, _⟩ := own_blk HS.out.2.2.2 (by omega)
                          injection hvl with hvl1 _ hvl3
                          subst hvl1; subst hvl3
                          have hcz : wx.cell? ⟨g, q, none⟩ = some (.int .u8 z) := own_cell (own_mod HS.out.2.2.1 hmk (fun _ _ f => f)) (by
                            rw [← hz]; unfold Zn; rw [List.getElem?_append_left (by rw [mkB_len]; exact hlq)]; exact mkB_at k hlq)
                          have hcl : wx.cell? ⟨gl, q, none⟩ = some (.int .u8 z) := own_cell (own_mod HS.out.2.2.2 hmk (fun _ _ f => f)) (by rw [← hz]; exact mkB_at k hlq)
                          have HZ := Lib.hid hz
                          have HM' := Lib.hid hmk
                          clear hz hb hmk hq hbl
                          go_wp2_with fail
                          refine wp_region_planC (fun w' => w'.cell? ⟨G, k, none⟩ = some (.slice (some ⟨g, 0, none⟩) (rn + 64) qc) ∧ w'.cell? ⟨g, q, none⟩ = some (.int .u8 z) ∧ w'.cell? ⟨g0, off + k, none⟩ = some (Value.slice (some ⟨gl, 0, none⟩) rn rc) ∧ w'.cell? ⟨gl, q, none⟩ = some (.int .u8 z)) [(0, true), (1, true), (2, true), (3, true), (4, true), (5, true), (6, true), (7, true), (8, true), (9, false), (10, true), (11, true), (12, true), (13, true), (14, true), (15, true), (16, true), (17, true), (18, true), (19, true), (20, true), (21, true), (22, false), (23, true), (24, true), (25, true)] (by kernel_rfl) (by kernel_rfl) ⟨hcG, hcz, hc0, hcl⟩ ?_
                          iterate 3 (refine pc_pure rfl rfl (fun K hK => ?_); go_simp; refine hK _ ?_; clear hK K)
                          refine pc_take _ rfl rfl (fun w' hS => exec_load1 (P := Tryz.prog) 24 _ rfl rfl hS.2.2.1 Tryz.underlying24 rfl) (fun K hK => ?_); go_simp; refine hK _ ?_; clear hK K
                          iterate 2 (refine pc_pure rfl rfl (fun K hK => ?_); go_simp; refine hK _ ?_; clear hK K)
                          refine pc_take _ rfl rfl (fun w' hS => exec_load1 (P := Tryz.prog) 5 _ rfl rfl hS.2.2.2 Tryz.underlying5 rfl) (fun K hK => ?_); go_simp; refine hK _ ?_; clear hK K
                          iterate 2 (refine pc_pure rfl rfl (fun K hK => ?_); go_simp; refine hK _ ?_; clear hK K)
                          refine pc_call rfl rfl (fun K hK => ?_); go_simp; refine ⟨_, _, ⟨rfl, rfl⟩, hK _ _ _ ?_⟩; clear hK K
                          refine (markByte_any k q _ (by omega) (by omega) (by omega) (by omega)).mono ?_
                          rintro r w9 ⟨rfl, rfl⟩
                          rw [HZ.out]
                          refine ⟨_, rfl, ⟨hcG, hcz, hc0, hcl⟩, ?_⟩
                          iterate 6 (refine pc_pure rfl rfl (fun K hK => ?_); go_simp; refine hK _ ?_; clear hK K)
                          refine pc_take _ rfl rfl (fun w' hS => exec_load1 (P := Tryz.prog) 24 _ rfl rfl hS.1 Tryz.underlying24 rfl) (fun K hK => ?_); go_simp; refine hK _ ?_; clear hK K
                          iterate 2 (refine pc_pure rfl rfl (fun K hK => ?_); go_simp; refine hK _ ?_; clear hK K)
                          refine pc_take _ rfl rfl (fun w' hS => exec_load1 (P := Tryz.prog) 5 _ rfl rfl hS.2.1 Tryz.underlying5 rfl) (fun K hK => ?_); go_simp; refine hK _ ?_; clear hK K
                          iterate 2 (refine pc_pure rfl rfl (fun K hK => ?_); go_simp; refine hK _ ?_; clear hK K)
                          refine pc_call rfl rfl (fun K hK => ?_); go_simp; refine ⟨_, _, ⟨rfl, rfl⟩, hK _ _ _ ?_⟩; clear hK K
                          refine (markByte_any k q _ (by omega) (by omega) (by omega) (by omega)).mono ?_
                          rintro r w9 ⟨rfl, rfl⟩
                          rw [HZ.out]
                          refine ⟨_, rfl, ⟨hcG, hcz, hc0, hcl⟩, ?_⟩
                          iterate 3 (refine pc_pure rfl rfl (fun K hK => ?_); go_simp; refine hK _ ?_; clear hK K)
                          refine pc_nil ?_
                          go_wp2
                          exact ⟨⟨q + 1, by omega, by go_num, HM'.out.drew⟩, by simp [intOf]; omega⟩
                        · have hlq' : ¬ (q : Int) < (rn : Int) := by omega
                          go_wp2
                          exact ⟨⟨k + 1, by omega, by go_num, hmk⟩, by simp [intOf]; omega⟩
                    · have hlt' : ¬ (k : Int) < j := by omega
                      have HF := Lib.hid (HW.out.2.2.2.1.nn_ hmk)
                      clear hmk HW
                      go_wp2
                      go_ret
                      exact ⟨rfl, HF.out⟩
end Go.Proofs.YtfoldjnmknaklaaGreat
