/- peatbankkit: flatTreeKeys, over rows handed out: they lie apart (printed by wip/gen/flatrows.py). -/
import Derived.Test.YtfoldjnmknaklaaGreatApB1
import Derived.Test.YtfoldjnmknaklaaGreatKit23
import Derived.Test.YtfoldjnmknaklaaGreatRwL
import Derived.Test.YtfoldjnmknaklaaGreatKitB
import Derived.Test.YtfoldjnmknaklaaGreatKitC
namespace Go.Proofs.YtfoldjnmknaklaaGreat
open Go.RowKit

def EKm (k i : Nat) : List Value := bv (mkRow 40 k i)
theorem EKm_len (k i : Nat) : (EKm k i).length = 40 := by unfold EKm; rw [bv_len, (mkRow_ok (s := 40) (by omega) k i).1]
theorem mkK_at (k : Nat) {i n : Nat} (h : i < n) : ∀ j v, (bv (mkRow 40 k i))[j]? = some v → (mkR EKm k n)[i * 40 + j]? = some v := fun j v hv => by
  have hj : j < 40 := by have := (List.getElem?_eq_some_iff.1 hv).1; rwa [bv_len, (mkRow_ok (s := 40) (by omega) k i).1] at this
  rw [mkR_at EKm_len k h hj]; exact hv
theorem mkK_len (k n : Nat) : (mkR EKm k n).length = n * 40 := mkR_len EKm_len k n
theorem mkK_one (k n : Nat) : ∀ u ∈ mkR EKm k n, u.oneCell' = true := fun u hu => by
  unfold mkR flat EKm at hu
  simp only [List.mem_flatMap] at hu
  obtain ⟨i, _, h⟩ := hu
  exact bv_one _ u h
theorem info_slK : (Tryz.prog.info? 29).map (fun i => (i.zero, i.size, i.bytes)) = some (some (.slice none 0 0), 1, 24) := by kernel_rfl
def ZmK (j n : Nat) : List Value := mkR EKm j (n + 64)
def ZnK (m j n : Nat) : List Value := mkR EKm j n ++ mkR EKm (j + m) 64
set_option maxRecDepth 100000 in
set_option maxHeartbeats 6400000 in
theorem flatK_any {w : World} {A0 : Option Addr} {m c0 : Nat} {L : List Row} {Y : Nat → List Value} (h0 : Rd w A0 m (L.map Row.v)) (hrows : RowsY w 40 40 L Y) (ha : AptR L)
    (hA : ∀ g, Of A0 g → ¬ Bks L g) (hm : m ≤ 400) (hn : ∀ (j : Nat) (r : Row), L[j]? = some r → r.n ≤ 1099511627776) :
    Calls Tryz.prog 73 #[.slice A0 m c0] w fun e w' => e = .returned (.bool true) ∧ Mod (Bks L) w w' := by
  have hml : L.length = m := by simpa using h0.1
  have HL := Lib.hid hml; clear hml
  have H0 := Lib.hid h0; clear h0
  have HAP := Lib.hid (And.intro ha (And.intro hA hn)); clear ha hA hn
  have HLT := Lib.hid hrows.lt
  have HR := Lib.hid hrows; clear hrows
  go_enter Tryz.func73, Tryz.ntmps73
  go_wp2
  go_loopw [3] (fun i wr => ∃ (k : Nat) (Y : Nat → List Value), k ≤ m ∧ i = .int .i64 k ∧ RowsY wr 40 40 L Y ∧ (∀ j, j < k → ∀ r, L[j]? = some r → Y j = mkR EKm j r.n) ∧ Mod (Bks L) w wr) (fun i _ => m - (intOf i).toNat)
  case atStart => exact ⟨0, Y, Nat.zero_le _, rfl, HR.out, fun j hj => absurd hj (by omega), Mod.refl _ _⟩
  case round =>
    clear HR
    obtain ⟨k, Y, hk, rfl, hY, hdone, hmd⟩ := hrel
    obtain ⟨wo, rfl⟩ : ∃ wo : World, wo = wr := ⟨_, rfl⟩
    by_cases hlt : k < m
    · have hlt' : (k : Int) < m := by omega
      obtain ⟨g0, off, ⟨rA, rn, rc⟩, rfl, hr, hc0⟩ := rowv_at (H0.out.mod hmd HAP.out.2.1) hlt
      have hrn : rn ≤ 1099511627776 := HAP.out.2.2 k _ hr
      change _ = some (Value.slice rA rn rc) at hc0
      have hg0 : ¬ Bks L g0 := HAP.out.2.1 g0 ⟨_, rfl, rfl⟩
      have HS := Lib.hid (And.intro hr (And.intro hdone (And.intro hrn hg0)))
      have HY := Lib.hid (And.intro hY hmd)
      clear hr hdone hrn hg0 hY hmd
      go_wp2
      go_loopw [4] (fun i wx => ∃ (q : Nat) (Y : Nat → List Value), q ≤ rn ∧ i = .int .i64 q ∧ RowsY wx 40 40 L Y ∧ (∀ j, j < k → ∀ r, L[j]? = some r → Y j = mkR EKm j r.n) ∧ (Y k).take (q * 40) = mkR EKm k q ∧ Mod (Bks L) w wx) (fun i _ => rn - (intOf i).toNat)
      case atStart => exact ⟨0, Y, Nat.zero_le _, rfl, HY.out.1, HS.out.2.1, (by rw [Nat.zero_mul]; rfl), HY.out.2⟩
      case round =>
        clear HY hc0
        obtain ⟨q, Y, hq, rfl, hY, hdone, htk, hmd⟩ := hrel
        obtain ⟨wx, rfl⟩ : ∃ wx : World, wx = wr := ⟨_, rfl⟩
        obtain ⟨g0', off', r', hA', hr', hc0⟩ := rowv_at (H0.out.mod hmd HAP.out.2.1) hlt
        rw [HS.out.1] at hr'
        injection hr' with hr'
        subst hr'
        injection hA' with hA'
        injection hA' with e1 e2 _
        subst e1; subst e2
        change _ = some (Value.slice rA rn rc) at hc0
        have hown := hY k _ HS.out.1
        change wx.ownsRow 0 40 40 (.slice rA rn rc) rn (Y k) at hown
        have hyl : (Y k).length = rn * 40 := hown.1
        have hrn := HS.out.2.2.1
        by_cases hlq : q < rn
        · have hlq' : (q : Int) < rn := by omega
          obtain ⟨g, cap, cur, hv, _, hb, hnc, _, _, _⟩ := own_blk hown (by omega)
          injection hv with hv1 hv2 hv3
          subst hv1; subst hv3
          have hgB : Bks L g := ⟨k, _, HS.out.1, rfl⟩
          have hgg : g0 ≠ g := fun e => HS.out.2.2.2 (e ▸ hgB)
          have hS1 : ∀ w', Mod Nn wx w' → w'.cell? ⟨g0, off + k, none⟩ = some (Value.slice (some ⟨g, 0, none⟩) rn rc) := fun w' hm => by
            have hg0l : g0 < wx.heap.size := World.block_lt_of_cell? wx _ hc0
            rw [hm.cell (p := ⟨g0, off + k, none⟩) hg0l (fun f => f)]; exact hc0
          have HH := Lib.hid (And.intro hY (And.intro hdone (And.intro htk (And.intro hmd (And.intro hown hyl)))))
          have HC := Lib.hid hS1
          have HGG := Lib.hid (And.intro hgB hgg)
          clear hY hdone htk hmd hown hyl hb hS1
          go_wp2_with fail
          clear hc0
          refine wp_region_planC (fun w' => w'.cell? ⟨g0, off + k, none⟩ = some (Value.slice (some ⟨g, 0, none⟩) rn rc)) [(0, true), (1, true), (2, true), (3, true), (4, true), (5, true), (6, true), (7, false), (8, true), (9, false)] (by kernel_rfl) (by kernel_rfl) (HC.out _ (Mod.refl Nn wx).drew) ?_
          iterate 3 (refine pc_pure rfl rfl (fun K hK => ?_); go_simp; refine hK _ ?_; clear hK K)
          refine pc_take _ rfl rfl (fun w' hS => exec_load1 (P := Tryz.prog) 29 _ rfl rfl hS Tryz.underlying29 rfl) (fun K hK => ?_); go_simp; refine hK _ ?_; clear hK K
          iterate 3 (refine pc_pure rfl rfl (fun K hK => ?_); go_simp; refine hK _ ?_; clear hK K)
          refine pc_call rfl rfl (fun K hK => ?_); go_simp; refine ⟨_, _, ⟨rfl, rfl⟩, hK _ _ _ ?_⟩; clear hK K
          refine (markK_any k q _ (by omega) (by omega) (by omega) (by omega)).mono ?_
          rintro r w9 ⟨rfl, m9⟩
          have q9 : Mod Nn wx w9 := (Mod.refl Nn wx).drew.nn_ m9
          refine ⟨_, rfl, HC.out _ q9, ?_⟩
          iterate 1 (refine pc_pure rfl rfl (fun K hK => ?_); go_simp; refine hK _ ?_; clear hK K)
          have hrow := mkRow_ok (s := 40) (by omega) k q
          refine pc_store_own 40 _ _ rfl rfl rfl (i := q) (X := bv (mkRow 40 k q)) rfl rfl (own_mod HH.out.2.2.2.2.1 q9 (fun _ _ f => f)) hlq (by rw [bv_len, hrow.1]) size_tk (bv_all _) (fun w5 own5 m5 z5 => ?_)
          have hY' := (HH.out.1.mod q9 (fun _ _ f => f)).set HAP.out.1 HS.out.1 (g := g) rfl m5 own5
          have htk' : (((Y k).take (q * 40) ++ bv (mkRow 40 k q) ++ (Y k).drop (q * 40 + 40))).take ((q + 1) * 40) = mkR EKm k (q + 1) := by
            rw [HH.out.2.2.1, mkR_succ]
            exact List.take_left' (by rw [List.length_append, mkK_len, bv_len, hrow.1, Nat.add_mul, Nat.one_mul])
          have hmd' : Mod (Bks L) w w5 := (HH.out.2.2.2.1.nn_ q9).at_ m5 HGG.out.1
          have hc5 : w5.cell? ⟨g0, off + k, none⟩ = some (Value.slice (some ⟨g, 0, none⟩) rn rc) := by
            have hg0l : g0 < w9.heap.size := World.block_lt_of_cell? w9 _ (HC.out _ q9)
            rw [m5.cell (p := ⟨g0, off + k, none⟩) hg0l (fun e => HGG.out.2 e)]; exact HC.out _ q9
          have HE : Hid (∃ Y' : Nat → List Value, RowsY w5 40 40 L Y' ∧ (∀ j, j < k → ∀ r, L[j]? = some r → Y' j = mkR EKm j r.n) ∧ (Y' k).take ((q + 1) * 40) = mkR EKm k (q + 1) ∧ Mod (Bks L) w w5) :=
            Lib.hid ⟨_, hY', fun j hj r hr => by simp only [if_neg (show ¬ j = k by omega)]; exact HH.out.2.1 j hj r hr, by simp only [if_true]; exact htk', hmd'⟩
          clear own5 m5 z5 hY' htk' hmd' q9 m9 hrow
          refine ⟨hc5, fun K hK => ?_⟩
          go_simp
          refine hK _ ?_
          clear hK K hc5
          refine pc_nil ?_
          go_wp2
          obtain ⟨Y', h1, h2, h3, h4⟩ := HE.out
          exact ⟨⟨q + 1, Y', by omega, by go_num, h1, h2, h3, h4⟩, by simp [intOf]; omega⟩
        · have hlq' : ¬ (q : Int) < rn := by omega
          have hqe : q = rn := by omega
          subst hqe
          rw [List.take_of_length_le (by rw [hyl]; exact Nat.le_refl _)] at htk
          have HE := Lib.hid (show ∀ j, j < k + 1 → ∀ r, L[j]? = some r → Y j = mkR EKm j r.n from fun j hj r hr => by
            by_cases hjk : j = k
            · subst hjk
              rw [HS.out.1] at hr; injection hr with hr; subst hr
              exact htk
            · exact hdone j (by omega) r hr)
          have HY := Lib.hid (And.intro hY hmd)
          clear htk hdone hY hmd hown hyl
          go_wp2
          exact ⟨⟨k + 1, Y, by omega, by go_num, HY.out.1, HE.out, HY.out.2⟩, by simp [intOf]; omega⟩
    · have hlt' : ¬ (k : Int) < m := by omega
      have hkm : k = m := by omega
      subst hkm
      have hM : RowsM wo 40 40 L EKm := hY.done (fun j hj r hr => hdone j (by rw [HL.out] at hj; omega) r hr)
      have HM := Lib.hid (And.intro hM hmd)
      have HL0 := Lib.hid (show ∀ g, Bks L g → g < w.heap.size from fun g hg => by
        obtain ⟨j, r, hr, hg⟩ := hg
        exact HLT.out g ⟨j, r, hr, hg⟩)
      clear hM hmd hY hdone
      go_wp2_with (first
        | (with_reducible change wpList _ _ _ (⟨some 42, _, _, _, _, _⟩ :: _) _ _
           go_must (refine wpList_make1 78 _ _ rfl rfl 29 (.slice none 0 0) 24 Tryz.underlying78 info_slK rfl (k : Int) (k : Int) k k rfl rfl rfl rfl (by omega) (by omega) (by omega) ?_)
           intro w1 b1 m1 z1
           rw [rows_nil] at b1
           have B1 := Lib.hid (And.intro b1 m1)
           clear b1 m1 z1))
      generalize hGw : wo.heap.size = G at *
      have HG := Lib.hid (show w.heap.size ≤ G from by have := HM.out.2.size; omega)
      clear hGw hlt hlt'
      go_loopw [6] (fun i wr => ∃ (j : Nat) (H : List Row), j ≤ k ∧ i = .int .i64 j ∧ H.length = k ∧ Blk wr G 29 (H.map Row.v).toArray ∧ RowsM wr 40 40 L EKm ∧ GRows wr 40 40 L H ZmK G j ∧ Mod (Bks L) w wr) (fun i _ => k - (intOf i).toNat)
      case atStart => exact ⟨0, _, Nat.zero_le _, rfl, List.length_replicate, B1.out.1, HM.out.1.mod B1.out.2 (fun _ _ f => f), GRows.zero, HM.out.2.nn_ B1.out.2⟩
      case round =>
        clear B1 HM
        obtain ⟨j, H, hj, rfl, hHl, hBG, hM, hGR, hmd⟩ := hrel
        obtain ⟨wa, rfl⟩ : ∃ wa : World, wa = wr := ⟨_, rfl⟩
        by_cases hlt : j < k
        · have hlt' : (j : Int) < k := by omega
          obtain ⟨g0, off, ⟨rA, rn, rc⟩, rfl, hr, hc0⟩ := rowv_at (H0.out.mod hmd HAP.out.2.1) hlt
          have hrn : rn ≤ 1099511627776 := HAP.out.2.2 j _ hr
          change _ = some (Value.slice rA rn rc) at hc0
          have hHB := hGR.blk_lt (by rw [HL.out]; omega)
          have hGb := hBG.lt
          generalize hhb : wa.heap.size = hb at *
          have HS := Lib.hid (And.intro hr (And.intro hHl (And.intro hHB (And.intro hGb hhb))))
          have HY := Lib.hid (And.intro (Grow.start hM EKm_len hGR hmd hr hb) hBG)
          clear hr hHl hHB hGb hhb hBG hM hGR hmd
          go_wp2
          go_loopw [7, 8] (fun v i wx => ∃ q : Nat, q ≤ 64 ∧ i = .int .i64 q ∧ Grow w wx 40 40 L H EKm ZmK G hb j ⟨rA, rn, rc⟩ v (rn + q) (mkR EKm j (rn + q)) ∧ Blk wx G 29 (H.map Row.v).toArray ∧ hb ≤ wx.heap.size) (fun _ i _ => 64 - (intOf i).toNat)
          case atStart => exact ⟨0, Nat.zero_le _, rfl, HY.out.1, HY.out.2, by rw [HS.out.2.2.2.2]; exact Nat.le_refl _⟩
          case round =>
            clear HY hc0
            obtain ⟨q, hq, rfl, hgw, hBG, hbx⟩ := hrel
            obtain ⟨wx, rfl⟩ : ∃ wx : World, wx = wr := ⟨_, rfl⟩
            by_cases hlq : q < 64
            · have hlq' : (q : Int) < 64 := by omega
              obtain ⟨g0', off', r', hA', hr', hc0⟩ := rowv_at (H0.out.mod hgw.md HAP.out.2.1) hlt
              rw [HS.out.1] at hr'
              injection hr' with hr'
              subst hr'
              injection hA' with hA'
              injection hA' with e1 e2 _
              subst e1; subst e2
              change _ = some (Value.slice rA rn rc) at hc0
              have HW := Lib.hid (And.intro hgw (And.intro hBG hbx))
              clear hgw hBG hbx
              go_wp2_with fail
              refine (markK_any j (rn + q) _ (by omega) (by omega) (by omega) (by omega)).mono ?_
              rintro r w9 ⟨rfl, m9⟩
              have HM9 := Lib.hid m9
              clear m9
              have hrow := mkRow_ok (s := 40) (by omega) (j : Int) ((rn : Int) + q)
              have HZ := Lib.hid (And.intro (show EKm j (rn + q) = bv (mkRow 40 (j : Int) ((rn : Int) + q)) from by unfold EKm; rw [Int.natCast_add]) hrow.1)
              clear hrow
              generalize mkRow 40 (j : Int) ((rn : Int) + q) = z at *
              clear hc0
              go_wp2_with (first
                | (with_reducible change wpList _ _ _ (⟨some 67, _, _, _, _, _⟩ :: _) _ _
                   go_must (refine wpList_val rfl (exec_bslice1 (P := Tryz.prog) 29 40 _ rfl (s := 40) Tryz.underlying29 info_tk (by omega) (by omega) rfl (X := (bv z).toArray) rfl (by rw [bv_size, HZ.out.2])) ?_))
                | (with_reducible change wpList _ _ _ (⟨some 68, _, _, _, _, _⟩ :: _) _ _
                   go_must (refine wpList_append_two 29 _ _ rfl rfl 0 40 _ 40 40 Tryz.underlying29 infoK_ (by rw [Value.cells, bv_size, List.length_replicate]) (by omega) _ (rn + q) _ rfl (own_mod HW.out.1.hv (HM9.out.alloc _) (fun _ _ f => f)) _ 1 1 (bv z) rfl (RdC.of_blk (Blk.new _ _ _) (by rw [bv_len, HZ.out.2])) (by omega) (bv_one _) (by omega) (by omega) (Nat.zero_le _) ?_)
                   intro v' w4 own4 two4))
              have own4 : w4.ownsRow 0 40 40 v' (rn + q + 1) (mkR EKm j (rn + q) ++ EKm j (rn + q)) := by rw [HZ.out.1]; exact own4
              have hst := (HW.out.1.mod (HM9.out.alloc _)).step (by omega) HAP.out.1 HS.out.1 HL0.out HG.out HS.out.2.2.2.1 (by have := HW.out.2.2; have := HM9.out.size; simp; omega) HS.out.2.2.1 (by rw [HL.out]; omega) own4 two4
              have hBa := HW.out.2.1.mod (HM9.out.alloc (.cells (bv z).toArray 40)) (fun f => f)
              have hB4 : Blk w4 G 29 (H.map Row.v).toArray := (hst.2 G (Nat.le_refl _) (fun h => by have := HL0.out G h; have := HG.out; omega) hBa.lt).trans hBa
              have hb4 : hb ≤ w4.heap.size := by
                have h1 := two4.mod.size
                have h2 := HW.out.2.2
                have h3 := HM9.out.size
                simp at h1; omega
              have HE := Lib.hid (And.intro hst.1 (And.intro hB4 hb4))
              rw [← mkR_succ, Nat.add_assoc] at HE
              clear own4 two4 hst hB4 hb4 hBa
              go_wp2
              exact ⟨⟨q + 1, by omega, by go_num, HE.out⟩, by simp [intOf]; omega⟩
            · have hlq' : ¬ (q : Int) < 64 := by omega
              have hqe : q = 64 := by omega
              subst hqe
              obtain ⟨vA, vc, rfl, hvc, -⟩ := own_form hgw.hv
              have hHk : j < H.length := by rw [HS.out.2.1]; exact hlt
              have hcG : wx.cell? ⟨G, j, none⟩ = some (H[j].v) := by
                rw [hBG.cell j, List.getElem?_toArray, List.getElem?_map, List.getElem?_eq_getElem hHk]; rfl
              have hfG := hBG.frozen j
              have HE := Lib.hid (hgw.put rfl rfl hBG HS.out.1 HS.out.2.1 hlt HS.out.2.2.2.1 HG.out HL0.out)
              generalize H[j].v = ov at *
              clear hgw hBG
              go_wp2
              exact ⟨⟨j + 1, _, by omega, by go_num, HE.out⟩, by simp [intOf]; omega⟩
        · have hlt' : ¬ (j : Int) < k := by omega
          have hjk : j = k := by omega
          subst hjk
          have HW := Lib.hid (And.intro hBG (And.intro hM (And.intro hGR (And.intro hmd hHl))))
          clear hBG hM hGR hmd hHl hlt hlt'
          go_wp2
          go_loopw [9] (fun i wr => ∃ k : Nat, k ≤ j ∧ i = .int .i64 k ∧ Mod Nn wa wr) (fun i _ => j - (intOf i).toNat)
          case atStart => exact ⟨0, Nat.zero_le _, rfl, Mod.refl _ _⟩
          case round =>
            obtain ⟨k, hk, rfl, hmk⟩ := hrel
            obtain ⟨wo, rfl⟩ : ∃ wo : World, wo = wr := ⟨_, rfl⟩
            by_cases hlt : k < j
            · have hlt' : (k : Int) < j := by omega
              obtain ⟨g0, off, ⟨rA, rn, rc⟩, rfl, hr, hc0⟩ := rowv_at (H0.out.mod (HW.out.2.2.2.1.nn_ hmk) HAP.out.2.1) hlt
              have hrn : rn ≤ 1099511627776 := HAP.out.2.2 k _ hr
              obtain ⟨⟨qA, qn, qc⟩, hq⟩ : ∃ q, H[k]? = some q := ⟨_, List.getElem?_eq_getElem (by rw [HW.out.2.2.2.2]; exact hlt)⟩
              obtain ⟨hqn, hqo, -⟩ := HW.out.2.2.1 k hlt _ _ hr hq
              have hqn : qn = rn + 64 := hqn
              subst hqn
              have hqo : wa.ownsRow 0 40 40 (.slice qA (rn + 64) qc) (rn + 64) (mkR EKm k (rn + 64)) := hqo
              have hro : wa.ownsRow 0 40 40 (.slice rA rn rc) rn (mkR EKm k rn) := HW.out.2.1 k _ hr
              have HS := Lib.hid (And.intro hr (And.intro hq (And.intro hqo hro)))
              clear hr hc0 hqo hro
              go_wp2
              go_loopw [10] (fun i wr => ∃ q : Nat, q ≤ rn + 64 ∧ i = .int .i64 q ∧ Mod Nn wa wr) (fun i _ => rn + 64 - (intOf i).toNat)
              case atStart => exact ⟨0, Nat.zero_le _, rfl, hmk⟩
              case round =>
                clear hmk
                obtain ⟨q, hqle, rfl, hmk⟩ := hrel
                obtain ⟨wx, rfl⟩ : ∃ wx : World, wx = wr := ⟨_, rfl⟩
                have hcG : wx.cell? ⟨G, k, none⟩ = some (.slice qA (rn + 64) qc) := by
                  rw [(HW.out.1.mod hmk (fun f => f)).cell k, List.getElem?_toArray, List.getElem?_map, HS.out.2.1]; rfl
                by_cases hlq : q < rn + 64
                · have hlq' : (q : Int) < (rn : Int) + 64 := by omega
                  have hrow := mkRow_ok (s := 40) (by omega) (k : Int) (q : Int)
                  obtain ⟨z, hz⟩ : ∃ z, mkRow 40 (k : Int) (q : Int) = z := ⟨_, rfl⟩
                  obtain ⟨g, cap, cur, hv, _, hb, hnc, _, _, _⟩ := own_blk HS.out.2.2.1 (by omega)
                  injection hv with hv1 _ hv3
                  subst hv1; subst hv3
                  have hcz := own_elem (own_mod HS.out.2.2.1 hmk (fun _ _ f => f)) (i := q) (X := bv z) (by rw [← hz]; exact mkK_at k hlq)
                  rw [hz] at hrow
                  obtain ⟨g0', off', r', hA', hr', hc0⟩ := rowv_at (H0.out.mod (HW.out.2.2.2.1.nn_ hmk) HAP.out.2.1) hlt
                  rw [HS.out.1] at hr'
                  injection hr' with hr'
                  subst hr'
                  injection hA' with hA'
                  injection hA' with e1 e2 _
                  subst e1; subst e2
                  change _ = some (Value.slice rA rn rc) at hc0
                  have hGl : G < wx.heap.size := World.block_lt_of_cell? wx _ hcG
                  have hgl : g < wx.heap.size := (hb.mod hmk (fun f => f)).lt
                  have hg0l : g0 < wx.heap.size := World.block_lt_of_cell? wx _ hc0
                  have HZ := Lib.hid hz
                  have HR := Lib.hid hrow
                  have HM' := Lib.hid hmk
                  clear hb hq hrow
                  by_cases hqr : q < rn
                  · have hqr' : (q : Int) < rn := by omega
                    obtain ⟨gl, capl, curl, hvl, _, hbl, hncl, _, _, _⟩ := own_blk HS.out.2.2.2 (by omega)
                    injection hvl with hvl1 _ hvl3
                    subst hvl1; subst hvl3
                    have hcl := own_elem (own_mod HS.out.2.2.2 HM'.out (fun _ _ f => f)) (i := q) (X := bv z) (by rw [← HZ.out]; exact mkK_at k hqr)
                    have hgll : gl < wx.heap.size := (hbl.mod hmk (fun f => f)).lt
                    have HF := Lib.hid (show ∀ w', Mod Nn wx w' → w'.cell? ⟨G, k, none⟩ = some (.slice (some ⟨g, 0, none⟩) (rn + 64) qc) ∧ (∀ j v, (bv z)[j]? = some v → w'.cell? ⟨g, q * 40 + j, none⟩ = some v) ∧ w'.cell? ⟨g0, off + k, none⟩ = some (Value.slice (some ⟨gl, 0, none⟩) rn rc) ∧ (∀ j v, (bv z)[j]? = some v → w'.cell? ⟨gl, q * 40 + j, none⟩ = some v) from fun w' hm =>
                      ⟨(hm.cell (p := ⟨G, k, none⟩) hGl (fun f => f)).trans hcG, fun j v hv => (hm.cell (p := ⟨g, q * 40 + j, none⟩) hgl (fun f => f)).trans (hcz j v hv), (hm.cell (p := ⟨g0, off + k, none⟩) hg0l (fun f => f)).trans hc0, fun j v hv => (hm.cell (p := ⟨gl, q * 40 + j, none⟩) hgll (fun f => f)).trans (hcl j v hv)⟩)
                    clear hbl hcl hcz hGl hgl hg0l hgll hz hmk hc0
                    go_wp2_with fail
                    clear hcG
                    refine wp_region_planC (fun w' => Mod Nn wx w') [(0, true), (1, true), (2, true), (3, true), (4, true), (5, true), (6, true), (7, true), (8, true), (9, false), (10, true), (11, true), (12, true), (13, true), (14, true), (15, true), (16, true), (17, true), (18, true), (19, true), (20, true), (21, true), (22, true), (23, true), (24, true), (25, true), (26, true), (27, true), (28, true), (29, true), (30, false), (31, true), (32, true), (33, true), (34, true)] (by kernel_rfl) (by kernel_rfl) (Mod.refl Nn wx).drew ?_
                    iterate 3 (refine pc_pure rfl rfl (fun K hK => ?_); go_simp; refine hK _ ?_; clear hK K)
                    refine pc_take _ rfl rfl (fun w' hS => exec_load1 (P := Tryz.prog) 29 _ rfl rfl (HF.out w' hS).1 Tryz.underlying29 rfl) (fun K hK => ?_); go_simp; refine hK _ ?_; clear hK K
                    iterate 2 (refine pc_pure rfl rfl (fun K hK => ?_); go_simp; refine hK _ ?_; clear hK K)
                    refine pc_take _ rfl rfl (fun w' hS => exec_load_cells (P := Tryz.prog) 40 _ rfl (cs := bv z) rfl (by have := (HF.out w' hS).2.1; simpa using this) Tryz.underlying40 rfl (by rw [size_tk, bv_len, HR.out.1])) (fun K hK => ?_); go_simp; refine hK _ ?_; clear hK K
                    iterate 2 (refine pc_pure rfl rfl (fun K hK => ?_); go_simp; refine hK _ ?_; clear hK K)
                    refine pc_call rfl rfl (fun K hK => ?_); go_simp; refine ⟨_, _, ⟨rfl, rfl⟩, hK _ _ _ ?_⟩; clear hK K
                    refine (markK_any k q _ (by omega) (by omega) (by omega) (by omega)).mono ?_
                    rintro r w9 ⟨rfl, m9⟩
                    rw [HZ.out]
                    have H9 := Lib.hid ((Mod.refl Nn wx).drew.nn_ m9)
                    clear m9
                    refine ⟨_, rfl, H9.out, ?_⟩
                    refine pc_take (.bool true) rfl rfl (fun w' _ => exec_eql_agg (P := Tryz.prog) (b := true) 40 40 _ _ rfl rfl rfl Tryz.eqGuardType40 (eqK HR.out.1 HR.out.2)) (fun K hK => ?_); go_simp; refine hK _ ?_; clear hK K
                    iterate 6 (refine pc_pure rfl rfl (fun K hK => ?_); go_simp; refine hK _ ?_; clear hK K)
                    refine pc_take _ rfl rfl (fun w' hS => exec_load1 (P := Tryz.prog) 29 _ rfl rfl (HF.out w' hS).2.2.1 Tryz.underlying29 rfl) (fun K hK => ?_); go_simp; refine hK _ ?_; clear hK K
                    iterate 6 (refine pc_pure rfl rfl (fun K hK => ?_); go_simp; refine hK _ ?_; clear hK K)
                    refine pc_take _ rfl rfl (fun w' hS => exec_load1 (P := Tryz.prog) 29 _ rfl rfl (HF.out w' hS).2.2.1 Tryz.underlying29 rfl) (fun K hK => ?_); go_simp; refine hK _ ?_; clear hK K
                    iterate 2 (refine pc_pure rfl rfl (fun K hK => ?_); go_simp; refine hK _ ?_; clear hK K)
                    refine pc_take _ rfl rfl (fun w' hS => exec_load_cells (P := Tryz.prog) 40 _ rfl (cs := bv z) rfl (by have := (HF.out w' hS).2.2.2; simpa using this) Tryz.underlying40 rfl (by rw [size_tk, bv_len, HR.out.1])) (fun K hK => ?_); go_simp; refine hK _ ?_; clear hK K
                    iterate 2 (refine pc_pure rfl rfl (fun K hK => ?_); go_simp; refine hK _ ?_; clear hK K)
                    refine pc_call rfl rfl (fun K hK => ?_); go_simp; refine ⟨_, _, ⟨rfl, rfl⟩, hK _ _ _ ?_⟩; clear hK K
                    refine (markK_any k q _ (by omega) (by omega) (by omega) (by omega)).mono ?_
                    rintro r w10 ⟨rfl, m10⟩
                    rw [HZ.out]
                    have H10 := Lib.hid (H9.out.nn_ m10)
                    clear m10
                    refine ⟨_, rfl, H10.out, ?_⟩
                    refine pc_take (.bool true) rfl rfl (fun w' _ => exec_eql_agg (P := Tryz.prog) (b := true) 40 40 _ _ rfl rfl rfl Tryz.eqGuardType40 (eqK HR.out.1 HR.out.2)) (fun K hK => ?_); go_simp; refine hK _ ?_; clear hK K
                    iterate 3 (refine pc_pure rfl rfl (fun K hK => ?_); go_simp; refine hK _ ?_; clear hK K)
                    refine pc_nil ?_
                    clear HF
                    go_wp2
                    exact ⟨⟨q + 1, by omega, by go_num, HM'.out.nn_ H10.out⟩, by simp [intOf]; omega⟩
                  · have hqr' : ¬ (q : Int) < rn := by omega
                    have hd : decide ((q : Int) < (rn : Int)) = false := by simpa using hqr
                    have HF := Lib.hid (show ∀ w', Mod Nn wx w' → w'.cell? ⟨G, k, none⟩ = some (.slice (some ⟨g, 0, none⟩) (rn + 64) qc) ∧ (∀ j v, (bv z)[j]? = some v → w'.cell? ⟨g, q * 40 + j, none⟩ = some v) ∧ w'.cell? ⟨g0, off + k, none⟩ = some (Value.slice rA rn rc) from fun w' hm =>
                      ⟨(hm.cell (p := ⟨G, k, none⟩) hGl (fun f => f)).trans hcG, fun j v hv => (hm.cell (p := ⟨g, q * 40 + j, none⟩) hgl (fun f => f)).trans (hcz j v hv), (hm.cell (p := ⟨g0, off + k, none⟩) hg0l (fun f => f)).trans hc0⟩)
                    clear hcz hGl hgl hg0l hz hmk hc0
                    go_wp2_with fail
                    clear hcG
                    refine wp_region_planC (fun w' => Mod Nn wx w') [(0, true), (1, true), (2, true), (3, true), (4, true), (5, true), (6, true), (7, true), (8, true), (9, false), (10, true), (11, true), (12, true), (13, true), (14, true), (15, true), (16, true), (17, true), (18, true), (19, true), (20, true), (21, true), (22, true), (23, true), (24, true), (25, true), (26, true), (27, true), (28, true), (29, true), (30, true), (31, true), (32, true), (33, true), (34, true)] (by kernel_rfl) (by kernel_rfl) (Mod.refl Nn wx).drew ?_
                    iterate 3 (refine pc_pure rfl rfl (fun K hK => ?_); go_simp; refine hK _ ?_; clear hK K)
                    refine pc_take _ rfl rfl (fun w' hS => exec_load1 (P := Tryz.prog) 29 _ rfl rfl (HF.out w' hS).1 Tryz.underlying29 rfl) (fun K hK => ?_); go_simp; refine hK _ ?_; clear hK K
                    iterate 2 (refine pc_pure rfl rfl (fun K hK => ?_); go_simp; refine hK _ ?_; clear hK K)
                    refine pc_take _ rfl rfl (fun w' hS => exec_load_cells (P := Tryz.prog) 40 _ rfl (cs := bv z) rfl (by have := (HF.out w' hS).2.1; simpa using this) Tryz.underlying40 rfl (by rw [size_tk, bv_len, HR.out.1])) (fun K hK => ?_); go_simp; refine hK _ ?_; clear hK K
                    iterate 2 (refine pc_pure rfl rfl (fun K hK => ?_); go_simp; refine hK _ ?_; clear hK K)
                    refine pc_call rfl rfl (fun K hK => ?_); go_simp; refine ⟨_, _, ⟨rfl, rfl⟩, hK _ _ _ ?_⟩; clear hK K
                    refine (markK_any k q _ (by omega) (by omega) (by omega) (by omega)).mono ?_
                    rintro r w9 ⟨rfl, m9⟩
                    rw [HZ.out]
                    have H9 := Lib.hid ((Mod.refl Nn wx).drew.nn_ m9)
                    clear m9
                    refine ⟨_, rfl, H9.out, ?_⟩
                    refine pc_take (.bool true) rfl rfl (fun w' _ => exec_eql_agg (P := Tryz.prog) (b := true) 40 40 _ _ rfl rfl rfl Tryz.eqGuardType40 (eqK HR.out.1 HR.out.2)) (fun K hK => ?_); go_simp; refine hK _ ?_; clear hK K
                    iterate 6 (refine pc_pure rfl rfl (fun K hK => ?_); go_simp; refine hK _ ?_; clear hK K)
                    refine pc_take _ rfl rfl (fun w' hS => exec_load1 (P := Tryz.prog) 29 _ rfl rfl (HF.out w' hS).2.2 Tryz.underlying29 rfl) (fun K hK => ?_); go_simp; refine hK _ ?_; clear hK K
                    iterate 3 (refine pc_pure rfl rfl (fun K hK => ?_); go_simp; refine hK _ ?_; clear hK K)
                    iterate 12 (refine pc_skip rfl rfl (fun K hK => ?_); go_simp; refine hK _ ?_; clear hK K)
                    iterate 2 (refine pc_pure rfl rfl (fun K hK => ?_); go_simp; refine hK _ ?_; clear hK K)
                    refine pc_nil ?_
                    clear HF
                    go_wp2
                    exact ⟨⟨q + 1, by omega, by go_num, HM'.out.nn_ H9.out⟩, by simp [intOf]; omega⟩
                · have hlq' : ¬ (q : Int) < (rn : Int) + 64 := by omega
                  go_wp2
                  exact ⟨⟨k + 1, by omega, by go_num, hmk⟩, by simp [intOf]; omega⟩
            · have hlt' : ¬ (k : Int) < j := by omega
              have hkj : k = j := by omega
              subst hkj
              have HX := Lib.hid (And.intro (HW.out.1.mod hmk (fun f => f)) (And.intro (HW.out.2.1.mod hmk (fun _ _ f => f)) (And.intro (HW.out.2.2.2.1.nn_ hmk) HW.out.2.2.2.2)))
              clear hlt hlt' hmk HW
              go_wp2
              go_loopw [11] (fun i wr => ∃ (j : Nat) (H : List Row), j ≤ k ∧ i = .int .i64 j ∧ H.length = k ∧ Blk wr G 29 (H.map Row.v).toArray ∧ RowsM wr 40 40 L EKm ∧ GRows wr 40 40 L H (ZnK k) G j ∧ Mod (Bks L) w wr) (fun i _ => k - (intOf i).toNat)
              case atStart => exact ⟨0, _, Nat.zero_le _, rfl, HX.out.2.2.2, HX.out.1, HX.out.2.1, GRows.zero, HX.out.2.2.1⟩
              case round =>
                clear HX
                obtain ⟨j, H, hj, rfl, hHl, hBG, hM, hGR, hmd⟩ := hrel
                obtain ⟨wa, rfl⟩ : ∃ wa : World, wa = wr := ⟨_, rfl⟩
                by_cases hlt : j < k
                · have hlt' : (j : Int) < k := by omega
                  have HW := Lib.hid (And.intro hBG (And.intro hM (And.intro hGR (And.intro hmd hHl))))
                  clear hBG hM hGR hmd hHl
                  go_wp2_with (first
                    | (with_reducible change wpList _ _ _ (⟨some 129, _, _, _, _, _⟩ :: _) _ _
                       go_must (refine wpList_make_n 29 _ _ rfl rfl 40 _ 40 40 Tryz.underlying29 infoK_ 64 64 64 64 rfl rfl rfl rfl (by omega) (by omega) (by omega) ?_)
                       intro w1 b1 m1 z1
                       have b1 : Blk w1 wa.heap.size 40 (List.replicate (64 * 40) (Value.int .u8 0)).toArray := by rw [← made_noughts (s := 40) (by omega)]; exact b1
                       have B1 := Lib.hid (And.intro b1 (And.intro m1 z1))
                       clear b1 m1 z1))
                  generalize hBe : wa.heap.size = B at *
                  have HB := Lib.hid (show G < B ∧ (∀ g, Bks L g → g ≠ B) from ⟨by have := HW.out.1.lt; omega, fun g hg e => by have := HW.out.2.1.lt g hg; omega⟩)
                  have HHB := Lib.hid (show ∀ j', j' < j → ∀ q, H[j']? = some q → ∀ g, q.v.ownBlock = some g → g < B from by
                    rw [← hBe]; exact HW.out.2.2.1.blk_lt (by rw [HL.out]; omega))
                  have HP := Lib.hid (And.intro (HW.out.1.mod B1.out.2.1 (fun f => f)) (And.intro (HW.out.2.1.mod B1.out.2.1 (fun _ _ f => f)) (And.intro (HW.out.2.2.1.mod B1.out.2.1 (fun _ _ _ f => f)) (And.intro (HW.out.2.2.2.1.nn_ B1.out.2.1) HW.out.2.2.2.2))))
                  have HB1 := Lib.hid B1.out.1
                  clear B1 HW hBe
                  go_loopw [13] (fun i wx => ∃ q : Nat, q ≤ 64 ∧ i = .int .i64 q ∧ Blk wx B 40 (mkR EKm (j + k) q ++ List.replicate ((64 - q) * 40) (Value.int .u8 0)).toArray ∧ Mod (At B) w1 wx) (fun i _ => 64 - (intOf i).toNat)
                  case atStart => exact ⟨0, Nat.zero_le _, rfl, HB1.out, Mod.refl _ _⟩
                  case round =>
                    clear HB1
                    obtain ⟨q, hq, rfl, hb, hmb⟩ := hrel
                    obtain ⟨wx, rfl⟩ : ∃ wx : World, wx = wr := ⟨_, rfl⟩
                    by_cases hlq : q < 64
                    · have hlq' : (q : Int) < 64 := by omega
                      have HBB := Lib.hid (And.intro hb hmb)
                      clear hb hmb
                      go_wp2_with fail
                      refine (markK_any ((j : Int) + k) q _ (by omega) (by omega) (by omega) (by omega)).mono ?_
                      rintro r w9 ⟨rfl, m9⟩
                      have hrow := mkRow_ok (s := 40) (by omega) ((j : Int) + k) (q : Int)
                      have HZ := Lib.hid (And.intro (show EKm (j + k) q = bv (mkRow 40 ((j : Int) + k) (q : Int)) from by unfold EKm; rw [Int.natCast_add]) hrow.1)
                      clear hrow
                      generalize mkRow 40 ((j : Int) + k) (q : Int) = z at *
                      have HB9 := Lib.hid (And.intro (HBB.out.1.mod m9 (fun f => f)) (HBB.out.2.nn_ m9))
                      clear m9 HBB
                      have hfit : q * 40 + (bv z).toArray.size ≤ (mkR EKm (j + k) q ++ List.replicate ((64 - q) * 40) (Value.int .u8 0)).toArray.size := by
                        rw [bv_size, HZ.out.2, List.size_toArray, List.length_append, mkK_len, List.length_replicate]
                        omega
                      have HFT := Lib.hid hfit; clear hfit
                      go_wp2_with (first
                        | (with_reducible change wpList _ _ _ (⟨none, Op.store _ _ _, _, _, _, _⟩ :: _) _ _
                           go_must (refine wpList_store_at 40 _ _ rfl rfl B (q * 40) (bv z).toArray (mkR EKm (j + k) q ++ List.replicate ((64 - q) * 40) (Value.int .u8 0)).toArray _ rfl rfl HB9.out.1 (by rw [size_tk, bv_size, HZ.out.2]) HFT.out (bv_all _) ?_)
                           intro w5 b5 m5 z5
                           have hst5 : Blk w5 B 40 (mkR EKm (j + k) (q + 1) ++ List.replicate ((64 - (q + 1)) * 40) (Value.int .u8 0)).toArray := by
                             have e0 := nought_step (s := 40) (q := q) (m := 64) (mkR EKm (j + k) q) (bv z) (mkK_len _ _) (by rw [bv_len, HZ.out.2]) hlq
                             rw [mkR_succ, HZ.out.1, ← e0]
                             have e1 : (bv z).toArray.size = 40 := by rw [bv_size, HZ.out.2]
                             rw [e1] at b5
                             exact b5
                           have HE := Lib.hid (And.intro hst5 (HB9.out.2.trans m5))
                           clear b5 m5 z5 hst5))
                      exact ⟨⟨q + 1, by omega, by go_num, HE.out⟩, by simp [intOf]; omega⟩
                    · have hlq' : ¬ (q : Int) < 64 := by omega
                      have hqe : q = 64 := by omega
                      subst hqe
                      have hb' : Blk wx B 40 (mkR EKm (j + k) 64).toArray := by simpa using hb
                      have hBG := HP.out.1.mod hmb (fun e => by have e : G = B := e; have := HB.out.1; omega)
                      have hM := HP.out.2.1.mod hmb (fun g hg e => HB.out.2 g hg e)
                      have hGR : GRows wx 40 40 L H (ZnK k) G j := fun j' hj' r q hr hq => by
                        obtain ⟨h1, h2, h3⟩ := HP.out.2.2.1 j' hj' r q hr hq
                        exact ⟨h1, own_mod h2 hmb (fun g hg e => by have e : g = B := e; have := HHB.out j' hj' q hq g hg; omega), h3⟩
                      have hBw : w.heap.size ≤ B := by have := HG.out; have := HB.out.1; omega
                      have hmd : Mod (Bks L) w wx := HP.out.2.2.2.1.new_ hmb hBw
                      obtain ⟨g0, off, ⟨rA, rn, rc⟩, rfl, hr, hc0⟩ := rowv_at (H0.out.mod hmd HAP.out.2.1) hlt
                      have hrn : rn ≤ 1099511627776 := HAP.out.2.2 j _ hr
                      change _ = some (Value.slice rA rn rc) at hc0
                      have hHk : j < H.length := by rw [HP.out.2.2.2.2]; exact hlt
                      have hgw := Grow.start hM EKm_len hGR hmd hr wx.heap.size
                      have hsrc : RdC wx (some ⟨B, 0, none⟩) 64 40 (mkR EKm (j + k) 64) := RdC.of_blk hb' (mkK_len _ _)
                      have hone := mkK_one (j + k) 64
                      have HS := Lib.hid (And.intro hgw (And.intro hBG (And.intro hr (And.intro hHk (And.intro hsrc hone)))))
                      have HHx := Lib.hid (hGR.blk_lt (by rw [HL.out]; omega))
                      clear hb hb' hBG hM hGR hmd hr hHk hgw hsrc hone hmb
                      go_wp2_with (first
                        | (with_reducible change wpList _ _ _ (⟨some 150, _, _, _, _, _⟩ :: _) _ _
                           go_must (refine wpList_append_two 29 _ _ rfl rfl 0 40 _ 40 40 Tryz.underlying29 infoK_ (by rw [Value.cells, bv_size, List.length_replicate]) (by omega) _ rn _ rfl HS.out.1.hv _ 64 64 _ rfl HS.out.2.2.2.2.1 (by omega) HS.out.2.2.2.2.2 (by omega) (by omega) (Nat.zero_le _) ?_)
                           intro v' w4 own4 two4
                           have hst := HS.out.1.step (by omega) HAP.out.1 HS.out.2.2.1 HL0.out HG.out HS.out.2.1.lt (Nat.le_refl _) HHx.out (by rw [HL.out]; omega) own4 two4
                           have hB4 : Blk w4 G 29 (H.map Row.v).toArray := (hst.2 G (Nat.le_refl _) (fun h => by have := HL0.out G h; have := HG.out; omega) HS.out.2.1.lt).trans HS.out.2.1
                           obtain ⟨vA, vc, rfl, hvc, -⟩ := own_form hst.1.hv
                           have hcG : w4.cell? ⟨G, j, none⟩ = some (H[j]'HS.out.2.2.2.1).v := by
                             rw [hB4.cell j, List.getElem?_toArray, List.getElem?_map, List.getElem?_eq_getElem HS.out.2.2.2.1]; rfl
                           have hfG := hB4.frozen j
                           have HE := Lib.hid (hst.1.put rfl rfl hB4 HS.out.2.2.1 HP.out.2.2.2.2 hlt HS.out.2.1.lt HG.out HL0.out)
                           generalize (H[j]'HS.out.2.2.2.1).v = ov at *
                           clear own4 two4 hst hB4))
                      exact ⟨⟨j + 1, _, by omega, by go_num, HE.out⟩, by simp [intOf]; omega⟩
                · have hlt' : ¬ (j : Int) < k := by omega
                  have hjk : j = k := by omega
                  subst hjk
                  have HW := Lib.hid (And.intro hBG (And.intro hM (And.intro hGR (And.intro hmd hHl))))
                  clear hBG hM hGR hmd hHl hlt hlt'
                  go_wp2
                  go_loopw [14] (fun i wr => ∃ k : Nat, k ≤ j ∧ i = .int .i64 k ∧ Mod Nn wa wr) (fun i _ => j - (intOf i).toNat)
                  case atStart => exact ⟨0, Nat.zero_le _, rfl, Mod.refl _ _⟩
                  case round =>
                    obtain ⟨k, hk, rfl, hmk⟩ := hrel
                    obtain ⟨wo, rfl⟩ : ∃ wo : World, wo = wr := ⟨_, rfl⟩
                    by_cases hlt : k < j
                    · have hlt' : (k : Int) < j := by omega
                      obtain ⟨g0, off, ⟨rA, rn, rc⟩, rfl, hr, hc0⟩ := rowv_at (H0.out.mod (HW.out.2.2.2.1.nn_ hmk) HAP.out.2.1) hlt
                      have hrn : rn ≤ 1099511627776 := HAP.out.2.2 k _ hr
                      obtain ⟨⟨qA, qn, qc⟩, hq⟩ : ∃ q, H[k]? = some q := ⟨_, List.getElem?_eq_getElem (by rw [HW.out.2.2.2.2]; exact hlt)⟩
                      obtain ⟨hqn, hqo, -⟩ := HW.out.2.2.1 k hlt _ _ hr hq
                      have hqn : qn = rn + 64 := hqn
                      subst hqn
                      have hqo : wa.ownsRow 0 40 40 (.slice qA (rn + 64) qc) (rn + 64) (ZnK j k rn) := hqo
                      have hro : wa.ownsRow 0 40 40 (.slice rA rn rc) rn (mkR EKm k rn) := HW.out.2.1 k _ hr
                      have HS := Lib.hid (And.intro hr (And.intro hq (And.intro hqo hro)))
                      clear hr hqo hro
                      change _ = some (Value.slice rA rn rc) at hc0
                      go_wp2
                      go_loopw [15] (fun i wr => ∃ q : Nat, q ≤ rn ∧ i = .int .i64 q ∧ Mod Nn wa wr) (fun i _ => rn - (intOf i).toNat)
                      case atStart => exact ⟨0, Nat.zero_le _, rfl, hmk⟩
                      case round =>
                        clear hmk hc0
                        obtain ⟨q, hqle, rfl, hmk⟩ := hrel
                        obtain ⟨wx, rfl⟩ : ∃ wx : World, wx = wr := ⟨_, rfl⟩
                        obtain ⟨g0', off', r', hA', hr', hc0⟩ := rowv_at (H0.out.mod (HW.out.2.2.2.1.nn_ hmk) HAP.out.2.1) hlt
                        rw [HS.out.1] at hr'
                        injection hr' with hr'
                        subst hr'
                        injection hA' with hA'
                        injection hA' with e1 e2 _
                        subst e1; subst e2
                        change _ = some (Value.slice rA rn rc) at hc0
                        by_cases hlq : q < rn
                        · have hlq' : (q : Int) < rn := by omega
                          have hlq2 : (q : Int) < (rn : Int) + 64 := by omega
                          have hcG : wx.cell? ⟨G, k, none⟩ = some (.slice qA (rn + 64) qc) := by
                            rw [(HW.out.1.mod hmk (fun f => f)).cell k, List.getElem?_toArray, List.getElem?_map, HS.out.2.1]; rfl
                          have hrow := mkRow_ok (s := 40) (by omega) (k : Int) (q : Int)
                          obtain ⟨z, hz⟩ : ∃ z, mkRow 40 (k : Int) (q : Int) = z := ⟨_, rfl⟩
                          obtain ⟨g, cap, cur, hv, _, hb, hnc, _, _, _⟩ := own_blk HS.out.2.2.1 (by omega)
                          injection hv with hv1 _ hv3
                          subst hv1; subst hv3
                          obtain ⟨gl, capl, curl, hvl, _, hbl, hncl, _, _, _⟩ := own_blk HS.out.2.2.2 (by omega)
                          injection hvl with hvl1 _ hvl3
                          subst hvl1; subst hvl3
                          have hcz := own_elem (own_mod HS.out.2.2.1 hmk (fun _ _ f => f)) (i := q) (X := bv z) (by
                            rw [← hz]; intro i v hv
                            unfold ZnK
                            have := mkK_at k hlq i v hv
                            rw [List.getElem?_append_left (List.getElem?_eq_some_iff.1 this).1]; exact this)
                          have hcl := own_elem (own_mod HS.out.2.2.2 hmk (fun _ _ f => f)) (i := q) (X := bv z) (by rw [← hz]; exact mkK_at k hlq)
                          rw [hz] at hrow
                          have hGl : G < wx.heap.size := World.block_lt_of_cell? wx _ hcG
                          have hgl : g < wx.heap.size := (hb.mod hmk (fun f => f)).lt
                          have hg0l : g0 < wx.heap.size := World.block_lt_of_cell? wx _ hc0
                          have hgll : gl < wx.heap.size := (hbl.mod hmk (fun f => f)).lt
                          have HF := Lib.hid (show ∀ w', Mod Nn wx w' → w'.cell? ⟨G, k, none⟩ = some (.slice (some ⟨g, 0, none⟩) (rn + 64) qc) ∧ (∀ j v, (bv z)[j]? = some v → w'.cell? ⟨g, q * 40 + j, none⟩ = some v) ∧ w'.cell? ⟨g0, off + k, none⟩ = some (Value.slice (some ⟨gl, 0, none⟩) rn rc) ∧ (∀ j v, (bv z)[j]? = some v → w'.cell? ⟨gl, q * 40 + j, none⟩ = some v) from fun w' hm =>
                            ⟨(hm.cell (p := ⟨G, k, none⟩) hGl (fun f => f)).trans hcG, fun j v hv => (hm.cell (p := ⟨g, q * 40 + j, none⟩) hgl (fun f => f)).trans (hcz j v hv), (hm.cell (p := ⟨g0, off + k, none⟩) hg0l (fun f => f)).trans hc0, fun j v hv => (hm.cell (p := ⟨gl, q * 40 + j, none⟩) hgll (fun f => f)).trans (hcl j v hv)⟩)
                          have HZ := Lib.hid hz
                          have HR := Lib.hid hrow
                          have HM' := Lib.hid hmk
                          clear hz hb hmk hq hbl hrow hcz hcl hGl hgl hg0l hgll
                          go_wp2_with fail
                          clear hcG hc0
                          refine wp_region_planC (fun w' => Mod Nn wx w') [(0, true), (1, true), (2, true), (3, true), (4, true), (5, true), (6, true), (7, true), (8, true), (9, false), (10, true), (11, true), (12, true), (13, true), (14, true), (15, true), (16, true), (17, true), (18, true), (19, true), (20, true), (21, true), (22, false), (23, true), (24, true), (25, true)] (by kernel_rfl) (by kernel_rfl) (Mod.refl Nn wx).drew ?_
                          iterate 3 (refine pc_pure rfl rfl (fun K hK => ?_); go_simp; refine hK _ ?_; clear hK K)
                          refine pc_take _ rfl rfl (fun w' hS => exec_load1 (P := Tryz.prog) 29 _ rfl rfl (HF.out w' hS).2.2.1 Tryz.underlying29 rfl) (fun K hK => ?_); go_simp; refine hK _ ?_; clear hK K
                          iterate 2 (refine pc_pure rfl rfl (fun K hK => ?_); go_simp; refine hK _ ?_; clear hK K)
                          refine pc_take _ rfl rfl (fun w' hS => exec_load_cells (P := Tryz.prog) 40 _ rfl (cs := bv z) rfl (by have := (HF.out w' hS).2.2.2; simpa using this) Tryz.underlying40 rfl (by rw [size_tk, bv_len, HR.out.1])) (fun K hK => ?_); go_simp; refine hK _ ?_; clear hK K
                          iterate 2 (refine pc_pure rfl rfl (fun K hK => ?_); go_simp; refine hK _ ?_; clear hK K)
                          refine pc_call rfl rfl (fun K hK => ?_); go_simp; refine ⟨_, _, ⟨rfl, rfl⟩, hK _ _ _ ?_⟩; clear hK K
                          refine (markK_any k q _ (by omega) (by omega) (by omega) (by omega)).mono ?_
                          rintro r w9 ⟨rfl, m9⟩
                          rw [HZ.out]
                          have H9 := Lib.hid ((Mod.refl Nn wx).drew.nn_ m9)
                          clear m9
                          refine ⟨_, rfl, H9.out, ?_⟩
                          refine pc_take (.bool true) rfl rfl (fun w' _ => exec_eql_agg (P := Tryz.prog) (b := true) 40 40 _ _ rfl rfl rfl Tryz.eqGuardType40 (eqK HR.out.1 HR.out.2)) (fun K hK => ?_); go_simp; refine hK _ ?_; clear hK K
                          iterate 5 (refine pc_pure rfl rfl (fun K hK => ?_); go_simp; refine hK _ ?_; clear hK K)
                          refine pc_take _ rfl rfl (fun w' hS => exec_load1 (P := Tryz.prog) 29 _ rfl rfl (HF.out w' hS).1 Tryz.underlying29 rfl) (fun K hK => ?_); go_simp; refine hK _ ?_; clear hK K
                          iterate 2 (refine pc_pure rfl rfl (fun K hK => ?_); go_simp; refine hK _ ?_; clear hK K)
                          refine pc_take _ rfl rfl (fun w' hS => exec_load_cells (P := Tryz.prog) 40 _ rfl (cs := bv z) rfl (by have := (HF.out w' hS).2.1; simpa using this) Tryz.underlying40 rfl (by rw [size_tk, bv_len, HR.out.1])) (fun K hK => ?_); go_simp; refine hK _ ?_; clear hK K
                          iterate 2 (refine pc_pure rfl rfl (fun K hK => ?_); go_simp; refine hK _ ?_; clear hK K)
                          refine pc_call rfl rfl (fun K hK => ?_); go_simp; refine ⟨_, _, ⟨rfl, rfl⟩, hK _ _ _ ?_⟩; clear hK K
                          refine (markK_any k q _ (by omega) (by omega) (by omega) (by omega)).mono ?_
                          rintro r w10 ⟨rfl, m10⟩
                          rw [HZ.out]
                          have H10 := Lib.hid (H9.out.nn_ m10)
                          clear m10
                          refine ⟨_, rfl, H10.out, ?_⟩
                          refine pc_take (.bool true) rfl rfl (fun w' _ => exec_eql_agg (P := Tryz.prog) (b := true) 40 40 _ _ rfl rfl rfl Tryz.eqGuardType40 (eqK HR.out.1 HR.out.2)) (fun K hK => ?_); go_simp; refine hK _ ?_; clear hK K
                          iterate 2 (refine pc_pure rfl rfl (fun K hK => ?_); go_simp; refine hK _ ?_; clear hK K)
                          refine pc_nil ?_
                          clear HF
                          go_wp2
                          exact ⟨⟨q + 1, by omega, by go_num, HM'.out.nn_ H10.out⟩, by simp [intOf]; omega⟩
                        · have hlq' : ¬ (q : Int) < (rn : Int) := by omega
                          go_wp2
                          exact ⟨⟨k + 1, by omega, by go_num, hmk⟩, by simp [intOf]; omega⟩
                    · have hlt' : ¬ (k : Int) < j := by omega
                      have HF := Lib.hid (HW.out.2.2.2.1.nn_ hmk)
                      clear hmk HW
                      go_wp2
                      go_ret
                      exact ⟨rfl, HF.out⟩
end Go.Proofs.YtfoldjnmknaklaaGreat
