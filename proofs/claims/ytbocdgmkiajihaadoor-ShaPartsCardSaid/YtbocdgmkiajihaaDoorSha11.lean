/- The document's Sum. -/
import Derived.Test.YtbocdgmkiajihaaDoorSha10
namespace Go.Proofs.YtbocdgmkiajihaaDoor
open Go.RowKit

theorem key_set (v : S8) {k : Nat} (hk : k < 32) (z : Nat) (hz : (keyL v)[k]? = some z) : (u8s ((keyL v).take k ++ List.replicate (32 - k) 0)).set k (.int .u8 (z : Int)) = u8s ((keyL v).take (k + 1) ++ List.replicate (32 - (k + 1)) 0) := by
  have htl : ((keyL v).take k).length = k := by rw [List.length_take, keyL_len]; omega
  unfold u8s
  rw [← List.map_set (f := fun c : Nat => Value.int .u8 (c : Int)) (a := z)]
  congr 1
  rw [List.set_append_right _ _ (by omega), htl, Nat.sub_self, show 32 - k = (32 - (k + 1)) + 1 from by omega, List.replicate_succ, List.set_cons_zero, List.take_add_one, hz, List.append_assoc]; rfl
theorem key_old (v : S8) {k : Nat} (hk : k < 32) : (u8s ((keyL v).take k ++ List.replicate (32 - k) 0))[k]? = some (.int .u8 0) := by
  have htl : ((keyL v).take k).length = k := by rw [List.length_take, keyL_len]; omega
  rw [u8s, List.getElem?_map, List.getElem?_append_right (by omega), htl, Nat.sub_self, List.getElem?_replicate, if_pos (by omega)]; rfl
theorem key_start (v : S8) : (u8s (List.replicate 32 0)).toArray = (u8s ((keyL v).take (4 * 0) ++ List.replicate (32 - 4 * 0) 0)).toArray := by
  rw [Nat.mul_zero, List.take_zero, Nat.sub_zero, List.nil_append]
theorem size_8 : (Tryd.prog.info? 5).map (·.size) = some 1 := by kernel_rfl
set_option maxRecDepth 100000 in
set_option maxHeartbeats 3200000 in
theorem rsum_any {w : World} {A : Option Addr} {n c : Nat} {l : List Nat} (hr : Rd w A n (u8s l)) (hl : ∀ z ∈ l, z < 256) (hN : n ≤ 1000000000) :
    Calls Tryd.prog 11 #[.slice A n c] w fun e w' => e = .returned (.agg (u8s (digL l)).toArray) ∧ Mod Nn w w' := by
  have hln : l.length = n := by have := hr.1; rwa [u8s_len] at this
  have H := Lib.hid (And.intro hr (And.intro hl hln))
  clear hr hl hln
  go_enter Tryd.func11, Tryd.ntmps11
  go_upto_region 1 with (first
    | (with_reducible change wpList _ _ _ (⟨some 2, Op.alloc _, _, _, _, _⟩ :: _) _ _
       go_must (refine wpList_alloc_var 26 rfl rfl zeroK ?_)
       intro w1 b1 m1 z1
       have B1 := Lib.hid (show Blk w1 w.heap.size 26 (u8s (List.replicate 32 0)).toArray ∧ Mod Nn w w1 from ⟨b1, m1⟩)
       clear b1 m1 z1))
  obtain ⟨KB, hKB⟩ : ∃ x, w.heap.size = x := ⟨_, rfl⟩
  rw [hKB] at B1 ⊢
  have HKB := Lib.hid hKB
  clear hKB
  go_wp2_with fail
  refine (padded_any (H.out.1.mod B1.out.2 (fun _ _ f => f)) hN).mono ?_
  rintro e w2 ⟨v2, rfl, own2, m2⟩
  have hM0 : n + (tail8 n).length = 64 * ((n + (tail8 n).length) / 64) := by have := padded_mod n; omega
  have hMb : n + (tail8 n).length ≤ 1000000200 := by rw [tail8_len]; have := zrs_lt n; omega
  obtain ⟨Q, hQ⟩ : ∃ x, (n + (tail8 n).length) / 64 = x := ⟨_, rfl⟩
  rw [hQ] at hM0
  have hLlt : ∀ z ∈ l ++ tail8 n, z < 256 := fun z hz => by
    rcases List.mem_append.1 hz with hz | hz
    · exact H.out.2.1 z hz
    · exact tail8_lt _ z hz
  have hdig : blks iV (l ++ tail8 n) Q = digS l := by unfold digS; rw [H.out.2.2, ← hQ]
  obtain ⟨L, hL⟩ : ∃ x, l ++ tail8 n = x := ⟨_, rfl⟩
  rw [hL] at own2 hLlt hdig
  rw [hM0] at own2 hMb
  obtain ⟨VA, vc, rfl, hvc, hvl⟩ := own_form own2
  have HL := Lib.hid (And.intro hLlt (And.intro hdig (And.intro own2 (And.intro m2 hvl))))
  clear hLlt hdig own2 m2 hvl hL hM0 hQ
  obtain ⟨M, hM⟩ : ∃ x, 64 * Q = x := ⟨_, rfl⟩
  rw [hM] at HL hMb hvc ⊢
  have HMQ := Lib.hid hM; clear hM
  go_wp2_with (first
    | (refine (rbegin_any _).mono ?_
       rintro e w3 ⟨rfl, m3⟩
       have HB3 := Lib.hid m3; clear m3)
    | (with_reducible change wpList _ _ _ (⟨some 4, Op.alloc _, _, _, _, _⟩ :: _) _ _
       go_must (refine wpList_alloc_var 58 rfl rfl zero8 ?_)
       intro w4 b4 m4 z4)
    | (with_reducible change wpList _ _ _ (⟨none, Op.store 58 _ _, _, _, _, _⟩ :: _) _ _
       go_must (refine wpList_store_var 58 _ _ rfl rfl _ (wvs iV.l) _ _ rfl rfl b4 (by rw [size8]; rfl) (by show (wvs _).size = _; rw [wvs_size, wvs_size]; rfl) (wvs_one _) ?_)
       intro w5 b5 m5 z5
       have HB5 := Lib.hid (And.intro b5 (m4.new_ m5 (Nat.le_refl _)))
       clear b4 m4 z4 b5 m5 z5))
  obtain ⟨SB, hSB⟩ : ∃ x, w3.heap.size = x := ⟨_, rfl⟩
  rw [hSB] at HB5 ⊢
  have HSB := Lib.hid hSB
  clear hSB
  have hM25 : Mod Nn w2 w5 := HB3.out.nn_ HB5.out.2
  have HM25 := Lib.hid hM25
  clear hM25
  go_loopw [5] (fun i wr => ∃ q lo : Nat, q ≤ Q ∧ 64 * q = lo ∧ i = .int .i64 lo ∧ Blk wr SB 58 (wvs (blks iV L q).l) ∧ Mod (At SB) w5 wr) (fun i _ => M - (intOf i).toNat)
  case atStart => exact ⟨0, 0, Nat.zero_le _, rfl, rfl, HB5.out.1, Mod.refl _ _⟩
  case round =>
    obtain ⟨q, lo, hq, hlo, rfl, hb, hm⟩ := hrel
    obtain ⟨wo, rfl⟩ : ∃ wo : World, wo = wr := ⟨_, rfl⟩
    have hSBlt : w2.heap.size ≤ SB := by have := HB3.out.size; have := HSB.out; omega
    have hrdV : Rd wo VA M (u8s L) := ((Rd.of_own HL.out.2.2.1).mod HM25.out (fun _ _ f => f)).mod hm (fun g hg e => by have e : g = SB := e; have := (HL.out.2.2.2.2 g hg).2; omega)
    by_cases hlt : q < Q
    · obtain ⟨hi, hhi⟩ : ∃ x, lo + 64 = x := ⟨_, rfl⟩
      have hloM : lo + 64 ≤ M := by have := HMQ.out; omega
      have hlt' : (lo : Int) < M := by omega
      have hsub := hrdV.sub (c := vc) lo 64 hloM hvc
      have hmm : ((u8s L).drop lo).take 64 = ((L.drop lo).take 64).map (fun c : Nat => Value.int .u8 (c : Int)) := by unfold u8s; rw [List.map_take, List.map_drop]
      rw [hmm] at hsub
      have hnx : blks iV L (q + 1) = cmpr (blks iV L q) ((L.drop lo).take 64) := by rw [← hlo]; exact blks_succ L q iV
      obtain ⟨v, hv⟩ : ∃ x, blks iV L q = x := ⟨_, rfl⟩
      obtain ⟨v', hv'⟩ : ∃ x, blks iV L (q + 1) = x := ⟨_, rfl⟩
      have HV' := Lib.hid hv'
      rw [hv] at hb hnx
      rw [hv'] at hnx
      clear hv hv'
      have HX := Lib.hid (And.intro hb (And.intro hm (And.intro hsub (And.intro hnx hlo))))
      have HS := Lib.hid (show hi - lo = 64 ∧ lo ≤ hi ∧ hi ≤ vc from by omega)
      have e1 : (lo : Int) + 64 = (hi : Int) := by omega
      have e2 : IntKind.i64.wrap (hi : Int) = hi := by rw [IntKind.wrap_i64]; omega
      have hM2 : (hi : Int) ≤ M := by omega
      clear hb hm hsub hnx hlo hmm hrdV hloM hhi
      go_wp2_with fail
      have hbD := HX.out.1.drew
      refine wp_region_planT (fun w' => Blk w' SB 58 (wvs v.l)) 7 [(0, 1), (1, 0), (2, 0), (3, 0), (4, 0), (5, 0), (6, 2), (7, 2)] (by kernel_rfl) (by kernel_rfl) hbD ?_
      refine pt_take _ rfl rfl (fun w' hS => exec_load_row (P := Tryd.prog) 58 _ rfl rfl hS Tryd.underlying58 rfl (by rw [size8]; rfl)) (fun K hK => ?_); go_simp; refine hK _ ?_; clear hK K
      iterate 4 (refine pt_pure rfl rfl (fun K hK => ?_); go_simp; refine hK _ ?_; clear hK K)
      refine pt_is (.slice (subA VA vc lo 1) 64 (vc - lo)) rfl rfl (fun w' => by rw [← HS.out.1]; exact exec_sub_lh (P := Tryd.prog) 22 _ _ _ rfl 5 1 Tryd.underlying22 size_8 (A := VA) (n := M) (c := vc) (l := lo) (h := hi) rfl rfl rfl HS.out.2.1 HS.out.2.2) (fun K hK => ?_); go_simp; refine hK _ ?_; clear hK K
      clear e1 e2
      refine pt_call rfl rfl (fun K hK => ?_); go_simp; refine ⟨_, _, ⟨rfl, rfl⟩, hK _ _ _ ?_⟩; clear hK K
      refine (rblock_any v (HX.out.2.2.1.drew) (fun z hz => HL.out.1 z (List.mem_of_mem_drop (List.mem_of_mem_take hz)))).mono ?_
      rintro e w6 ⟨rfl, m6⟩
      rw [← HX.out.2.2.2.1]
      have hb6 := hbD.mod m6 (fun f => f)
      refine ⟨_, rfl, fun _ => hb6, ?_⟩
      refine pt_unit (w1 := w6.setRow SB (wvs (v').l)) rfl rfl (exec_store_row (P := Tryd.prog) 58 _ _ rfl rfl rfl hb6 (by rw [size8]; rfl) rfl (wvs_one _)) (fun h => by simp at h) (fun K hK => ?_); go_simp; refine hK _ ?_; clear hK K
      refine pt_nil ?_
      have hb7 := hb6.setRow_ (wvs (v').l)
      have hm7 : Mod (At SB) w5 (w6.setRow SB (wvs (v').l)) := ((HX.out.2.1.drew).nn_ m6).trans (Mod.rowAt _ _ _)
      have HE := Lib.hid (And.intro hb7 hm7)
      have hl2 := HX.out.2.2.2.2
      clear hb7 hm7 hb6 m6 hbD
      generalize w6.setRow SB (wvs (v').l) = w7 at *
      have e2 : IntKind.i64.wrap ((lo : Int) + 64) = (lo : Int) + 64 := by rw [IntKind.wrap_i64]; omega
      go_wp2
      first
        | exact ⟨⟨q + 1, lo + 64, by omega, by omega, by go_num, by rw [HV'.out]; exact HE.out⟩, by simp [intOf]; omega⟩
        | (refine ⟨?_, by simp [intOf]; omega⟩
           repeat apply Exists.intro
           exact ⟨⟨q + 1, lo + 64, by omega, by omega, by go_num, by rw [HV'.out]; exact HE.out⟩, rfl⟩)
    · have hqQ : q = Q := by omega
      subst hqQ
      have hlt' : ¬ (lo : Int) < M := by have := HMQ.out; omega
      rw [HL.out.2.1] at hb
      obtain ⟨V, hV⟩ : ∃ x, digS l = x := ⟨_, rfl⟩
      have hdl : digL l = keyL V := by unfold digL; rw [hV]
      rw [hV] at hb
      have HV := Lib.hid hdl
      have hMw : Mod Nn w1 wo := (HL.out.2.2.2.1.nn_ HM25.out).new_ hm (by have := HL.out.2.2.2.1.size; omega)
      have HX := Lib.hid (And.intro hb hMw)
      clear hb hm hlt hrdV hV hdl hMw hlo
      go_wp2_with (first
        | (with_reducible change wpList _ _ _ (⟨some 6, Op.alloc _, _, _, _, _⟩ :: _) _ _
           go_must (refine wpList_alloc_var 26 rfl rfl zeroK ?_)
           intro w8 b8 m8 z8
           have B8 := Lib.hid (show Blk w8 wo.heap.size 26 (u8s ((keyL V).take (4 * 0) ++ List.replicate (32 - 4 * 0) 0)).toArray ∧ Mod Nn wo w8 from ⟨key_start V ▸ b8, m8⟩)
           clear b8 m8 z8))
      obtain ⟨OB, hOB⟩ : ∃ x, wo.heap.size = x := ⟨_, rfl⟩
      rw [hOB] at B8 ⊢
      have HOB := Lib.hid (show wo.heap.size = OB ∧ SB ≠ OB ∧ KB ≠ OB from ⟨hOB, fun e => by have := HX.out.1.lt; omega, fun e => by have := (B1.out.1.mod HX.out.2 (fun f => f)).lt; omega⟩)
      clear hOB
      go_loopw [7] (fun i wr => ∃ k : Nat, k ≤ 8 ∧ i = .int .i64 k ∧ Blk wr OB 26 (u8s ((keyL V).take (4 * k) ++ List.replicate (32 - 4 * k) 0)).toArray ∧ Mod (At OB) w8 wr) (fun i _ => 8 - (intOf i).toNat)
      case atStart => exact ⟨0, Nat.zero_le _, rfl, B8.out.1, Mod.refl _ _⟩
      case round =>
        obtain ⟨k, hk, rfl, hb, hm⟩ := hrel
        obtain ⟨wx, rfl⟩ : ∃ wx : World, wx = wr := ⟨_, rfl⟩
        by_cases hlk : k < 8
        · have hlk' : (k : Int) < 8 := by omega
          have HY := Lib.hid (And.intro hb hm); clear hb hm
          go_wp2
          go_loopw [8] (fun i wr => ∃ j : Nat, j ≤ 4 ∧ i = .int .i64 j ∧ Blk wr OB 26 (u8s ((keyL V).take (4 * k + j) ++ List.replicate (32 - (4 * k + j)) 0)).toArray ∧ Mod (At OB) w8 wr) (fun i _ => 4 - (intOf i).toNat)
          case atStart => exact ⟨0, Nat.zero_le _, rfl, by rw [Nat.add_zero]; exact HY.out.1, HY.out.2⟩
          case round =>
            clear HY
            obtain ⟨j, hj, rfl, hb, hm⟩ := hrel
            obtain ⟨wy, rfl⟩ : ∃ wy : World, wy = wr := ⟨_, rfl⟩
            by_cases hlj : j < 4
            · have hlj' : (j : Int) < 4 := by omega
              obtain ⟨p, hp⟩ : ∃ p, 4 * k + j = p := ⟨_, rfl⟩
              obtain ⟨s, hs⟩ : ∃ s, 24 - j * 8 = s := ⟨_, rfl⟩
              have hkl := keyL_at V (show p < 32 by omega)
              rw [show p / 4 = k from by omega, show p % 4 = j from by omega, hs] at hkl
              have hx : V.l[k]? = some (V.l.getD k 0#32) := by rw [List.getD_eq_getElem?_getD, List.getElem?_eq_getElem (by rw [S8_len]; omega)]; rfl
              generalize V.l.getD k 0#32 = x at *
              have hcx : wy.cell? ⟨SB, k, none⟩ = some (wv x) := by
                rw [((HX.out.1.mod B8.out.2 (fun f => f)).mod hm (fun e => HOB.out.2.1 e)).cell k, wvs_at, hx]; rfl
              rw [hp] at hb
              have hck : wy.cell? ⟨OB, p, none⟩ = some (.int .u8 0) := by
                rw [hb.cell p, List.getElem?_toArray]; exact key_old V (by omega)
              have hfk := hb.frozen p
              have hset := hb.set_ p (.int .u8 (((x >>> s).toNat % 256 : Nat) : Int))
              rw [List.setIfInBounds_toArray, key_set V (by omega) _ hkl, show p + 1 = 4 * k + (j + 1) from by omega] at hset
              have HE := Lib.hid (And.intro hset (hm.trans (Mod.cellAt wy OB p (.int .u8 (((x >>> s).toNat % 256 : Nat) : Int)))))
              have e1 : (4 : Int) * (k : Int) + (j : Int) = (p : Int) := by omega
              have e3 : (24 : Int) - 8 * (j : Int) = (s : Int) := by omega
              have f1 : (p : Int) < 32 := by omega
              have hs32 : s ≤ 32 := by omega
              clear hset hkl hx hb hm hp hs
              go_wp2_with (first
                | (with_reducible change wpList _ _ _ (⟨some 44, _, _, _, _, _⟩ :: _) _ _
                   go_must (refine wpList_val rfl (exec_shr s _ _ _ _ rfl rfl rfl hs32) ?_))
                | (with_reducible change wpList _ _ _ (⟨some 45, _, _, _, _, _⟩ :: _) _ _
                   go_must (refine wpList_val rfl (exec_low8 _ _ _ rfl rfl Tryd.underlying38 Tryd.underlying5) ?_)
                   generalize ((x >>> s).toNat % 256) = z at *))
              exact ⟨⟨j + 1, by omega, by go_num, HE.out⟩, by simp [intOf]; omega⟩
            · have hlj' : ¬ (j : Int) < 4 := by omega
              have hj4 : j = 4 := by omega
              subst hj4
              have HE := Lib.hid (And.intro hb hm); clear hb hm
              rw [show 4 * k + 4 = 4 * (k + 1) from by omega] at HE
              go_wp2
              exact ⟨⟨k + 1, by omega, by go_num, HE.out⟩, by simp [intOf]; omega⟩
        · have hlk' : ¬ (k : Int) < 8 := by omega
          have hk8 : k = 8 := by omega
          subst hk8
          have hb' : Blk wx OB 26 (u8s (keyL V)).toArray := by
            have := hb
            rwa [List.take_of_length_le (by rw [keyL_len]; omega), show 32 - 4 * 8 = 0 from rfl, List.replicate_zero, List.append_nil] at this
          have hMx : Mod Nn w1 wx := (HX.out.2.nn_ B8.out.2).new_ hm (by have := HX.out.2.size; have := HOB.out.1; omega)
          have hsz : (u8s (keyL V)).length = 32 := by rw [u8s_len, keyL_len]
          have hszk : (u8s (List.replicate 32 0)).toArray.size = (u8s (keyL V)).toArray.size := by rw [zeroK_size]; simp [hsz]
          have HZ := Lib.hid (And.intro hb' (And.intro (B1.out.1.mod hMx (fun f => f)) (And.intro (B1.out.2.nn_ hMx) (And.intro hsz hszk))))
          clear hb hb' hm hMx hsz hszk
          go_wp2_with (first
            | (with_reducible change wpList _ _ _ (⟨some 47, _, _, _, _, _⟩ :: _) _ _
               go_must (refine wpList_load_var 26 _ rfl rfl OB (u8s (keyL V)).toArray _ _ rfl HZ.out.1 Tryd.underlying26 rfl (by rw [sizeK]; simp [HZ.out.2.2.2.1]) ?_))
            | (with_reducible change wpList _ _ _ (⟨none, Op.store 26 (Operand.tmp 2) _, _, _, _, _⟩ :: _) _ _
               go_must (refine wpList_store_var 26 _ _ rfl rfl KB (u8s (keyL V)).toArray (u8s (List.replicate 32 0)).toArray _ rfl rfl HZ.out.2.1 (by rw [sizeK]; simp [HZ.out.2.2.2.1]) HZ.out.2.2.2.2 (u8s_all _) ?_)
               intro w9 b9 m9 z9))
          exact bodyPost_ret (results_cell_row (P := Tryd.prog) rfl _ w9 _ _ _ (0, 0) _ rfl b9 Tryd.underlying26 rfl (by rw [sizeK]; simp [HZ.out.2.2.2.1])) rfl ⟨by rw [HV.out], HZ.out.2.2.1.new_ m9 (by have := HKB.out; omega)⟩
end Go.Proofs.YtbocdgmkiajihaaDoor
