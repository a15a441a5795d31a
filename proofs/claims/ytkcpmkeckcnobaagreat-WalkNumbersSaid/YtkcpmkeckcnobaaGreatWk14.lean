/- peatbanklaw17.WalkNumbers: the walk. -/
import Derived.Test.YtkcpmkeckcnobaaGreatWk13
namespace Go.Proofs.YtkcpmkeckcnobaaGreat
open Go.RowKit

theorem puts_lt : ∀ (ps : List (Nat × Nat)) (l : List Nat), (∀ p ∈ ps, p.2 < 256) → (∀ z ∈ l, z < 256) → ∀ z ∈ puts l ps, z < 256
  | [], _, _, hl => hl
  | p :: ps, l, h, hl => puts_lt ps (l.set p.1 p.2) (fun q hq => h q (List.mem_cons_of_mem _ hq)) (fun z hz => by
    rcases List.mem_or_eq_of_mem_set hz with h1 | h1
    · exact hl z h1
    · rw [h1]; exact h p List.mem_cons_self)
theorem nouts : ∀ z ∈ List.replicate 40 0, z < 256 := fun z hz => by have := List.eq_of_mem_replicate hz; omega
theorem okP {ps : List (Nat × Nat)} (h : ∀ p ∈ ps, p.2 < 256) : (puts (List.replicate 40 0) ps).length = 40 ∧ ∀ z ∈ puts (List.replicate 40 0) ps, z < 256 := ⟨by rw [puts_len]; simp, puts_lt ps _ h nouts⟩
theorem exec_two_ents {w : World} {o : Oper} {a : Act} {x y : Operand} {l m : List Nat} (ho : o.op = .buildSlice 28 2 #[(0, x), (1, y)]) (hx : a.eval x = .agg (bv l).toArray) (hy : a.eval y = .agg (bv m).toArray) (hl : l.length = 80) (hm : m.length = 80) :
    (execOp a.eval o).run Tryz.prog w = .ok (.value (.slice (some ⟨w.heap.size, 0, none⟩) 2 2)) (w.alloc (.cells (bv (l ++ m)).toArray 43)) := by
  have := exec_bsliceN (P := Tryz.prog) (w := w) (a := a) 28 43 2 _ [.agg (bv l).toArray, .agg (bv m).toArray] ho uuE infoE2 (by omega) (by omega) (by simp [hx, hy, List.zipIdx]) rfl (by
    intro q hq
    simp only [List.mem_cons, List.not_mem_nil, or_false] at hq
    rcases hq with rfl | rfl
    · rw [Value.cells, bv_size, hl]
    · rw [Value.cells, bv_size, hm])
  have e : ([Value.agg (bv l).toArray, .agg (bv m).toArray].flatMap (fun v => v.cells.toList)) = bv (l ++ m) := by simp [Value.cells, bv_append]
  rwa [e] at this
set_option maxRecDepth 100000 in
set_option maxHeartbeats 25600000 in
theorem walknum_any (w : World) : Calls Tryz.prog 5 #[] w fun r w' => r = .returned (.bool true) ∧ Mod Nn w w' := by
  go_enter Tryz.func5, Tryz.ntmps5
  go_wp2_with fail
  go_loopw [1] (fun n wr => ∃ n' : Nat, n' ≤ 44 ∧ n = .int .i64 n' ∧ Hid (Mod Nn w wr)) (fun n _ => 44 - (intOf n).toNat)
  case atStart => exact ⟨0, Nat.zero_le _, rfl, Lib.hid (Mod.refl _ _)⟩
  case round =>
    obtain ⟨n, hn, rfl, HR⟩ := hrel
    obtain ⟨wo, rfl⟩ : ∃ wo : World, wo = wr := ⟨_, rfl⟩
    by_cases hn41 : n < 41
    · have hn41' : (n : Int) < 41 := by omega
      go_wp2_with fail
      -- zzB
      go_loopw [2, 3] (fun l i wr => ∃ (i' : Nat) (E : List (List Nat)), i' ≤ n ∧ i = .int .i64 i' ∧ E.length = i' ∧ Hid (OwnE wr w.heap.size l E ∧ Rows 80 E ∧ Mod Nn w wr)) (fun _ i _ => n - (intOf i).toNat)
      case atStart => exact ⟨0, [], Nat.zero_le _, rfl, rfl, Lib.hid ⟨OwnE.nil _ _, (fun r hr => by cases hr), HR.out⟩⟩
      case round =>
        obtain ⟨i, E, hi, rfl, hE, HE⟩ := hrel
        obtain ⟨w1, rfl⟩ : ∃ w1 : World, w1 = wr := ⟨_, rfl⟩
        have hs1 : w.heap.size ≤ w1.heap.size := HE.out.2.2.size
        by_cases hin : i < n
        · have hin' : (i : Int) < n := by omega
          obtain ⟨k, hk, hkw⟩ := byte_of (7 * (i : Int) + 3)
          go_wp2_with fail
          -- zzC
          refine (one_any w1 k).mono ?_
          rintro r w2 ⟨rfl, m2⟩
          have H2 := Lib.hid m2
          have hl80 := oneR_len k
          have HK := Lib.hid (oneR_lt hk)
          clear m2 hk hkw
          go_wp2_with (first
            | (with_reducible change wpList _ _ _ (⟨some 26, _, _, _, _, _⟩ :: _) _ _
               go_must (refine wpList_mk1 (P := Tryz.prog) 28 43 _ rfl rfl (s := 80) Tryz.underlying28 infoE2 (by omega) (by omega) (v := .agg (bv (oneR k)).toArray) (ys := bv (oneR k)) rfl rfl (by rw [bv_len, hl80]) ?_)
               intro w3 b3 m3
               have H3 := Lib.hid (And.intro m3 b3)
               clear b3 m3)
            | (with_reducible change wpList _ _ _ (⟨some 27, _, _, _, _, _⟩ :: _) _ _
               go_must (refine wpList_append_rd 28 _ _ rfl rfl w.heap.size 43 zE 80 80 Tryz.underlying28 infoE zsE (by omega) _ E.length (bv E.flatten) rfl ((HE.out.1.nn H2.out).nn H3.out.1) (some ⟨w2.heap.size, 0, none⟩) 1 1 (bv (oneR k)) rfl (RdC.of_blk H3.out.2 (by rw [bv_len, hl80])) (bv_one _) (by omega) (by omega) (by have := H3.out.1.size; have := H2.out.size; omega) ?_)
               intro v4 w4 own4 gr4 ob4
               have m4 : Mod (fun x => u2.ownBlock = some x) w3 w4 := (Mod.refl _ _).grown gr4 (fun x h => .inr h)
               have H4 := Lib.hid (And.intro (OwnE.snoc rfl own4) m4)
               clear own4 gr4 ob4 m4))
          have hm3 : Mod Nn w w3 := (HE.out.2.2.nn_ H2.out).nn_ H3.out.1
          refine ⟨⟨i + 1, E ++ [oneR k], by omega, by go_num, by rw [List.length_append, hE]; rfl, Lib.hid ⟨H4.out.1, fun r hr => ?_, hm3.then_ H4.out.2 (fun x hx h => by have := HE.out.1.blk h; omega)⟩⟩, by simp [intOf]; omega⟩
          rcases List.mem_append.1 hr with h | h
          · exact HE.out.2.1 r h
          · rw [List.mem_singleton] at h; subst h; exact ⟨hl80, HK.out⟩
        · have hin' : ¬ (i : Int) < n := by omega
          obtain ⟨Al, cl, hlv, -, -, hrl, -⟩ := HE.out.1.slice
          rw [hE] at hrl hlv
          subst hlv
          have HL := Lib.hid (And.intro (show RowsAt w1 Al i E from ⟨hrl, HE.out.2.1, hE⟩) HE.out.2.2)
          clear hrl HE
          go_wp2_with fail
          -- zzD
          go_loopw [4] (fun f wr => ∃ f' : Nat, f' ≤ 306 ∧ f = .int .i64 f' ∧ Hid (Mod Nn w1 wr)) (fun f _ => 306 - (intOf f).toNat)
          case atStart => exact ⟨0, Nat.zero_le _, rfl, Lib.hid (Mod.refl _ _)⟩
          case round =>
            obtain ⟨f, hf, rfl, HF⟩ := hrel
            obtain ⟨w5, rfl⟩ : ∃ w5 : World, w5 = wr := ⟨_, rfl⟩
            by_cases hf256 : f < 256
            · have hf256' : (f : Int) < 256 := by omega
              go_wp2_with fail
              go_loopw [5] (fun b wr => ∃ b' : Nat, b' ≤ 306 ∧ b = .int .i64 b' ∧ Hid (Mod Nn w1 wr)) (fun b _ => 306 - (intOf b).toNat)
              case atStart => exact ⟨0, Nat.zero_le _, rfl, HF⟩
              case round =>
                obtain ⟨b, hb, rfl, HB⟩ := hrel
                obtain ⟨w6, rfl⟩ : ∃ w6 : World, w6 = wr := ⟨_, rfl⟩
                by_cases hb256 : b < 256
                · have hb256' : (b : Int) < 256 := by omega
                  go_wp2_with fail
                  go_loopw [6, 7] (fun m i wr => ∃ (i' : Nat) (M : List DoW), i' ≤ n + 2 ∧ i = .int .i64 i' ∧ M.length ≤ 3 * i' ∧ Hid (OwnD wr w1.heap.size m M ∧ Mod Nn w1 wr)) (fun _ i _ => n + 2 - (intOf i).toNat)
                  case atStart => exact ⟨0, [], Nat.zero_le _, rfl, Nat.le_refl _, Lib.hid ⟨World.ownsRow_nil _ _ _ _, HB.out⟩⟩
                  case round =>
                    obtain ⟨q, M, hq, rfl, hM, HM⟩ := hrel
                    obtain ⟨w7, rfl⟩ : ∃ w7 : World, w7 = wr := ⟨_, rfl⟩
                    have hs7 : w1.heap.size ≤ w7.heap.size := HM.out.2.size
                    by_cases hqn : q < n + 2
                    · have hqn' : (q : Int) < n + 2 := by omega
                      go_wp2_with (first
                        | (with_reducible change wpList _ _ _ (⟨some 43, _, _, _, _, _⟩ :: _) _ _
                           go_must (refine wpList_val rfl (exec_do1 (x := .const (.int .i64 2)) (z := 2) rfl rfl) ?_))
                        | (with_reducible change wpList _ _ _ (⟨some 44, _, _, _, _, _⟩ :: _) _ _
                           go_must (refine wpList_mk1 (P := Tryz.prog) 55 57 _ rfl rfl (s := 81) Tryz.underlying55 infoD2 (by omega) (by omega) (v := .agg (doW (dow 2 ze ze_ok)).toArray) (ys := doW (dow 2 ze ze_ok)) rfl rfl (doW_len _) ?_)
                           intro w8 b8 m8
                           have H8 := Lib.hid (And.intro m8 b8)
                           clear b8 m8)
                        | (with_reducible change wpList _ _ _ (⟨some 45, _, _, _, _, _⟩ :: _) _ _
                           go_must (refine wpList_append_rd 55 _ _ rfl rfl w1.heap.size 57 zD 81 88 Tryz.underlying55 infoD zsD (by omega) _ M.length (flat doW M) rfl (HM.out.1.nn H8.out.1) (some ⟨w7.heap.size, 0, none⟩) 1 1 (doW (dow 2 ze ze_ok)) rfl (RdC.of_blk H8.out.2 (doW_len _)) (do_one _) (by omega) (by omega) (by have := H8.out.1.size; omega) ?_)
                           intro v9 w9 own9 gr9 ob9
                           have m9 : Mod (fun x => u6.ownBlock = some x) w8 w9 := (Mod.refl _ _).grown gr9 (fun x h => .inr h)
                           have ho9 : OwnD w9 w1.heap.size v9 (M ++ [dow 2 ze ze_ok]) := by
                             unfold OwnD
                             rw [List.length_append, flat_append, flat_one]
                             exact own9
                           have hm9 : Mod Nn w1 w9 := (HM.out.2.nn_ H8.out.1).then_ m9 (fun x hx h => by obtain ⟨_, _, _, h1, _⟩ := own_blk_eq HM.out.1 h; omega)
                           have H9 := Lib.hid (And.intro ho9 hm9)
                           clear own9 gr9 ob9 m9 ho9 hm9))
                      -- zzE
                      · have hlM : (M ++ [dow 2 ze ze_ok]).length = M.length + 1 := by simp
                        have hv9 : ∃ B9 c9, v9 = .slice B9 (M.length + 1) c9 := by obtain ⟨B, c, h, _⟩ := H9.out.1.at_; exact ⟨B, c, by rw [h, hlM]⟩
                        obtain ⟨B9, c9, rfl⟩ := hv9
                        obtain ⟨k1, hk1, hk1w⟩ := byte_of (7 * (q : Int) + 3)
                        obtain ⟨k2, hk2, hk2w⟩ := byte_of (7 * (q : Int) + 4)
                        have HM1 := Lib.hid (show (7 * (q : Int) + 3) % 256 = (k1 : Int) by rw [← hk1w, IntKind.wrap_u8])
                        have HM2 := Lib.hid (show (7 * (q : Int) + 4) % 256 = (k2 : Int) by rw [← hk2w, IntKind.wrap_u8])
                        have HLM := Lib.hid hlM
                        clear hk1w hk2w hlM
                        rw [HM1.out]
                        refine (one_any w9 k1).mono ?_
                        rintro r w10 ⟨rfl, m10⟩
                        have H10 := Lib.hid m10
                        clear m10
                        have hok1 : (oneR k1).length = 80 ∧ ∀ z ∈ oneR k1, z < 256 := ⟨oneR_len k1, oneR_lt hk1⟩
                        have hok2 : (oneR k2).length = 80 ∧ ∀ z ∈ oneR k2, z < 256 := ⟨oneR_len k2, oneR_lt hk2⟩
                        go_wp2_with (first
                          | (with_reducible change wpList _ _ _ (⟨some 55, _, _, _, _, _⟩ :: _) _ _
                             go_must (refine wpList_val rfl (exec_do2 (z := 1) (e := oneR k1) hok1 rfl rfl rfl) ?_)))
                        rw [HM2.out]
                        refine (one_any w10 k2).mono ?_
                        rintro r w11 ⟨rfl, m11⟩
                        have H11 := Lib.hid (H10.out.nn_ m11)
                        clear m11
                        go_wp2_with (first
                          | (with_reducible change wpList _ _ _ (⟨some 61, _, _, _, _, _⟩ :: _) _ _
                             go_must (refine wpList_val rfl (exec_do2 (z := 0) (e := oneR k2) hok2 rfl rfl rfl) ?_))
                          | (with_reducible change wpList _ _ _ (⟨some 62, _, _, _, _, _⟩ :: _) _ _
                             go_must (refine wpList_val rfl (exec_dos2 (p := dow 1 (oneR k1) hok1) (q := dow 0 (oneR k2) hok2) rfl rfl rfl) ?_)
                             have b12 : Blk (w11.alloc (.cells (flat doW [dow 1 (oneR k1) hok1, dow 0 (oneR k2) hok2]).toArray 57)) w11.heap.size 57 (flat doW [dow 1 (oneR k1) hok1, dow 0 (oneR k2) hok2]).toArray := Blk.new _ _ _
                             have m12 : Mod Nn w11 (w11.alloc (.cells (flat doW [dow 1 (oneR k1) hok1, dow 0 (oneR k2) hok2]).toArray 57)) := (Mod.refl _ _).alloc _
                             generalize w11.alloc (.cells (flat doW [dow 1 (oneR k1) hok1, dow 0 (oneR k2) hok2]).toArray 57) = w12 at *
                             have H12 := Lib.hid (And.intro (H11.out.nn_ m12) b12)
                             clear b12 m12)
                          | (with_reducible change wpList _ _ _ (⟨some 63, _, _, _, _, _⟩ :: _) _ _
                             go_must (refine wpList_append_rd 55 _ _ rfl rfl w1.heap.size 57 zD 81 88 Tryz.underlying55 infoD zsD (by omega) _ (M ++ [dow 2 ze ze_ok]).length (flat doW (M ++ [dow 2 ze ze_ok])) rfl (H9.out.1.nn H12.out.1) (some ⟨w11.heap.size, 0, none⟩) 2 2 (flat doW [dow 1 (oneR k1) hok1, dow 0 (oneR k2) hok2]) rfl (RdC.of_blk H12.out.2 (flat_len doW_len _)) (fun u hu => by obtain ⟨p, _, hp⟩ := List.mem_flatMap.1 hu; exact do_one p u hp) (by have := HLM.out; omega) (by have := HLM.out; omega) (by have := H12.out.1.size; have := H9.out.2.size; omega) ?_)
                             intro v13 w13 own13 gr13 ob13
                             have m13 : Mod (fun x => (Value.slice B9 (M.length + 1) c9).ownBlock = some x) w12 w13 := (Mod.refl _ _).grown gr13 (fun x h => .inr h)
                             have ho13 : OwnD w13 w1.heap.size v13 ((M ++ [dow 2 ze ze_ok]) ++ [dow 1 (oneR k1) hok1, dow 0 (oneR k2) hok2]) := by
                               unfold OwnD
                               rw [List.length_append, flat_append]
                               exact own13
                             have hm13 : Mod Nn w1 w13 := (H9.out.2.nn_ H12.out.1).then_ m13 (fun x hx h => by obtain ⟨_, _, _, h1, _⟩ := own_blk_eq H9.out.1 h; omega)
                             have H13 := Lib.hid (And.intro ho13 hm13)
                             clear own13 gr13 ob13 m13 ho13 hm13))
                        exact ⟨⟨q + 1, _, by omega, by go_num, by simp only [List.length_append, List.length_cons, List.length_nil]; omega, H13⟩, by simp [intOf]; omega⟩
                      · exact ⟨⟨q + 1, _, by omega, by go_num, by simp only [List.length_append, List.length_cons, List.length_nil]; omega, H9⟩, by simp [intOf]; omega⟩
                    · have hqn' : ¬ (q : Int) < n + 2 := by omega
                      obtain ⟨Bm, cm, hmv, hdm⟩ := HM.out.1.at_
                      subst hmv
                      have HD := Lib.hid (And.intro hdm HM.out.2)
                      clear hdm HM
                      have hkf : f < 256 := by omega
                      have hkb : b < 256 := by omega
                      obtain ⟨kc, hkc, hkcw⟩ := byte_of ((b : Int) + 3)
                      have HM3 := Lib.hid (show ((b : Int) + 3) % 256 = (kc : Int) by rw [← hkcw, IntKind.wrap_u8])
                      clear hkcw
                      -- zzF
                      have hP1 : ∀ p ∈ [(0, f), (39, 1)], p.2 < 256 := fun p hp => by
                        simp only [List.mem_cons, List.not_mem_nil, or_false] at hp
                        rcases hp with rfl | rfl
                        · exact hkf
                        · show 1 < 256; omega
                      go_wp2_with (first
                        | (with_reducible change wpList _ _ _ (⟨some 67, _, _, _, _, _⟩ :: _) _ _
                           go_must (refine wpList_val rfl (exec_build_byte (P := Tryz.prog) 40 5 39 _ rfl Tryz.underlying40 size_u8t zero_keyz' (b := f) rfl) ?_))
                        | (with_reducible change wpList _ _ _ (⟨some 70, _, _, _, _, _⟩ :: _) _ _
                           go_must (refine wpList_val rfl (exec_build_byte (P := Tryz.prog) 40 5 39 _ rfl Tryz.underlying40 size_u8t zero_keyz' (b := b) rfl) ?_)))
                      refine (walkgoes_any (c0 := cl) (cm := cm) (κ := oneK f) (μ := oneK b) (HL.out.1.nn HD.out.2) HD.out.1 ⟨oneK_len _, oneK_lt hkf⟩ ⟨oneK_len _, oneK_lt hkb⟩).mono ?_
                      rintro r w8 ⟨rfl, m8⟩
                      have hd8 : DoAt w8 Bm M.length M := ⟨HD.out.1.1.md (by omega) m8 (fun _ _ f => f), rfl⟩
                      have H8 := Lib.hid (And.intro (HD.out.2.nn_ m8) hd8)
                      clear m8 hd8
                      (try dsimp only); (try go_simp); repeat' (first | ((fail_if_success (with_reducible change Oper.wp _ ⟨some 78, _, _, _, _, _⟩ _ _ _ _)); first | go_values | go_skip | go_guarded | go_step | go_upon | go_back))
                      refine wp_val' (exec_build_bytes (P := Tryz.prog) 40 5 40 _ rfl Tryz.underlying40 size_u8t zero_keyz [(0, f), (39, 1)] rfl (fun p hp => by
                        simp only [List.mem_cons, List.not_mem_nil, or_false] at hp
                        rcases hp with rfl | rfl
                        · show 0 < 40; omega
                        · show 39 < 40; omega)) ?_
                      (try dsimp only); (try go_simp); repeat' (first | ((fail_if_success (with_reducible change Oper.wp _ ⟨some 82, _, _, _, _, _⟩ _ _ _ _)); first | go_values | go_skip | go_guarded | go_step | go_upon | go_back))
                      refine wp_val' (exec_build_byte (P := Tryz.prog) 40 5 39 _ rfl Tryz.underlying40 size_u8t zero_keyz' (b := kc) (by rw [← HM3.out]; rfl)) ?_
                      go_wp2_with fail
                      refine (walkgoes_any (c0 := cl) (cm := cm) (κ := puts (List.replicate 40 0) [(0, f), (39, 1)]) (μ := oneK kc) (HL.out.1.nn H8.out.1) H8.out.2 (okP hP1) ⟨oneK_len _, oneK_lt hkc⟩).mono ?_
                      rintro r w9 ⟨rfl, m9⟩
                      have H9 := Lib.hid (H8.out.1.nn_ m9)
                      clear m9
                      go_wp2
                      exact ⟨⟨b + 51, by omega, by go_num, H9⟩, by simp [intOf]; omega⟩
                · have hb256' : ¬ (b : Int) < 256 := by omega
                  go_wp2
                  exact ⟨⟨f + 51, by omega, by go_num, HB⟩, by simp [intOf]; omega⟩
            · have hf256' : ¬ (f : Int) < 256 := by omega
              go_wp2_with fail
              refine (walkall_any (c0 := cl) (HL.out.1.nn HF.out)).mono ?_
              rintro r w6 ⟨rfl, m6⟩
              have H6 := Lib.hid (HL.out.2.nn_ (HF.out.nn_ m6))
              clear m6
              go_wp2
              exact ⟨⟨n + 4, by omega, by go_num, H6⟩, by simp [intOf]; omega⟩
    · have hn41' : ¬ (n : Int) < 41 := by omega
      -- zzG
      go_wp2_with (first
        | (with_reducible change wpList _ _ _ (⟨some 8, Op.alloc _, _, _, _, _⟩ :: _) _ _
           go_must (refine wpList_alloc_var 40 rfl rfl info_keyz ?_)
           intro w1 b1 m1 z1
           clear z1
           have H1 := Lib.hid (And.intro m1 b1)
           clear m1 b1))
      have hs0 : w.heap.size ≤ wo.heap.size := HR.out.size
      go_loopw [9] (fun i wr => ∃ (i' : Nat) (K : List Nat), i' ≤ 40 ∧ i = .int .i64 i' ∧ K.length = 40 ∧ Hid ((∀ z ∈ K, z < 256) ∧ Blk wr wo.heap.size 40 (bv K).toArray ∧ Mod Nn wo wr)) (fun i _ => 40 - (intOf i).toNat)
      case atStart => exact ⟨0, zk, Nat.zero_le _, rfl, zk_len, Lib.hid ⟨nouts, H1.out.2, H1.out.1⟩⟩
      case round =>
        obtain ⟨i, K, hi, rfl, hK, HK⟩ := hrel
        obtain ⟨w2, rfl⟩ : ∃ w2 : World, w2 = wr := ⟨_, rfl⟩
        have hs2 : wo.heap.size < w2.heap.size := HK.out.2.1.lt
        by_cases hi40 : i < 40
        · have hi40' : (i : Int) < 40 := by omega
          obtain ⟨z0, hz0⟩ : ∃ z0, (bv K)[i]? = some z0 := ⟨_, List.getElem?_eq_getElem (by rw [bv_len]; omega)⟩
          have hcell : w2.cell? ⟨wo.heap.size, i, none⟩ = some z0 := by rw [HK.out.2.1.cell i]; simpa using hz0
          have hfz : w2.frozen? ⟨wo.heap.size, i, none⟩ = false := HK.out.2.1.frozen i
          have b3 : Blk (w2.setCell ⟨wo.heap.size, i, none⟩ (.int .u8 255)) wo.heap.size 40 (bv (K.set i 255)).toArray := by
            have := HK.out.2.1.set_ i (.int .u8 255)
            have e : (bv K).toArray.setIfInBounds i (.int .u8 255) = (bv (K.set i 255)).toArray := by
              unfold bv
              rw [List.map_set, List.setIfInBounds_toArray]; rfl
            rwa [e] at this
          have m3 : Mod (At wo.heap.size) w2 (w2.setCell ⟨wo.heap.size, i, none⟩ (.int .u8 255)) := Mod.cellAt _ _ _ _
          have H3 := Lib.hid (And.intro b3 m3)
          clear b3 m3 hz0
          go_wp2
          refine ⟨⟨i + 1, K.set i 255, by omega, by go_num, by rw [List.length_set, hK], Lib.hid ⟨fun z hz => ?_, H3.out.1, HK.out.2.2.new_ H3.out.2 (Nat.le_refl _)⟩⟩, by simp [intOf]; omega⟩
          rcases List.mem_or_eq_of_mem_set hz with h1 | h1
          · exact HK.out.1 z h1
          · omega
        · have hi40' : ¬ (i : Int) < 40 := by omega
          have HW := Lib.hid (HR.out.nn_ HK.out.2.2)
          go_wp2_with (first
            | (with_reducible change wpList _ _ _ (⟨some 96, _, _, _, _, _⟩ :: _) _ _
               go_must (refine wpList_val rfl (exec_zero_ent rfl) ?_))
            | (with_reducible change wpList _ _ _ (⟨some 97, _, _, _, _, _⟩ :: _) _ _
               go_must (refine wpList_val rfl (exec_load_row (P := Tryz.prog) (g := wo.heap.size) (cs := (bv K).toArray) 40 _ rfl rfl HK.out.2.1 Tryz.underlying40 rfl (size_keyk hK)) ?_))
            | (with_reducible change wpList _ _ _ (⟨some 98, _, _, _, _, _⟩ :: _) _ _
               go_must (refine wpList_val rfl (exec_build_first (P := Tryz.prog) 43 _ rfl (n := 40) zero_entz Tryz.underlying43 (by kernel_rfl) (l := K) rfl hK) ?_))
            | (with_reducible change wpList _ _ _ (⟨some 99, _, _, _, _, _⟩ :: _) _ _
               go_must (refine wpList_val rfl (exec_two_ents (l := ze) (m := K ++ List.replicate 40 0) rfl rfl rfl ze_len (by simp [hK])) ?_)
               have b4 : Blk (w2.alloc (.cells (bv (ze ++ (K ++ List.replicate 40 0))).toArray 43)) w2.heap.size 43 (bv (ze ++ (K ++ List.replicate 40 0))).toArray := Blk.new _ _ _
               have m4 : Mod Nn w2 (w2.alloc (.cells (bv (ze ++ (K ++ List.replicate 40 0))).toArray 43)) := (Mod.refl _ _).alloc _
               generalize w2.alloc (.cells (bv (ze ++ (K ++ List.replicate 40 0))).toArray 43) = w4 at *
               have hra : RowsAt w4 (some ⟨w2.heap.size, 0, none⟩) 2 [ze, K ++ List.replicate 40 0] := by
                 refine ⟨RdC.of_blk (xs := bv [ze, K ++ List.replicate 40 0].flatten) (by simpa using b4) (by rw [bv_len]; simp [ze_len, hK]), fun r hr => ?_, rfl⟩
                 simp only [List.mem_cons, List.not_mem_nil, or_false] at hr
                 rcases hr with rfl | rfl
                 · exact ze_ok
                 · exact ⟨by simp [hK], fun z hz => (List.mem_append.1 hz).elim (HK.out.1 z) (nouts z)⟩
               have H4 := Lib.hid (And.intro (HW.out.nn_ m4) (And.intro hra (HK.out.2.1.mod m4 (fun f => f))))
               clear b4 m4 hra)
            | (with_reducible change wpList _ _ _ (⟨some 101, _, _, _, _, _⟩ :: _) _ _
               go_must (refine wpList_val rfl (exec_zero_bytes (P := Tryz.prog) 40 5 40 rfl Tryz.underlying40 size_u8t zero_keyz) ?_))
            | (with_reducible change wpList _ _ _ (⟨some 102, _, _, _, _, _⟩ :: _) _ _
               go_must (refine wpList_val rfl (exec_load_row (P := Tryz.prog) (g := wo.heap.size) (cs := (bv K).toArray) 40 _ rfl rfl H4.out.2.2 Tryz.underlying40 rfl (size_keyk hK)) ?_))
            | (with_reducible change wpList _ _ _ (⟨some 103, _, _, _, _, _⟩ :: _) _ _
               go_must (refine wpList_val rfl (exec_do1 (x := .const (.int .i64 2)) (z := 2) rfl rfl) ?_))
            | (with_reducible change wpList _ _ _ (⟨some 104, _, _, _, _, _⟩ :: _) _ _
               go_must (refine wpList_val rfl (exec_do1 (x := .const (.int .i64 2)) (z := 2) rfl rfl) ?_))
            | (with_reducible change wpList _ _ _ (⟨some 105, _, _, _, _, _⟩ :: _) _ _
               go_must (refine wpList_val rfl (exec_do1 (x := .const (.int .i64 2)) (z := 2) rfl rfl) ?_))
            | (with_reducible change wpList _ _ _ (⟨some 106, _, _, _, _, _⟩ :: _) _ _
               go_must (refine wpList_val rfl (exec_dos3 (p := dow 2 ze ze_ok) (q := dow 2 ze ze_ok) (r := dow 2 ze ze_ok) rfl rfl rfl rfl) ?_)
               have b5 : Blk (w4.alloc (.cells (flat doW [dow 2 ze ze_ok, dow 2 ze ze_ok, dow 2 ze ze_ok]).toArray 57)) w4.heap.size 57 (flat doW [dow 2 ze ze_ok, dow 2 ze ze_ok, dow 2 ze ze_ok]).toArray := Blk.new _ _ _
               have m5 : Mod Nn w4 (w4.alloc (.cells (flat doW [dow 2 ze ze_ok, dow 2 ze ze_ok, dow 2 ze ze_ok]).toArray 57)) := (Mod.refl _ _).alloc _
               generalize w4.alloc (.cells (flat doW [dow 2 ze ze_ok, dow 2 ze ze_ok, dow 2 ze ze_ok]).toArray 57) = w5 at *
               have H5 := Lib.hid (And.intro (H4.out.1.nn_ m5) (And.intro (H4.out.2.1.nn m5) (And.intro (H4.out.2.2.mod m5 (fun f => f)) (show DoAt w5 (some ⟨w4.heap.size, 0, none⟩) 3 [dow 2 ze ze_ok, dow 2 ze ze_ok, dow 2 ze ze_ok] from ⟨RdC.of_blk b5 (flat_len doW_len _), rfl⟩))))
               clear b5 m5))
          refine (walkgoes_any (c0 := 2) (cm := 3) (κ := List.replicate 40 0) (μ := K) H5.out.2.1 H5.out.2.2.2 ⟨by simp, nouts⟩ ⟨hK, HK.out.1⟩).mono ?_
          rintro r w6 ⟨rfl, m6⟩
          have H6 := Lib.hid (And.intro (H5.out.1.nn_ m6) (And.intro (H5.out.2.1.nn m6) (H5.out.2.2.1.mod m6 (fun f => f))))
          clear m6
          (try dsimp only); (try go_simp); repeat' (first | ((fail_if_success (with_reducible change Oper.wp _ ⟨some 110, _, _, _, _, _⟩ _ _ _ _)); first | go_values | go_skip | go_guarded | go_step | go_upon | go_back))
          refine wp_val' (exec_load_row (P := Tryz.prog) (g := wo.heap.size) (cs := (bv K).toArray) 40 _ rfl rfl H6.out.2.2 Tryz.underlying40 rfl (size_keyk hK)) ?_
          (try dsimp only); (try go_simp); repeat' (first | ((fail_if_success (with_reducible change Oper.wp _ ⟨some 111, _, _, _, _, _⟩ _ _ _ _)); first | go_values | go_skip | go_guarded | go_step | go_upon | go_back))
          refine wp_val' (exec_load_row (P := Tryz.prog) (g := wo.heap.size) (cs := (bv K).toArray) 40 _ rfl rfl H6.out.2.2 Tryz.underlying40 rfl (size_keyk hK)) ?_
          (try dsimp only); (try go_simp); repeat' (first | ((fail_if_success (with_reducible change Oper.wp _ ⟨some 112, _, _, _, _, _⟩ _ _ _ _)); first | go_values | go_skip | go_guarded | go_step | go_upon | go_back))
          refine wp_val' (exec_do1 (x := .const (.int .i64 2)) (z := 2) rfl rfl) ?_
          (try dsimp only); (try go_simp); repeat' (first | ((fail_if_success (with_reducible change Oper.wp _ ⟨some 113, _, _, _, _, _⟩ _ _ _ _)); first | go_values | go_skip | go_guarded | go_step | go_upon | go_back))
          refine wp_val' (exec_bslice1 (P := Tryz.prog) 55 57 _ rfl (s := 81) Tryz.underlying55 infoD2 (by omega) (by omega) (X := (doW (dow 2 ze ze_ok)).toArray) rfl rfl (by rw [List.size_toArray, doW_len])) ?_
          have b7 : Blk (w6.alloc (.cells (doW (dow 2 ze ze_ok)).toArray 57)) w6.heap.size 57 (doW (dow 2 ze ze_ok)).toArray := Blk.new _ _ _
          have m7 : Mod Nn w6 (w6.alloc (.cells (doW (dow 2 ze ze_ok)).toArray 57)) := (Mod.refl _ _).alloc _
          generalize w6.alloc (.cells (doW (dow 2 ze ze_ok)).toArray 57) = w7 at *
          have H7 := Lib.hid (And.intro (H6.out.1.nn_ m7) (And.intro (H6.out.2.1.nn m7) (show DoAt w7 (some ⟨w6.heap.size, 0, none⟩) 1 [dow 2 ze ze_ok] from ⟨RdC.of_blk (xs := flat doW [dow 2 ze ze_ok]) (by rw [flat_one]; exact b7) (flat_len doW_len _), rfl⟩)))
          clear b7 m7
          go_wp2_with fail
          refine (walkgoes_any (c0 := 2) (cm := 1) (κ := K) (μ := K) H7.out.2.1 H7.out.2.2 ⟨hK, HK.out.1⟩ ⟨hK, HK.out.1⟩).mono ?_
          rintro r w8 ⟨rfl, m8⟩
          have H8 := Lib.hid (And.intro (H7.out.1.nn_ m8) (H7.out.2.1.nn m8))
          clear m8
          go_wp2_with fail
          refine (walkall_any (c0 := 2) H8.out.2).mono ?_
          rintro r w9 ⟨rfl, m9⟩
          have H9 := Lib.hid (H8.out.1.nn_ m9)
          clear m9
          go_wp2_with fail
          refine (walk_awake w9).mono ?_
          rintro r w10 ⟨rfl, m10⟩
          have H10 := Lib.hid (H9.out.nn_ m10)
          clear m10
          go_wp2
          go_ret
          exact ⟨rfl, H10.out⟩
end Go.Proofs.YtkcpmkeckcnobaaGreat
