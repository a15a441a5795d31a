/- peatbanklaw08.DevWhole: the walk. -/
import Derived.Test.YtgmkibckbbbhkaaDevW1
namespace Go.Proofs.Ytgmkibckbbbhkaa
open Go.RowKit

theorem info_arr6 : (Try.prog.info? 27).map (fun i => (i.zero, i.size)) = some (some (.agg ((List.replicate 6 (0 : Int)).map (Value.int .u8)).toArray), 6) := by kernel_rfl
theorem info_arr6b : (Try.prog.info? 28).map (fun i => (i.zero, i.size)) = some (some (.agg ((List.replicate 6 false).map Value.bool).toArray), 6) := by kernel_rfl
theorem bools_one (xs : List Bool) : ((xs.map Value.bool).toArray.all (·.oneCell')) = true := by
  rw [Array.all_eq_true_iff_forall_mem]
  intro v hv
  simp only [List.mem_toArray, List.mem_map] at hv
  obtain ⟨x, _, rfl⟩ := hv; rfl
theorem or_one (x : Int) (h0 : 0 ≤ x) (h1 : x ≤ 255) : 1 ≤ bits BinOp.or IntKind.u8 x 1 ∧ bits BinOp.or IntKind.u8 x 1 ≤ 255 := by
  obtain ⟨n, rfl⟩ := Int.eq_ofNat_of_zero_le h0
  have hn : n < 256 := by omega
  revert h0 h1
  have key : ∀ m : Fin 256, 1 ≤ bits BinOp.or IntKind.u8 (m.val : Int) 1 ∧ bits BinOp.or IntKind.u8 (m.val : Int) 1 ≤ 255 := by decide +kernel
  intro _ _
  exact key ⟨n, hn⟩

set_option maxRecDepth 100000 in
set_option maxHeartbeats 4000000 in
theorem whole_any (w : World) {A B : Option Addr} {n c m d : Nat} {xs : List DoR} {fs : List Int} (hx : RdDo w A n xs) (hf : Rd w B m (fs.map (Value.int .i64))) :
    Calls Try.prog 3 #[.slice A n c, .slice B m d] w fun e w' => e = .returned (.bool true) ∧ Mod Nn w w' := by
  by_cases h80 : (80 : Int) < n
  · go_enter Try.func3, Try.ntmps3
    go_wp2_with fail
    refine (awake_any _).mono ?_
    rintro e w1 ⟨rfl, m1⟩
    go_wp2
    go_ret
    exact ⟨rfl, m1⟩
  by_cases h1000 : (1000 : Int) < m
  · go_enter Try.func3, Try.ntmps3
    go_wp2_with fail
    refine (awake_any _).mono ?_
    rintro e w1 ⟨rfl, m1⟩
    go_wp2
    go_ret
    exact ⟨rfl, m1⟩
  have hfl : fs.length = m := by simpa using hf.1
  have HFL := Lib.hid hfl; clear hfl
  go_enter Try.func3, Try.ntmps3
  go_wp2_with fail
  refine (awake_any _).mono ?_
  rintro e w1 ⟨rfl, m1⟩
  go_wp2_with fail
  refine (new_any 6 _ (by omega) (by omega)).mono ?_
  rintro e w2 ⟨b, ms, mo, rfl, hd2, m2, hfr⟩
  have HFR := Lib.hid hfr; clear hfr
  have hlt2 := hd2.lt
  have HLT := Lib.hid hlt2; clear hlt2
  go_wp2_with (first
    | (with_reducible refine wpList_alloc_var (o := ⟨some 6, _, _, _, _, _⟩) 27 rfl rfl info_arr6 ?_
       intro w3 b3 m3 z3
       have Z3 := Lib.hid z3; clear z3)
    | (with_reducible refine wpList_alloc_var (o := ⟨some 7, _, _, _, _, _⟩) 27 rfl rfl info_arr6 ?_
       intro w4 b4 m4 z4
       have Z4 := Lib.hid z4; clear z4)
    | (with_reducible refine wpList_alloc_var (o := ⟨some 8, _, _, _, _, _⟩) 28 rfl rfl info_arr6b ?_
       intro w5 b5 m5 z5
       have Z5 := Lib.hid z5; clear z5))
  have hd5 := ((hd2.mod m3 (fun _ _ f => f)).mod m4 (fun _ _ f => f)).mod m5 (fun _ _ f => f)
  have b35 := (b3.mod m4 (fun f => f)).mod m5 (fun f => f)
  have b45 := b4.mod m5 (fun f => f)
  have M5 := (((m1.nn_ m2).nn_ m3).nn_ m4).nn_ m5
  simp only [Value.cells] at b35 b45 b5
  have hs1 : w1.heap.size ≤ w2.heap.size := m2.size
  have hs0 : w.heap.size ≤ w1.heap.size := m1.size
  have hz3 : w2.heap.size < w3.heap.size := by have := Z3.out; omega
  have hz4 : w3.heap.size < w4.heap.size := by have := Z4.out; omega
  have hz5 : w4.heap.size < w5.heap.size := by have := Z5.out; omega
  clear m1 m2 m3 m4 m5 b3 b4 hd2
  generalize hg6 : w2.heap.size = g6 at *
  generalize hg7 : w3.heap.size = g7 at *
  generalize hg8 : w4.heap.size = g8 at *
  have HG := Lib.hid (show w.heap.size ≤ g6 ∧ g6 < g7 ∧ g7 < g8 ∧ g8 < w5.heap.size ∧ (∀ k, In3 b ms mo k → w.heap.size ≤ k ∧ k < g6) from
    ⟨by omega, hz3, hz4, hz5, fun k hk => ⟨by have := HFR.out k hk; omega, by have := HLT.out k hk; omega⟩⟩)
  clear HFR HLT Z3 Z4 Z5 hg6 hg7 hg8 hs1 hs0 hz3 hz4 hz5
  go_loopw [9] (fun i wr => ∃ (k : Nat) (D : Dk) (lat saf : List Int) (opn : List Bool), k ≤ n ∧ i = .int .i64 k ∧ WhOk D lat saf opn ∧ DiskAt wr b ms mo D ∧
      Blk wr g6 27 (lat.map (Value.int .u8)).toArray ∧ Blk wr g7 27 (saf.map (Value.int .u8)).toArray ∧ Blk wr g8 28 (opn.map Value.bool).toArray ∧ Mod Nn w wr) (fun i _ => n - (intOf i).toNat)
  case atStart => exact ⟨0, _, _, _, _, Nat.zero_le _, rfl, wh_new, hd5, b35, b45, b5, M5⟩
  case round =>
    obtain ⟨k, D, lat, saf, opn, hk, rfl, hwh, hdr, hb6, hb7, hb8, hmr⟩ := hrel
    clear hd5 b35 b45 b5 M5
    by_cases hlt : k < n
    · obtain ⟨g, off, x, rfl, hxk, hat, hxo, _⟩ := (hx.mod hmr).at_ hlt
      have hlt' : (k : Int) < n := by omega
      have c0 := hat.c0; have c1 := hat.c1; have c3 := hat.c3
      have hpr := pick_range x.sec 6 (by omega)
      obtain ⟨q, hq⟩ := Int.eq_ofNat_of_zero_le hpr.1
      have hb := or_one x.byt hxo.b.1 hxo.b.2
      have HQ := Lib.hid hq; have hq6 : q < 6 := by omega
      clear hpr hq
      generalize hbb : bits BinOp.or IntKind.u8 x.byt 1 = bb at *
      have HBB := Lib.hid hbb; clear hbb
      have ho := hxo
      clear hxo hat hxk hx hf
      go_wp2_with fail
      refine (pick_any _ 6 _ (by omega)).mono ?_
      rintro e w6 ⟨rfl, rfl⟩
      rw [HQ.out]
      go_wp2_with fail
      rw [HBB.out]
      refine (pick_any _ 4 _ (by omega)).mono ?_
      rintro e w6 ⟨rfl, rfl⟩
      have hG := HG.out
      have hdis : ∀ x, In3 b ms mo x → x ≠ g6 ∧ x ≠ g7 ∧ x ≠ g8 := fun x hx => by have := hG.2.2.2.2 x hx; omega
      have HD := Lib.hid hdis; have hwg : w.heap.size ≤ g6 := hG.1
      clear hdis hG
      generalize pick x.op 4 = pk
      by_cases hp : pk = 0
      · have hp1 : (pk == 0) = true := by simp [hp]
        clear hp
        go_wp2_with fail
        refine (sync_any hdr).mono ?_
        rintro e w7 ⟨rfl, hd7, m7⟩
        rw [sync_up hwh.d hwh.a (by rw [hwh.n]; omega)] at hd7 ⊢
        have hb67 : Blk w7 g6 27 (lat.map (Value.int .u8)).toArray := hb6.mod m7 (fun h => (HD.out _ h).1 rfl)
        have hb77 : Blk w7 g7 27 (saf.map (Value.int .u8)).toArray := hb7.mod m7 (fun h => (HD.out _ h).2.1 rfl)
        have hb87 : Blk w7 g8 28 (opn.map Value.bool).toArray := hb8.mod m7 (fun h => (HD.out _ h).2.2 rfl)
        have hm7 : Mod Nn w w7 := hmr.then_ m7 (fun y hy hin => by have := HG.out.2.2.2.2 y hin; omega)
        have hw7 := wh_flush hwh
        have HL := Lib.hid hwh.ll; have HS := Lib.hid hwh.sl; have HO := Lib.hid hwh.ol
        have g67 : g6 ≠ g7 := by have := HG.out; omega
        have g68 : g6 ≠ g8 := by have := HG.out; omega
        have g78 : g7 ≠ g8 := by have := HG.out; omega
        have hwg7 : w.heap.size ≤ g7 := by have := HG.out; omega
        have hwg8 : w.heap.size ≤ g8 := by have := HG.out; omega
        clear hb6 hb7 hb8 hdr hmr m7 hwh hwg
        go_wp2_with (first
          | (with_reducible change wpList _ _ _ (⟨_, Op.load 27 (Operand.tmp 6), _, _, _, _⟩ :: _) _ _
             go_must (refine wpList_load_var 27 _ rfl rfl _ _ _ _ rfl hb67 Try.underlying27 rfl (by rw [size_of info_arr6]; simp [HL.out]) ?_))
          | (with_reducible change wpList _ _ _ (⟨none, Op.store 27 (Operand.tmp 7) _, _, _, _, _⟩ :: _) _ _
             go_must (refine wpList_store_var 27 _ _ rfl rfl _ (lat.map (Value.int .u8)).toArray _ _ rfl rfl hb77 (by rw [size_of info_arr6]; simp [HL.out]) (by simp [HL.out, HS.out]) (ints_one _ _) ?_)
             intro w8 b78 m8 z8
             clear z8)
          | (with_reducible change wpList _ _ _ (⟨none, Op.store 28 (Operand.tmp 8) _, _, _, _, _⟩ :: _) _ _
             go_must (refine wpList_store_var 28 _ _ rfl rfl _ ((List.replicate 6 false).map Value.bool).toArray _ _ rfl rfl (hb87.mod m8 (fun e => g78 (e : g8 = g7).symm)) (by rw [size_of info_arr6b]; rfl) (by simp [HO.out]) (bools_one _) ?_)
             intro w9 b89 m9 z9
             clear z9))
        go_roundw
        case rel =>
          refine ⟨k + 1, _, lat, lat, _, by omega, by go_num, hw7, (hd7.mod m8 (fun y hy e => ?_)).mod m9 (fun y hy e => ?_), (hb67.mod m8 (fun e => g67 e)).mod m9 (fun e => g68 e), b78.mod m9 (fun e => g78 e), b89, (hm7.new_ m8 hwg7).new_ m9 hwg8⟩
          · exact (HD.out y hy).2.1 e
          · exact (HD.out y hy).2.2 e
        case measure => simp [intOf]; omega
      · have hp1 : (pk == 0) = false := by simpa using hp
        clear hp
        go_wp2_with fail
        refine (full_any bb _ (by omega) (by omega)).mono ?_
        rintro e w7 ⟨g, rfl, hbg, hgn, m7⟩
        go_wp2_with fail
        have hd7 := hdr.mod m7 (fun _ _ f => f)
        refine (write_any hd7 q (Rd.of_blk0 hbg (n := 512) (by simp [fullL_len]))).mono ?_
        rintro e w8 ⟨rfl, hd8, m8, -⟩
        rw [write_up hwh.d hwh.a (by omega) (by rw [hwh.n]; omega) (fullL_len _)] at hd8 ⊢
        have hb68 : Blk w8 g6 27 (lat.map (Value.int .u8)).toArray := (hb6.mod m7 (fun f => f)).mod m8 (fun h => (HD.out _ h).1 rfl)
        have hb78 : Blk w8 g7 27 (saf.map (Value.int .u8)).toArray := (hb7.mod m7 (fun f => f)).mod m8 (fun h => (HD.out _ h).2.1 rfl)
        have hb88 : Blk w8 g8 28 (opn.map Value.bool).toArray := (hb8.mod m7 (fun f => f)).mod m8 (fun h => (HD.out _ h).2.2 rfl)
        have hm8 : Mod Nn w w8 := (hmr.nn_ m7).then_ m8 (fun y hy hin => by have := HG.out.2.2.2.2 y hin; omega)
        have hw8 := wh_put hwh q hq6 bb (by omega)
        have cc6 : w8.cell? ⟨g6, q, none⟩ = some (.int .u8 (lat.getD q 0)) := by
          rw [hb68.cell q]; simp [hwh.ll, hq6]
        have cc8 : w8.cell? ⟨g8, q, none⟩ = some (.bool (opn.getD q false)) := by
          rw [hb88.cell q]; simp [hwh.ol, hq6]
        generalize lat.getD q 0 = old6 at cc6
        generalize opn.getD q false = old8 at cc8
        have ff6 := hb68.frozen q
        have ff8 := hb88.frozen q
        have g68 : g6 ≠ g8 := by have := HG.out; omega
        have g67 : g7 ≠ g6 := by have := HG.out; omega
        have g78 : g7 ≠ g8 := by have := HG.out; omega
        have hwg8 : w.heap.size ≤ g8 := by have := HG.out; omega
        clear hb6 hb7 hb8 hdr hmr m7 hwh hd7 hbg hgn m8
        go_wp2
        have m9 : Mod (At g6) w8 (w8.setCell ⟨g6, q, none⟩ (.int .u8 bb)) := Mod.cellAt _ _ _ _
        have m10 : Mod (At g8) (w8.setCell ⟨g6, q, none⟩ (.int .u8 bb)) ((w8.setCell ⟨g6, q, none⟩ (.int .u8 bb)).setCell ⟨g8, q, none⟩ (.bool true)) := Mod.cellAt _ _ _ _
        have e6 : ((lat.map (Value.int .u8)).toArray.setIfInBounds q (.int .u8 bb)) = ((lat.set q bb).map (Value.int .u8)).toArray := by rw [List.map_set]; simp
        have e8 : ((opn.map Value.bool).toArray.setIfInBounds q (.bool true)) = ((opn.set q true).map Value.bool).toArray := by rw [List.map_set]; simp
        have h6 := (hb68.set_ q (.int .u8 bb)).mod m10 (fun e => g68 e)
        have h7 := (hb78.mod m9 (fun e => g67 e)).mod m10 (fun e => g78 e)
        have h8 := (hb88.mod m9 (fun e => g68 (e : g8 = g6).symm)).set_ q (.bool true)
        rw [e6] at h6
        rw [e8] at h8
        refine ⟨⟨k + 1, _, _, _, _, by omega, by go_num, hw8, (hd8.mod m9 (fun y hy e => (HD.out y hy).1 e)).mod m10 (fun y hy e => (HD.out y hy).2.2 e), h6, h7, h8, (hm8.new_ m9 hwg).new_ m10 hwg8⟩, by simp [intOf]; omega⟩
    · have hlt' : ¬ (k : Int) < n := by omega
      clear hx
      go_wp2_with fail
      have hf1 := hf.mod hmr (fun _ _ f => f)
      refine (wake_any hdr hf1 (fun hp y hy hin => ?_) (by omega)).mono ?_
      · have h1 := hf.in_ hp hy
        have := (HG.out.2.2.2.2 y hin).1
        omega
      rintro e w6 ⟨rfl, hd6, m6⟩
      have hG := HG.out
      have hdis : ∀ x, In3 b ms mo x → x ≠ g6 ∧ x ≠ g7 ∧ x ≠ g8 := fun x hx => by have := hG.2.2.2.2 x hx; omega
      have hb66 : Blk w6 g6 27 (lat.map (Value.int .u8)).toArray := hb6.mod m6 (fun h => (hdis _ h).1 rfl)
      have hb76 : Blk w6 g7 27 (saf.map (Value.int .u8)).toArray := hb7.mod m6 (fun h => (hdis _ h).2.1 rfl)
      have hb86 : Blk w6 g8 28 (opn.map Value.bool).toArray := hb8.mod m6 (fun h => (hdis _ h).2.2 rfl)
      have M6 : Mod Nn w w6 := hmr.then_ m6 (fun y hy hin => by have := hG.2.2.2.2 y hin; omega)
      clear hb6 hb7 hb8 hmr hdis hG hdr m6 hf1
      go_wp2
      have hnn : ∀ y, In3 b ms mo y → ¬ Nn y := fun _ _ f => f
      go_loopw [12] (fun i wr => ∃ p : Nat, p ≤ 6 ∧ i = .int .i64 p ∧ Mod Nn w6 wr) (fun i _ => 6 - (intOf i).toNat)
      case atStart => exact ⟨0, by omega, rfl, Mod.refl _ _⟩
      case round =>
        obtain ⟨p, hp6, rfl, hmo⟩ := hrel
        have hren : ∃ wo : World, wo = wr := ⟨_, rfl⟩
        obtain ⟨wo, rfl⟩ := hren
        by_cases hp : p < 6
        · have hp' : (p : Int) < 6 := by omega
          have hfo := (hf.mod M6 (fun _ _ f => f)).mod hmo (fun _ _ f => f)
          go_wp2
          go_loop [13, 14] (fun v i => ∃ t : Nat, t ≤ m ∧ i = .int .i64 t ∧ v = .bool (decide ((p : Int) ∈ fs.take t))) (fun _ i => m - (intOf i).toNat)
          case atStart => exact ⟨0, Nat.zero_le _, rfl, by simp⟩
          case round =>
            obtain ⟨t, ht, rfl, rfl⟩ := hrel
            by_cases htm : t < m
            · have htm' : (t : Int) < m := by omega
              obtain ⟨g, off, v, rfl, hv, hc⟩ := hfo.at_ htm
              rw [List.getElem?_map] at hv
              obtain ⟨f, hft, rfl⟩ := Option.map_eq_some_iff.1 hv
              have hnext : decide ((p : Int) ∈ fs.take (t + 1)) = (decide ((p : Int) ∈ fs.take t) || (f == (p : Int))) := by
                have htl : t < fs.length := by rw [HFL.out]; exact htm
                rw [List.getElem?_eq_getElem htl] at hft
                injection hft with hft
                rw [Bool.eq_iff_iff, List.take_succ_eq_append_getElem htl, hft]
                simp only [List.mem_append, List.mem_singleton, decide_eq_true_eq, Bool.or_eq_true, beq_iff_eq]
                exact ⟨fun h => h.imp id Eq.symm, fun h => h.imp id Eq.symm⟩
              have HN := Lib.hid hnext
              clear hnext hv hft hf hfo
              generalize decide ((p : Int) ∈ fs.take t) = kb at *
              cases kb with
              | true =>
                go_wp2
                go_round
                case rel => exact ⟨t + 1, by omega, by go_num, by rw [HN.out]; rfl⟩
                case measure => simp [intOf]; omega
              | false =>
                go_wp2
                go_round
                case rel => exact ⟨t + 1, by omega, by go_num, by rw [HN.out]; rfl⟩
                case measure => simp [intOf]; omega
            · have htm' : ¬ (t : Int) < m := by omega
              have hkp : decide ((p : Int) ∈ fs.take t) = decide ((p : Int) ∈ fs) := by rw [List.take_of_length_le (by rw [HFL.out]; omega)]
              rw [hkp]
              have hrd := wh_read hwh fs p hp
              generalize hkb : decide ((p : Int) ∈ fs) = kb at *
              have HRD := Lib.hid hrd
              clear hkp hkb hrd hf hfo
              go_wp2_with fail
              have hdo := hd6.mod hmo hnn
              refine (read_any hdo p).mono ?_
              rintro e w8 ⟨v, rfl, hv, m8⟩
              rw [HRD.out] at hv
              rw [show (D.wake fs).may p = 0 from may_ok rfl (by omega) (by show (p : Int) < D.n; rw [hwh.n]; omega)]
              obtain ⟨A', c', rfl, hra, _⟩ := own_rd hv
              have hwl : (wantL (whFrom lat saf opn kb p)).length = 512 := by simp [wantL]
              rw [hwl] at hra ⊢
              have hb68 := (hb66.mod hmo (fun f => f)).mod m8 (fun f => f)
              have hb78 := (hb76.mod hmo (fun f => f)).mod m8 (fun f => f)
              have hb88 := (hb86.mod hmo (fun f => f)).mod m8 (fun f => f)
              have cc6 : w8.cell? ⟨g6, p, none⟩ = some (.int .u8 (lat.getD p 0)) := by rw [hb68.cell p]; simp [hwh.ll, hp]
              have cc7 : w8.cell? ⟨g7, p, none⟩ = some (.int .u8 (saf.getD p 0)) := by rw [hb78.cell p]; simp [hwh.sl, hp]
              have cc8 : w8.cell? ⟨g8, p, none⟩ = some (.bool (opn.getD p false)) := by rw [hb88.cell p]; simp [hwh.ol, hp]
              have hF : whFrom lat saf opn kb p = if opn.getD p false && kb then lat.getD p 0 else saf.getD p 0 := rfl
              have hwant : ∀ i, i < 512 → (wantL (whFrom lat saf opn kb p))[i]? = some (whWant (whFrom lat saf opn kb p) i) := fun i hi => by
                unfold wantL; rw [List.getElem?_map, List.getElem?_range hi]; rfl
              have HW := Lib.hid hwant; have HF := Lib.hid hF
              have M8 : Mod Nn w w8 := (M6.nn_ hmo).nn_ m8
              have hmo8 : Mod Nn w6 w8 := hmo.nn_ m8
              clear hwant hF hwl hv hb66 hb76 hb86 hb68 hb78 hb88 hdo m8 HRD hd6 hwh
              generalize whFrom lat saf opn kb p = F at *
              generalize lat.getD p 0 = fl at *
              generalize saf.getD p 0 = fsf at *
              generalize opn.getD p false = fo at *
              go_wp2
              go_loop [17] (fun i => ∃ t : Nat, t ≤ 512 ∧ i = .int .i64 t) (fun i => 512 - (intOf i).toNat)
              case atStart => exact ⟨0, by omega, rfl⟩
              case round =>
                obtain ⟨i, hi, rfl⟩ := hrel
                by_cases hit : i < 512
                · have hit' : (i : Int) < 512 := by omega
                  obtain ⟨g, off, v, hAe, hv, hc⟩ := hra.at_ hit
                  subst hAe
                  rw [List.getElem?_map, HW.out i hit] at hv
                  injection hv with hv
                  subst hv
                  clear hra
                  have hw0 : F = 0 → whWant F i = 0 := fun h => by simp [whWant, h]
                  have hw1 : F ≠ 0 → whWant F i = (F + (i : Int) / 64) % 256 := fun h => by simp [whWant, h]
                  generalize whWant F i = W at *
                  have hend : ∀ V : Int, (if F = 0 then V = 0 else V = (F + (i : Int) / 64) % 256) → (W != V) = false := by
                    intro V hV
                    by_cases h0 : F = 0
                    · rw [if_pos h0] at hV; rw [hV, hw0 h0]; simp
                    · rw [if_neg h0] at hV; rw [hV, hw1 h0]; simp
                  clear hw0 hw1
                  have HE := Lib.hid hend; clear hend
                  cases fo <;> cases kb
                  all_goals
                    first | (have hFe : F = fsf := HF.out; subst hFe) | (have hFe : F = fl := HF.out; subst hFe)
                    by_cases h0 : F = 0
                    · have hq : (F == 0) = true := by simp [h0]
                      have hz : (W != 0) = false := HE.out 0 (by rw [if_pos h0])
                      clear h0
                      go_wp2
                      go_round
                      case rel => exact ⟨i + 1, by omega, by go_num⟩
                      case measure => simp [intOf]; omega
                    · have hq : (F == 0) = false := by simp [h0]
                      have hz := HE.out ((F + (i : Int) / 64) % 256) (by rw [if_neg h0])
                      clear h0
                      go_wp2
                      go_round
                      case rel => exact ⟨i + 1, by omega, by go_num⟩
                      case measure => simp [intOf]; omega
                · have hit' : ¬ (i : Int) < 512 := by omega
                  go_wp2
                  go_roundw
                  case rel => exact ⟨p + 1, by omega, by go_num, hmo8⟩
                  case measure => simp [intOf]; omega
        · have hp' : ¬ (p : Int) < 6 := by omega
          go_wp2
          go_ret
          exact ⟨rfl, M6.nn_ hmo⟩
end Go.Proofs.Ytgmkibckbbbhkaa
