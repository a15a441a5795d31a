/- peatbanklaw08.DevArmed: the walk. -/
import Derived.Test.YtgmkibckbbbhkaaDevO
import Derived.Test.YtgmkibckbbbhkaaDev9
import Derived.Test.YtgmkibckbbbhkaaKit7
import Derived.Deep.DeepCutAuto
import Derived.Deep.CutBlock
namespace Go.Proofs.Ytgmkibckbbbhkaa
open Go.RowKit

structure ArmInv (D : Dk) (N i : Int) : Prop where
  n : D.n = 3
  d : D.down = decide (N ≤ i)
  a : i < N → D.armed = N - i
theorem arm_crash {D : Dk} {N i : Int} (h : ArmInv D N i) (hi : i < N) : D.crash.down = decide (N ≤ i + 1) ∧ ArmInv D.crash N (i + 1) := by
  have ha := h.a hi
  unfold Dk.crash
  rw [if_pos (by omega)]
  have hd : (D.armed - 1 == 0) = decide (N ≤ i + 1) := by
    rw [ha, Bool.eq_iff_iff]; simp; omega
  exact ⟨hd, h.n, hd, fun h' => by show D.armed - 1 = _; omega⟩
theorem arm_put {D : Dk} {N i k : Int} {bs : List Int} (h : ArmInv D N i) : ArmInv (D.put k bs) N i := ⟨h.n, h.d, h.a⟩
theorem arm_flush {D : Dk} {N i : Int} (h : ArmInv D N i) : ArmInv D.flush N i := ⟨h.n, h.d, h.a⟩
theorem arm_may {D : Dk} {N i k : Int} (h : ArmInv D N i) (h0 : 0 ≤ k) (h3 : k < 3) : D.may k = if i < N then 0 else 9 := by
  unfold Dk.may
  rw [h.d]
  by_cases hi : i < N
  · rw [if_pos hi, if_neg (by simp; omega), if_neg (by rw [h.n]; omega)]
  · rw [if_neg hi, if_pos (by simp; omega)]
theorem arm_next {D : Dk} {N i : Int} (h : ArmInv D N i) (hi : ¬ i < N) : ArmInv D N (i + 1) :=
  ⟨h.n, by rw [h.d]; rw [Bool.eq_iff_iff]; simp; omega, fun h' => by omega⟩
theorem arm_write {D : Dk} {N i : Int} (h : ArmInv D N i) (k : Int) (h0 : 0 ≤ k) (h3 : k < 3) {bs : List Int} (hl : bs.length = 512) :
    ∃ D', D.write k bs = (if i < N - 1 then 0 else 9, D') ∧ ArmInv D' N (i + 1) := by
  rw [write_eq hl, arm_may h h0 h3]
  by_cases hi : i < N
  · obtain ⟨hd, ha⟩ := arm_crash (arm_put (k := k) (bs := bs) h) hi
    refine ⟨(D.put k bs).crash, ?_, ha⟩
    rw [if_pos hi, if_pos rfl, hd]
    by_cases h1 : i < N - 1
    · rw [if_pos h1, if_neg (by simp; omega)]
    · rw [if_neg h1, if_pos (by simp; omega)]
  · exact ⟨D, by rw [if_neg hi, if_neg (by omega), if_neg (by omega)], arm_next h hi⟩
theorem arm_sync {D : Dk} {N i : Int} (h : ArmInv D N i) : ∃ D', D.sync = (if i < N - 1 then 0 else 9, D') ∧ ArmInv D' N (i + 1) := by
  unfold Dk.sync
  rw [arm_may h (by omega) (by omega)]
  by_cases hi : i < N
  · obtain ⟨hd, ha⟩ := arm_crash h hi
    rw [if_pos hi, if_pos rfl, hd]
    by_cases h1 : i < N - 1
    · refine ⟨D.crash.flush, ?_, arm_flush ha⟩
      rw [if_pos h1, if_neg (by simp; omega)]
    · refine ⟨D.crash, ?_, ha⟩
      rw [if_neg h1, if_pos (by simp; omega)]
  · exact ⟨D, by rw [if_neg hi, if_neg (by omega), if_neg (by omega)], arm_next h hi⟩
theorem arm_new (N : Int) (h : 1 ≤ N) : ArmInv ((Dk.new 3).arm N) N 0 := by
  refine ⟨rfl, ?_, fun _ => ?_⟩
  · rw [decide_eq_false (by omega)]; rfl
  · show max N 0 = N - 0
    omega

theorem RdDo.take {w : World} {A : Option Addr} {n : Nat} {xs : List DoR} (h : RdDo w A n xs) {m : Nat} (hm : m ≤ n) : RdDo w A m (xs.take m) := by
  have hx : ∀ (k : Nat) (x : DoR), (xs.take m)[k]? = some x → xs[k]? = some x := fun k x hk => by
    rw [List.getElem?_take] at hk
    split at hk
    · exact hk
    · cases hk
  refine ⟨by rw [List.length_take, h.1]; omega, fun hp => ?_, fun k x hk => h.2.2 k x (hx k x hk)⟩
  obtain ⟨g, off, hA, hg, hc⟩ := h.2.1 (by omega)
  exact ⟨g, off, hA, hg, fun k x hk => hc k x (hx k x hk)⟩

set_option maxRecDepth 100000 in
set_option maxHeartbeats 4000000 in
theorem armed_any (w : World) (x0 : Int) {A : Option Addr} {n c : Nat} {xs : List DoR} (hx : RdDo w A n xs) (hc : n ≤ c) (hcm : c ≤ maxLen) :
    Calls Try.prog 5 #[.int .i64 x0, .slice A n c] w fun e w' => e = .returned (.bool true) ∧ Mod Nn w w' := by
  go_enter Try.func5, Try.ntmps5
  go_wp2_with fail
  refine (awake_any _).mono ?_
  rintro e w1 ⟨rfl, m1⟩
  go_upto_if 12 with fail
  go_cut [1] from 12 to 14 (fun v wx => ∃ (n' c' : Nat) (xs' : List DoR), v = .slice A n' c' ∧ n' ≤ 80 ∧ RdDo w A n' xs' ∧ wx = w1)
  case first =>
    by_cases h80 : (80 : Int) < n
    · obtain ⟨g, off, rfl, hg, -⟩ := hx.2.1 (by omega)
      have hx' := hx.take (m := 80) (by omega)
      clear hx
      have hc80 : 80 ≤ c := by omega
      go_wp2
      go_meet
      exact ⟨80, c, _, rfl, by omega, hx', rfl⟩
    · go_wp2
      go_meet
      exact ⟨n, c, xs, rfl, by omega, hx, rfl⟩
  case rest =>
    obtain ⟨n', c', xs', rfl, hn, hx', rfl⟩ := hcut
    go_wp2_with fail
    refine (pick_any x0 80 _ (by omega)).mono ?_
    rintro e w2 ⟨rfl, rfl⟩
    have hpr := pick_range x0 80 (by omega)
    have hN : 1 ≤ 1 + pick x0 80 ∧ 1 + pick x0 80 ≤ 80 := by omega
    clear hpr
    generalize hp : pick x0 80 = pk at *
    clear hp
    go_wp2_with fail
    refine (o_new m1 3 (by omega) (by omega)).mono ?_
    rintro e w3 ⟨b, ms, mo, rfl, h3⟩
    clear m1
    clear hx
    go_wp2_with fail
    have ha0 := arm_new (1 + pk) hN.1
    have hle : (1 + pk) ≤ 9223372036854775807 := by omega
    generalize 1 + pk = N at *
    refine (o_arm h3 N hle rfl).mono ?_
    rintro e w4 ⟨rfl, h4⟩
    generalize (Dk.new 3).arm N = D4 at *
    clear h3 hle
    go_wp2
    go_loopw [6] (fun i wr => ∃ (k : Nat) (D : Dk), k ≤ n' ∧ i = .int .i64 k ∧ Own w wr b ms mo D ∧ ArmInv D N k) (fun i _ => n' - (intOf i).toNat)
    case atStart => exact ⟨0, _, Nat.zero_le _, rfl, h4, ha0⟩
    case round =>
      obtain ⟨k, D, hk, rfl, hD, hI⟩ := hrel
      clear h4 ha0
      obtain ⟨wi, rfl⟩ : ∃ wo : World, wo = wr := ⟨_, rfl⟩
      by_cases hlt : k < n'
      · obtain ⟨g, off, x, rfl, hxk, hat, hxo, _⟩ := (hx'.mod hD.md).at_ hlt
        have hlt' : (k : Int) < n' := by omega
        have c0 := hat.c0; have c1 := hat.c1; have c3 := hat.c3
        have ho := hxo.o; have hs := hxo.s; have hb := hxo.b
        clear hat hxo
        go_upto_if 34 with fail
        go_cut [7] from 34 to 50 (fun v wx => ∃ D', v = .int .i64 (if (k : Int) < N - 1 then 0 else 9) ∧ Own w wx b ms mo D' ∧ ArmInv D' N (k + 1))
        case first =>
          by_cases h2 : x.op.tmod 2 = 0
          · have h2' : (x.op.tmod 2 == 0) = true := by rw [h2]; rfl
            clear h2 c1 c3 hxk hx'
            obtain ⟨D', he, hI'⟩ := arm_sync hI
            generalize (if (k : Int) < N - 1 then (0 : Int) else 9) = R at *
            have HE := Lib.hid he; clear he hI
            go_wp2_with fail
            refine (o_sync hD HE.out).mono ?_
            rintro e w7 ⟨rfl, h7⟩
            go_wp2
            go_meet
            exact ⟨D', rfl, h7, hI'⟩
          · have h2' : (x.op.tmod 2 == 0) = false := by simpa using h2
            have hpr := pick_range x.sec 3 (by omega)
            obtain ⟨D', he, hI'⟩ := arm_write hI (pick x.sec 3) hpr.1 hpr.2 (fullL_len x.byt)
            generalize (if (k : Int) < N - 1 then (0 : Int) else 9) = R at *
            have hm := hD.md
            obtain ⟨g', off', x', hA', hx1, hat', -, -⟩ := hx'.at_ hlt
            injection hA' with hA'; injection hA' with hg1 hg2 _; subst hg1; subst hg2
            rw [hx1] at hxk; injection hxk with hxk; subst hxk
            have hgw : g < w.heap.size := World.block_lt_of_cell? w _ hat'.c1
            have hSS : ∀ w', Mod Nn w w' → Mod Nn w w' ∧ w'.cell? ⟨g, off + k * 5 + 1, none⟩ = some (.int .i64 x'.sec) ∧ w'.cell? ⟨g, off + k * 5 + 3, none⟩ = some (.int .u8 x'.byt) :=
              fun w' m => ⟨m, (m.cell (p := ⟨g, _, none⟩) hgw (fun f => f)).trans hat'.c1, (m.cell (p := ⟨g, _, none⟩) hgw (fun f => f)).trans hat'.c3⟩
            clear hx1 hat' hx'
            have HE := Lib.hid he; have HS := Lib.hid hSS; clear hSS hm
            clear h2 he hI c1 c3 c0
            go_upto_region 14 with fail
            refine wp_region_planC (fun w' => Mod Nn w w' ∧ w'.cell? ⟨g, off + k * 5 + 1, none⟩ = some (.int .i64 x'.sec) ∧ w'.cell? ⟨g, off + k * 5 + 3, none⟩ = some (.int .u8 x'.byt))
              [(0, true), (1, true), (2, true), (3, true), (4, true), (5, true), (7, true), (8, true), (9, true), (10, true), (11, true), (6, false), (12, false), (13, false), (14, false)] (by kernel_rfl) (by kernel_rfl) (HS.out _ hD.md.drew) ?_
            refine pc_pure rfl rfl (fun K hK => ?_); go_simp; refine hK _ ?_; clear hK K
            refine pc_pure rfl rfl (fun K hK => ?_); go_simp; refine hK _ ?_; clear hK K
            refine pc_pure rfl rfl (fun K hK => ?_); go_simp; refine hK _ ?_; clear hK K
            refine pc_pure rfl rfl (fun K hK => ?_); go_simp; refine hK _ ?_; clear hK K
            refine pc_pure rfl rfl (fun K hK => ?_); go_simp; refine hK _ ?_; clear hK K
            refine pc_take _ rfl rfl (fun w' hS => exec_load1 (P := Try.prog) 3 _ rfl rfl hS.2.1 Try.underlying3 rfl) (fun K hK => ?_); go_simp; refine hK _ ?_; clear hK K
            refine pc_pure rfl rfl (fun K hK => ?_); go_simp; refine hK _ ?_; clear hK K
            refine pc_pure rfl rfl (fun K hK => ?_); go_simp; refine hK _ ?_; clear hK K
            refine pc_pure rfl rfl (fun K hK => ?_); go_simp; refine hK _ ?_; clear hK K
            refine pc_pure rfl rfl (fun K hK => ?_); go_simp; refine hK _ ?_; clear hK K
            refine pc_take _ rfl rfl (fun w' hS => exec_load1 (P := Try.prog) 5 _ rfl rfl hS.2.2 Try.underlying5 rfl) (fun K hK => ?_); go_simp; refine hK _ ?_; clear hK K
            refine pc_call rfl rfl (fun K hK => ?_); go_simp; refine ⟨_, _, ⟨rfl, rfl⟩, hK _ _ _ ?_⟩; clear hK K
            refine (pick_any x'.sec 3 _ (by omega)).mono ?_
            rintro e w7 ⟨rfl, rfl⟩
            refine ⟨_, rfl, HS.out _ hD.md.drew, ?_⟩
            refine pc_call rfl rfl (fun K hK => ?_); go_simp; refine ⟨_, _, ⟨rfl, rfl⟩, hK _ _ _ ?_⟩; clear hK K
            refine (o_full (hD.quiet (Mod.refl Nn wi).drew) x'.byt hb.1 hb.2).mono ?_
            rintro e w8 ⟨g8, rfl, r8, h8, m8⟩
            refine ⟨_, rfl, HS.out _ h8.md, ?_⟩
            refine pc_call rfl rfl (fun K hK => ?_); go_simp; refine ⟨_, _, ⟨rfl, rfl⟩, hK _ _ _ ?_⟩; clear hK K
            refine (o_write h8 (pick x'.sec 3) r8 HE.out).mono ?_
            rintro e w9 ⟨rfl, h9⟩
            refine ⟨_, rfl, HS.out _ h9.md, ?_⟩
            refine pc_only rfl rfl (HS.out _ h9.md) (fun K hK => ?_); go_simp; refine hK _ ?_; clear hK K
            refine pc_nil ?_
            go_wp2
            go_meet
            exact ⟨D', rfl, h9, hI'⟩
        case rest =>
          obtain ⟨D', rfl, hD', hI'⟩ := hcut
          clear hD hI c0 c1 c3 ho hs hb hxk hx'
          have hdn := hI'.d
          go_upto_region 15 with fail
          by_cases h1 : (k : Int) < N - 1
          · rw [if_pos h1]
            rw [decide_eq_false (by omega)] at hdn
            have HD := Lib.hid hdn; clear hdn
            go_wp2_with fail
            refine (down_any hD'.at_).mono ?_
            rintro e w7 ⟨rfl, rfl⟩
            rw [HD.out]
            go_wp2
            exact ⟨⟨k + 1, D', by omega, by go_num, hD', hI'⟩, by simp [intOf]; omega⟩
          · rw [if_neg h1]
            rw [decide_eq_true (by omega)] at hdn
            have HD := Lib.hid hdn; clear hdn
            go_wp2_with fail
            refine (down_any hD'.at_).mono ?_
            rintro e w7 ⟨rfl, rfl⟩
            rw [HD.out]
            go_wp2
            exact ⟨⟨k + 1, D', by omega, by go_num, hD', hI'⟩, by simp [intOf]; omega⟩
      · have hlt' : ¬ (k : Int) < n' := by omega
        clear hx'
        go_wp2_with fail
        refine (o_wake0 hD (D' := D.wake []) rfl).mono ?_
        rintro e w5 ⟨rfl, h5⟩
        have hn5 : (D.wake []).n = 3 := hI.n
        have ha5 : (D.wake []).armed = 0 := rfl
        have hd5 : (D.wake []).down = false := rfl
        generalize D.wake [] = D5 at *
        have HN5 := Lib.hid hn5; have HA5 := Lib.hid ha5; have HD5 := Lib.hid hd5; clear hn5 ha5 hd5 hD hI
        go_wp2_with fail
        refine (down_any h5.at_).mono ?_
        rintro e w6 ⟨rfl, rfl⟩
        rw [HD5.out]
        go_wp2_with fail
        refine (o_full h5 1 (by omega) (by omega)).mono ?_
        rintro e w6 ⟨g6, rfl, r6, h6, m6⟩
        go_wp2_with fail
        refine (o_write h6 0 r6 (write_up HD5.out HA5.out (by omega) (by rw [HN5.out]; omega) (fullL_len _))).mono ?_
        rintro e w7 ⟨rfl, h7⟩
        go_wp2_with fail
        refine (o_sync h7 (sync_up (D := D5.put 0 (fullL 1)) HD5.out HA5.out (by show 1 ≤ D5.n; rw [HN5.out]; omega))).mono ?_
        rintro e w8 ⟨rfl, h8⟩
        have M8 := h8.md
        go_wp2
        go_ret
        exact ⟨rfl, M8⟩
end Go.Proofs.Ytgmkibckbbbhkaa
