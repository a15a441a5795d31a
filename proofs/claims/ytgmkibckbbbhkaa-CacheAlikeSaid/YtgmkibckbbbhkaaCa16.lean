/- peatbanklaw09.CacheAlike: the walk. -/
import Derived.Test.YtgmkibckbbbhkaaCa15
namespace Go.Proofs.Ytgmkibckbbbhkaa
open Go.RowKit

theorem oc_new {w w1 w2 : World} {b ms mo c mk : Nat} {D : Dk} {sz : Int} (md : Mod Nn w w1) (hf : ∀ k, In3 b ms mo k → w.heap.size ≤ k) (hC : CAt w2 c b ms mo mk D sz 0 0 0 [] []) (m2 : Mod Nn w1 w2) (hc : w1.heap.size ≤ c) (hk : w1.heap.size ≤ mk) :
    OwnC w w2 c b ms mo mk D sz 0 0 0 [] [] := ⟨hC, md.nn_ m2, fun k hin => by
    have hz := md.size
    rcases hin with (rfl | rfl | ⟨e, he, -⟩) | hin
    · omega
    · omega
    · cases he
    · exact hf k hin⟩
theorem al_new {w w1 w2 w3 w4 w5 : World} {b1 ms1 mo1 b2 ms2 mo2 b3 ms3 mo3 c1 k1 c2 k2 : Nat} {D : Dk} {p q : Int}
    (d1 : DiskAt w1 b1 ms1 mo1 D) (m1 : Mod Nn w w1) (f1 : ∀ k, In3 b1 ms1 mo1 k → w.heap.size ≤ k) (d2 : DiskAt w2 b2 ms2 mo2 D) (m2 : Mod Nn w1 w2) (f2 : ∀ k, In3 b2 ms2 mo2 k → w1.heap.size ≤ k)
    (d3 : DiskAt w3 b3 ms3 mo3 D) (m3 : Mod Nn w2 w3) (f3 : ∀ k, In3 b3 ms3 mo3 k → w2.heap.size ≤ k) (h4 : CAt w4 c1 b1 ms1 mo1 k1 D p 0 0 0 [] []) (m4 : Mod Nn w3 w4) (g4 : w3.heap.size ≤ c1) (e4 : w3.heap.size ≤ k1)
    (h5 : CAt w5 c2 b2 ms2 mo2 k2 D q 0 0 0 [] []) (m5 : Mod Nn w4 w5) (g5 : w4.heap.size ≤ c2) (e5 : w4.heap.size ≤ k2) (hU : Up D) :
    AlS w w5 ⟨c1, b1, ms1, mo1, k1⟩ ⟨c2, b2, ms2, mo2, k2⟩ b3 ms3 mo3 p q 0 := by
  have z1 := m1.size; have z2 := m2.size; have z3 := m3.size; have z4 := m4.size; have z5 := m5.size
  have l1 := d1.lt; have l2 := d2.lt; have l3 := d3.lt
  have lc1 := h4.lt; have lc2 := h5.lt
  have hA1 : ∀ k, InA c1 b1 ms1 mo1 k1 [] k → (w.heap.size ≤ k ∧ k < w1.heap.size) ∨ (w3.heap.size ≤ k ∧ k < w4.heap.size) := fun k hk => by
    have hl := lc1 k hk
    rcases hk with (hk | hk | ⟨e, he, -⟩) | hk
    · have hk : k = c1 := hk
      exact .inr (by omega)
    · have hk : k = k1 := hk
      exact .inr (by omega)
    · cases he
    · exact .inl ⟨f1 k hk, l1 k hk⟩
  have hA2 : ∀ k, InA c2 b2 ms2 mo2 k2 [] k → (w1.heap.size ≤ k ∧ k < w2.heap.size) ∨ (w4.heap.size ≤ k ∧ k < w5.heap.size) := fun k hk => by
    have hl := lc2 k hk
    rcases hk with (hk | hk | ⟨e, he, -⟩) | hk
    · have hk : k = c2 := hk
      exact .inr (by omega)
    · have hk : k = k2 := hk
      exact .inr (by omega)
    · cases he
    · exact .inl ⟨f2 k hk, l2 k hk⟩
  have hA3 : ∀ k, In3 b3 ms3 mo3 k → w2.heap.size ≤ k ∧ k < w3.heap.size := fun k hk => ⟨f3 k hk, l3 k hk⟩
  refine ⟨D, ⟨0, 0, 0, [], []⟩, ⟨0, 0, 0, [], []⟩, ⟨(oc_new ((m1.nn_ m2).nn_ m3) f1 h4 m4 g4 e4).quiet m5, oc_new (((m1.nn_ m2).nn_ m3).nn_ m4) (fun k hk => by have := f2 k hk; omega) h5 m5 g5 e5, ⟨(d3.mod m4 (fun _ _ f => f)).mod m5 (fun _ _ f => f), (((m1.nn_ m2).nn_ m3).nn_ m4).nn_ m5, fun k hk => by have := f3 k hk; omega⟩, ?_, ?_, ?_⟩, hU, Int.le_refl _, Int.le_refl _⟩
  · intro k hk hin; have h1 := hA1 k hk; have h2 := hA2 k hin; omega
  · intro k hk hin; have h1 := hA1 k hk; have h2 := hA3 k hin; omega
  · intro k hk hin; have h1 := hA2 k hk; have h2 := hA3 k hin; omega

set_option maxRecDepth 100000 in
set_option maxHeartbeats 12800000 in
theorem calike_any (w : World) (x0 x1 : Int) {A : Option Addr} {n c : Nat} {xs : List DoR} (hx : RdDo w A n xs) (hc : n ≤ c) (hcm : c ≤ maxLen) {B : Option Addr} {m cb : Nat} {fl : List Int} (hf : Rd w B m (fl.map (Value.int .i64))) (hmc : m ≤ cb) (hcbm : cb ≤ maxLen) :
    Calls Try.prog 14 #[.int .i64 x0, .int .i64 x1, .slice A n c, .slice B m cb] w fun e w' => e = .returned (.bool true) ∧ Mod Nn w w' := by
  unfold maxLen at hcm hcbm
  have HF := Lib.hid hf; clear hf
  have HX := Lib.hid hx; clear hx
  go_enter Try.func14, Try.ntmps14
  go_wp2_with fail
  refine (cawake_any _).mono ?_
  rintro r wa ⟨rfl, ma⟩
  by_cases h80 : (80 : Int) < n
  · go_wp2
    go_ret
    exact ⟨rfl, ma⟩
  by_cases h1000 : (1000 : Int) < m
  · go_wp2
    go_ret
    exact ⟨rfl, ma⟩
  have hf0 := Rd.mod HF.out ma (fun _ _ f => f)
  have HF := Lib.hid hf0; clear hf0
  have hx0 := RdDo.mod HX.out ma
  have HX := Lib.hid hx0; clear hx0
  go_wp2_with fail
  refine (new_any 6 _ (by omega) (by omega)).mono ?_
  rintro r w1 ⟨b1, ms1, mo1, rfl, d1, m1, f1⟩
  go_wp2_with fail
  refine (new_any 6 _ (by omega) (by omega)).mono ?_
  rintro r w2 ⟨b2, ms2, mo2, rfl, d2, m2, f2⟩
  go_wp2_with fail
  refine (new_any 6 _ (by omega) (by omega)).mono ?_
  rintro r w3 ⟨b3, ms3, mo3, rfl, d3, m3, f3⟩
  have hp0 := pick_range x0 9 (by omega)
  have hp1 := pick_range x1 9 (by omega)
  go_wp2_with fail
  refine (pick_any x0 9 _ (by omega)).mono ?_
  rintro r w4 ⟨rfl, rfl⟩
  have e0 : 1 ≤ 1 + pick x0 9 := by omega
  have e1 : 1 ≤ 1 + pick x1 9 := by omega
  generalize hp : pick x0 9 = p0 at *
  have HP0 := Lib.hid hp; clear hp
  go_wp2_with fail
  refine (cnew_any ((d1.mod m2 (fun _ _ f => f)).mod m3 (fun _ _ f => f)) (1 + p0) e0).mono ?_
  rintro r w4 ⟨c1, k1, rfl, h4, m4, g4, k4⟩
  go_wp2_with fail
  refine (pick_any x1 9 _ (by omega)).mono ?_
  rintro r w5 ⟨rfl, rfl⟩
  generalize hp : pick x1 9 = p1 at *
  have HP1 := Lib.hid hp; clear hp
  go_wp2_with fail
  refine (cnew_any (((d2.mod m3 (fun _ _ f => f)).mod m4 (fun _ _ f => f))) (1 + p1) e1).mono ?_
  rintro r w5 ⟨c2, k2, rfl, h5, m5, g5, k5⟩
  have hS := al_new d1 m1 f1 d2 m2 f2 d3 m3 f3 h4 m4 g4 k4 h5 m5 g5 k5 ⟨rfl, rfl, rfl⟩
  clear d1 m1 f1 d2 m2 f2 d3 m3 f3 h4 m4 g4 k4 h5 m5 g5 k5 e0 e1 hp0 hp1
  have HS := Lib.hid hS; clear hS
  generalize 1 + p0 = p at *
  generalize 1 + p1 = q at *
  clear HP0 HP1
  go_wp2
  go_loopw [14] (fun i wr => ∃ k : Nat, k ≤ n ∧ i = .int .i64 k ∧ AlS wa wr ⟨c1, b1, ms1, mo1, k1⟩ ⟨c2, b2, ms2, mo2, k2⟩ b3 ms3 mo3 p q k) (fun i _ => n - (intOf i).toNat)
  case atStart => exact ⟨0, Nat.zero_le _, rfl, HS.out⟩
  case round =>
    clear HS
    obtain ⟨k, hk, rfl, D, u, v, hAl, hU, hu, hv⟩ := hrel
    obtain ⟨wo, rfl⟩ : ∃ wo : World, wo = wr := ⟨_, rfl⟩
    have H := Lib.hid hAl; have HU := Lib.hid hU; clear hAl hU
    by_cases hlt : k < n
    · obtain ⟨g, off, x, rfl, hxk, hat, hxo, hxf⟩ := (HX.out.mod H.out.al.md).at_ hlt
      have hlt' : (k : Int) < n := by omega
      have hgl : g < wo.heap.size := World.block_lt_of_cell? wo _ hat.c0
      have hg0 : g < wa.heap.size := by
        obtain ⟨g', off', hA', hgl', -⟩ := HX.out.2.1 (by omega)
        injection hA' with hA'; injection hA' with hA' _ _; omega
      have HG := Lib.hid (show ∀ k, In3 b3 ms3 mo3 k ∨ InW c1 b1 ms1 mo1 k1 k ∨ InW c2 b2 ms2 mo2 k2 k → k ≠ g from fun k hk e => by
        rcases hk with hk | hk | hk
        · have := H.out.al.fr k hk; omega
        · have := H.out.one.fr k (inA_of hk); omega
        · have := H.out.two.fr k (inA_of hk); omega)
      have cc0 := hat.c0; have cc1 := hat.c1; have cc3 := hat.c3
      have hop := hxo.o; have hsec := hxo.s; have hbyt := hxo.b
      clear hat hxk hxo hxf
      have hp8 := pick_range x.sec 8 (by omega)
      have hp5 := pick_range x.op 5 (by omega)
      go_wp2_with fail
      refine (pick_any x.sec 8 _ (by omega)).mono ?_
      rintro r w6 ⟨rfl, rfl⟩
      generalize pick x.sec 8 = s8 at *
      go_wp2_with fail
      refine (pick_any x.op 5 _ (by omega)).mono ?_
      rintro r w6 ⟨rfl, rfl⟩
      generalize pick x.op 5 = o5 at *
      by_cases h0 : o5 = 0
      · subst h0
        generalize hR : D.sync.1 = R at *
        have HR := Lib.hid hR; clear hR
        clear cc0 cc1 cc3 hp5 hop hbyt
        go_wp2_with fail
        refine (sync_any H.out.al.at_).mono ?_
        rintro r w6 ⟨rfl, d6, m6⟩
        rw [HR.out]
        have h6 := H.out.step3 d6 m6
        clear d6 m6
        go_wp2_with fail
        refine (csync_any h6.one.at_).mono ?_
        rintro r w7 ⟨rfl, hC7, hT7⟩
        rw [HR.out]
        have h7 := h6.step1 (u' := u) hC7 hT7
        clear hC7 hT7 h6
        go_wp2_with fail
        refine (csync_any h7.two.at_).mono ?_
        rintro r w8 ⟨rfl, hC8, hT8⟩
        rw [HR.out]
        have h8 := h7.step2 (u' := v) hC8 hT8
        have HA8 : Hid (AlS wa w8 ⟨c1, b1, ms1, mo1, k1⟩ ⟨c2, b2, ms2, mo2, k2⟩ b3 ms3 mo3 p q ((k + 1 : Nat) : Int)) := Lib.hid ⟨_, u, v, h8, HU.out.sync, by omega, by omega⟩
        clear hC8 hT8 h7 h8
        go_wp2
        exact ⟨⟨k + 1, by omega, by go_num, HA8.out⟩, by simp [intOf]; omega⟩
      by_cases h12 : o5 = 1 ∨ o5 = 2
      · have hcp : (o5 == 0) = false := by rw [beq_eq_false_iff_ne]; exact h0
        obtain ⟨bs, hbs⟩ : ∃ bs, bs = fulL x.byt 512 := ⟨_, rfl⟩
        generalize hR : (D.write (s8 - 1) bs).1 = R at *
        have HR := Lib.hid hR; clear hR
        have HB := Lib.hid hbs; clear hbs
        have hbl : bs.length = 512 := by rw [HB.out, fulL_len]
        have HBL := Lib.hid hbl; clear hbl
        clear cc0 cc1 hop hp5
        rcases h12 with rfl | rfl
        all_goals
          clear h0
          go_wp2_with fail
          refine (ful_any x.byt _ hbyt.1 hbyt.2).mono ?_
          rintro r w6 ⟨g6, rfl, bk6, l6, m6⟩
          rw [← HB.out] at bk6
          have h6 := H.out.quiet m6
          have cc3 := (m6.cell (p := ⟨g, off + k * 5 + 3, none⟩) hgl (fun f => f)).trans cc3
          have z6 := m6.size
          clear m6
          go_wp2_with fail
          refine (write_any h6.al.at_ (s8 - 1) (Rd.of_blk0 bk6 (by simp [HBL.out]))).mono ?_
          rintro r w7 ⟨rfl, d7, m7, -⟩
          rw [HR.out]
          have h7 := h6.step3 d7 m7
          have cc3 := (m7.cell (p := ⟨g, off + k * 5 + 3, none⟩) (by show g < w6.heap.size; omega) (fun f => HG.out g (.inl f) rfl)).trans cc3
          have z7 := m7.size
          clear h6 bk6 d7 m7 l6
          go_wp2_with fail
          refine (ful_any x.byt _ hbyt.1 hbyt.2).mono ?_
          rintro r w8 ⟨g8, rfl, bk8, l8, m8⟩
          rw [← HB.out] at bk8
          have h8 := h7.quiet m8
          have cc3 := (m8.cell (p := ⟨g, off + k * 5 + 3, none⟩) (by show g < w7.heap.size; omega) (fun f => f)).trans cc3
          have z8 := m8.size
          go_wp2_with fail
          refine (cwrite_any h8.one.at_ (s8 - 1) (by omega) (Rd.of_blk0 bk8 (by simp [HBL.out])) (fun j hj hin => by
            obtain ⟨a, ha, hka⟩ := hj; injection ha with ha; subst ha
            have hka : g8 = j := hka
            have := h7.one.at_.lt j (inA_of hin); omega)).mono ?_
          rintro r w9 ⟨l9, rfl, hC9, hT9⟩
          rw [HR.out] at hC9 ⊢
          have h9 := h8.step1 (u' := ⟨wroteN u.now R, u.hits, u.misses, l9, wroteT u.T (s8 - 1) u.now R⟩) hC9 hT9
          have cc3 := (hT9.md.cell (p := ⟨g, off + k * 5 + 3, none⟩) (by show g < w8.heap.size; omega) (fun f => HG.out g (.inr (.inl f)) rfl)).trans cc3
          have z9 := hT9.md.size
          clear h7 h8 bk8 l8 m8 hC9 hT9
          go_wp2_with fail
          refine (ful_any x.byt _ hbyt.1 hbyt.2).mono ?_
          rintro r w10 ⟨g10, rfl, bk10, l10, m10⟩
          rw [← HB.out] at bk10
          have h10 := h9.quiet m10
          clear cc3
          go_wp2_with fail
          refine (cwrite_any h10.two.at_ (s8 - 1) (by omega) (Rd.of_blk0 bk10 (by simp [HBL.out])) (fun j hj hin => by
            obtain ⟨a, ha, hka⟩ := hj; injection ha with ha; subst ha
            have hka : g10 = j := hka
            have := h9.two.at_.lt j (inA_of hin); omega)).mono ?_
          rintro r w11 ⟨l11, rfl, hC11, hT11⟩
          rw [HR.out] at hC11 ⊢
          have h11 := h10.step2 (u' := ⟨wroteN v.now R, v.hits, v.misses, l11, wroteT v.T (s8 - 1) v.now R⟩) hC11 hT11
          have hwn : ∀ z : Int, wroteN z R ≤ z + 1 := fun z => by unfold wroteN; split <;> omega
          have hwu := hwn u.now; have hwv := hwn v.now
          have HA8 : Hid (AlS wa w11 ⟨c1, b1, ms1, mo1, k1⟩ ⟨c2, b2, ms2, mo2, k2⟩ b3 ms3 mo3 p q ((k + 1 : Nat) : Int)) := Lib.hid ⟨_, _, _, h11, HU.out.write _ _, by show wroteN u.now R ≤ _; omega, by show wroteN v.now R ≤ _; omega⟩
          clear hC11 hT11 h9 h10 h11 bk10 l10 m10 hwn hwu hwv z6 z7 z8 z9
          go_wp2
          exact ⟨⟨k + 1, by omega, by go_num, HA8.out⟩, by simp [intOf]; omega⟩
      · have h20 : (o5 == 0) = false := by rw [beq_eq_false_iff_ne]; exact h0
        have h21 : (o5 == 1) = false := by rw [beq_eq_false_iff_ne]; omega
        have h22 : (o5 == 2) = false := by rw [beq_eq_false_iff_ne]; omega
        have hrl : (D.read (s8 - 1)).length ≤ 512 := by
          unfold Dk.read
          split
          · rw [H.out.al.at_.ok.latest_len]; omega
          · simp
        generalize hM : D.may (s8 - 1) = M at *
        generalize hRr : D.read (s8 - 1) = R at *
        have HM := Lib.hid hM; have HR := Lib.hid hRr; clear hM hRr
        clear cc0 cc1 cc3 hop hp5 h0 h12 hbyt
        go_wp2_with fail
        refine (read_any H.out.al.at_ (s8 - 1)).mono ?_
        rintro r w6 ⟨v6, rfl, o6, m6⟩
        rw [HM.out]
        rw [HR.out] at o6
        obtain ⟨A6, e6, rfl, r6, hA6⟩ := own_rd o6
        have h6 := H.out.quiet m6
        have hAo : ∀ g, Of A6 g → wo.heap.size ≤ g := fun g hg => (hA6 g hg).1
        clear o6
        go_wp2_with fail
        refine (cread_any h6.one.at_ (s8 - 1) (by omega)).mono ?_
        rintro r w7 ⟨v7, now7, hits7, misses7, l7, T7, rfl, hC7, hT7, o7, nin7, cnt7⟩
        rw [HM.out]
        rw [HR.out] at o7
        have h7 := h6.step1 (u' := ⟨now7, hits7, misses7, l7, T7⟩) hC7 hT7
        have r7 := r6.mod hT7.md (fun g hg hin => by have := hAo g hg; have := H.out.one.at_.lt g (inA_of hin); omega)
        have n7 := cnt7.le
        have z67 := hT7.md.size
        obtain ⟨A7, e7, rfl, rr7, hA7⟩ := own_rd o7
        have hAo7 : ∀ g, Of A7 g → w6.heap.size ≤ g := fun g hg => (hA7 g hg).1
        clear hC7 hT7 o7 nin7 cnt7 r6 hA7
        go_wp2_with fail
        refine (cread_any h7.two.at_ (s8 - 1) (by omega)).mono ?_
        rintro r w8 ⟨v8, now8, hits8, misses8, l8, T8, rfl, hC8, hT8, o8, nin8, cnt8⟩
        rw [HM.out]
        rw [HR.out] at o8
        have h8 := h7.step2 (u' := ⟨now8, hits8, misses8, l8, T8⟩) hC8 hT8
        have r8 := r7.mod hT8.md (fun g hg hin => by have := hAo g hg; have := H.out.two.at_.lt g (inA_of hin); omega)
        have rr8 := rr7.mod hT8.md (fun g hg hin => by have := hAo7 g hg; have := h6.two.at_.lt g (inA_of hin); omega)
        have n8 := cnt8.le
        obtain ⟨A8, e8, rfl, rrr8, -⟩ := own_rd o8
        clear hC8 hT8 o8 nin8 cnt8 r7 rr7 h7 h6 hAo hAo7 hA6 m6
        go_wp2_with fail
        refine (same_any r8 rr8 (by omega) (by omega)).mono ?_
        rintro r w9 ⟨rfl, m9⟩
        rw [show decide (R = R) = true from by simp]
        have h9 := h8.quiet m9
        have r9 := r8.mod m9 (fun _ _ f => f)
        have rrr9 := rrr8.mod m9 (fun _ _ f => f)
        clear h8 m9 r8 rr8 rrr8
        go_wp2_with fail
        refine (same_any r9 rrr9 (by omega) (by omega)).mono ?_
        rintro r w10 ⟨rfl, m10⟩
        rw [show decide (R = R) = true from by simp]
        have h10 := h9.quiet m10
        have HA8 : Hid (AlS wa w10 ⟨c1, b1, ms1, mo1, k1⟩ ⟨c2, b2, ms2, mo2, k2⟩ b3 ms3 mo3 p q ((k + 1 : Nat) : Int)) := Lib.hid ⟨_, _, _, h10, HU.out, by show now7 ≤ _; omega, by show now8 ≤ _; omega⟩
        clear h9 h10 m10 r9 rrr9 n7 n8 z67
        go_wp2
        exact ⟨⟨k + 1, by omega, by go_num, HA8.out⟩, by simp [intOf]; omega⟩
    · have hlt' : ¬ (k : Int) < n := by omega
      have hDn : D.n.toNat = 6 := by rw [HU.out.n]; rfl
      have HDN := Lib.hid hDn; clear hDn
      go_wp2_with fail
      refine (bytes_any H.out.one.at_.d).mono ?_
      rintro r w6 ⟨v6, rfl, o6, m6⟩
      rw [HDN.out] at o6
      obtain ⟨A6, e6, rfl, r6, -⟩ := own_rd o6
      have h6 := H.out.quiet m6
      clear o6 m6
      go_wp2_with fail
      refine (bytes_any h6.al.at_).mono ?_
      rintro r w7 ⟨v7, rfl, o7, m7⟩
      rw [HDN.out] at o7
      obtain ⟨A7, e7, rfl, r7, -⟩ := own_rd o7
      have h7 := h6.quiet m7
      have r6' := r6.mod m7 (fun _ _ f => f)
      clear o7 m7 h6 r6
      go_wp2_with fail
      refine (same_any r6' r7 (by omega) (by omega)).mono ?_
      rintro r w8 ⟨rfl, m8⟩
      rw [show decide (bytesN D 6 = bytesN D 6) = true from by simp]
      have h8 := h7.quiet m8
      clear m8 h7 r6' r7
      go_wp2_with fail
      refine (bytes_any h8.two.at_.d).mono ?_
      rintro r w9 ⟨v9, rfl, o9, m9⟩
      rw [HDN.out] at o9
      obtain ⟨A9, e9, rfl, r9, -⟩ := own_rd o9
      have h9 := h8.quiet m9
      clear o9 m9 h8
      go_wp2_with fail
      refine (bytes_any h9.al.at_).mono ?_
      rintro r w10 ⟨v10, rfl, o10, m10⟩
      rw [HDN.out] at o10
      obtain ⟨A10, e10, rfl, r10, -⟩ := own_rd o10
      have h10 := h9.quiet m10
      have r9' := r9.mod m10 (fun _ _ f => f)
      clear o10 m10 h9 r9
      go_wp2_with fail
      refine (same_any r9' r10 (by omega) (by omega)).mono ?_
      rintro r w11 ⟨rfl, m11⟩
      rw [show decide (bytesN D 6 = bytesN D 6) = true from by simp]
      have h11 := h10.quiet m11
      clear m11 h10 r9' r10
      have hm140 : m ≤ 140737488355328 := by omega
      have hfo : 0 < m → ∀ g, Of B g → ∀ k, In3 b1 ms1 mo1 k ∨ In3 b3 ms3 mo3 k → g ≠ k := fun hp g hg k hk e => by
        have := HF.out.in_ hp hg
        rcases hk with hk | hk
        · have := h11.one.fr k (.inr hk); omega
        · have := h11.al.fr k hk; omega
      have HFO := Lib.hid hfo; clear hfo
      go_wp2_with fail
      refine (wake_any h11.one.at_.d (HF.out.mod h11.al.md (fun _ _ f => f)) (fun hp g hg hin => HFO.out hp g hg g (.inl hin) rfl) hm140).mono ?_
      rintro r w12 ⟨rfl, d12, m12⟩
      have hfr0 : ∀ k, In3 b1 ms1 mo1 k → wa.heap.size ≤ k := fun k hk => h11.one.fr k (.inr hk)
      have hC12 := h11.one.at_.mem.mod m12 (fun k hk hin => h11.one.at_.sep k hin hk)
      have a12 := h11.al.mod m12 (fun k hk hin => h11.s13 k (.inr hin) hk) hfr0
      go_wp2_with fail
      refine (wake_any a12.at_ (HF.out.mod a12.md (fun _ _ f => f)) (fun hp g hg hin => HFO.out hp g hg g (.inr hin) rfl) hm140).mono ?_
      rintro r w13 ⟨rfl, d13, m13⟩
      have a13 := a12.step d13 m13
      have d13' := d12.mod m13 (fun k hk hin => h11.s13 k (.inr hk) hin)
      have hC13 := hC12.mod m13 (fun k hk hin => h11.s13 k (.inl hk) hin)
      have hp1 := h11.one.at_.m1
      clear d12 m12 hC12 a12 d13 m13
      go_wp2_with fail
      refine (cdrop_any hC13 hp1).mono ?_
      rintro r w14 ⟨rfl, hC14, m14, -⟩
      have d14 := d13'.mod m14 (fun k hk e => h11.one.at_.sep k hk (.inr (.inl e)))
      have hkm0 : wa.heap.size ≤ k1 := h11.one.fr k1 (.inl (.inr (.inl rfl)))
      have a14 := a13.mod m14 (fun k hk e => h11.s13 k (.inl (.inr (.inl e))) hk) (fun k e => by have e : k = k1 := e; omega)
      have hcat : CAt w14 c1 b1 ms1 mo1 k1 (D.wake fl) p u.now u.hits u.misses [] [] := hC14.dropped d14 (fun k hk hin => h11.one.at_.sep k hk (by
        rcases hin with hin | hin | ⟨e, he, -⟩
        · exact .inl hin
        · exact .inr (.inl hin)
        · cases he)) hp1 h11.one.at_.n0 h11.one.at_.h0 h11.one.at_.s0 h11.one.at_.hs
      have hs13 : ∀ k, InA c1 b1 ms1 mo1 k1 [] k → ¬ In3 b3 ms3 mo3 k := fun k hk hin => h11.s13 k (by
        rcases hk with (hk | hk | ⟨e, he, -⟩) | hk
        · exact .inl (.inl hk)
        · exact .inl (.inr (.inl hk))
        · cases he
        · exact .inr hk) hin
      have hoc : OwnC wa w14 c1 b1 ms1 mo1 k1 (D.wake fl) p u.now u.hits u.misses [] [] := ⟨hcat, a14.md, fun k hk => h11.one.fr k (by
        rcases hk with (hk | hk | ⟨e, he, -⟩) | hk
        · exact .inl (.inl hk)
        · exact .inl (.inr (.inl hk))
        · cases he
        · exact .inr hk)⟩
      have hDn : (D.wake fl).n = 6 := HU.out.n
      have hDd : (D.wake fl).down = false := rfl
      clear hC13 hp1 a13 d13' hC14 m14 d14 hkm0 hcat h11 hfr0
      generalize D.wake fl = E at *
      have HE := Lib.hid (And.intro hDn hDd); clear hDn hDd
      have HI : Hid (∃ u : CV, OwnC wa w14 c1 b1 ms1 mo1 k1 E p u.now u.hits u.misses u.l u.T ∧ Own wa w14 b3 ms3 mo3 E ∧ (∀ k, InA c1 b1 ms1 mo1 k1 u.l k → ¬ In3 b3 ms3 mo3 k) ∧ u.now ≤ 80) := Lib.hid ⟨⟨u.now, u.hits, u.misses, [], []⟩, hoc, a14, hs13, by show u.now ≤ 80; omega⟩
      clear hoc a14 hs13
      go_wp2
      go_loopw [24] (fun i wr => ∃ (j : Nat) (u : CV), j ≤ 6 ∧ i = .int .i64 j ∧ OwnC wa wr c1 b1 ms1 mo1 k1 E p u.now u.hits u.misses u.l u.T ∧ Own wa wr b3 ms3 mo3 E ∧ (∀ k, InA c1 b1 ms1 mo1 k1 u.l k → ¬ In3 b3 ms3 mo3 k) ∧ u.now ≤ 80 + j) (fun i _ => 6 - (intOf i).toNat)
      case atStart =>
        obtain ⟨u, h1, h2, h3, h4⟩ := HI.out
        exact ⟨0, u, by omega, rfl, h1, h2, h3, by simpa using h4⟩
      case round =>
        clear HI
        obtain ⟨j, t, hj, rfl, hoc, hal, hsep, htn⟩ := hrel
        obtain ⟨wi, rfl⟩ : ∃ wo : World, wo = wr := ⟨_, rfl⟩
        have HSP := Lib.hid hsep; clear hsep
        by_cases hj6 : j < 6
        · have hj6' : (j : Int) < 6 := by omega
          have hmay : E.may j = 0 := may_ok HE.out.2 (by omega) (by rw [HE.out.1]; omega)
          have hrl : (E.read j).length ≤ 512 := by unfold Dk.read; rw [if_pos hmay, hal.at_.ok.latest_len]; omega
          have HM := Lib.hid hmay; clear hmay
          generalize hRr : E.read j = R at *
          have HR := Lib.hid hRr; clear hRr
          go_wp2_with fail
          refine (cread_any hoc.at_ j (by omega)).mono ?_
          rintro r w15 ⟨v15, now15, hits15, misses15, l15, T15, rfl, hC15, hT15, o15, nin15, cnt15⟩
          rw [HM.out]
          rw [HR.out] at o15
          have oc15 := hoc.step hC15 hT15
          have al15 := hal.mod hT15.md (fun k hk hin => HSP.out k (inA_of hin) hk) (fun k hk => hoc.fr k (inA_of hk))
          have sp15 : ∀ k, InA c1 b1 ms1 mo1 k1 l15 k → ¬ In3 b3 ms3 mo3 k := fun k hk hin => by
            rcases hT15.A hk with h1 | h1
            · exact HSP.out k h1 hin
            · have := hal.at_.lt k hin; omega
          obtain ⟨A15, e15, rfl, r15, -⟩ := own_rd o15
          have n15 := cnt15.le
          clear hC15 hT15 o15 nin15 cnt15 hoc hal
          go_wp2_with fail
          refine (read_any al15.at_ j).mono ?_
          rintro r w16 ⟨v16, rfl, o16, m16⟩
          rw [HM.out]
          rw [HR.out] at o16
          obtain ⟨A16, e16, rfl, r16, -⟩ := own_rd o16
          have oc16 := oc15.quiet m16
          have al16 := al15.quiet m16
          have r15' := r15.mod m16 (fun _ _ f => f)
          clear o16 m16 oc15 al15 r15
          go_wp2_with fail
          refine (same_any r15' r16 (by omega) (by omega)).mono ?_
          rintro r w17 ⟨rfl, m17⟩
          rw [show decide (R = R) = true from by simp]
          have oc17 := oc16.quiet m17
          have al17 := al16.quiet m17
          have HO := Lib.hid (And.intro oc17 (And.intro al17 sp15))
          clear oc16 al16 m17 r15' r16 oc17 al17 sp15
          go_wp2
          exact ⟨⟨j + 1, ⟨now15, hits15, misses15, l15, T15⟩, by omega, by go_num, HO.out.1, HO.out.2.1, HO.out.2.2, by show now15 ≤ _; omega⟩, by simp [intOf]; omega⟩
        · have hj6' : ¬ (j : Int) < 6 := by omega
          have M := ma.nn_ hal.md
          clear hoc hal
          go_wp2
          go_ret
          exact ⟨rfl, M⟩
end Go.Proofs.Ytgmkibckbbbhkaa
