/- peatbanklaw08.DevOf: the walk. -/
import Derived.Test.YtgmkibckbbbhkaaDevO3
import Derived.Test.YtgmkibckbbbhkaaDevLv
import Derived.Test.YtgmkibckbbbhkaaBytesT
import Derived.Test.YtgmkibckbbbhkaaApB3
namespace Go.Proofs.Ytgmkibckbbbhkaa
open Go.RowKit

theorem bytesN_of (zs : List Int) (n : Nat) : ∀ j, j ≤ n → bytesN (ofD zs n n) j = zs.take (512 * j)
  | 0, _ => by simp [bytesN]
  | j + 1, h => by
    rw [bytesN_succ, bytesN_of zs n j (by omega)]
    have hl : (ofD zs n n).latest j = ofS zs j := by
      unfold Dk.latest ofD
      simp only [Option.none_or]
      rw [if_pos (by omega)]; simp
    rw [hl]
    unfold ofS
    rw [show 512 * (j + 1) = 512 * j + 512 from by omega, List.take_add]
/-- both devices of the same bytes -/
theorem pr_of {w0 w1 w2 w3 : World} {b ms mo b' : Nat} {lv : Value} {F : Nat → Prop} {D : Dk} {L : List Sec} (m0 : Mod Nn w0 w1) (hd : DiskAt w2 b ms mo D) (m1 : Mod Nn w1 w2) (hf : ∀ k, In3 b ms mo k → w1.heap.size ≤ k)
    (hr : RefAt w3 b' lv F D L) (m2 : Mod Nn w2 w3) (hb : ∀ k, InR b' lv k ∨ F k → w2.heap.size ≤ k) : Pr w0 w3 b ms mo b' lv F D D L :=
  ⟨hd.mod m2 (fun _ _ f => f), hr, (m0.nn_ m1).nn_ m2, fun k hk => by have := hf k hk; have := m0.size; omega, fun k hk => by have := hb k (.inl hk); have := m1.size; have := m0.size; omega,
   fun k hk => ⟨fun hin => by have := hd.lt k hk; have := hb k (.inl hin); omega, fun hin => by have := hd.lt k hk; have := hb k (.inr hin); omega⟩⟩
theorem size_sl1 : (Try.prog.info? 5).map (·.size) = some 1 := by kernel_rfl

set_option maxRecDepth 100000 in
set_option maxHeartbeats 6400000 in
theorem ofLaw_any (w : World) {A : Option Addr} {m c : Nat} {zs : List Int} (hr : Rd w A m (zs.map (Value.int .u8))) (hc : m ≤ c) (hcm : c ≤ maxLen) {A' : Option Addr} {n c' : Nat} {xs : List DoR} (hx : RdDo w A' n xs) (hc' : n ≤ c') (hcm' : c' ≤ maxLen) :
    Calls Try.prog 7 #[.slice A m c, .slice A' n c'] w fun e w' => e = .returned (.bool true) ∧ Mod Nn w w' := by
  have hzl : zs.length = m := by simpa using hr.1
  have HZ := Lib.hid hzl; clear hzl
  by_cases h9 : (9000 : Int) < m
  · go_enter Try.func7, Try.ntmps7
    go_wp2_with fail
    refine (awake_any _).mono ?_
    rintro r w1 ⟨rfl, m1⟩
    go_wp2
    go_ret
    exact ⟨rfl, m1⟩
  have HR := Lib.hid (And.intro hr (And.intro hc hcm)); clear hr hc hcm
  go_enter Try.func7, Try.ntmps7
  go_upto_if 17 with fail
  go_cut [1] from 17 to 19 (fun v wx => ∃ (n' c' : Nat) (xs' : List DoR), v = .slice A' n' c' ∧ n' ≤ 80 ∧ RdDo w A' n' xs' ∧ w = wx)
  case first =>
    by_cases h80 : (80 : Int) < n
    · obtain ⟨g, off, rfl, hg, -⟩ := hx.2.1 (by omega)
      have hx' := hx.take (m := 80) (by omega)
      clear hx
      have hc80 : 80 ≤ c' := by omega
      go_wp2
      go_meet
      exact ⟨80, c', _, rfl, by omega, hx', rfl⟩
    · go_wp2
      go_meet
      exact ⟨n, c', xs, rfl, by omega, hx, rfl⟩
  case rest =>
    clear hx
    obtain ⟨n', c1, xs', rfl, hn, hx, rfl⟩ := hcut
    have hm9 : m ≤ 9000 := by omega
    have HX := Lib.hid hx; clear hx
    go_wp2_with fail
    refine (lent_any HR.out.1 (by omega)).mono ?_
    rintro r w1 ⟨g, rfl, hb1, m1, hg⟩
    have H1 := Lib.hid (And.intro hb1 (And.intro m1 hg)); clear hb1 m1 hg
    have hrin : Rd w1 (some ⟨g, 0, none⟩) m (zs.map (Value.int .u8)) := Rd.of_blk H1.out.1 0 (by simp [HZ.out]) (fun j v hv => by
      rw [List.getElem?_toArray, Nat.zero_add, List.map_append, List.getElem?_append_left (List.getElem?_eq_some_iff.1 hv).1]; exact hv)
    obtain ⟨q, hq⟩ : ∃ q, m / 512 = q := ⟨_, rfl⟩
    have hq9 : q ≤ 17 := by omega
    by_cases hq0 : q = 0
    · subst hq0
      have HQ := Lib.hid hq; clear hq
      go_wp2_with fail
      refine (of_zero HQ.out (by omega) (by unfold maxLen; omega)).mono ?_
      rintro r w2 ⟨rfl, h⟩
      subst h
      go_wp2_with fail
      refine (rof_zero HQ.out HR.out.2.1 HR.out.2.2).mono ?_
      rintro r w2 ⟨rfl, h⟩
      subst h
      clear hrin
      go_wp2_with fail
      refine (kept_any (HR.out.1.mod H1.out.2.1 (fun _ _ f => f)) H1.out.1 (by omega)).mono ?_
      rintro r w2 ⟨rfl, m2⟩
      have M2 := H1.out.2.1.nn_ m2
      clear m2
      go_wp2_with fail
      refine (awake_any _).mono ?_
      rintro r w3 ⟨rfl, m3⟩
      have M3 := M2.nn_ m3
      go_wp2
      go_ret
      exact ⟨rfl, M3⟩
    · have HQ := Lib.hid hq
      have HRI := Lib.hid hrin; clear hrin hq
      go_wp2_with fail
      refine (of_any HRI.out (by omega) (by unfold maxLen; omega) HQ.out (by omega) (by omega)).mono ?_
      rintro r w2 ⟨b, ms, mo, rfl, hd, m2, hf⟩
      have H2 := Lib.hid (And.intro hd (And.intro m2 hf)); clear hd m2 hf
      go_wp2_with fail
      refine (rof_any ((HR.out.1.mod H1.out.2.1 (fun _ _ f => f)).mod H2.out.2.1 (fun _ _ f => f)) HR.out.2.1 HR.out.2.2 HQ.out (by omega) (by omega)).mono ?_
      rintro r w3 ⟨b', lv, F, L, rfl, hrr, m3, hff⟩
      have hP := pr_of H1.out.2.1 H2.out.1 H2.out.2.1 H2.out.2.2 hrr m3 hff
      have hb3 := (H1.out.1.mod H2.out.2.1 (fun f => f)).mod m3 (fun f => f)
      have hgn : ∀ k, InP b ms mo b' lv k ∨ F k → k ≠ g := fun k hk e => by
        have hgl := H1.out.1.lt
        have hs := H2.out.2.1.size
        rcases hk with (hk | hk) | hk
        · have := H2.out.2.2 k hk; omega
        · have := hff k (.inl hk); omega
        · have := hff k (.inr hk); omega
      have H3 := Lib.hid (And.intro hP (And.intro hb3 hgn)); clear hP hb3 hgn hrr m3 hff H2 HRI
      have hr3 := HR.out.1.mod H3.out.1.md (fun _ _ f => f)
      go_wp2_with fail
      refine (kept_any hr3 H3.out.2.1 (by omega)).mono ?_
      rintro r w4 ⟨rfl, m4⟩
      have hP4 := H3.out.1.quiet m4
      have hb4 := H3.out.2.1.mod m4 (fun f => f)
      clear hr3 m4
      have hcs : ((zs ++ mks 1 12).map (Value.int .u8)).toArray.size = m + 12 := by simp [HZ.out, mks_len]
      have H4 := Lib.hid (And.intro hP4 (And.intro hb4 hcs)); clear hP4 hb4 hcs
      go_wp2_with fail
      refine (over_any H4.out.2.1 H4.out.2.2 (by omega)).mono ?_
      rintro r w5 ⟨rfl, m5⟩
      have hP5 := H4.out.1.mod m5 (fun k hk e => H3.out.2.2 k hk e) (fun k hk e => by have e : k = g := e; have := H1.out.2.2; omega)
      have H5 := Lib.hid hP5; clear hP5 m5 H4 H3
      go_wp2_with fail
      obtain ⟨lo, hlo⟩ : ∃ x : Nat, 512 * q = x := ⟨_, rfl⟩
      have HLO := Lib.hid hlo
      have hloc : lo ≤ m := by have := HQ.out; omega
      have e1 : (m : Int) / 512 = (q : Int) := by have := HQ.out; omega
      have e2 : (512 : Int) * (q : Int) = (lo : Int) := by omega
      have e3 : IntKind.i64.wrap (lo : Int) = lo := by rw [IntKind.wrap_i64]; omega
      have e4 : IntKind.i64.wrap (q : Int) = q := by rw [IntKind.wrap_i64]; omega
      have HP5' := Lib.hid (H5.out.quiet (Mod.refl Nn w5).drew)
      have hcD := Lib.hid (show lo ≤ c from by have := HR.out.2.1; omega)
      clear hlo hloc
      refine wp_region_planC (fun _ => True) [(0, true), (2, true), (3, true), (4, true), (5, true), (6, true), (7, true), (1, false), (8, false), (9, true)] (by kernel_rfl) (by kernel_rfl) trivial ?_
      iterate 6 (refine pc_pure rfl rfl (fun K hK => ?_); go_simp; refine hK _ ?_; clear hK K)
      clear e1 e2 e3 e4
      refine pc_take _ rfl rfl (fun w' _ => exec_sub_h (P := Try.prog) 35 _ _ rfl 5 1 Try.underlying35 size_sl1 (A := A) (n := m) (c := c) (h := lo) rfl rfl hcD.out) (fun K hK => ?_); go_simp; refine hK _ ?_; clear hK K
      refine pc_call rfl rfl (fun K hK => ?_); go_simp; refine ⟨_, _, ⟨rfl, rfl⟩, hK _ _ _ ?_⟩; clear hK K
      refine (bytes_any HP5'.out.d).mono ?_
      rintro r w6 ⟨v, rfl, own6, m6⟩
      refine ⟨_, rfl, trivial, ?_⟩
      have hnD : (ofD zs q q).n.toNat = q := by show (q : Int).toNat = q; omega
      rw [hnD, bytesN_of zs q q (Nat.le_refl _), HLO.out] at own6
      obtain ⟨A1, c1', rfl, hr6, -⟩ := own_rd own6
      have hP6 := HP5'.out.quiet m6
      have hrb : Rd w6 (subA A c 0 1) lo ((zs.take lo).map (Value.int .u8)) := by
        have := (HR.out.1.mod hP6.md (fun _ _ f => f)).pre (c := c) lo (by have := HQ.out; have := HLO.out; omega) HR.out.2.1
        rwa [List.map_take]
      have hlo9 : lo ≤ 9000 := by have := HQ.out; have := HLO.out; omega
      clear own6 m6 hnD
      refine pc_call rfl rfl (fun K hK => ?_); go_simp; refine ⟨_, _, ⟨rfl, rfl⟩, hK _ _ _ ?_⟩; clear hK K
      refine (same_any hr6 hrb (by omega) (by omega)).mono ?_
      rintro r w7 ⟨rfl, m7⟩
      rw [show decide (zs.take lo = zs.take lo) = true from by simp]
      refine ⟨_, rfl, trivial, ?_⟩
      have H7 := Lib.hid (hP6.quiet m7)
      clear hP6 m7 hrb hr6
      iterate 1 (refine pc_pure rfl rfl (fun K hK => ?_); go_simp; refine hK _ ?_; clear hK K)
      refine pc_nil ?_
      clear HP5' H5 hlo9
      generalize hDD : ofD zs q q = D at *
      clear hDD
      go_wp2
      go_loopw [8] (fun i wr => ∃ (k : Nat) (lv : Value) (F : Nat → Prop) (D : Dk) (L : List Sec), k ≤ n' ∧ i = .int .i64 k ∧ Pr w wr b ms mo b' lv F D D L) (fun i _ => n' - (intOf i).toNat)
      case atStart => exact ⟨0, _, _, _, _, Nat.zero_le _, rfl, H7.out⟩
      case round =>
        clear H7
        obtain ⟨k, lv, F, D, L, hk, rfl, h⟩ := hrel
        obtain ⟨wo, rfl⟩ : ∃ wo : World, wo = wr := ⟨_, rfl⟩
        by_cases hlt : k < n'
        · obtain ⟨g, off, x, rfl, hxk, hat, hxo, hxf⟩ := (HX.out.mod h.md).at_ hlt
          have hxf0 := (HX.out.2.2 k x hxk).2
          have hlt' : (k : Int) < n' := by omega
          have cc4 := hat.c4
          have HAT := Lib.hid hat; have HXO := Lib.hid hxo
          have H := Lib.hid h
          have hfm := hxo.f
          have HF0 := Lib.hid hxf0
          clear hat
          have HXK := Lib.hid hxk
          clear hxk hxo hxf hxf0 h
          by_cases hfn : (1000 : Int) < x.fn
          · go_wp2
            go_ret
            exact ⟨rfl, H.out.md⟩
          · go_wp2_with (first
              | (with_reducible change wpList _ _ _ (⟨some 71, _, _, _, _, _⟩ :: _) _ _
                 go_must (refine wpList_val rfl (exec_load_cells (P := Try.prog) 31 _ rfl (cs := [.int .i64 x.op, .int .i64 x.sec, .int .i64 x.num, .int .u8 x.byt, .slice x.fa x.fn x.fc]) rfl (do_cells HAT.out) Try.underlying31 rfl doSize) ?_)))
            refine (step_any H.out x HXO.out HF0.out (by omega)).mono ?_
            rintro r w3 ⟨lv', F', D', L', rfl, h3, -⟩
            have H3 := Lib.hid h3; clear h3
            go_wp2
            exact ⟨⟨k + 1, _, _, _, _, by omega, by go_num, H3.out⟩, by simp [intOf]; omega⟩
        · have hlt' : ¬ (k : Int) < n' := by omega
          have H := Lib.hid h; clear h
          have hN : 512 * D.n.toNat ≤ 134217728 := by have := H.out.d.ok.n2; omega
          obtain ⟨N, hNe⟩ : ∃ N, 512 * D.n.toNat = N := ⟨_, rfl⟩
          obtain ⟨bl, hble⟩ : ∃ bl, bytesN D D.n.toNat = bl := ⟨_, rfl⟩
          have HN := Lib.hid (And.intro hNe hble)
          rw [hNe] at hN
          clear hNe hble
          go_wp2_with fail
          refine (bytes_any H.out.d).mono ?_
          rintro r w1a ⟨v1, rfl, own1, m1a⟩
          rw [HN.out.1, HN.out.2] at own1
          have HA1 := Lib.hid (And.intro own1 (And.intro (H.out.quiet m1a) m1a)); clear own1 m1a
          go_wp2_with fail
          refine (bytes_any HA1.out.2.1.d).mono ?_
          rintro r w2a ⟨v2, rfl, own2, m2a⟩
          rw [HN.out.1, HN.out.2] at own2
          obtain ⟨A1, c1, rfl, -, hb1⟩ := own_form HA1.out.1
          obtain ⟨A2, c2, rfl, -, hb2⟩ := own_form own2
          have HA2 := Lib.hid (And.intro own2 (And.intro (HA1.out.2.1.quiet m2a) (And.intro (own_mod HA1.out.1 m2a (fun _ _ f => f)) (And.intro hb1 hb2)))); clear own2 m2a hb1 hb2
          go_wp2_with fail
          refine (turn_any HA2.out.2.2.1 (by omega)).mono ?_
          rintro r w3a ⟨rfl, own1, m3a⟩
          have hP3 := HA2.out.2.1.mod m3a (fun k hk e => by have h1 := H.out.lt k hk; have h2 := (HA2.out.2.2.2.1 k (own_of e)).1; omega) (fun k hk e => by have h1 := H.out.md.size; have h2 := (HA2.out.2.2.2.1 k (own_of e)).1; omega)
          have own2 := own_mod HA2.out.1 m3a (fun k hk e => by have h1 := (HA2.out.2.2.2.1 k (own_of e)).2; have h2 := (HA2.out.2.2.2.2 k (own_of hk)).1; omega)
          have HA3 := Lib.hid (And.intro own1 (And.intro hP3 own2)); clear own1 m3a hP3 own2
          go_wp2_with fail
          refine (rbytes_any HA3.out.2.1.r).mono ?_
          rintro r w4a ⟨v3, rfl, own3, m4a⟩
          rw [HN.out.1, HN.out.2] at own3
          obtain ⟨A3, c3, rfl, hr3, -⟩ := own_rd own3
          have own2 := own_mod HA3.out.2.2 m4a (fun _ _ f => f)
          have hr2 := Rd.of_own own2
          have HA4 := Lib.hid (And.intro own2 (And.intro (own_mod HA3.out.1 m4a (fun _ _ f => f)) (HA3.out.2.1.quiet m4a))); clear own2 m4a own3
          go_wp2_with fail
          refine (same_any hr2 hr3 (by omega) (by omega)).mono ?_
          rintro r w5a ⟨rfl, m5a⟩
          rw [show decide (bl = bl) = true from by simp]
          have M5 : Mod Nn w4a (w5a.alloc (.cells #[.slice A1 N c1, .slice A2 N c2] 35)) := m5a.alloc _
          have hap := apartB2 (cc := 2) (Blk.new w5a 35 #[.slice A1 N c1, .slice A2 N c2]) (own_mod HA4.out.2.1 M5 (fun _ _ f => f)) (own_mod HA4.out.1 M5 (fun _ _ f => f)) (by omega) (by omega)
            (fun g hg1 hg2 => by have h1 := (HA2.out.2.2.2.1 g hg1).2; have h2 := (HA2.out.2.2.2.2 g hg2).1; omega)
          have HA5 := Lib.hid (HA4.out.2.2.quiet M5)
          clear hr2 hr3 m5a M5
          go_wp2_with fail
          refine hap.mono ?_
          rintro r w6a ⟨rfl, m6a⟩
          have hP6 := HA5.out.mod m6a (fun k hk e => by
            have h1 := H.out.lt k hk
            have h3 := HA1.out.2.2.size
            rcases e with e | e
            · have h2 := (HA2.out.2.2.2.1 k e).1; omega
            · have h2 := (HA2.out.2.2.2.2 k e).1; omega) (fun k hk e => by
            have h1 := H.out.md.size
            have h3 := HA1.out.2.2.size
            rcases e with e | e
            · have h2 := (HA2.out.2.2.2.1 k e).1; omega
            · have h2 := (HA2.out.2.2.2.2 k e).1; omega)
          have H6 := Lib.hid hP6; clear hP6 m6a hap
          go_wp2_with fail
          refine (wake_any H6.out.d (n := 0) (fs := []) (Rd.nil _ _) (fun h => absurd h (by omega)) (by omega)).mono ?_
          rintro r w7a ⟨rfl, hd7, m7⟩
          have H7 := Lib.hid (H6.out.dev hd7 m7); clear hd7 m7
          go_wp2_with fail
          refine (rwake_any H7.out.r (n := 0) (fs := []) (Rd.nil _ _) (fun h => absurd h (by omega)) (by omega)).mono ?_
          rintro r w8 ⟨lv', F', L', rfl, hr8, to8⟩
          have H8 := Lib.hid (H7.out.ref hr8 to8); clear hr8 to8
          have hnD : (D.wake []).n = D.n := rfl
          generalize D.wake [] = D' at *
          have HN' := Lib.hid (show 512 * D'.n.toNat = N from by rw [hnD]; exact HN.out.1)
          obtain ⟨bl', hble⟩ : ∃ bl, bytesN D' D'.n.toNat = bl := ⟨_, rfl⟩
          have HB' := Lib.hid hble
          clear hnD hble
          go_wp2_with fail
          refine (bytes_any H8.out.d).mono ?_
          rintro r w9 ⟨v9, rfl, own9, m9⟩
          rw [HN'.out, HB'.out] at own9
          obtain ⟨A9, c9, rfl, hr9, -⟩ := own_rd own9
          have H9 := Lib.hid (H8.out.quiet m9)
          clear own9 m9
          go_wp2_with fail
          refine (rbytes_any H9.out.r).mono ?_
          rintro r w10 ⟨v10, rfl, own10, m10⟩
          rw [HN'.out, HB'.out] at own10
          obtain ⟨A10, c10, rfl, hr10, -⟩ := own_rd own10
          have hr9' := hr9.mod m10 (fun _ _ f => f)
          have H10 := Lib.hid (H9.out.quiet m10)
          clear own10 m10 hr9
          go_wp2_with fail
          refine (same_any hr9' hr10 (by omega) (by omega)).mono ?_
          rintro r w11 ⟨rfl, m11⟩
          rw [show decide (bl' = bl') = true from by simp]
          have M11 := H10.out.md.nn_ m11
          clear hr9' hr10 m11
          go_wp2_with fail
          refine (awake_any _).mono ?_
          rintro r w12 ⟨rfl, m12⟩
          have M12 := M11.nn_ m12
          go_wp2
          go_ret
          exact ⟨rfl, M12⟩
end Go.Proofs.Ytgmkibckbbbhkaa
