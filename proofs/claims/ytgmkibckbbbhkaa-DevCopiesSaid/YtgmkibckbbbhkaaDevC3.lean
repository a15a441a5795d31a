/- peatbanklaw08.DevCopies: the walk. -/
import Derived.Test.YtgmkibckbbbhkaaDevC2
import Derived.Test.YtgmkibckbbbhkaaBytesT
import Derived.Test.YtgmkibckbbbhkaaApB3
namespace Go.Proofs.Ytgmkibckbbbhkaa
open Go.RowKit

def TwoP (w0 w : World) (b ms mo b' : Nat) (b2 ms2 mo2 b2' : Nat) : Prop := ∃ lv F D L lv2 F2 D2 L2, Two w0 w b ms mo b' lv F D L b2 ms2 mo2 b2' lv2 F2 D2 L2
def PrP (w0 w : World) (b ms mo b' : Nat) : Prop := ∃ lv F D L, Pr w0 w b ms mo b' lv F D D L

set_option maxRecDepth 100000 in
set_option maxHeartbeats 6400000 in
theorem copies_any (w : World) (x0 x2 : Int) {A : Option Addr} {n c : Nat} {xs : List DoR} (hx : RdDo w A n xs) (hc : n ≤ c) (hcm : c ≤ maxLen) :
    Calls Try.prog 8 #[.int .i64 x0, .slice A n c, .int .i64 x2] w fun e w' => e = .returned (.bool true) ∧ Mod Nn w w' := by
  go_enter Try.func8, Try.ntmps8
  go_upto_if 23 with fail
  go_cut [1] from 23 to 25 (fun v wx => ∃ (n' c' : Nat) (xs' : List DoR), v = .slice A n' c' ∧ n' ≤ 80 ∧ RdDo w A n' xs' ∧ w = wx)
  case first =>
    by_cases h80 : (80 : Int) < n
    · obtain ⟨g, off, rfl, hg, -⟩ := hx.2.1 (by omega)
      have hx' := hx.take (m := 80) (by omega)
      clear hx
      have hc80 : 80 ≤ c := by omega
      go_wp2
      go_meet
      exact ⟨80, c, _, rfl, by omega, hx', rfl⟩
    · go_wp2
      go_meet
      exact ⟨n, c, xs, rfl, by omega, hx, rfl⟩
  case rest =>
    clear hx
    obtain ⟨n', c', xs', rfl, hn, hx', rfl⟩ := hcut
    have HX := Lib.hid hx'; clear hx'
    by_cases hs : x0 < 1 ∨ 262144 < x0
    · go_wp2_with fail
      refine (new_none x0 _ hs).mono ?_
      rintro r w1 ⟨rfl, rfl⟩
      go_wp2_with fail
      refine (rnew_none x0 _ hs).mono ?_
      rintro r w1 ⟨rfl, rfl⟩
      clear hs
      go_wp2_with fail
      refine (awake_any _).mono ?_
      rintro r w1 ⟨rfl, m1⟩
      go_wp2
      go_ret
      exact ⟨rfl, m1⟩
    · have hs1 : 1 ≤ x0 := by omega
      have hs2 : x0 ≤ 262144 := by omega
      clear hs
      go_wp2_with fail
      refine (new_any x0 _ hs1 hs2).mono ?_
      rintro r w1 ⟨b, ms, mo, rfl, hd, m1, hf⟩
      go_wp2_with fail
      refine (rnew_any x0 _ hs1 hs2).mono ?_
      rintro r w2 ⟨b', rfl, hr, m2, hb⟩
      have H2 := Lib.hid (pr_new hd m1 hf hr m2 hb)
      clear hd m1 hf hr m2 hb
      have hpk := pick_range x2 ((n' : Int) + 1) (by omega)
      obtain ⟨p, hp⟩ : ∃ p : Nat, pick x2 ((n' : Int) + 1) = p := ⟨(pick x2 ((n' : Int) + 1)).toNat, by omega⟩
      rw [hp] at hpk
      have HP := Lib.hid hp
      have hpn : p ≤ n' := by omega
      clear hp hpk
      go_wp2_with fail
      refine (pick_any x2 ((n' : Int) + 1) _ (by omega)).mono ?_
      rintro r w3 ⟨rfl, rfl⟩
      rw [HP.out]
      go_wp2
      go_loopw [9] (fun i wr => ∃ k : Nat, k ≤ n' ∧ i = .int .i64 k ∧ (∀ j x, j < k → xs'[j]? = some x → x.fn ≤ 1000) ∧ wr = w2) (fun i _ => n' - (intOf i).toNat)
      case atStart => exact ⟨0, Nat.zero_le _, rfl, fun j x hj => absurd hj (by omega), rfl⟩
      case round =>
        obtain ⟨k, hk, rfl, hall, rfl⟩ := hrel
        obtain ⟨wo, rfl⟩ : ∃ wo : World, wo = wr := ⟨_, rfl⟩
        by_cases hlt : k < n'
        · obtain ⟨g, off, x, rfl, hxk, hat, hxo, hxf⟩ := (HX.out.mod H2.out.md).at_ hlt
          have hlt' : (k : Int) < n' := by omega
          have cc4 := hat.c4
          have hfm := hxo.f
          have HAL := Lib.hid (And.intro hall hxk)
          clear hat hxk hxo hxf hall
          by_cases hfn : (1000 : Int) < x.fn
          · go_wp2_with fail
            refine (awake_any _).mono ?_
            rintro r w3 ⟨rfl, m3⟩
            have M3 := H2.out.md.nn_ m3
            go_wp2
            go_ret
            exact ⟨rfl, M3⟩
          · have HN := Lib.hid (show ∀ j x', j < k + 1 → xs'[j]? = some x' → x'.fn ≤ 1000 from fun j x' hj hx => by
              by_cases hjk : j = k
              · subst hjk
                rw [HAL.out.2] at hx; injection hx with hx; subst hx; omega
              · exact HAL.out.1 j x' (by omega) hx)
            go_wp2
            exact ⟨⟨k + 1, by omega, by go_num, HN.out, trivial⟩, by simp [intOf]; omega⟩
        · have hlt' : ¬ (k : Int) < n' := by omega
          have hkn : k = n' := by omega
          subst hkn
          have HAL := Lib.hid hall
          clear hall hlt hlt' hk
          go_wp2
          go_loopw [10] (fun i wr => ∃ k : Nat, k ≤ p ∧ i = .int .i64 k ∧ PrP w wr b ms mo b') (fun i _ => p - (intOf i).toNat)
          case atStart => exact ⟨0, Nat.zero_le _, rfl, _, _, _, _, H2.out⟩
          case round =>
            clear H2
            obtain ⟨q, hq, rfl, lv, F, D, L, h⟩ := hrel
            obtain ⟨wx, rfl⟩ : ∃ wx : World, wx = wr := ⟨_, rfl⟩
            by_cases hlq : q < p
            · obtain ⟨g, off, x, rfl, hxk, hat, hxo, hxf⟩ := (HX.out.mod h.md).at_ (show q < k by omega)
              have hxf0 := (HX.out.2.2 q x hxk).2
              have hlt1 : (q : Int) < p := by omega
              have hlt2 : (q : Int) < k := by omega
              have HAT := Lib.hid (And.intro hat (And.intro hxo (And.intro hxf0 (HAL.out q x (by omega) hxk))))
              have H := Lib.hid h
              clear hxk hxf hxf0 hat hxo h
              go_wp2_with (first
                | (with_reducible change wpList _ _ _ (⟨some 74, _, _, _, _, _⟩ :: _) _ _
                   go_must (refine wpList_val rfl (exec_load_cells (P := Try.prog) 31 _ rfl (cs := [.int .i64 x.op, .int .i64 x.sec, .int .i64 x.num, .int .u8 x.byt, .slice x.fa x.fn x.fc]) rfl (do_cells HAT.out.1) Try.underlying31 rfl doSize) ?_)))
              refine (step_any H.out x HAT.out.2.1 HAT.out.2.2.1 HAT.out.2.2.2).mono ?_
              rintro r w3 ⟨lv', F', D', L', rfl, h3, -⟩
              have H3 := Lib.hid h3; clear h3
              go_wp2
              exact ⟨⟨q + 1, by omega, by go_num, _, _, _, _, H3.out⟩, by simp [intOf]; omega⟩
            · have hlt1 : ¬ (q : Int) < p := by omega
              have hqp : q = p := by omega
              subst hqp
              have H := Lib.hid h; clear h hlq hlt1 hq
              go_wp2_with fail
              refine (copy_any H.out.d).mono ?_
              rintro r w3 ⟨b2, ms2, mo2, rfl, hd2, m3, hf3⟩
              have H3 := Lib.hid (And.intro hd2 (And.intro m3 hf3)); clear hd2 m3 hf3
              go_wp2_with fail
              refine (rcopy_any (H.out.r.nn H3.out.2.1)).mono ?_
              rintro r w4 ⟨b2', lv2, rfl, hr4, m4, hf4⟩
              have H4 := Lib.hid (two_new H.out H3.out.1 H3.out.2.1 H3.out.2.2 hr4 m4 hf4)
              clear hr4 m4 hf4
              go_wp2
              go_loopw [13] (fun i wr => ∃ j : Nat, q ≤ j ∧ j ≤ k ∧ i = .int .i64 j ∧ TwoP w wr b ms mo b' b2 ms2 mo2 b2') (fun i _ => k - (intOf i).toNat)
              case atStart => exact ⟨q, by omega, by omega, rfl, _, _, _, _, _, _, _, _, H4.out⟩
              case round =>
                clear H4 H3 H
                obtain ⟨j, hj0, hj, rfl, lv, F, D, L, lv2, F2, D2, L2, h⟩ := hrel
                obtain ⟨wy, rfl⟩ : ∃ wy : World, wy = wr := ⟨_, rfl⟩
                by_cases hlj : j < k
                · obtain ⟨g, off, x, rfl, hxk, hat, hxo, hxf⟩ := (HX.out.mod h.p.md).at_ hlj
                  have hxf0 := (HX.out.2.2 j x hxk).2
                  have hlt2 : (j : Int) < k := by omega
                  have HAT := Lib.hid (And.intro hat (And.intro hxo (And.intro hxf0 (HAL.out j x hlj hxk))))
                  have H := Lib.hid h
                  clear hxk hxf hxf0 hat hxo h
                  go_wp2_with (first
                    | (with_reducible change wpList _ _ _ (⟨some 92, _, _, _, _, _⟩ :: _) _ _
                       go_must (refine wpList_val rfl (exec_load_cells (P := Try.prog) 31 _ rfl (cs := [.int .i64 x.op, .int .i64 x.sec, .int .i64 x.num, .int .u8 x.byt, .slice x.fa x.fn x.fc]) rfl (do_cells HAT.out.1) Try.underlying31 rfl doSize) ?_)))
                  refine (step_any H.out.p x HAT.out.2.1 HAT.out.2.2.1 HAT.out.2.2.2).mono ?_
                  rintro r w3 ⟨lv', F', D', L', rfl, h3, t3⟩
                  have H3 := Lib.hid (H.out.first h3 t3); clear h3 t3
                  go_wp2
                  exact ⟨⟨j + 1, by omega, by omega, by go_num, _, _, _, _, _, _, _, _, H3.out⟩, by simp [intOf]; omega⟩
                · have hlt2 : ¬ (j : Int) < k := by omega
                  have H := Lib.hid h; clear h hlj hj hj0
                  have hkm : (k : Int) ≤ 80 := by omega
                  go_wp2
                  go_loopw [14] (fun i wr => ∃ z : Int, (q : Int) - 1 ≤ z ∧ z ≤ (k : Int) - 1 ∧ i = .int .i64 z ∧ TwoP w wr b ms mo b' b2 ms2 mo2 b2') (fun i _ => (intOf i + 1).toNat)
                  case atStart => exact ⟨_, by omega, Int.le_refl _, rfl, _, _, _, _, _, _, _, _, H.out⟩
                  case round =>
                    clear H hlt2
                    obtain ⟨z, hz0, hz, rfl, lv, F, D, L, lv2, F2, D2, L2, h⟩ := hrel
                    obtain ⟨wz, rfl⟩ : ∃ wz : World, wz = wr := ⟨_, rfl⟩
                    by_cases hlz : (q : Int) ≤ z
                    · obtain ⟨i, rfl⟩ : ∃ i : Nat, z = i := ⟨z.toNat, by omega⟩
                      have hik : i < k := by omega
                      obtain ⟨g, off, x, rfl, hxk, hat, hxo, hxf⟩ := (HX.out.mod h.p.md).at_ hik
                      have hxf0 := (HX.out.2.2 i x hxk).2
                      have hlt2 : (i : Int) < k := by omega
                      have HAT := Lib.hid (And.intro hat (And.intro hxo (And.intro hxf0 (HAL.out i x hik hxk))))
                      have H := Lib.hid h
                      clear hxk hxf hxf0 hat hxo h
                      go_wp2_with (first
                        | (with_reducible change wpList _ _ _ (⟨some 107, _, _, _, _, _⟩ :: _) _ _
                           go_must (refine wpList_val rfl (exec_load_cells (P := Try.prog) 31 _ rfl (cs := [.int .i64 x.op, .int .i64 x.sec, .int .i64 x.num, .int .u8 x.byt, .slice x.fa x.fn x.fc]) rfl (do_cells HAT.out.1) Try.underlying31 rfl doSize) ?_)))
                      refine (step_any H.out.q x HAT.out.2.1 HAT.out.2.2.1 HAT.out.2.2.2).mono ?_
                      rintro r w3 ⟨lv', F', D', L', rfl, h3, t3⟩
                      have H3 := Lib.hid (H.out.symm.first h3 t3).symm; clear h3 t3
                      go_wp2
                      exact ⟨⟨(i : Int) - 1, by omega, by omega, rfl, _, _, _, _, _, _, _, _, H3.out⟩, by simp [intOf]⟩
                    · have H := Lib.hid h; clear h
                      go_wp2_with fail
                      refine (like_any H.out.p HX.out (by omega)).mono ?_
                      rintro r w3 ⟨rfl, m3⟩
                      have H3 := Lib.hid (H.out.quiet m3); clear m3 H
                      go_wp2_with fail
                      refine (like_any H3.out.q HX.out (by omega)).mono ?_
                      rintro r w4 ⟨rfl, m4⟩
                      have H4 := Lib.hid (H3.out.p.quiet m4); clear m4 H3
                      go_wp2_with fail
                      refine (wake_any H4.out.d (n := 0) (fs := []) (Rd.nil _ _) (fun h => absurd h (by omega)) (by omega)).mono ?_
                      rintro r w5 ⟨rfl, hd5, m5⟩
                      have H5 := Lib.hid (H4.out.dev hd5 m5); clear hd5 m5 H4
                      generalize D.wake [] = DW at *
                      obtain ⟨l, hl⟩ : ∃ l, DW.read 0 = l := ⟨_, rfl⟩
                      obtain ⟨M, hM⟩ : ∃ l, DW.may 0 = l := ⟨_, rfl⟩
                      obtain ⟨N, hNl⟩ : ∃ N, l.length = N := ⟨_, rfl⟩
                      have hN5 : N ≤ 512 := by
                        rw [← hNl, ← hl]
                        unfold Dk.read
                        split
                        · rw [H5.out.d.ok.latest_len]; omega
                        · simp
                      have HL := Lib.hid (And.intro hl (And.intro hM hNl)); clear hl hM hNl
                      go_wp2_with fail
                      refine (read_any H5.out.d 0).mono ?_
                      rintro r w6 ⟨v1, rfl, own1, m6⟩
                      rw [HL.out.1, HL.out.2.2] at own1
                      rw [HL.out.2.1]
                      obtain ⟨A1, c1, rfl, -, hb1⟩ := own_form own1
                      have H6 := Lib.hid (And.intro own1 (And.intro (H5.out.quiet m6) (And.intro hb1 m6.size))); clear own1 m6 hb1
                      go_wp2_with fail
                      refine (read_any H6.out.2.1.d 0).mono ?_
                      rintro r w7 ⟨v2, rfl, own2, m7⟩
                      rw [HL.out.1, HL.out.2.2] at own2
                      rw [HL.out.2.1]
                      obtain ⟨A2, c2, rfl, -, hb2⟩ := own_form own2
                      have H7 := Lib.hid (And.intro own2 (And.intro (H6.out.2.1.quiet m7) (And.intro hb2 (And.intro (own_mod H6.out.1 m7 (fun _ _ f => f)) m7.size)))); clear own2 m7 hb2
                      go_wp2_with fail
                      refine (turn_any H7.out.2.2.2.1 (by omega)).mono ?_
                      rintro r w8 ⟨rfl, own1, m8⟩
                      have hP8 := H7.out.2.1.mod m8 (fun k hk e => by have h1 := H5.out.lt k hk; have h2 := (H6.out.2.2.1 k (own_of e)).1; omega) (fun k hk e => by have h1 := H5.out.md.size; have h2 := (H6.out.2.2.1 k (own_of e)).1; omega)
                      have own2 := own_mod H7.out.1 m8 (fun k hk e => by have h1 := (H6.out.2.2.1 k (own_of e)).2; have h2 := (H7.out.2.2.1 k (own_of hk)).1; omega)
                      have H8 := Lib.hid (And.intro own1 (And.intro hP8 (And.intro own2 m8.size))); clear own1 m8 hP8 own2
                      go_wp2_with fail
                      refine (read_any H8.out.2.1.d 0).mono ?_
                      rintro r w9 ⟨v3, rfl, own3, m9⟩
                      rw [HL.out.1, HL.out.2.2] at own3
                      rw [HL.out.2.1]
                      obtain ⟨A3, c3, rfl, -, hb3⟩ := own_form own3
                      have own2 := own_mod H8.out.2.2.1 m9 (fun _ _ f => f)
                      have hr2 := Rd.of_own own2
                      have hr3 := Rd.of_own own3
                      have H9 := Lib.hid (And.intro (own_mod H8.out.1 m9 (fun _ _ f => f)) (And.intro own2 (And.intro own3 (And.intro (H8.out.2.1.quiet m9) hb3)))); clear own3 m9 hb3 own2
                      go_wp2_with fail
                      refine (same_any hr2 hr3 (by omega) (by omega)).mono ?_
                      rintro r w10 ⟨rfl, m10⟩
                      rw [show decide (l = l) = true from by simp]
                      have M10 : Mod Nn w9 (w10.alloc (.cells #[.slice A1 N c1, .slice A2 N c2, .slice A3 N c3] 35)) := m10.alloc _
                      have hap := apartB3 (cc := 3) (Blk.new w10 35 #[.slice A1 N c1, .slice A2 N c2, .slice A3 N c3]) (own_mod H9.out.1 M10 (fun _ _ f => f)) (own_mod H9.out.2.1 M10 (fun _ _ f => f)) (own_mod H9.out.2.2.1 M10 (fun _ _ f => f)) (by omega) (by omega) (by omega)
                        (fun g hg1 hg2 => by have h1 := (H6.out.2.2.1 g hg1).2; have h2 := (H7.out.2.2.1 g hg2).1; omega)
                        (fun g hg1 hg2 => by have h1 := (H6.out.2.2.1 g hg1).2; have h2 := (H9.out.2.2.2.2 g hg2).1; have := H7.out.2.2.2.2; have := H8.out.2.2.2; omega)
                        (fun g hg1 hg2 => by have h1 := (H7.out.2.2.1 g hg1).2; have h2 := (H9.out.2.2.2.2 g hg2).1; have := H8.out.2.2.2; omega)
                      have H10 := Lib.hid (H9.out.2.2.2.1.md.nn_ M10)
                      clear hr2 hr3 m10 M10
                      go_wp2_with fail
                      refine hap.mono ?_
                      rintro r w11 ⟨rfl, m11⟩
                      have M11 : Mod Nn w w11 := H10.out.then_ m11 (fun g hg e => by
                        have h1 := H5.out.md.size
                        have h3 := H6.out.2.2.2
                        have h4 := H7.out.2.2.2.2
                        have h5 := H8.out.2.2.2
                        rcases e with e | e | e
                        · have h2 := (H6.out.2.2.1 g e).1; omega
                        · have h2 := (H7.out.2.2.1 g e).1; omega
                        · have h2 := (H9.out.2.2.2.2 g e).1; omega)
                      clear hap m11
                      go_wp2_with fail
                      refine (awake_any _).mono ?_
                      rintro r w12 ⟨rfl, m12⟩
                      have M12 := M11.nn_ m12
                      go_wp2
                      go_ret
                      exact ⟨rfl, M12⟩
end Go.Proofs.Ytgmkibckbbbhkaa
