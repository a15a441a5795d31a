/- peatbanklaw20.BlobLives: the walk. -/
import Derived.Test.YtgmkibckbbbhkaaBl10
namespace Go.Proofs.Ytgmkibckbbbhkaa
open Go.RowKit

set_option maxRecDepth 100000 in
set_option maxHeartbeats 6400000 in
theorem blives_any (w : World) (x0 x1 : Int) {A : Option Addr} {n c : Nat} {xs : List D4} (hx : RdD4 w A n xs) (hc : n ≤ c) (hcm : c ≤ maxLen) :
    Calls Try.prog 15 #[.int .i64 x0, .int .i64 x1, .slice A n c] w fun e w' => e = .returned (.bool true) ∧ Mod Nn w w' := by
  have hp0 := pick_range x0 9 (by omega)
  have hp1 := pick_range x1 9 (by omega)
  have HX := Lib.hid hx; clear hx
  go_enter Try.func15, Try.ntmps15
  go_wp2_with fail
  refine (pick_any x0 9 _ (by omega)).mono ?_
  rintro q _ ⟨rfl, rfl⟩
  generalize pick x0 9 = p at *
  go_wp2_with fail
  generalize hs0 : 1 + p = s0 at *
  refine (new_any s0 _ (by omega) (by omega)).mono ?_
  rintro q w1 ⟨b, ms, mo, rfl, hd, m1, hf⟩
  go_wp2_with fail
  refine (rnew_any s0 _ (by omega) (by omega)).mono ?_
  rintro q w2 ⟨b', rfl, hr, m2, hb⟩
  go_wp2_with fail
  refine (pick_any x1 9 _ (by omega)).mono ?_
  rintro q _ ⟨rfl, rfl⟩
  generalize pick x1 9 = p1 at *
  go_wp2_with fail
  generalize hs1 : 1 + p1 = s1 at *
  refine (cnew_any (hd.mod m2 (fun _ _ f => f)) s1 (by omega)).mono ?_
  rintro q w3 ⟨cc, mk, rfl, hC, m3, hcc, hmk⟩
  have HB := Lib.hid (bp_new hd m1 hf hr m2 hb hC m3 hcc hmk)
  have HS0 : Hid (s0 ≤ 9) := Lib.hid (by omega)
  clear hd m1 hf hr m2 hb hC m3 hcc hmk hs0 hs1 hp0 hp1
  go_wp2
  generalize hI : (⟨cc, b, ms, mo, mk⟩ : Id5) = I at *
  have e2 : cc = I.c := by rw [← hI]
  have e3 : b = I.b := by rw [← hI]
  clear hI
  rw [e2, e3]
  clear e2 e3
  go_loopw [10] (fun i wr => ∃ (k : Nat) (s : BS), k ≤ n ∧ k ≤ 40 ∧ i = .int .i64 k ∧ Bp w wr I b' s1 s ∧ s.E = s.D ∧ s.now ≤ 1024 * k ∧ s.D.n = s0) (fun i _ => n - (intOf i).toNat)
  case atStart => exact ⟨0, _, by omega, by omega, rfl, HB.out, rfl, Int.le_refl _, rfl⟩
  case round =>
    clear HB
    obtain ⟨k, s, hk, hk4, rfl, h, he, hnow, hdn⟩ := hrel
    obtain ⟨wo, rfl⟩ : ∃ wo : World, wo = wr := ⟨_, rfl⟩
    have H := Lib.hid h; have HE := Lib.hid he; have HN := Lib.hid hnow; have HDN := Lib.hid hdn; clear h he hnow hdn
    by_cases hlt : k < n ∧ k < 40
    · obtain ⟨hlt, hl4⟩ := hlt
      obtain ⟨g, off, x, rfl, hat, hxo⟩ := (HX.out.mod H.out.md).at_ hlt
      have hlt' : (k : Int) < n := by omega
      have hl4' : (k : Int) < 40 := by omega
      have HAT := Lib.hid hat; have HXO := Lib.hid hxo
      clear hat hxo
      go_wp2_with (first
        | (with_reducible change wpList _ _ _ (⟨some 49, _, _, _, _, _⟩ :: _) _ _
           go_must (refine wpList_val rfl (exec_load_cells (P := Try.prog) 95 _ rfl (cs := [.int .i64 x.op, .int .i64 x.pos, .int .i64 x.num, .int .u8 x.byt]) rfl (d4_cells HAT.out) Try.underlying95 rfl d4Size) ?_)))
      refine (b_any H.out HE.out (by have := HN.out; omega) x HXO.out).mono ?_
      rintro q w5 ⟨s', rfl, h5, e5, n5, d5⟩
      have N5 : Hid (s'.now ≤ 1024 * (k + 1)) := Lib.hid (by have := HN.out; omega)
      have D5 : Hid (s'.D.n = s0) := Lib.hid (d5.trans HDN.out)
      have H5 := Lib.hid h5; have E5 := Lib.hid e5; clear h5 e5 n5 d5 HN HDN HE H
      generalize hdo : s'.D.down = dn at *
      have HDO := Lib.hid hdo; clear hdo
      go_wp2_with fail
      refine (down_any H5.out.ca.d).mono ?_
      rintro q w6 ⟨rfl, rfl⟩
      rw [HDO.out]
      have hrd := rdown_any H5.out.rf
      rw [E5.out, HDO.out] at hrd
      go_wp2_with fail
      refine hrd.mono ?_
      clear hrd
      rintro q w6 ⟨rfl, rfl⟩
      go_wp2
      exact ⟨⟨k + 1, s', by omega, by omega, by go_num, H5.out, E5.out, by have := N5.out; push_cast; omega, D5.out⟩, by simp [intOf]; omega⟩
    · have hlt' : ¬ (k : Int) < n ∨ (k : Int) < n ∧ ¬ (k : Int) < 40 := by omega
      clear hlt
      rcases hlt' with hlt' | ⟨hlt', hl4'⟩
      all_goals
        go_wp2_with fail
        refine (bytes_any H.out.ca.d).mono ?_
        rintro q w6 ⟨v6, rfl, o6, m6⟩
        have h6 := H.out.quiet m6
        have hrb := rbytes_any h6.rf
        rw [HE.out, HDN.out] at hrb
        rw [HDN.out] at o6
        obtain ⟨A6, c6, rfl, r6, -⟩ := own_rd o6
        clear o6 m6
        go_wp2_with fail
        refine hrb.mono ?_
        clear hrb
        rintro q w7 ⟨v7, rfl, o7, m7⟩
        obtain ⟨A7, c7, rfl, r7, -⟩ := own_rd o7
        have M7 := h6.md.nn_ m7
        have r67 := r6.mod m7 (fun _ _ f => f)
        clear h6 o7 m7 r6
        go_wp2_with fail
        refine (same_any r67 r7 (by have := HS0.out; omega) (by have := HS0.out; omega)).mono ?_
        rintro q w8 ⟨rfl, m8⟩
        rw [show ∀ z : List Int, decide (z = z) = true from fun z => by simp]
        have M8 := M7.nn_ m8
        clear M7 m8 r7 r67
        go_wp2_with fail
        refine (bawake_any _).mono ?_
        rintro q w9 ⟨rfl, m9⟩
        have M9 := M8.nn_ m9
        clear M8 m9
        go_wp2
        go_ret
        exact ⟨rfl, M9⟩
end Go.Proofs.Ytgmkibckbbbhkaa
