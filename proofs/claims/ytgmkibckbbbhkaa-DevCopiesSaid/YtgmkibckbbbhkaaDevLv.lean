/- peatbanklaw08.DevLives: the walk. -/
import Derived.Test.YtgmkibckbbbhkaaDevL
namespace Go.Proofs.Ytgmkibckbbbhkaa
open Go.RowKit

/-- two new disks -/
theorem pr_new {w0 w1 w2 : World} {b ms mo b' : Nat} {D : Dk} (hd : DiskAt w1 b ms mo D) (m1 : Mod Nn w0 w1) (hf : ∀ k, In3 b ms mo k → w0.heap.size ≤ k) (hr : RefAt w2 b' (.slice none 0 0) (fun _ => False) D []) (m2 : Mod Nn w1 w2) (hb : w1.heap.size ≤ b') :
    Pr w0 w2 b ms mo b' (.slice none 0 0) (fun _ => False) D D [] :=
  ⟨hd.mod m2 (fun _ _ f => f), hr, m1.nn_ m2, hf, fun k hk => by
    rcases hk with hk | hk
    · have := m1.size; omega
    · exact absurd hk (by simp [Value.ownBlock]), fun k hk => ⟨fun hin => by
    rcases hin with hin | hin
    · have := hd.lt k hk; omega
    · exact absurd hin (by simp [Value.ownBlock]), fun f => f⟩⟩

set_option maxRecDepth 100000 in
set_option maxHeartbeats 3200000 in
theorem lives_any (w : World) (x0 : Int) {A : Option Addr} {n c : Nat} {xs : List DoR} (hx : RdDo w A n xs) (hc : n ≤ c) (hcm : c ≤ maxLen) :
    Calls Try.prog 6 #[.int .i64 x0, .slice A n c] w fun e w' => e = .returned (.bool true) ∧ Mod Nn w w' := by
  go_enter Try.func6, Try.ntmps6
  go_upto_if 10 with fail
  go_cut [1] from 10 to 12 (fun v wx => ∃ (n' c' : Nat) (xs' : List DoR), v = .slice A n' c' ∧ n' ≤ 80 ∧ RdDo w A n' xs' ∧ w = wx)
  case first =>
    by_cases h80 : (80 : Int) < n
    · obtain ⟨g, off, rfl, hg, -⟩ := hx.2.1 (by omega)
      have hx' := hx.take (m := 80) (by omega)
      clear hx
      have hc80 : 80 ≤ c := by omega
      go_wp2
      go_meet
      exact ⟨80, c, _, rfl, by omega, hx', rfl⟩
    · go_wp2
      go_meet
      exact ⟨n, c, xs, rfl, by omega, hx, rfl⟩
  case rest =>
    obtain ⟨n', c', xs', rfl, hn, hx', rfl⟩ := hcut
    by_cases hs : x0 < 1 ∨ 262144 < x0
    · go_wp2_with fail
      refine (new_none x0 _ hs).mono ?_
      rintro r w1 ⟨rfl, rfl⟩
      go_wp2_with fail
      refine (rnew_none x0 _ hs).mono ?_
      rintro r w1 ⟨rfl, rfl⟩
      clear hs
      go_wp2_with fail
      refine (awake_any _).mono ?_
      rintro r w1 ⟨rfl, m1⟩
      go_wp2
      go_ret
      exact ⟨rfl, m1⟩
    · have hs1 : 1 ≤ x0 := by omega
      have hs2 : x0 ≤ 262144 := by omega
      clear hs
      go_wp2_with fail
      refine (new_any x0 _ hs1 hs2).mono ?_
      rintro r w1 ⟨b, ms, mo, rfl, hd, m1, hf⟩
      go_wp2_with fail
      refine (rnew_any x0 _ hs1 hs2).mono ?_
      rintro r w2 ⟨b', rfl, hr, m2, hb⟩
      have h2 := pr_new hd m1 hf hr m2 hb
      clear hd m1 hf hr m2 hb
      go_wp2
      go_loopw [7] (fun i wr => ∃ (k : Nat) (lv : Value) (F : Nat → Prop) (D : Dk) (L : List Sec), k ≤ n' ∧ i = .int .i64 k ∧ Pr w wr b ms mo b' lv F D D L) (fun i _ => n' - (intOf i).toNat)
      case atStart => exact ⟨0, _, _, _, _, Nat.zero_le _, rfl, h2⟩
      case round =>
        clear h2
        obtain ⟨k, lv, F, D, L, hk, rfl, h⟩ := hrel
        obtain ⟨wo, rfl⟩ : ∃ wo : World, wo = wr := ⟨_, rfl⟩
        by_cases hlt : k < n'
        · obtain ⟨g, off, x, rfl, hxk, hat, hxo, hxf⟩ := (hx'.mod h.md).at_ hlt
          have hxf0 := (hx'.2.2 k x hxk).2
          have hlt' : (k : Int) < n' := by omega
          have cc4 := hat.c4
          have HAT := Lib.hid hat; have HXO := Lib.hid hxo
          have H := Lib.hid h
          have hfm := hxo.f
          have HF0 := Lib.hid hxf0
          clear hat
          have HXK := Lib.hid hxk
          clear hxk hxo hxf hxf0 h
          by_cases hfn : (1000 : Int) < x.fn
          · go_wp2_with fail
            refine (awake_any _).mono ?_
            rintro r w3 ⟨rfl, m3⟩
            have M3 := H.out.md.nn_ m3
            go_wp2
            go_ret
            exact ⟨rfl, M3⟩
          · go_wp2_with (first
              | (with_reducible change wpList _ _ _ (⟨some 44, _, _, _, _, _⟩ :: _) _ _
                 go_must (refine wpList_val rfl (exec_load_cells (P := Try.prog) 31 _ rfl (cs := [.int .i64 x.op, .int .i64 x.sec, .int .i64 x.num, .int .u8 x.byt, .slice x.fa x.fn x.fc]) rfl (do_cells HAT.out) Try.underlying31 rfl doSize) ?_)))
            refine (step_any H.out x HXO.out HF0.out (by omega)).mono ?_
            rintro r w3 ⟨lv', F', D', L', rfl, h3, -⟩
            have H3 := Lib.hid h3; clear h3
            generalize hdn : D'.down = dn at *
            have HD := Lib.hid hdn; clear hdn
            go_wp2_with fail
            refine (down_any H3.out.d).mono ?_
            rintro r w4 ⟨rfl, rfl⟩
            rw [HD.out]
            go_wp2_with fail
            refine (rdown_any H3.out.r).mono ?_
            rintro r w4 ⟨rfl, rfl⟩
            rw [HD.out]
            go_wp2
            exact ⟨⟨k + 1, _, _, _, _, by omega, by go_num, H3.out⟩, by simp [intOf]; omega⟩
        · have hlt' : ¬ (k : Int) < n' := by omega
          have H := Lib.hid h; clear h
          go_wp2_with fail
          refine (like_any H.out hx' (by omega)).mono ?_
          rintro r w3 ⟨rfl, m3⟩
          have H3 := Lib.hid (H.out.quiet m3); clear m3 H
          go_wp2_with fail
          refine (wake_any H3.out.d (n := 0) (fs := []) (Rd.nil _ _) (fun h => absurd h (by omega)) (by omega)).mono ?_
          rintro r w4 ⟨rfl, hd4, m4⟩
          have H4 := Lib.hid (H3.out.dev hd4 m4); clear hd4 m4 H3
          go_wp2_with fail
          refine (rwake_any H4.out.r (n := 0) (fs := []) (Rd.nil _ _) (fun h => absurd h (by omega)) (by omega)).mono ?_
          rintro r w5 ⟨lv', F', L', rfl, hr5, to5⟩
          have H5 := Lib.hid (H4.out.ref hr5 to5); clear hr5 to5 H4
          go_wp2_with fail
          refine (like_any H5.out hx' (by omega)).mono ?_
          rintro r w6 ⟨rfl, m6⟩
          have M6 := H5.out.md.nn_ m6
          clear m6
          go_wp2_with fail
          refine (awake_any _).mono ?_
          rintro r w7 ⟨rfl, m7⟩
          have M7 := M6.nn_ m7
          go_wp2
          go_ret
          exact ⟨rfl, M7⟩
end Go.Proofs.Ytgmkibckbbbhkaa
