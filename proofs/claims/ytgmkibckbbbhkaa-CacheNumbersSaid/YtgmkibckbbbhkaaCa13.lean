/- peatbanklaw09.CacheLives: the walk. -/
import Derived.Test.YtgmkibckbbbhkaaCa12
namespace Go.Proofs.Ytgmkibckbbbhkaa
open Go.RowKit

theorem RdDo.take9 {w : World} {A : Option Addr} {n : Nat} {xs : List DoR} (h : RdDo w A n xs) {m : Nat} (hm : m ≤ n) : RdDo w A m (xs.take m) := by
  have hx : ∀ (k : Nat) (x : DoR), (xs.take m)[k]? = some x → xs[k]? = some x := fun k x hk => by
    rw [List.getElem?_take] at hk
    split at hk
    · exact hk
    · cases hk
  refine ⟨by rw [List.length_take, h.1]; omega, fun hp => ?_, fun k x hk => h.2.2 k x (hx k x hk)⟩
  obtain ⟨g, off, hA, hg, hc⟩ := h.2.1 (by omega)
  exact ⟨g, off, hA, hg, fun k x hk => hc k x (hx k x hk)⟩
theorem do9Size : (Try.prog.info? 85).map (·.size) = some 5 := by kernel_rfl
theorem do9_cells {w : World} {g off k : Nat} {x : DoR} (h : DoAt w g off k x) : ∀ j v, [Value.int .i64 x.op, .int .i64 x.sec, .int .i64 x.num, .int .u8 x.byt, .slice x.fa x.fn x.fc][j]? = some v → w.cell? ⟨g, off + k * 5 + j, none⟩ = some v
  | 0, v, hv => by injection hv with hv; rw [← hv]; exact h.c0
  | 1, v, hv => by injection hv with hv; rw [← hv]; exact h.c1
  | 2, v, hv => by injection hv with hv; rw [← hv]; exact h.c2
  | 3, v, hv => by injection hv with hv; rw [← hv]; exact h.c3
  | 4, v, hv => by injection hv with hv; rw [← hv]; exact h.c4
  | j + 5, v, hv => by simp at hv

/-- a life begins -/
def s0 (n : Int) : CS := ⟨0, 0, 0, 0, .slice none 0 0, none, 0, fun _ => False, Dk.new n, Dk.new n, [], [], [], []⟩
theorem lf_new {w w1 w2 w3 : World} {c b ms mo mk r : Nat} {n sz : Int} (hd : DiskAt w1 b ms mo (Dk.new n)) (m1 : Mod Nn w w1) (hf : ∀ k, In3 b ms mo k → w.heap.size ≤ k) (hr : RefAt w2 r (.slice none 0 0) (fun _ => False) (Dk.new n) []) (m2 : Mod Nn w1 w2) (hb : w1.heap.size ≤ r)
    (hC : CAt w3 c b ms mo mk (Dk.new n) sz 0 0 0 [] []) (m3 : Mod Nn w2 w3) (hc : w2.heap.size ≤ c) (hk : w2.heap.size ≤ mk) :
    Lf w (w3.alloc (.cells #[.pointer (some ⟨c, 0, none⟩), .pointer (some ⟨b, 0, none⟩), .pointer (some ⟨r, 0, none⟩), .int .i64 sz, .slice none 0 0, .int .i64 0] 84)) ⟨w3.heap.size, c, b, ms, mo, mk, r⟩ sz (s0 n) ∧ Coh sz (s0 n) := by
  have mA : Mod Nn w3 (w3.alloc (.cells #[.pointer (some ⟨c, 0, none⟩), .pointer (some ⟨b, 0, none⟩), .pointer (some ⟨r, 0, none⟩), .int .i64 sz, .slice none 0 0, .int .i64 0] 84)) := (Mod.refl _ _).alloc _
  have z1 := m1.size
  have z2 := m2.size
  have z3 := m3.size
  have hbl := hd.lt
  have hcl := hC.lt
  have hrl := hr.lt r (.inl (.inl rfl))
  refine ⟨⟨hC.mem.mod mA (fun _ _ f => f), hC.d.mod mA (fun _ _ f => f), hC.sep, (hr.nn m3).nn mA, Blk.new _ _ _, World.ownsRow_nil _ _ _ _, ((m1.nn_ m2).nn_ m3).nn_ mA, ?_, hC.m1, Int.le_refl _, Int.le_refl _, Int.le_refl _, Int.le_refl _⟩, ⟨rfl, (fun e he => by cases he), hC.lru, rfl, rfl, Int.le_refl _⟩⟩
  have hin3 : ∀ k, In3 b ms mo k → k < w1.heap.size := hbl
  refine ⟨fun g => if g = w3.heap.size then 1 else if g = r then 4 else if g = c ∨ g = mk ∨ g = b ∨ g = ms ∨ g = mo then 3 else 0, by simp, (fun g hg => by obtain ⟨a, ha, -⟩ := hg; cases ha), fun g hg => ?_, fun g hg => ?_, fun g hg => ?_⟩
  · have h1 : g < w3.heap.size := hcl g hg
    have h2 : g ≠ r := by
      intro e
      rcases hg with (hg | hg | ⟨e, he, -⟩) | hg
      · have hg : g = c := hg
        omega
      · have hg : g = mk := hg
        omega
      · cases he
      · have := hin3 g hg; omega
    have h3 : g = c ∨ g = mk ∨ g = b ∨ g = ms ∨ g = mo := by
      rcases hg with (hg | hg | ⟨e, he, -⟩) | hg
      · exact .inl hg
      · exact .inr (.inl hg)
      · cases he
      · exact .inr (.inr hg)
    simp only [show g ≠ w3.heap.size from by omega, h2, h3, if_false, if_true]
  · have h1 : g = r := by
      rcases hg with (hg | hg) | hg
      · exact hg
      · cases hg
      · exact hg.elim
    subst h1
    simp only [show g ≠ w3.heap.size from by omega, if_false, if_true]
  · have hm := mA.size
    have hsz : (w3.alloc (.cells #[.pointer (some ⟨c, 0, none⟩), .pointer (some ⟨b, 0, none⟩), .pointer (some ⟨r, 0, none⟩), .int .i64 sz, .slice none 0 0, .int .i64 0] 84)).heap.size = w3.heap.size + 1 := by simp
    by_cases h1 : g = w3.heap.size
    · omega
    · by_cases h2 : g = r
      · omega
      · by_cases h3 : g = c ∨ g = mk ∨ g = b ∨ g = ms ∨ g = mo
        · have hl : g < w3.heap.size := by
            rcases h3 with h3 | h3 | h3
            · exact hcl g (.inl (.inl h3))
            · exact hcl g (.inl (.inr (.inl h3)))
            · have := hin3 g h3; omega
          have hg0 : w.heap.size ≤ g := by
            rcases h3 with h3 | h3 | h3
            · omega
            · omega
            · exact hf g h3
          omega
        · simp [h1, h2, h3] at hg

set_option maxRecDepth 100000 in
set_option maxHeartbeats 6400000 in
theorem clives_any (w : World) (x0 sz : Int) {A : Option Addr} {n c : Nat} {xs : List DoR} (hx : RdDo w A n xs) (hc : n ≤ c) (hcm : c ≤ maxLen) :
    Calls Try.prog 11 #[.int .i64 x0, .int .i64 sz, .slice A n c] w fun e w' => e = .returned (.bool true) ∧ Mod Nn w w' := by
  go_enter Try.func11, Try.ntmps11
  go_upto_if 17 with fail
  go_cut [2] from 17 to 19 (fun v wx => ∃ (n' c' : Nat) (xs' : List DoR), v = .slice A n' c' ∧ n' ≤ 80 ∧ RdDo w A n' xs' ∧ w = wx)
  case first =>
    by_cases h80 : (80 : Int) < n
    · obtain ⟨g, off, rfl, hg, -⟩ := hx.2.1 (by omega)
      have hx' := hx.take9 (m := 80) (by omega)
      clear hx
      have hc80 : 80 ≤ c := by omega
      go_wp2
      go_meet
      exact ⟨80, c, _, rfl, by omega, hx', rfl⟩
    · go_wp2
      go_meet
      exact ⟨n, c, xs, rfl, by omega, hx, rfl⟩
  case rest =>
    obtain ⟨n', c', xs', rfl, hn, hx', rfl⟩ := hcut
    by_cases hs : x0 < 1 ∨ 262144 < x0
    · go_wp2_with fail
      refine (new_none x0 _ hs).mono ?_
      rintro r w1 ⟨rfl, rfl⟩
      go_wp2_with fail
      refine (rnew_none x0 _ hs).mono ?_
      rintro r w1 ⟨rfl, rfl⟩
      clear hs
      go_wp2_with fail
      refine (cnew_nil sz _).mono ?_
      rintro r w1 ⟨rfl, rfl⟩
      go_wp2_with fail
      refine (cawake_any _).mono ?_
      rintro r w1 ⟨rfl, m1⟩
      go_wp2
      go_ret
      exact ⟨rfl, m1⟩
    have hs1 : 1 ≤ x0 := by omega
    have hs2 : x0 ≤ 262144 := by omega
    clear hs
    go_wp2_with fail
    refine (new_any x0 _ hs1 hs2).mono ?_
    rintro r w1 ⟨b, ms, mo, rfl, hd, m1, hf⟩
    go_wp2_with fail
    refine (rnew_any x0 _ hs1 hs2).mono ?_
    rintro r w2 ⟨b', rfl, hr, m2, hb⟩
    by_cases hz : sz < 1
    · go_wp2_with fail
      refine (cnew_small (hd.mod m2 (fun _ _ f => f)) sz hz).mono ?_
      rintro r w3 ⟨rfl, rfl⟩
      have M2 := m1.nn_ m2
      clear hd m1 hf hr m2 hb
      go_wp2_with fail
      refine (cawake_any _).mono ?_
      rintro r w3 ⟨rfl, m3⟩
      have M3 := M2.nn_ m3
      clear m3 M2
      go_wp2
      go_ret
      exact ⟨rfl, M3⟩
    have hz1 : 1 ≤ sz := by omega
    go_wp2_with fail
    refine (cnew_any (hd.mod m2 (fun _ _ f => f)) sz hz1).mono ?_
    rintro r w3 ⟨cc, mk, rfl, hC, m3, hcc, hmk⟩
    obtain ⟨hL, hK⟩ := lf_new hd m1 hf hr m2 hb hC m3 hcc hmk
    clear hd m1 hf hr m2 hb hC m3 hcc hmk
    have HL := Lib.hid hL; have HK := Lib.hid hK; clear hL hK
    go_wp2
    generalize hI : (⟨w3.heap.size, cc, b, ms, mo, mk, b'⟩ : CI) = I at *
    generalize w3.alloc (.cells #[.pointer (some ⟨cc, 0, none⟩), .pointer (some ⟨b, 0, none⟩), .pointer (some ⟨b', 0, none⟩), .int .i64 sz, .slice none 0 0, .int .i64 0] 84) = w4 at *
    have e1 : w3.heap.size = I.x := by rw [← hI]
    have e2 : cc = I.c := by rw [← hI]
    have e3 : b = I.b := by rw [← hI]
    have e4 : b' = I.r := by rw [← hI]
    clear hI
    rw [e1, e2, e3, e4]
    clear e1 e2 e3 e4
    go_loopw [11] (fun i wr => ∃ (k : Nat) (s : CS), k ≤ n' ∧ i = .int .i64 k ∧ Lf w wr I sz s ∧ Coh sz s ∧ s.now ≤ k) (fun i _ => n' - (intOf i).toNat)
    case atStart => exact ⟨0, _, Nat.zero_le _, rfl, HL.out, HK.out, Int.le_refl _⟩
    case round =>
      clear HL HK
      obtain ⟨k, s, hk, rfl, h, kk, hnow⟩ := hrel
      obtain ⟨wo, rfl⟩ : ∃ wo : World, wo = wr := ⟨_, rfl⟩
      have H := Lib.hid h; have HK := Lib.hid kk; clear h kk
      by_cases hlt : k < n'
      · obtain ⟨g, off, x, rfl, hxk, hat, hxo, hxf⟩ := (hx'.mod H.out.md).at_ hlt
        have hxf0 := (hx'.2.2 k x hxk).2
        have hlt' : (k : Int) < n' := by omega
        have cc4 := hat.c4
        have HAT := Lib.hid hat; have HXO := Lib.hid hxo
        have hfm := hxo.f
        have HF0 := Lib.hid hxf0
        clear hat hxk hxo hxf hxf0
        by_cases hfn : (1000 : Int) < x.fn
        · go_wp2_with fail
          refine (cawake_any _).mono ?_
          rintro r w5 ⟨rfl, m5⟩
          have M5 := H.out.md.nn_ m5
          clear m5
          go_wp2
          go_ret
          exact ⟨rfl, M5⟩
        · go_wp2_with (first
            | (with_reducible change wpList _ _ _ (⟨some 80, _, _, _, _, _⟩ :: _) _ _
               go_must (refine wpList_val rfl (exec_load_cells (P := Try.prog) 85 _ rfl (cs := [.int .i64 x.op, .int .i64 x.sec, .int .i64 x.num, .int .u8 x.byt, .slice x.fa x.fn x.fc]) rfl (do9_cells HAT.out) Try.underlying85 rfl do9Size) ?_)))
          refine (s_any H.out HK.out (by omega) x HXO.out HF0.out (by omega)).mono ?_
          rintro r w5 ⟨s', rfl, h5, k5, n5, d5⟩
          have H5 := Lib.hid h5; have K5 := Lib.hid k5; clear h5 k5 d5
          generalize hDn : s'.D.n = dN at *
          have HDn := Lib.hid hDn; clear hDn
          go_wp2_with fail
          refine (csectors_any (H5.out.cat K5.out)).mono ?_
          rintro r w6 ⟨rfl, rfl⟩
          rw [HDn.out]
          have hrs := rsectors_any H5.out.rf
          rw [K5.out.eq, HDn.out] at hrs
          go_wp2_with fail
          refine hrs.mono ?_
          clear hrs
          rintro r w6 ⟨rfl, rfl⟩
          go_wp2
          exact ⟨⟨k + 1, s', by omega, by go_num, H5.out, K5.out, by omega⟩, by simp [intOf]; omega⟩
      · have hlt' : ¬ (k : Int) < n' := by omega
        go_wp2
        go_loopw [12] (fun i wr => ∃ (k : Nat) (s : CS), k ≤ n' ∧ i = .int .i64 k ∧ Lf w wr I sz s ∧ Coh sz s ∧ s.now ≤ 80 + k) (fun i _ => n' - (intOf i).toNat)
        case atStart => exact ⟨0, _, Nat.zero_le _, rfl, H.out, HK.out, by omega⟩
        case round =>
          clear H HK hnow hlt hlt'
          obtain ⟨k, s, hk, rfl, h, kk, hnow⟩ := hrel
          obtain ⟨wo, rfl⟩ : ∃ wo : World, wo = wr := ⟨_, rfl⟩
          have H := Lib.hid h; have HK := Lib.hid kk; clear h kk
          by_cases hlt : k < n'
          · have hlt' : (k : Int) < n' := by omega
            generalize hdn : s.D.down = dn at *
            have HDN := Lib.hid hdn; clear hdn
            go_wp2_with fail
            refine (down_any H.out.d).mono ?_
            rintro r w5 ⟨rfl, rfl⟩
            rw [HDN.out]
            cases dn with
            | true =>
              have c5 : wo.cell? ⟨I.x, 5, none⟩ = some (.int .i64 s.rd) := H.out.blk.cell 5
              go_wp2_with fail
              refine (ccounts_any H.out.mem H.out.m1).mono ?_
              rintro r w3 ⟨rfl, m3⟩
              have c5 : w3.cell? ⟨I.x, 5, none⟩ = some (.int .i64 s.rd) := (H.out.quiet m3).blk.cell 5
              have M3 := H.out.md.nn_ m3
              have hrd : (s.hits + s.misses == s.rd) = true := by rw [HK.out.rd]; simp
              have b1 := H.out.h0; have b2 := H.out.s0; have b3 := H.out.hs
              generalize s.hits = gh at *
              generalize s.misses = gm at *
              generalize s.rd = gr at *
              clear m3
              go_wp2_with fail
              refine (cawake_any _).mono ?_
              rintro r w4 ⟨rfl, m4⟩
              have M4 := M3.nn_ m4
              clear m4 M3 c5 hrd
              go_wp2
              go_ret
              exact ⟨rfl, M4⟩
            | false =>
              obtain ⟨g, off, x, rfl, hxk, hat, hxo, hxf⟩ := (hx'.mod H.out.md).at_ hlt
              have cc1 := hat.c1
              clear hat hxk hxo hxf
              go_wp2_with fail
              refine (l_read H.out HK.out x.sec (by omega)).mono ?_
              rintro r w5 ⟨s', rfl, h5, k5, n5, d5⟩
              have H5 := Lib.hid h5; have K5 := Lib.hid k5; clear h5 k5 d5
              go_wp2
              exact ⟨⟨k + 1, s', by omega, by go_num, H5.out, K5.out, by omega⟩, by simp [intOf]; omega⟩
          · have hlt' : ¬ (k : Int) < n' := by omega
            have c5 : wo.cell? ⟨I.x, 5, none⟩ = some (.int .i64 s.rd) := H.out.blk.cell 5
            go_wp2_with fail
            refine (ccounts_any H.out.mem H.out.m1).mono ?_
            rintro r w3 ⟨rfl, m3⟩
            have c5 : w3.cell? ⟨I.x, 5, none⟩ = some (.int .i64 s.rd) := (H.out.quiet m3).blk.cell 5
            have M3 := H.out.md.nn_ m3
            have hrd : (s.hits + s.misses == s.rd) = true := by rw [HK.out.rd]; simp
            have b1 := H.out.h0; have b2 := H.out.s0; have b3 := H.out.hs
            generalize s.hits = gh at *
            generalize s.misses = gm at *
            generalize s.rd = gr at *
            clear m3
            go_wp2_with fail
            refine (cawake_any _).mono ?_
            rintro r w4 ⟨rfl, m4⟩
            have M4 := M3.nn_ m4
            clear m4 M3 c5 hrd
            go_wp2
            go_ret
            exact ⟨rfl, M4⟩
end Go.Proofs.Ytgmkibckbbbhkaa
