/- peatbanklaw09: a read in a cache's life. -/
import Derived.Test.YtgmkibckbbbhkaaCa9
namespace Go.Proofs.Ytgmkibckbbbhkaa
open Go.RowKit

section
variable {w0 w w' : World} {I : CI} {sz : Int} {s : CS}
set_option maxRecDepth 100000 in
set_option maxHeartbeats 6400000 in
theorem l_read (h : Lf w0 w I sz s) (kk : Coh sz s) (at_ : Int) (hn : s.now ≤ 1000000) :
    Calls Try.prog 59 #[.pointer (some ⟨I.x, 0, none⟩), .int .i64 at_] w (LStep w0 I sz s) := by
  have hcat := h.cat kk
  have c0 : w.cell? ⟨I.x, 0, none⟩ = some (.pointer (some ⟨I.c, 0, none⟩)) := h.blk.cell 0
  have hb0 := h.h0; have hb1 := h.s0; have hb2 := h.hs
  have hrl : (s.D.read at_).length ≤ 512 := by
    unfold Dk.read
    split
    · rw [h.d.ok.latest_len]; omega
    · simp
  have hmd : s.D.may at_ = 0 → s.D.down = false := fun hm => by
    unfold Dk.may at hm
    cases hd : s.D.down with
    | false => rfl
    | true => rw [hd] at hm; simp at hm
  have HMD := Lib.hid hmd; clear hmd
  have HK := Lib.hid kk; clear kk
  generalize hM : s.D.may at_ = M at *
  generalize hR : s.D.read at_ = R at *
  have HM := Lib.hid hM; have HR := Lib.hid hR; clear hM hR
  have H := Lib.hid h; clear h
  generalize hgh : s.hits = gh at *
  generalize hgm : s.misses = gm at *
  have HG := Lib.hid (And.intro hgh hgm); clear hgh hgm
  go_enter Try.func59, Try.ntmps59
  go_wp2_with fail
  refine (ccounts_any hcat.mem hcat.m1).mono ?_
  rintro e w1 ⟨rfl, m1⟩
  have c0 : w1.cell? ⟨I.x, 0, none⟩ = some (.pointer (some ⟨I.c, 0, none⟩)) := (H.out.quiet m1).blk.cell 0
  go_wp2_with fail
  refine (cread_any (hcat.quiet m1) at_ (by omega)).mono ?_
  rintro e w2 ⟨v, now', hits', misses', l', T', rfl, hC2, hT2, o2, nin2, cnt⟩
  rw [HM.out]
  rw [HR.out] at o2
  have h2 := (H.out.quiet m1).cache hC2.mem hC2.d hC2.sep hT2 hC2.n0 hC2.h0 hC2.s0 hC2.hs T'
  have c2 : w2.cell? ⟨I.x, 2, none⟩ = some (.pointer (some ⟨I.r, 0, none⟩)) := h2.blk.cell 2
  have HV := Lib.hid (show ∀ g, v.ownBlock = some g → w.heap.size ≤ g ∧ ¬ InA I.c I.b I.ms I.mo I.km l' g from fun g hg => ⟨by have := own_ge5 o2 g hg; have := m1.size; omega, nin2 g hg⟩)
  have HC2 := Lib.hid hC2
  have hnow : 0 ≤ hits' ∧ 0 ≤ misses' ∧ hits' + misses' ≤ 1000001 := ⟨hC2.h0, hC2.s0, by have := hC2.hs; have := cnt.le; omega⟩
  have HCNT := Lib.hid cnt
  clear hC2 hT2 nin2 hcat c0 cnt
  go_wp2_with fail
  have hrr := rread_any h2.rf at_
  have heq : s.E = s.D := HK.out.eq
  rw [show ({ s with D := s.D, now := now', hits := hits', misses := misses', l := l', T := T' } : CS).E = s.D from heq, HM.out, HR.out] at hrr
  clear heq
  refine hrr.mono ?_
  clear hrr
  rintro e w3 ⟨u, rfl, o3, m3⟩
  have h3 := h2.quiet m3
  have o2' := own_mod o2 m3 (fun _ _ f => f)
  have c0 : w3.cell? ⟨I.x, 0, none⟩ = some (.pointer (some ⟨I.c, 0, none⟩)) := h3.blk.cell 0
  clear h2 o2 m3 c2
  go_wp2_with fail
  refine (ccounts_any h3.mem h3.m1).mono ?_
  rintro e w4 ⟨rfl, m4⟩
  have h4 := h3.quiet m4
  have o2' := own_mod o2' m4 (fun _ _ f => f)
  have o3' := own_mod o3 m4 (fun _ _ f => f)
  clear h3 o3 m4 c0
  simp only
  obtain ⟨A2, cc2, rfl, hr2, -⟩ := own_rd o2'
  obtain ⟨A3, cc3, rfl, hr3, -⟩ := own_rd o3'
  clear o3'
  go_wp2_with fail
  refine (same_any hr2 hr3 (by omega) (by omega)).mono ?_
  rintro e w5 ⟨rfl, m5⟩
  rw [show decide (R = R) = true from by simp]
  have h5 := h4.quiet m5
  have o5 := own_mod o2' m5 (fun _ _ f => f)
  clear h4 o2' m5 hr2 hr3
  go_wp2_with fail
  refine (turn_any o5 (by omega)).mono ?_
  rintro e w6 ⟨rfl, -, m6⟩
  have h6 : Lf w0 w6 I sz _ := h5.mod m6 (fun k hk hs => by
    have hv := HV.out k hs
    rcases hk with hk | hk | hk | hk
    · have := H.out.lt k (.inl hk); omega
    · have := H.out.lt k (.inr (.inl hk)); omega
    · exact hv.2 hk
    · have := H.out.lt k (.inr (.inr (.inr hk))); omega) (fun k hk hs => by have hv := HV.out k hs; have := H.out.md.size; omega)
  clear h5 o5 m6 HV m1
  by_cases hm : M = 0
  · subst hm
    have hd := HMD.out rfl
    obtain ⟨e1, e2, e3, e4⟩ := HCNT.out.yes HM.out
    have hl := HK.out.lru
    rw [hd] at hl
    have hpl := hl.place at_
    rw [← HK.out.tl] at hpl
    have hlen := HK.out.len
    have hcoh : ∀ (A : Option Addr) (c : Nat), Coh sz { s with D := s.D, now := now', hits := hits', misses := misses', l := l', T := T', tA := A, tc := c, tl := s.tl.filter (fun y => !(y == at_)) ++ [at_], rd := s.rd + 1 } := fun A c =>
      Coh.of (s' := { s with D := s.D, now := now', hits := hits', misses := misses', l := l', T := T', tA := A, tc := c, tl := s.tl.filter (fun y => !(y == at_)) ++ [at_], rd := s.rd + 1 }) HC2.out rfl rfl rfl rfl HK.out.eq rfl rfl
        (by show s.tl.filter (fun y => !(y == at_)) ++ [at_] = T'.map (·.1); rw [e2, touch_map, HK.out.tl]) (by
          show s.rd + 1 = hits' + misses'
          have := HK.out.rd
          rw [e3, e4, this, HG.out.1, HG.out.2]
          split <;> omega) (by
          show ((s.tl.filter (fun y => !(y == at_)) ++ [at_]).length : Int) ≤ now'
          have : (s.tl.filter (fun y => !(y == at_))).length ≤ s.tl.length := List.length_filter_le _ _
          rw [e1, List.length_append]
          simp only [List.length_cons, List.length_nil]
          omega)
    have HCOH := Lib.hid hcoh; clear hcoh
    have HN1 := Lib.hid e1; clear e1
    have hcase : (placeL s.tl at_ < 0 ∧ hits' = gh ∧ misses' = gm + 1) ∨ (0 ≤ placeL s.tl at_ ∧ placeL s.tl at_ < sz ∧ hits' = gh + 1 ∧ misses' = gm) ∨ (0 ≤ placeL s.tl at_ ∧ ¬ placeL s.tl at_ < sz ∧ ((hits' = gh ∧ misses' = gm + 1) ∨ (hits' = gh + 1 ∧ misses' = gm))) := by
      cases hx : aget s.l at_ with
      | none =>
        have e3' : hits' = gh := by rw [e3, hx]; simp
        have e4' : misses' = gm + 1 := by rw [e4, hx]; simp
        by_cases hp : placeL s.tl at_ < 0
        · exact .inl ⟨hp, e3', e4'⟩
        · by_cases hq : placeL s.tl at_ < sz
          · exact absurd hx (hpl.2 (by omega) hq)
          · exact .inr (.inr ⟨by omega, hq, .inl ⟨e3', e4'⟩⟩)
      | some y =>
        have e3' : hits' = gh + 1 := by rw [e3, hx]; simp
        have e4' : misses' = gm := by rw [e4, hx]; simp
        by_cases hp : placeL s.tl at_ < 0
        · have := hpl.1 hp; rw [hx] at this; cases this
        · by_cases hq : placeL s.tl at_ < sz
          · exact .inr (.inl ⟨by omega, hq, e3', e4'⟩)
          · exact .inr (.inr ⟨by omega, hq, .inr ⟨e3', e4'⟩⟩)
    clear e2 e3 e4 hl hpl hd
    have hsum : ((hits' + misses') != (gh + gm + 1)) = false := by
      have : hits' + misses' = gh + gm + 1 := by omega
      rw [this]; simp
    have hge1 : decide (hits' < gh) = false := by simp; omega
    have hge2 : decide (misses' < gm) = false := by simp; omega
    have HH6 := Lib.hid h6
    have hb3 : 0 ≤ hits' ∧ hits' ≤ 1000001 ∧ 0 ≤ misses' ∧ misses' ≤ 1000001 ∧ 0 ≤ gh ∧ gh ≤ 1000001 ∧ 0 ≤ gm ∧ gm ≤ 1000001 ∧ hits' + misses' ≤ 1000001 ∧ gh + gm ≤ 1000001 := by omega
    obtain ⟨b1, b2, b3, b4, b5, b6, b7, b8, b9, b10⟩ := hb3
    clear hb0 hb1 hb2 hnow
    have htl : s.tl.length ≤ 1048576 := by omega
    clear hlen
    have c3 : w6.cell? ⟨I.x, 3, none⟩ = some (.int .i64 sz) := h6.blk.cell 3
    have HCASE := Lib.hid hcase; clear hcase
    clear h6
    have hplc := l_place (s := { s with D := s.D, now := now', hits := hits', misses := misses', l := l', T := T' }) HH6.out htl at_
    simp only at hplc
    generalize hpe : placeL s.tl at_ = p at *
    have HPE := Lib.hid hpe; clear hpe
    go_wp2_with fail
    refine hplc.mono ?_
    clear hplc
    rintro e w7 ⟨rfl, rfl⟩
    have hrd : s.rd = gh + gm := by rw [← HG.out.1, ← HG.out.2]; exact HK.out.rd
    have HRD := Lib.hid hrd; clear hrd
    rcases HCASE.out with ⟨hp, ha, hb⟩ | ⟨hp, hq, ha, hb⟩ | ⟨hp, hq, -⟩
    · have hpn : ¬ 0 ≤ p := by omega
      have hhe : (hits' != gh) = false := by rw [ha]; simp
      clear ha hb
      go_wp2_with fail
      refine (l_touch HH6.out htl at_).mono ?_
      rintro e w8 ⟨A8, c8, rfl, h8⟩
      have c5 : w8.cell? ⟨I.x, 5, none⟩ = some (.int .i64 s.rd) := h8.blk.cell 5
      have f5 := h8.blk.frozen 5
      have h9 := h8.self (A' := A8) (c' := c8) (tl' := s.tl.filter (fun y => !(y == at_)) ++ [at_]) (rd' := s.rd + 1) (Mod.cellAt w8 I.x 5 (.int .i64 (s.rd + 1))) (h8.blk.set_ 5 (.int .i64 (s.rd + 1))) (own_mod h8.row (Mod.cellAt _ _ _ _) (fun g hg e => h8.tx g (own_of hg) e)) (fun g hg => .inl hg)
      have HP : Hid (LStep w0 I sz s (.returned (.bool true)) (w8.setCell ⟨I.x, 5, none⟩ (.int .i64 (s.rd + 1)))) := Lib.hid ⟨_, rfl, h9, HCOH.out A8 c8, by show now' ≤ s.now + 1; rw [HN1.out]; exact Int.le_refl _, rfl⟩
      clear h8 h9
      have hrb : 0 ≤ s.rd ∧ s.rd ≤ 1000001 := by rw [HRD.out]; omega
      generalize s.rd = rd at *
      go_wp2
      go_ret
      exact HP.out
    · have hhe : (hits' == gh) = false := by rw [ha, beq_eq_false_iff_ne]; omega
      have hpn : ¬ p < 0 := by omega
      clear ha hb
      go_wp2_with fail
      refine (l_touch HH6.out htl at_).mono ?_
      rintro e w8 ⟨A8, c8, rfl, h8⟩
      have c5 : w8.cell? ⟨I.x, 5, none⟩ = some (.int .i64 s.rd) := h8.blk.cell 5
      have f5 := h8.blk.frozen 5
      have h9 := h8.self (A' := A8) (c' := c8) (tl' := s.tl.filter (fun y => !(y == at_)) ++ [at_]) (rd' := s.rd + 1) (Mod.cellAt w8 I.x 5 (.int .i64 (s.rd + 1))) (h8.blk.set_ 5 (.int .i64 (s.rd + 1))) (own_mod h8.row (Mod.cellAt _ _ _ _) (fun g hg e => h8.tx g (own_of hg) e)) (fun g hg => .inl hg)
      have HP : Hid (LStep w0 I sz s (.returned (.bool true)) (w8.setCell ⟨I.x, 5, none⟩ (.int .i64 (s.rd + 1)))) := Lib.hid ⟨_, rfl, h9, HCOH.out A8 c8, by show now' ≤ s.now + 1; rw [HN1.out]; exact Int.le_refl _, rfl⟩
      clear h8 h9
      have hrb : 0 ≤ s.rd ∧ s.rd ≤ 1000001 := by rw [HRD.out]; omega
      generalize s.rd = rd at *
      go_wp2
      go_ret
      exact HP.out
    · have hpn : ¬ p < 0 := by omega
      go_wp2_with fail
      refine (l_touch HH6.out htl at_).mono ?_
      rintro e w8 ⟨A8, c8, rfl, h8⟩
      have c5 : w8.cell? ⟨I.x, 5, none⟩ = some (.int .i64 s.rd) := h8.blk.cell 5
      have f5 := h8.blk.frozen 5
      have h9 := h8.self (A' := A8) (c' := c8) (tl' := s.tl.filter (fun y => !(y == at_)) ++ [at_]) (rd' := s.rd + 1) (Mod.cellAt w8 I.x 5 (.int .i64 (s.rd + 1))) (h8.blk.set_ 5 (.int .i64 (s.rd + 1))) (own_mod h8.row (Mod.cellAt _ _ _ _) (fun g hg e => h8.tx g (own_of hg) e)) (fun g hg => .inl hg)
      have HP : Hid (LStep w0 I sz s (.returned (.bool true)) (w8.setCell ⟨I.x, 5, none⟩ (.int .i64 (s.rd + 1)))) := Lib.hid ⟨_, rfl, h9, HCOH.out A8 c8, by show now' ≤ s.now + 1; rw [HN1.out]; exact Int.le_refl _, rfl⟩
      clear h8 h9
      have hrb : 0 ≤ s.rd ∧ s.rd ≤ 1000001 := by rw [HRD.out]; omega
      generalize s.rd = rd at *
      go_wp2
      go_ret
      exact HP.out
  · have hm' : (M != 0) = true := by rw [bne_iff_ne]; exact hm
    obtain ⟨e1, e2, e3, e4⟩ := HCNT.out.no (by rw [HM.out]; exact hm)
    have HP : Hid (LStep w0 I sz s (.returned (.bool true)) w6) := Lib.hid ⟨_, rfl, h6, Coh.of HC2.out rfl rfl rfl rfl HK.out.eq rfl rfl (by rw [e4]; exact HK.out.tl) (by
      show s.rd = hits' + misses'; rw [e2, e3, HK.out.rd]; rw [HG.out.1, HG.out.2]) (by show (s.tl.length : Int) ≤ now'; rw [e1]; exact HK.out.len), by show now' ≤ s.now + 1; omega, rfl⟩
    subst e2 e3
    clear h6 hm e1 e4
    go_wp2
    go_ret
    exact HP.out
end
end Go.Proofs.Ytgmkibckbbbhkaa
