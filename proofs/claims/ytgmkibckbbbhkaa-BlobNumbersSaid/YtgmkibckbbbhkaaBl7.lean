/- peatbanklaw20: write, read: the document's device, sector by sector. -/
import Derived.Test.YtgmkibckbbbhkaaBl4
import Derived.Test.YtgmkibckbbbhkaaRef88
namespace Go.Proofs.Ytgmkibckbbbhkaa
open Go.RowKit

section
variable {w w' : World} {b : Nat} {lv : Value} {F : Nat → Prop} {D : Dk} {L : List Sec}
theorem RefTo.trans {w1 w2 w3 : World} {lv1 lv2 lv3 : Value} {F1 F2 F3 : Nat → Prop} (h : RefTo w1 w2 b lv1 F1 lv2 F2) (k : RefTo w2 w3 b lv2 F2 lv3 F3) : RefTo w1 w3 b lv1 F1 lv3 F3 :=
  ⟨h.md.then_ k.md (fun g hg hin => by
    rcases hin with hin | hin
    · exact .inl hin
    · rcases h.lv g hin with h1 | h1
      · exact .inr h1
      · omega), fun g hg => by
    rcases k.lv g hg with h1 | h1
    · exact h.lv g h1
    · have := h.md.size; exact .inr (by omega), fun g hg => by
    rcases k.F g hg with h1 | h1
    · exact h.F g h1
    · have := h.md.size; exact .inr (by omega)⟩
theorem RefPost.same (h : RefAt w b lv F D L) {r : Int} {D' : Dk} {at_ : Int} {bs : List Int} (hw : bwrite D at_ bs = (r, D)) : RefPost w b lv F (.int .i64 (bwrite D at_ bs).1) (bwrite D at_ bs).2 (.returned (.int .i64 r)) w :=
  ⟨lv, F, L, by rw [hw], by rw [hw]; exact h, RefTo.refl _ _ _ _⟩
set_option maxRecDepth 100000 in
set_option maxHeartbeats 3200000 in
theorem rbwrite_any (h : RefAt w b lv F D L) (at_ : Int) (ha : -9223372036854775808 ≤ at_ ∧ at_ ≤ 9223372036854775807) {A : Option Addr} {n cc : Nat} {bs : List Int} (hr : Rd w A n (bs.map (Value.int .u8))) (hcc : n ≤ cc) (hcm : cc ≤ 1152921504606846976)
    (hA : ∀ g, Of A g → ¬ InR b lv g ∧ g < w.heap.size) :
    Calls Try.prog 90 #[.pointer (some ⟨b, 0, none⟩), .int .i64 at_, .slice A n cc] w (RefPost w b lv F (.int .i64 (bwrite D at_ bs).1) (bwrite D at_ bs).2) := by
  have hL : bs.length = n := by simpa using hr.1
  have hN := h.ok.n1
  have hN2 := h.ok.n2
  have H := Lib.hid h
  by_cases h512 : n % 512 = 0
  · obtain ⟨m, rfl⟩ : ∃ m, n = 512 * m := ⟨n / 512, by omega⟩
    have hm2 : (512 * (m : Int)) % 512 = 0 := by omega
    have hq2 : (512 * (m : Int)) / 512 = m := by omega
    have hWq : bwrite D at_ bs = if bmay D at_ (m : Int) ≠ 0 then (6, D) else bw D at_ bs m := by
      unfold bwrite
      rw [hL, if_neg (by omega), show 512 * m / 512 = m from by omega]
    clear hL h512
    generalize hDn : D.n = N at *
    have HN := Lib.hid hDn; clear hDn
    have hrs := rsectors_any h
    rw [HN.out] at hrs
    have HRS := Lib.hid hrs; clear hrs h
    by_cases h1 : at_ < 0
    · have hb : bmay D at_ (m : Int) = 6 := by unfold bmay; rw [if_pos (.inl h1)]
      have HP := Lib.hid (RefPost.same (D' := D) H.out (show bwrite D at_ bs = (6, D) by rw [hWq, if_pos (by rw [hb]; decide)]))
      clear hWq hb hr
      go_enter Try.func90, Try.ntmps90
      go_wp2
      go_ret
      exact HP.out
    by_cases h2 : N < at_
    · have hb : bmay D at_ (m : Int) = 6 := by unfold bmay; rw [if_pos (.inr (.inl (by rw [HN.out]; exact h2)))]
      have HP := Lib.hid (RefPost.same (D' := D) H.out (show bwrite D at_ bs = (6, D) by rw [hWq, if_pos (by rw [hb]; decide)]))
      clear hWq hb hr
      go_enter Try.func90, Try.ntmps90
      go_wp2_with fail
      refine HRS.out.mono ?_
      rintro r w1 ⟨rfl, rfl⟩
      go_wp2
      go_ret
      exact HP.out
    by_cases h3 : N - at_ < m
    · have hb : bmay D at_ (m : Int) = 6 := by unfold bmay; rw [if_pos (.inr (.inr (by rw [HN.out]; exact h3)))]
      have HP := Lib.hid (RefPost.same (D' := D) H.out (show bwrite D at_ bs = (6, D) by rw [hWq, if_pos (by rw [hb]; decide)]))
      clear hWq hb hr
      go_enter Try.func90, Try.ntmps90
      go_wp2_with fail
      refine HRS.out.mono ?_
      rintro r w1 ⟨rfl, rfl⟩
      go_wp2_with fail
      refine HRS.out.mono ?_
      rintro r w1 ⟨rfl, rfl⟩
      go_wp2
      go_ret
      exact HP.out
    have hb : bmay D at_ (m : Int) = 0 := by unfold bmay; rw [if_neg (by rw [HN.out]; omega)]
    have HW := Lib.hid (show bwrite D at_ bs = bw D at_ bs m by rw [hWq, if_neg (by simp [hb])])
    have HR := Lib.hid hr; have HA := Lib.hid hA
    clear hWq hb hr hA
    go_enter Try.func90, Try.ntmps90
    go_wp2_with fail
    refine HRS.out.mono ?_
    rintro r w1 ⟨rfl, rfl⟩
    go_wp2_with fail
    refine HRS.out.mono ?_
    rintro r w1 ⟨rfl, rfl⟩
    clear HRS
    go_wp2
    go_loopw [8] (fun i wr => ∃ (j : Nat) (lv' : Value) (F' : Nat → Prop) (Dj : Dk) (L' : List Sec), j ≤ m ∧ i = .int .i64 j ∧ RefAt wr b lv' F' Dj L' ∧ RefTo w wr b lv F lv' F' ∧ bw D at_ bs m = bw Dj (at_ + j) (bs.drop (512 * j)) (m - j)) (fun i _ => m - (intOf i).toNat)
    case atStart => exact ⟨0, lv, F, D, L, Nat.zero_le _, rfl, H.out, RefTo.refl _ _ _ _, by simp⟩
    case round =>
      obtain ⟨j, lv', F', Dj, L', hj, rfl, hRj, hTj, hbw⟩ := hrel
      obtain ⟨wo, rfl⟩ : ∃ wo : World, wo = wr := ⟨_, rfl⟩
      by_cases hlt : j < m
      · have hlt' : (j : Int) < m := by omega
        have hAj : ∀ g, Of A g → ¬ InR b lv' g := fun g hg hin => by
          have h4 := HA.out g hg
          rcases hin with hin | hin
          · exact h4.1 (.inl hin)
          · rcases hTj.lv g hin with h5 | h5
            · exact h4.1 (.inr h5)
            · omega
        have hrj := HR.out.mod hTj.md (fun g hg => (HA.out g hg).1)
        have hsec := hrj.sub (c := cc) (512 * j) 512 (by omega) hcc
        rw [← List.map_drop, ← List.map_take] at hsec
        have hcall := rwrite_any (c := cc - 512 * j) hRj (at_ + j) hsec (fun g hg => hAj g (of_sub hg))
        have hbs := bw_succ Dj (at_ + j) (bs.drop (512 * j)) (show 0 < m - j by omega)
        have HB := Lib.hid (And.intro hbw (And.intro hTj hbs))
        clear hbw hTj hbs hrj hsec hAj hRj
        generalize hrr : (Dj.write (at_ + j) ((bs.drop (512 * j)).take 512)).1 = r at *
        have HRR := Lib.hid hrr; clear hrr
        have e512 : 512 * (j + 1) - 512 * j = 512 := by omega
        by_cases hr0 : r = 0
        · have hr0' : (r != 0) = false := by rw [hr0]; rfl
          have HR0 := Lib.hid hr0; clear hr0
          go_wp2_with (first
            | (with_reducible change wpList _ _ _ (⟨_, Op.slice _ _ _ _ _, _, _, _, _⟩ :: _) _ _
               go_must (refine wpList_sub_lh 35 _ _ _ rfl rfl 5 1 Try.underlying35 (by kernel_rfl) (512 * j) (512 * (j + 1)) rfl (by show Value.int .i64 (512 * (j : Int)) = _; congr 1) (by show Value.int .i64 (512 * ((j : Int) + 1)) = _; congr 1) (by omega) (by omega) ?_)
               rw [e512]))
          refine hcall.mono ?_
          clear hcall e512
          rintro q w2 ⟨lv2, F2, L2, rfl, hR2, hT2⟩
          have h1 := HB.out.1
          rw [HB.out.2.2, if_pos HR0.out] at h1
          have HH : Hid (bw D at_ bs m = bw (Dj.write (at_ + j) ((bs.drop (512 * j)).take 512)).2 (at_ + ((j + 1 : Nat) : Int)) (bs.drop (512 * (j + 1))) (m - (j + 1))) := Lib.hid (by
            rw [h1]
            congr 1
            · omega
            · rw [List.drop_drop]; rfl)
          clear h1
          have HT := Lib.hid (And.intro hR2 (HB.out.2.1.trans hT2)); clear hR2 hT2
          go_wp2
          exact ⟨⟨j + 1, lv2, F2, _, L2, by omega, by go_num, HT.out.1, HT.out.2, HH.out⟩, by simp [intOf]; omega⟩
        · have hr0' : (r != 0) = true := by rw [bne_iff_ne]; exact hr0
          have HR0 := Lib.hid hr0; clear hr0
          go_wp2_with (first
            | (with_reducible change wpList _ _ _ (⟨_, Op.slice _ _ _ _ _, _, _, _, _⟩ :: _) _ _
               go_must (refine wpList_sub_lh 35 _ _ _ rfl rfl 5 1 Try.underlying35 (by kernel_rfl) (512 * j) (512 * (j + 1)) rfl (by show Value.int .i64 (512 * (j : Int)) = _; congr 1) (by show Value.int .i64 (512 * ((j : Int) + 1)) = _; congr 1) (by omega) (by omega) ?_)
               rw [e512]))
          refine hcall.mono ?_
          clear hcall e512
          rintro q w2 ⟨lv2, F2, L2, rfl, hR2, hT2⟩
          have h1 := HB.out.1
          rw [HB.out.2.2, if_neg HR0.out] at h1
          have HP : Hid (RefPost w b lv F (.int .i64 (bwrite D at_ bs).1) (bwrite D at_ bs).2 (.returned (.int .i64 r)) w2) := Lib.hid ⟨lv2, F2, L2, by rw [HW.out, h1, HRR.out], by rw [HW.out, h1]; exact hR2, HB.out.2.1.trans hT2⟩
          clear h1 hR2 hT2
          go_wp2
          go_ret
          exact HP.out
      · have hjm : j = m := by omega
        subst hjm
        have hlt' : ¬ (j : Int) < j := by omega
        have HP : Hid (RefPost w b lv F (.int .i64 (bwrite D at_ bs).1) (bwrite D at_ bs).2 (.returned (.int .i64 0)) wo) := Lib.hid ⟨lv', F', L', by rw [HW.out, hbw, Nat.sub_self]; rfl, by rw [HW.out, hbw, Nat.sub_self]; exact hRj, hTj⟩
        clear hbw hRj hTj
        go_wp2
        go_ret
        exact HP.out
  · have HP := Lib.hid (RefPost.same (D' := D) H.out (show bwrite D at_ bs = (2, D) by unfold bwrite; rw [hL, if_pos (by omega)]))
    have hmod2 : ((n : Int) % 512 == 0) = false := by rw [beq_eq_false_iff_ne]; omega
    have hmod3 : ((n : Int) % 512 != 0) = true := by rw [bne_iff_ne]; omega
    clear h hr hL h512
    go_enter Try.func90, Try.ntmps90
    go_wp2
    go_ret
    exact HP.out

def RBR (w : World) (D : Dk) (at_ n : Int) (e : Ending) (w' : World) : Prop :=
  ∃ v, e = .returned (.tuple #[v, .int .i64 (bread D at_ n).1]) ∧ w'.ownsRow w.heap.size 5 1 v (bread D at_ n).2.length ((bread D at_ n).2.map (Value.int .u8)) ∧ Mod Nn w w'
theorem RBR.none {at_ n r : Int} (hb : bread D at_ n = (r, [])) {w' : World} (hm : Mod Nn w w') : RBR w D at_ n (.returned (.tuple #[.slice none 0 0, .int .i64 r])) w' :=
  ⟨_, by rw [hb], by rw [hb]; exact World.ownsRow_nil _ _ _ _, hm⟩
set_option maxRecDepth 100000 in
set_option maxHeartbeats 3200000 in
theorem rbread_any (h : RefAt w b lv F D L) (at_ n : Int) (ha : -9223372036854775808 ≤ at_ ∧ at_ ≤ 9223372036854775807) :
    Calls Try.prog 91 #[.pointer (some ⟨b, 0, none⟩), .int .i64 at_, .int .i64 n] w (RBR w D at_ n) := by
  have hN := h.ok.n1
  have hN2 := h.ok.n2
  have H := Lib.hid h
  by_cases h0 : n < 0
  · have HP := Lib.hid (RBR.none (show bread D at_ n = (2, []) by unfold bread; rw [if_pos (.inl h0)]) (Mod.refl Nn w))
    clear h
    go_enter Try.func91, Try.ntmps91
    go_wp2
    go_ret2
    exact HP.out
  by_cases h00 : 1024 < n
  · have HP := Lib.hid (RBR.none (show bread D at_ n = (2, []) by unfold bread; rw [if_pos (.inr h00)]) (Mod.refl Nn w))
    clear h
    go_enter Try.func91, Try.ntmps91
    go_wp2
    go_ret2
    exact HP.out
  generalize hDn : D.n = N at *
  have HN := Lib.hid hDn; clear hDn
  have hrs := rsectors_any h
  rw [HN.out] at hrs
  have HRS := Lib.hid hrs; clear hrs h
  by_cases h1 : at_ < 0
  · have hb : bmay D at_ n = 6 := by unfold bmay; rw [if_pos (.inl h1)]
    have HP := Lib.hid (RBR.none (show bread D at_ n = (6, []) by unfold bread; rw [if_neg (by omega), if_pos (by rw [hb]; decide)]) (Mod.refl Nn w))
    clear hb
    go_enter Try.func91, Try.ntmps91
    go_wp2
    go_ret2
    exact HP.out
  by_cases h2 : N < at_
  · have hb : bmay D at_ n = 6 := by unfold bmay; rw [if_pos (.inr (.inl (by rw [HN.out]; exact h2)))]
    have HP := Lib.hid (RBR.none (show bread D at_ n = (6, []) by unfold bread; rw [if_neg (by omega), if_pos (by rw [hb]; decide)]) (Mod.refl Nn w))
    clear hb
    go_enter Try.func91, Try.ntmps91
    go_wp2_with fail
    refine HRS.out.mono ?_
    rintro r w1 ⟨rfl, rfl⟩
    go_wp2
    go_ret2
    exact HP.out
  by_cases h3 : N - at_ < n
  · have hb : bmay D at_ n = 6 := by unfold bmay; rw [if_pos (.inr (.inr (by rw [HN.out]; exact h3)))]
    have HP := Lib.hid (RBR.none (show bread D at_ n = (6, []) by unfold bread; rw [if_neg (by omega), if_pos (by rw [hb]; decide)]) (Mod.refl Nn w))
    clear hb
    go_enter Try.func91, Try.ntmps91
    go_wp2_with fail
    refine HRS.out.mono ?_
    rintro r w1 ⟨rfl, rfl⟩
    go_wp2_with fail
    refine HRS.out.mono ?_
    rintro r w1 ⟨rfl, rfl⟩
    go_wp2
    go_ret2
    exact HP.out
  have hb : bmay D at_ n = 0 := by unfold bmay; rw [if_neg (by rw [HN.out]; omega)]
  have hbr : bread D at_ n = if 0 < n ∧ D.down = true then (9, []) else (0, rowsL D at_ n.toNat) := by
    unfold bread
    rw [if_neg (by omega), if_neg (by simp [hb])]
  have HB := Lib.hid hbr; clear hb hbr
  generalize hdn : D.down = dn at *
  have HDN := Lib.hid hdn; clear hdn
  obtain ⟨q, rfl⟩ : ∃ q : Nat, n = q := ⟨n.toNat, by omega⟩
  go_enter Try.func91, Try.ntmps91
  go_wp2_with fail
  refine HRS.out.mono ?_
  rintro r w1 ⟨rfl, rfl⟩
  go_wp2_with fail
  refine HRS.out.mono ?_
  rintro r w1 ⟨rfl, rfl⟩
  clear HRS
  go_wp2
  go_loopw [8, 9] (fun vv i wr => ∃ (v : Value) (j : Nat), v = vv ∧ j ≤ q ∧ i = .int .i64 j ∧ (0 < j → dn = false) ∧ Mod Nn w wr ∧ wr.ownsRow w.heap.size 5 1 v (512 * j) ((rowsL D at_ j).map (Value.int .u8))) (fun _ i _ => q - (intOf i).toNat)
  case atStart => exact ⟨_, 0, rfl, Nat.zero_le _, rfl, (fun h => absurd h (by omega)), Mod.refl _ _, World.ownsRow_nil _ _ _ _⟩
  case round =>
    obtain ⟨v, j, rfl, hj, rfl, hup, hm, hown⟩ := hrel
    obtain ⟨wo, rfl⟩ : ∃ wo : World, wo = wr := ⟨_, rfl⟩
    by_cases hlt : j < q
    · have hlt' : (j : Int) < q := by omega
      have hmay : D.may (at_ + j) = if dn = true then 9 else 0 := by
        unfold Dk.may
        rw [HDN.out]
        cases dn with
        | true => rfl
        | false => simp; rw [HN.out]; omega
      have hRo := H.out.nn hm
      cases dn with
      | true =>
        have HM := Lib.hid (show D.may (at_ + j) = 9 from hmay); clear hmay
        have HBR := Lib.hid (show bread D at_ q = (9, []) by rw [HB.out, if_pos ⟨by omega, rfl⟩])
        clear hup hown
        go_wp2_with fail
        refine (rread_any hRo (at_ + j)).mono ?_
        rintro r w2 ⟨v2, rfl, o2, m2⟩
        rw [HM.out]
        have HP := Lib.hid (RBR.none HBR.out (hm.nn_ m2))
        clear o2 m2 hm hRo
        go_wp2
        go_ret2
        exact HP.out
      | false =>
        have HM := Lib.hid (show D.may (at_ + j) = 0 from hmay); clear hmay
        have hrd : D.read (at_ + j) = D.latest (at_ + j) := by unfold Dk.read; rw [if_pos HM.out]
        have hll := hRo.ok.latest_len (at_ + j)
        have HR := Lib.hid (And.intro hrd hll); clear hrd hll
        have HRS := Lib.hid (rowsL_succ D at_ j)
        go_wp2_with fail
        refine (rread_any hRo (at_ + j)).mono ?_
        rintro r w2 ⟨v2, rfl, o2, m2⟩
        rw [HM.out]
        rw [HR.out.1, HR.out.2] at o2
        have hown2 := own_mod hown m2 (fun _ _ f => f)
        obtain ⟨A2, cc2, rfl, hr2, -⟩ := own_rd o2
        have M2 := hm.nn_ m2
        have hs2 := M2.size
        clear hown o2 m2 hm hRo
        go_wp2_with (first
          | (with_reducible change wpList _ _ _ (⟨some 52, _, _, _, _, _⟩ :: _) _ _
             go_must (refine wpList_append_rd 35 _ _ rfl rfl w.heap.size 5 (.int .u8 0) 1 1 Try.underlying35 info_byteC rfl (by omega) v (512 * j) ((rowsL D at_ j).map (Value.int .u8)) rfl hown2 _ 512 _ ((D.latest (at_ + j)).map (Value.int .u8)) rfl hr2.toC (ints_oneCell _ _) (by omega) (by omega) (by omega) ?_)
             intro v3 w3 o3 g3 b3
             have M3 : Mod Nn w w3 := M2.grown g3 (fun g hg => .inl (own_ge5 hown2 g hg))
             rw [← List.map_append, ← HRS.out] at o3
             have H3 := Lib.hid (And.intro M3 o3)
             clear g3 b3 M3 o3 hown2 hr2 M2))
        exact ⟨⟨v3, j + 1, rfl, by omega, by go_num, (by simp), H3.out.1, H3.out.2⟩, by simp [intOf]; omega⟩
    · have hjq : j = q := by omega
      subst hjq
      have HBR : Hid (bread D at_ j = (0, rowsL D at_ j)) := Lib.hid (by
        rw [HB.out]
        by_cases hj0 : 0 < j
        · rw [hup hj0, if_neg (by simp)]; simp
        · rw [if_neg (by omega)]; simp)
      have hlt' : ¬ (j : Int) < j := by omega
      have HP : Hid (RBR w D at_ j (.returned (.tuple #[v, .int .i64 0])) wo) := Lib.hid ⟨v, by rw [HBR.out], by rw [HBR.out, rowsL_len H.out.ok]; exact hown, hm⟩
      clear hown hm hup
      go_wp2
      go_ret2
      exact HP.out
end
end Go.Proofs.Ytgmkibckbbbhkaa
