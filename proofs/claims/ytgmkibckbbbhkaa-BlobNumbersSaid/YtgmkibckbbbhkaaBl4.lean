/- blob: Write, Read. -/
import Derived.Test.YtgmkibckbbbhkaaBl3
namespace Go.Proofs.Ytgmkibckbbbhkaa
open Go.RowKit

def rowsL (D : Dk) (at_ : Int) (k : Nat) : List Int := (List.range k).flatMap (fun i : Nat => D.latest (at_ + i))
theorem rowsL_succ (D : Dk) (at_ : Int) (k : Nat) : rowsL D at_ (k + 1) = rowsL D at_ k ++ D.latest (at_ + k) := by
  unfold rowsL; rw [List.range_succ, List.flatMap_append]; simp
theorem rowsL_len {D : Dk} (h : D.ok) (at_ : Int) : ∀ k, (rowsL D at_ k).length = 512 * k
  | 0 => rfl
  | k + 1 => by rw [rowsL_succ, List.length_append, rowsL_len h at_ k, h.latest_len]; omega
/-- what reading n sectors tells -/
def bread (D : Dk) (at_ n : Int) : Int × List Int :=
  if n < 0 ∨ 1024 < n then (2, []) else if bmay D at_ n ≠ 0 then (6, []) else if 0 < n ∧ D.down = true then (9, []) else (0, rowsL D at_ n.toNat)
theorem bread_len {D : Dk} (h : D.ok) (at_ n : Int) : (bread D at_ n).2.length ≤ 524288 := by
  unfold bread
  split
  · simp
  · split
    · simp
    · split
      · simp
      · show (rowsL D at_ n.toNat).length ≤ _
        rw [rowsL_len h]; omega
section
variable {w w' : World} {c b ms mo mk : Nat} {D : Dk} {most now hits misses : Int} {l : KL} {T : TL}
theorem bwrite_any (h : CAt w c b ms mo mk D most now hits misses l T) (at_ : Int) (ha : -9223372036854775808 ≤ at_ ∧ at_ ≤ 9223372036854775807) {A : Option Addr} {n cc : Nat} {bs : List Int} (hr : Rd w A n (bs.map (Value.int .u8))) (hcc : n ≤ cc) (hcm : cc ≤ 1152921504606846976)
    (hnow : now + ((n / 512 : Nat) : Int) ≤ 1152921504606846976) (hA : ∀ g, Of A g → ¬ InW c b ms mo mk g ∧ g < w.heap.size) :
    Calls Try.prog 62 #[.pointer (some ⟨c, 0, none⟩), .int .i64 at_, .slice A n cc] w (BWriteP w c b ms mo mk D most now hits misses l at_ bs) := by
  by_cases h1 : n % 512 = 0
  · by_cases h2 : bmay D at_ ((n / 512 : Nat) : Int) = 0
    · obtain ⟨m, rfl⟩ : ∃ m, n = 512 * m := ⟨n / 512, by omega⟩
      have hm : 512 * m / 512 = m := by omega
      rw [hm] at h2 hnow
      exact bwrite_ok h at_ hr h2 hcc hcm hnow hA
    · exact bwrite_bad h at_ ha hr (.inr h2) (by omega)
  · exact bwrite_bad h at_ ha hr (.inl h1) (by omega)

def BReadP (w : World) (c b ms mo mk : Nat) (D : Dk) (most now : Int) (l : KL) (at_ n : Int) (e : Ending) (w' : World) : Prop :=
  ∃ v now' hits' misses' l' T', e = .returned (.tuple #[v, .int .i64 (bread D at_ n).1]) ∧ CAt w' c b ms mo mk D most now' hits' misses' l' T' ∧ CTo w w' c b ms mo mk l l' ∧ now' ≤ now + 1024 ∧
    w'.ownsRow w.heap.size 5 1 v (bread D at_ n).2.length ((bread D at_ n).2.map (Value.int .u8)) ∧ (∀ g, v.ownBlock = some g → ¬ InA c b ms mo mk l' g)
theorem BReadP.none (h : CAt w c b ms mo mk D most now hits misses l T) {at_ n r : Int} (hb : bread D at_ n = (r, [])) {w' : World} (hm : Mod Nn w w') : BReadP w c b ms mo mk D most now l at_ n (.returned (.tuple #[.slice none 0 0, .int .i64 r])) w' :=
  ⟨_, now, hits, misses, l, T, by rw [hb], h.quiet hm, CTo.same hm.nn, by omega, by rw [hb]; exact World.ownsRow_nil _ _ _ _, (fun g hg => by cases hg)⟩
set_option maxRecDepth 100000 in
set_option maxHeartbeats 6400000 in
theorem bread_any (h : CAt w c b ms mo mk D most now hits misses l T) (at_ n : Int) (ha : -9223372036854775808 ≤ at_ ∧ at_ ≤ 9223372036854775807) (hnow : now ≤ 1000000000000) :
    Calls Try.prog 61 #[.pointer (some ⟨c, 0, none⟩), .int .i64 at_, .int .i64 n] w (BReadP w c b ms mo mk D most now l at_ n) := by
  have hN := h.d.ok.n1
  have hN0 : (D.n == 0) = false := by rw [beq_eq_false_iff_ne]; omega
  have hN2 := h.d.ok.n2
  have H := Lib.hid h
  generalize hDn : D.n = N at *
  have HN := Lib.hid hDn; clear hDn
  by_cases h1 : n < 0
  · have HP := Lib.hid (BReadP.none H.out (show bread D at_ n = (2, []) by unfold bread; rw [if_pos (.inl h1)]) (Mod.refl Nn w))
    go_enter Try.func61, Try.ntmps61
    go_wp2_with fail
    refine (csectors_any H.out).mono ?_
    rintro r w1 ⟨rfl, rfl⟩
    rw [HN.out]
    clear h
    go_wp2
    go_ret2
    exact HP.out
  by_cases h2 : 1024 < n
  · have HP := Lib.hid (BReadP.none H.out (show bread D at_ n = (2, []) by unfold bread; rw [if_pos (.inr h2)]) (Mod.refl Nn w))
    go_enter Try.func61, Try.ntmps61
    go_wp2_with fail
    refine (csectors_any H.out).mono ?_
    rintro r w1 ⟨rfl, rfl⟩
    rw [HN.out]
    clear h
    go_wp2
    go_ret2
    exact HP.out
  have hn0 : 0 ≤ n := by omega
  have hn1 : n ≤ 1024 := by omega
  rcases bmay_01 D at_ n with hb0 | hb6
  · have hat : 0 ≤ at_ ∧ at_ + n ≤ N := by
      unfold bmay at hb0
      split at hb0
      · cases hb0
      · rw [HN.out] at *; omega
    have hbr : bread D at_ n = if 0 < n ∧ D.down = true then (9, []) else (0, rowsL D at_ n.toNat) := by
      unfold bread
      rw [if_neg (by omega), if_neg (by simp [hb0])]
    have HB := Lib.hid (And.intro hb0 hbr); clear hb0 hbr
    clear h
    generalize hdn : D.down = dn at *
    have HDN := Lib.hid hdn; clear hdn
    obtain ⟨q, rfl⟩ : ∃ q : Nat, n = q := ⟨n.toNat, by omega⟩
    go_enter Try.func61, Try.ntmps61
    go_wp2_with fail
    refine (csectors_any H.out).mono ?_
    rintro r w1 ⟨rfl, rfl⟩
    rw [HN.out]
    go_wp2_with fail
    refine (bmay_any H.out at_ q ha).mono ?_
    rintro r w1 ⟨rfl, rfl⟩
    rw [HB.out.1]
    go_wp2
    go_loopw [9, 32] (fun vv i wr => ∃ (v : Value) (j : Nat) (now' hits' misses' : Int) (l' : KL) (T' : TL), v = vv ∧ j ≤ q ∧ i = .int .i64 j ∧ (0 < j → dn = false) ∧ CAt wr c b ms mo mk D most now' hits' misses' l' T' ∧ CTo w wr c b ms mo mk l l' ∧ now' ≤ now + j ∧
      wr.ownsRow w.heap.size 5 1 v (512 * j) ((rowsL D at_ j).map (Value.int .u8)) ∧ (∀ g, v.ownBlock = some g → ¬ InA c b ms mo mk l' g)) (fun _ i _ => q - (intOf i).toNat)
    case atStart => exact ⟨_, 0, now, hits, misses, l, T, rfl, Nat.zero_le _, rfl, (fun h => absurd h (by omega)), H.out, CTo.same (Mod.refl _ _), by omega, World.ownsRow_nil _ _ _ _, (fun g hg => by cases hg)⟩
    case round =>
      obtain ⟨v, j, now', hits', misses', l', T', rfl, hj, rfl, hup, hC, hT, hnw, hown, hnin⟩ := hrel
      obtain ⟨wo, rfl⟩ : ∃ wo : World, wo = wr := ⟨_, rfl⟩
      by_cases hlt : j < q
      · have hlt' : (j : Int) < q := by omega
        have hmay : D.may (at_ + j) = if dn = true then 9 else 0 := by
          unfold Dk.may
          rw [HDN.out]
          cases dn with
          | true => rfl
          | false => simp; rw [HN.out]; omega
        cases dn with
        | true =>
          have HM := Lib.hid (show D.may (at_ + j) = 9 from hmay); clear hmay
          have hj0 : j = 0 := Classical.byContradiction fun hc => by have := hup (by omega); cases this
          have HJ0 := Lib.hid hj0; clear hj0
          have HBR := Lib.hid (show bread D at_ q = (9, []) by rw [HB.out.2, if_pos ⟨by omega, rfl⟩])
          clear hup hnin hown
          go_wp2_with fail
          refine (cread_any hC _ (by omega)).mono ?_
          rintro r w2 ⟨v2, now2, hits2, misses2, l2, T2, rfl, hC2, hT2, o2, nin2, cnt2⟩
          have n2 := cnt2.le
          have hM9 := HM.out
          rw [hM9]
          have HP : Hid (BReadP w c b ms mo mk D most now l at_ q (.returned (.tuple #[.slice none 0 0, .int .i64 9])) w2) := Lib.hid
            ⟨_, now2, hits2, misses2, l2, T2, by rw [HBR.out], hC2, hT.trans hT2, by have := HJ0.out; omega, by rw [HBR.out]; exact World.ownsRow_nil _ _ _ _, (fun g hg => by cases hg)⟩
          clear hC2 hT2 o2 nin2 cnt2 n2 hC hT hnw hM9
          go_wp2
          go_ret2
          exact HP.out
        | false =>
          have HM := Lib.hid (show D.may (at_ + j) = 0 from hmay); clear hmay
          have hrd : D.read (at_ + j) = D.latest (at_ + j) := by unfold Dk.read; rw [if_pos HM.out]
          have hll := hC.d.ok.latest_len (at_ + j)
          have HR := Lib.hid (And.intro hrd hll); clear hrd hll
          have HRS := Lib.hid (rowsL_succ D at_ j)
          have hlW : ∀ k, InW c b ms mo mk k → k < w.heap.size := fun k hk => H.out.lt k (inA_of hk)
          have HLW := Lib.hid hlW; clear hlW
          go_wp2_with fail
          refine (cread_any hC (at_ + j) (by omega)).mono ?_
          rintro r w2 ⟨v2, now2, hits2, misses2, l2, T2, rfl, hC2, hT2, o2, nin2, cnt2⟩
          rw [HM.out]
          rw [HR.out.1, HR.out.2] at o2
          have n2 := cnt2.le
          have hown2 := own_mod hown hT2.md (fun g hg hin => by have := own_ge5 hown g hg; have := HLW.out g hin; omega)
          have hvA2 : ∀ g, v.ownBlock = some g → ¬ InA c b ms mo mk l2 g := fun g hg hin => by
            rcases hT2.A hin with h3 | h3
            · exact hnin g hg h3
            · obtain ⟨A0, c0, hv0, -, hA0⟩ := own_form hown
              rw [hv0] at hg
              have := (hA0 g (own_of hg)).2; omega
          obtain ⟨A2, cc2, rfl, hr2, -⟩ := own_rd o2
          have hs2 := hT2.md.size
          have hs0 := hT.md.size
          have HC2 := Lib.hid (And.intro hC2 (And.intro (hT.trans hT2) hvA2))
          clear hC hT hown hnin cnt2 nin2 o2 hC2 hT2 hvA2
          go_wp2_with (first
            | (with_reducible change wpList _ _ _ (⟨some 48, _, _, _, _, _⟩ :: _) _ _
               go_must (refine wpList_append_rd 35 _ _ rfl rfl w.heap.size 5 (.int .u8 0) 1 1 Try.underlying35 info_byteC rfl (by omega) v (512 * j) ((rowsL D at_ j).map (Value.int .u8)) rfl hown2 _ 512 _ ((D.latest (at_ + j)).map (Value.int .u8)) rfl hr2.toC (ints_oneCell _ _) (by omega) (by omega) (by omega) ?_)
               intro v3 w3 o3 g3 b3
               have M3 : Mod (fun g => v.ownBlock = some g) w2 w3 := (Mod.refl _ _).grown g3 (fun g hg => .inr hg)
               have hC3 := HC2.out.1.mod M3 (fun k hk hs => HC2.out.2.2 k hs hk)
               have hT3 : CTo w w3 c b ms mo mk l l2 := ⟨HC2.out.2.1.md.then_ M3 (fun k hk hs => by have := own_ge5 hown2 k hs; omega), HC2.out.2.1.G⟩
               have hv3 : ∀ g, v3.ownBlock = some g → ¬ InA c b ms mo mk l2 g := fun g hg hin => by
                 rcases b3 with h3 | h3
                 · exact HC2.out.2.2 g (h3.symm.trans hg) hin
                 · rw [h3] at hg; injection hg with hg; have := HC2.out.1.lt g hin; omega
               rw [← List.map_append, ← HRS.out] at o3
               have H3 := Lib.hid (And.intro hC3 (And.intro hT3 (And.intro o3 hv3)))
               clear g3 b3 M3 hC3 hT3 hv3 o3 hown2 hr2))
          exact ⟨⟨v3, j + 1, now2, hits2, misses2, l2, T2, rfl, by omega, by go_num, (by simp), H3.out.1, H3.out.2.1, by omega, H3.out.2.2.1, H3.out.2.2.2⟩, by simp [intOf]; omega⟩
      · have hjq : j = q := by omega
        subst hjq
        have HBR : Hid (bread D at_ j = (0, rowsL D at_ j)) := Lib.hid (by
          rw [HB.out.2]
          by_cases hj0 : 0 < j
          · rw [hup hj0, if_neg (by simp)]; simp
          · rw [if_neg (by omega)]; simp)
        have hlt' : ¬ (j : Int) < j := by omega
        have HP : Hid (BReadP w c b ms mo mk D most now l at_ j (.returned (.tuple #[v, .int .i64 0])) wo) := Lib.hid
          ⟨v, now', hits', misses', l', T', by rw [HBR.out], hC, hT, by omega, by rw [HBR.out, rowsL_len hC.d.ok]; exact hown, hnin⟩
        clear hC hT hown hnin hnw hup
        go_wp2
        go_ret2
        exact HP.out
  · have HP := Lib.hid (BReadP.none H.out (show bread D at_ n = (6, []) by unfold bread; rw [if_neg (by omega), if_pos (by rw [hb6]; omega)]) (Mod.refl Nn w))
    have HB := Lib.hid hb6; clear hb6
    go_enter Try.func61, Try.ntmps61
    go_wp2_with fail
    refine (csectors_any H.out).mono ?_
    rintro r w1 ⟨rfl, rfl⟩
    rw [HN.out]
    go_wp2_with fail
    refine (bmay_any H.out at_ n ha).mono ?_
    rintro r w1 ⟨rfl, rfl⟩
    rw [HB.out]
    clear h
    go_wp2
    go_ret2
    exact HP.out
end
end Go.Proofs.Ytgmkibckbbbhkaa
