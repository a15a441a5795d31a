/- The program's blocks, key. -/
import Derived.Test.YtbocdgmkiajihaaDoorSha3
namespace Go.Proofs.YtbocdgmkiajihaaDoor
open Go.RowKit

/-- bytes as values -/
def u8s (l : List Nat) : List Value := l.map (fun c : Nat => Value.int .u8 (c : Int))
theorem u8s_len (l : List Nat) : (u8s l).length = l.length := by simp [u8s]
theorem wsch_succ (m : List Nat) (k : Nat) : wsch m (k + 1) = wsch m k ++ [if k < 16 then word m k else wnext (wsch m k) k] := rfl
theorem word_take (m : List Nat) (k : Nat) (h : k < 16) : word m k = word (m.take 64) k := by
  have hg : ∀ j, j < 64 → m.getD j 0 = (m.take 64).getD j 0 := fun j hj => by
    rw [List.getD_eq_getElem?_getD, List.getD_eq_getElem?_getD, List.getElem?_take, if_pos hj]
  unfold word
  rw [hg _ (by omega), hg _ (by omega), hg _ (by omega), hg _ (by omega)]
theorem wsch_take (m : List Nat) (k : Nat) : wsch m k = wsch (m.take 64) k := by
  induction k with
  | zero => rfl
  | succ k ih =>
    rw [wsch_succ, wsch_succ, ← ih]
    by_cases h16 : k < 16
    · rw [if_pos h16, if_pos h16, word_take m k h16]
    · rw [if_neg h16, if_neg h16]
theorem cmpr_take (v : S8) (m : List Nat) : cmpr v m = cmpr v (m.take 64) := by unfold cmpr; rw [wsch_take m 64]
def BlP (w : World) (sb : Nat) (v : S8) (A : Option Addr) (n : Nat) (l : List Nat) (e : Ending) (w' : World) : Prop :=
  ∃ A' c', e = .returned (.slice A' (n % 64) c') ∧ Rd w' A' (n % 64) (u8s (l.drop (64 * (n / 64)))) ∧ (∀ g, Of A' g → Of A g) ∧ Blk w' sb 63 (wvs (blks v l (n / 64)).l) ∧ Mod (At sb) w w'

set_option maxRecDepth 100000 in
set_option maxHeartbeats 1600000 in
theorem blocks_any {w : World} (hg : Gl w) {sb : Nat} (v : S8) (hs : Blk w sb 63 (wvs v.l)) (hs1 : 1 < sb) {A : Option Addr} {c n : Nat} {l : List Nat} (hr : Rd w A n (u8s l)) (hl : ∀ z ∈ l, z < 256) (hc : n ≤ c) (hcm : c ≤ maxLen)
    (hA : ∀ g, Of A g → g ≠ sb) :
    Calls Tryd.prog 22 #[.pointer (some ⟨sb, 0, none⟩), .slice A n c] w (BlP w sb v A n l) := by
  have hll : l.length = n := by have := hr.1; rwa [u8s_len] at this
  have hcm' : c ≤ 9223372036854775807 := by unfold maxLen at hcm; omega
  clear hcm
  have HL := Lib.hid (And.intro hll hl)
  have H0 := Lib.hid (And.intro hg (And.intro hs (And.intro hs1 (And.intro hr hA))))
  clear hll hl hg hs hs1 hr hA
  go_enter Tryd.func22, Tryd.ntmps22
  go_wp2
  go_loopw [1] (fun x wr => ∃ (q r : Nat) (A' : Option Addr) (c' : Nat), 64 * q + r = n ∧ x = .slice A' r c' ∧ r ≤ c' ∧ c' ≤ c ∧ Rd wr A' r (u8s (l.drop (64 * q))) ∧ (∀ g, Of A' g → Of A g) ∧ Blk wr sb 63 (wvs (blks v l q).l) ∧ Mod (At sb) w wr) (fun x _ => match x with | .slice _ m _ => m | _ => 0)
  case atStart => exact ⟨0, n, A, c, by omega, rfl, hc, Nat.le_refl _, by simpa using H0.out.2.2.2.1, fun g h => h, H0.out.2.1, Mod.refl _ _⟩
  case round =>
    obtain ⟨q, r, A', c', hqr, rfl, hrc, hcc, hrd, hAA, hb, hm⟩ := hrel
    obtain ⟨wo, rfl⟩ : ∃ wo : World, wo = wr := ⟨_, rfl⟩
    by_cases hlt : 64 ≤ r
    · have hlt' : (64 : Int) ≤ r := by omega
      have hgo := H0.out.1.mod hm (fun e => by have e : 0 = sb := e; have := H0.out.2.2.1; omega) (fun e => by have e : 1 = sb := e; have := H0.out.2.2.1; omega)
      have hcall := pblock_any hgo (blks v l q) hb H0.out.2.2.1 (c := c') hlt hrd (fun z hz => HL.out.2 z (List.mem_of_mem_drop hz))
      have hnx : blks v l (q + 1) = cmpr (blks v l q) (l.drop (64 * q)) := by rw [blks_succ, ← cmpr_take]
      have hsub := hrd.post (c := c') 64 hlt hrc
      have HX := Lib.hid (And.intro hnx (And.intro hsub (And.intro hm (And.intro hAA hqr))))
      clear hnx hsub hm hAA hrd hb hgo hqr
      have hc64 : 64 ≤ c' := by omega
      go_wp2_with fail
      refine hcall.mono ?_
      rintro e w2 ⟨rfl, hb2, m2⟩
      clear hcall
      have hrd2 : Rd w2 (subA A' c' 64 1) (r - 64) (u8s (l.drop (64 * (q + 1)))) := by
        have h := HX.out.2.1.mod m2 (fun g hg e => H0.out.2.2.2.2 g (HX.out.2.2.2.1 g (of_sub hg)) e)
        have he : (u8s (l.drop (64 * q))).drop 64 = u8s (l.drop (64 * (q + 1))) := by unfold u8s; rw [← List.map_drop, List.drop_drop]; congr 2
        rwa [he] at h
      rw [← HX.out.1] at hb2
      have HE := Lib.hid (And.intro hrd2 (And.intro hb2 (HX.out.2.2.1.trans m2)))
      clear hrd2 hb2 m2
      go_wp2_with (first
        | (with_reducible change wpList _ _ _ (⟨some 9, _, _, _, _, _⟩ :: _) _ _
           go_must (refine wpList_sub_l (P := Tryd.prog) 22 _ _ rfl rfl 5 1 Tryd.underlying22 (by kernel_rfl) (A := A') (n := r) (c := c') 64 rfl rfl hlt ?_)))
      refine ⟨⟨q + 1, r - 64, subA A' c' 64 1, c' - 64, by have := HX.out.2.2.2.2; omega, rfl, by omega, by omega, HE.out.1, fun g hg => HX.out.2.2.2.1 g (of_sub hg), HE.out.2.1, HE.out.2.2⟩, ?_⟩
      show r - 64 < r
      omega
    · have hlt' : ¬ (64 : Int) ≤ r := by omega
      have hq : n / 64 = q := by omega
      have hr : n % 64 = r := by omega
      have HE := Lib.hid (show BlP w sb v A n l (.returned (.slice A' r c')) wo from ⟨A', c', by rw [hr], by rw [hr, hq]; exact hrd, hAA, by rw [hq]; exact hb, hm⟩)
      clear hrd hAA hb hm hq hr hqr
      go_wp2
      go_ret
      exact HE.out
end Go.Proofs.YtbocdgmkiajihaaDoor
