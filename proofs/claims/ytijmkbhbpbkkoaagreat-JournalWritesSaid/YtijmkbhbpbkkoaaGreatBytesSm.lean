/- peatbankkit over bytes: SameBytes. -/
import Derived.Test.YtijmkbhbpbkkoaaGreatRows
import Derived.Test.YtijmkbhbpbkkoaaGreatKitA
import Derived.Deep.LoopGhost
namespace Go.Proofs.YtijmkbhbpbkkoaaGreat
open Go.RowKit

theorem eq_of_pre {xs ys : List Int} {n : Nat} (hx : xs.length = n) (hy : ys.length = n) (h : ∀ j : Nat, j < n → xs[j]? = ys[j]?) : xs = ys := by
  apply List.ext_getElem?
  intro j
  by_cases hj : j < n
  · exact h j hj
  · rw [List.getElem?_eq_none (by omega), List.getElem?_eq_none (by omega)]

set_option maxRecDepth 100000 in
set_option maxHeartbeats 1600000 in
theorem same_any {w : World} {A B : Option Addr} {n m ca cb : Nat} {xs ys : List Int} (ha : Rd w A n (xs.map (Value.int .u8))) (hb : Rd w B m (ys.map (Value.int .u8))) (hn : n ≤ 140737488355328) (hm : m ≤ 140737488355328) :
    Calls Tryz.prog 18 #[.slice A n ca, .slice B m cb] w fun e w' => e = .returned (.bool (decide (xs = ys))) ∧ Mod Nn w w' := by
  have hx : xs.length = n := by simpa using ha.1
  have hy : ys.length = m := by simpa using hb.1
  by_cases hnm : n = m
  · subst hnm
    have h0 : ((n : Int) != n) = false := by simp
    have HX := Lib.hid hx; have HY := Lib.hid hy; clear hx hy
    go_enter Tryz.func18, Tryz.ntmps18
    go_wp2
    go_loopw [5] (fun i wr => ∃ k : Nat, k ≤ n ∧ i = .int .i64 k ∧ Hid (∀ j : Nat, j < k → xs[j]? = ys[j]?) ∧ Mod Nn w wr) (fun i _ => n - (intOf i).toNat)
    case atStart => exact ⟨0, Nat.zero_le _, rfl, Lib.hid (fun j hj => absurd hj (by omega)), Mod.refl _ _⟩
    case round =>
      obtain ⟨k, hk, rfl, hpre, hmr⟩ := hrel
      by_cases hlt : k < n
      · obtain ⟨g, off, v, rfl, hv, hc⟩ := (ha.mod hmr (fun _ _ f => f)).at_ hlt
        obtain ⟨g', off', v', rfl, hv', hc'⟩ := (hb.mod hmr (fun _ _ f => f)).at_ hlt
        rw [List.getElem?_map] at hv hv'
        obtain ⟨x, hx, rfl⟩ := Option.map_eq_some_iff.1 hv
        obtain ⟨y, hy, rfl⟩ := Option.map_eq_some_iff.1 hv'
        have hlt' : (k : Int) < n := by omega
        have H1 := Lib.hid hx; have H2 := Lib.hid hy
        clear hv hv' ha hb hx hy
        go_wp2
        go_quiet (fail)
        by_cases hxy : x = y
        · have hb1 : (x != y) = false := by simp [hxy]
          have HB := Lib.hid hxy; clear hxy
          go_wp2
          go_roundw
          case rel =>
            refine ⟨k + 1, by omega, by go_num, Lib.hid (fun j hj => ?_), hmr.drewN nq⟩
            by_cases hjk : j = k
            · subst hjk; rw [H1.out, H2.out, HB.out]
            · exact hpre.out j (by omega)
          case measure => simp [intOf]; omega
        · have hb1 : (x != y) = true := by simp [hxy]
          have HF := Lib.hid (show decide (xs = ys) = false by
            rw [decide_eq_false_iff_not]; intro e; subst e
            rw [H1.out] at H2; have := H2.out; injection this with this; exact hxy this)
          clear hxy
          go_wp2
          go_ret
          exact ⟨by rw [HF.out]; rfl, hmr.drewN nq⟩
      · have hkn : k = n := by omega
        have HF := Lib.hid (show decide (xs = ys) = true by
          rw [decide_eq_true_iff]; exact eq_of_pre HX.out HY.out (fun j hj => hpre.out j (by omega)))
        clear hkn
        go_wp2
        go_ret
        exact ⟨by rw [HF.out]; rfl, hmr⟩
  · have h0 : ((n : Int) != m) = true := by rw [bne_iff_ne]; omega
    have HF := Lib.hid (show decide (xs = ys) = false by
      rw [decide_eq_false_iff_not]; intro e; subst e; omega)
    clear hnm hx hy ha hb
    go_enter Tryz.func18, Tryz.ntmps18
    go_wp2
    go_ret
    exact ⟨by rw [HF.out]; rfl, Mod.refl _ _⟩
end Go.Proofs.YtijmkbhbpbkkoaaGreat
