/- node.Right of an inner node. -/
import Derived.Test.YtfoldjnmknaklaaGreatNdA
namespace Go.Proofs.YtfoldjnmknaklaaGreat
open Go.RowKit

/-- may it be a kid? -/
def kidOk (k : Int) : Bool := decide (0 ≤ k ∧ k ≤ 1048576)
theorem kids_bad {l : List Int} {i : Nat} {k : Int} (h : l[i]? = some k) (hb : kidOk k = false) : l.all kidOk = false := by
  rw [List.all_eq_false]
  exact ⟨k, List.mem_of_getElem? h, by rw [hb]; exact Bool.false_ne_true⟩
theorem kids_all {l : List Int} (h : ∀ (i : Nat) (k : Int), l[i]? = some k → kidOk k = true) : l.all kidOk = true := by
  rw [List.all_eq_true]
  intro k hk
  obtain ⟨i, hi⟩ := List.getElem?_of_mem hk
  exact h i k hi
section
variable {w w' : World} {N : Nd} {EA KA CA : Option Addr} {en ec kn kc cn cc : Nat} {S : Nat → Prop}
theorem right_inner (h : NdR w N EA en KA kn CA cn) (hl : N.leaf = false) : N.right = (N.kids.all kidOk && (en == 0) && decide (2 ≤ cn) && decide (cn ≤ 20) && (kn + 1 == cn) && riseB N.keys) := by
  unfold Nd.right
  rw [if_neg (by rw [hl]; exact Bool.false_ne_true), h.kl, h.cl, h.el]
  rfl
set_option maxRecDepth 100000 in
set_option maxHeartbeats 3200000 in
theorem nright_inner (h : NdR w N EA en KA kn CA cn) (hl : N.leaf = false) :
    Calls Tryz.prog 6 #[ndV false EA en ec KA kn kc CA cn cc] w fun e w' => e = .returned (.bool N.right) ∧ Mod Nn w w' := by
  have M : Mod Nn w (w.alloc (.cells #[.bool false, .slice EA en ec, .slice KA kn kc, .slice CA cn cc] 32)) := (Mod.refl Nn w).alloc _
  have B : Blk (w.alloc (.cells #[.bool false, .slice EA en ec, .slice KA kn kc, .slice CA cn cc] 32)) w.heap.size 32 #[.bool false, .slice EA en ec, .slice KA kn kc, .slice CA cn cc] := Blk.new w _ _
  have HM := Lib.hid M
  have HB := Lib.hid B
  have hr := Lib.hid (right_inner h hl)
  have HR := Lib.hid (And.intro (h.nn M) h.ok)
  have hbc := h.bc
  have hbk := h.bk
  have hbe := h.be
  clear h M B
  unfold ndV
  go_enter Tryz.func6, Tryz.ntmps6
  go_wp2
  generalize hwa : w.alloc (.cells #[.bool false, .slice EA en ec, .slice KA kn kc, .slice CA cn cc] 32) = wa at *
  clear hwa
  go_loopw [31] (fun i wr => ∃ k : Nat, k ≤ cn ∧ i = .int .i64 k ∧ Hid (∀ (i : Nat) (z : Int), i < k → N.kids[i]? = some z → kidOk z = true) ∧ Mod Nn wa wr) (fun i _ => cn - (intOf i).toNat)
  case atStart => exact ⟨0, by omega, rfl, Lib.hid (fun i z hi => by omega), Mod.refl _ _⟩
  case round =>
    obtain ⟨k, hk, rfl, hrel, hm⟩ := hrel
    by_cases hlt : k < cn
    · have hlt' : (k : Int) < cn := by omega
      obtain ⟨g, off, v, rfl, hv, hc⟩ := (HR.out.1.c.mod hm (fun _ _ f => f)).at_ hlt
      rw [List.getElem?_map] at hv
      obtain ⟨z, hz, rfl⟩ := Option.map_eq_some_iff.1 hv
      have HZ := Lib.hid hz
      clear hv hz
      by_cases z0 : z < 0
      · have HF := Lib.hid (show N.right = false by rw [hr.out, kids_bad HZ.out (by unfold kidOk; exact decide_eq_false (fun h => by omega))]; rfl)
        go_wp2
        go_ret
        exact ⟨by rw [HF.out]; rfl, HM.out.trans hm⟩
      by_cases z1 : z > 1048576
      · have HF := Lib.hid (show N.right = false by rw [hr.out, kids_bad HZ.out (by unfold kidOk; exact decide_eq_false (fun h => by omega))]; rfl)
        have d0 : decide (z < 0) = false := decide_eq_false z0
        have d1 : decide (z > 1048576) = true := decide_eq_true z1
        go_wp2
        go_ret
        exact ⟨by rw [HF.out]; rfl, HM.out.trans hm⟩
      have HV := Lib.hid (show kidOk z = true by unfold kidOk; exact decide_eq_true (by omega))
      have d0 : decide (z < 0) = false := decide_eq_false z0
      have d1 : decide (z > 1048576) = false := decide_eq_false z1
      go_wp2
      go_roundw
      case rel =>
        refine ⟨k + 1, by omega, by go_num, Lib.hid (fun i y hi hy => ?_), hm⟩
        rcases Nat.lt_or_ge i k with h | h
        · exact hrel.out i y h hy
        · have hik : i = k := by omega
          subst hik
          rw [HZ.out] at hy
          injection hy with hy
          subst hy
          exact HV.out
      case measure => simp [intOf]; omega
    · have hkc : k = cn := by omega
      have HA := Lib.hid (show N.right = ((en == 0) && decide (2 ≤ cn) && decide (cn ≤ 20) && (kn + 1 == cn) && riseB N.keys) by
        rw [hr.out, kids_all (fun i z hz => hrel.out i z (by have := (List.getElem?_eq_some_iff.1 hz).1; have := HR.out.1.cl; omega) hz), Bool.true_and])
      have hbw := HB.out.mod hm (fun f => f)
      have C0 := hbw.cell 0; have C1 := hbw.cell 1; have C2 := hbw.cell 2; have C3 := hbw.cell 3
      have hlt' : ¬ (k : Int) < cn := by omega
      have HH := Lib.hid hm
      clear hbw hrel hkc hm
      by_cases h1 : en = 0
      · have b1 : ((en : Int) == 0) = true := by simp [h1]
        by_cases h2 : 2 ≤ cn
        · have b2 : (cn : Int) ≥ 2 := by omega
          by_cases h3 : cn ≤ 20
          · have b3 : (cn : Int) ≤ 20 := by omega
            have e3 : IntKind.i64.wrap ((cn : Int) - 1) = ((cn - 1 : Nat) : Int) := by rw [IntKind.wrap_i64]; omega
            by_cases h4 : kn + 1 = cn
            · have HF := Lib.hid (show N.right = riseB N.keys by rw [HA.out]; simp [h1, h2, h3, h4])
              have b4 : ((kn : Int) == ((cn - 1 : Nat) : Int)) = true := by simp; omega
              clear h1 h2 h3 h4
              go_wp2_with ((with_reducible refine (rises2_any (HR.out.1.k.mod (by omega) HH.out (fun _ _ f => f)) HR.out.2.k HR.out.1.kl hbk).mono ?_); rintro r w' ⟨rfl, m'⟩)
              go_ret
              exact ⟨by rw [HF.out]; rfl, (HM.out.trans HH.out).trans m'⟩
            · have HF := Lib.hid (show N.right = false by rw [HA.out]; simp [h4])
              have b4 : ((kn : Int) == ((cn - 1 : Nat) : Int)) = false := by simp; omega
              clear h1 h2 h3 h4
              go_wp2
              go_ret
              exact ⟨by rw [HF.out]; rfl, HM.out.trans HH.out⟩
          · have HF := Lib.hid (show N.right = false by rw [HA.out]; simp [h3])
            have b3 : ¬ (cn : Int) ≤ 20 := by omega
            clear h1 h2 h3
            go_wp2
            go_ret
            exact ⟨by rw [HF.out]; rfl, HM.out.trans HH.out⟩
        · have HF := Lib.hid (show N.right = false by rw [HA.out]; simp [h2])
          have b2 : ¬ (cn : Int) ≥ 2 := by omega
          clear h1 h2
          go_wp2
          go_ret
          exact ⟨by rw [HF.out]; rfl, HM.out.trans HH.out⟩
      · have HF := Lib.hid (show N.right = false by rw [HA.out]; simp [h1])
        have b1 : ((en : Int) == 0) = false := by simp [h1]
        clear h1
        go_wp2
        go_ret
        exact ⟨by rw [HF.out]; rfl, HM.out.trans HH.out⟩
theorem nright_any (h : NdR w N EA en KA kn CA cn) :
    Calls Tryz.prog 6 #[ndV N.leaf EA en ec KA kn kc CA cn cc] w fun e w' => e = .returned (.bool N.right) ∧ Mod Nn w w' := by
  cases hl : N.leaf with
  | true => exact nright_leaf h hl
  | false => exact nright_inner h hl
end
end Go.Proofs.YtfoldjnmknaklaaGreat
