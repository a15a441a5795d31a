/- For all two slices of bytes the law ShaTwo of layer 1 (sha) returns true, and each argument reads afterwards as it read before; the two listed tables are tied to the program's text. -/
import Derived.Test.YtbocdgmkiajihaaDoorSha18
import Derived.Test.YtbocdgmkiajihaaDoorOpen
import Derived.Test.YtbocdgmkiajihaaDoorOpen2
import Derived.Test.YtbocdgmkiajihaaDoorCards
import Derived.Test.YtbocdgmkiajihaaDoorTie
import Derived.ProofKit
import Derived.Lay
import Derived.SevenTiedAt
import Derived.Stop.Joined
namespace Go.Proofs.YtbocdgmkiajihaaDoor.shaTwo
open Go.ChangeShapes Go.WideShapes Go.ChangeAt Go.RowKit

theorem own : ownKnob Tryd.prog.godebug = none := by kernel_rfl
theorem laidOut : laidOutB Tryd.prog = true := by kernel_rfl

set_option maxRecDepth 100000 in
theorem contract (H : Type) (enc : TypeId × Value → H) (W : World) (base : Nat) (args : Array Value) (ds gs : List (DataW H)) (before : List MemPlace)
    (hval : ∀ (j : Nat) t v, Tryd.f7.params[j]? = some t → args[j]? = some v → Value.okWide Tryd.prog W .any base t v)
    (hW : DataW.Whole enc Tryd.prog Tryd.f7.params.toList Rows.shaTwoSpec.vars false W args.toList ds gs before) (hsz : (DataW.weightsEach Tryd.prog (Tryd.f7.params.toList ++ Rows.shaTwoSpec.plain.varTypes Tryd.prog) (ds ++ gs)).all (· ≤ reachBytes) = true) (hL : laidMetH Tryd.prog laid W) :
    Calls Tryd.prog 7 args W fun e W' => ∃ v, e = .returned v ∧ Rows.shaTwoSpec.post enc Tryd.prog Tryd.f7 false true false false W args v W' := by
  have hW' := hW
  obtain ⟨p, q, hA0, hV, rfl, hfz, hnd⟩ := hW
  have hA : DataW.TrodAll enc Tryd.prog W 0 (fun _ => true) true Tryd.f7.params.toList args.toList ds p := hA0
  rw [Tryd.params7] at hA hval hsz
  obtain ⟨v0, vs0, d0, ds0, p0, q0, hargs, rfl, rfl, h0, r0⟩ := trodAll_cons hA
  obtain ⟨v1, vs1, d1, ds1, p1, q1, rfl, rfl, rfl, h1, r1⟩ := trodAll_cons r0
  obtain ⟨rfl, rfl, rfl⟩ := trodAll_nil r1
  obtain rfl : args = #[v0, v1] := by cases args; simp_all
  obtain ⟨_, _, _, rfl⟩ := okWide_slice Tryd.underlying22 (hval 0 _ v0 rfl rfl)
  obtain ⟨f0, hf0⟩ := h0
  have hlen0 := len_of_ints (P := Tryd.prog) Tryd.underlying22 Tryd.underlying5 (by kernel_rfl) hf0
  obtain ⟨A0, n0, c0, zs0, e0, hx0, hwf0, hc0, hm0⟩ := rd_of_ints (P := Tryd.prog) Tryd.underlying22 Tryd.underlying5 (by kernel_rfl) hf0
  injection e0 with e01 e02 e03; subst e01; subst e02; subst e03
  obtain ⟨l0, hr0, hl0⟩ := bytes_of8 hx0 hwf0
  obtain ⟨_, _, _, rfl⟩ := okWide_slice Tryd.underlying22 (hval 1 _ v1 rfl rfl)
  obtain ⟨f1, hf1⟩ := h1
  have hlen1 := len_of_ints (P := Tryd.prog) Tryd.underlying22 Tryd.underlying5 (by kernel_rfl) hf1
  obtain ⟨A1, n1, c1, zs1, e1, hx1, hwf1, hc1, hm1⟩ := rd_of_ints (P := Tryd.prog) Tryd.underlying22 Tryd.underlying5 (by kernel_rfl) hf1
  injection e1 with e11 e12 e13; subst e11; subst e12; subst e13
  obtain ⟨l1, hr1, hl1⟩ := bytes_of8 hx1 hwf1
  have hb0 := len_lt hsz (j := 0) (t := 22) (e := 5) (by rfl) (by rfl) Tryd.underlying22 (by kernel_rfl) hlen0
  have hb1 := len_lt hsz (j := 1) (t := 22) (e := 5) (by rfl) (by rfl) Tryd.underlying22 (by kernel_rfl) hlen1
  refine (shatwo_any (Gl.of_laid hL) hr0 hl0 hr1 hl1 hb0 hb1).mono fun e W' ⟨he, hm⟩ => ?_
  subst he
  exact ⟨_, rfl, law_post laidOut (by kernel_rfl) rfl Tryd.underlying4 rfl hW' rfl hm⟩

set_option maxRecDepth 100000 in
theorem lifted (os : Os) (started : os.Started) (H : Type) (enc : TypeId × Value → H) :
    ReturnsInHanded {} Tryd.checked os 7 .any (fun w args => (Rows.shaTwoSpec.pre enc Tryd.prog Tryd.f7 Rows.shaTwoRow.domain false w args ∧ laidMetH Tryd.prog laid w) ∧ sizedMet enc Tryd.prog Tryd.f7 (OpenSpec.ofChange Rows.shaTwoSpec) false w args)
      (Rows.shaTwoSpec.post enc Tryd.prog Tryd.f7 false true false false) := by
  refine returnsInHanded_of_change_and (C := Tryd.checked) (X := fun w _ => laidMetH Tryd.prog laid w) (fun _ _ _ hh h => h.of_heap hh) own started (by kernel_rfl) Tryd.func7
    (ChangeSpec.witness_shaped (enc := enc) (C := Tryd.checked) (os := os) (X := fun w _ => laidMetH Tryd.prog laid w) false (World.laidAll Tryd.prog os laid) #[.slice none 0 0, .slice none 0 0] 8 (World.laidAll_os _ _ _)
      (World.shaped_of_ZipB (by kernel_rfl) (by kernel_rfl)) (by kernel_rfl) (by kernel_rfl) (by kernel_rfl)
      (by rw [MakeChecks.laidMetH_plain _ _ _ (by kernel_rfl)]; exact laidMet_laidAll _ (by kernel_rfl) (by kernel_rfl))) ?_
  intro W base args ds gs before hval hW _ hsz hL _
  exact contract H enc W base args ds gs before hval hW hsz hL

theorem said : Rows.ShaTwoSaid :=
  OpenClaim.holds_of_wide 7 Tryd.f7 rfl rfl rfl rfl rfl rfl rfl ⟨rfl, rfl, rfl, rfl, rfl⟩ rfl rfl rfl rfl rfl (by kernel_rfl) Tryd.func7 (by kernel_rfl)
    (of_decide_eq_true (by kernel_rfl)) (by unfold Func.isWrapper; first | (rw [if_pos (by decide +kernel)]; kernel_rfl) | (rw [if_neg (by decide +kernel)]; exact ⟨rfl, rfl⟩))
    (fun os started H enc _ => lifted os started H enc)
theorem proved : Rows.ShaTwoCardSaid :=
  Claim7.holds_tied_plain_at .later [] [.data, .data] true (true, "7e500f31ab5625442de612cf1737be129596902126d0209f9b6b169e85984c06") false
    said (fun _ h => by cases h) (by kernel_rfl) (fun _ h => by cases h) shaTwo_row_tie rfl ⟨rfl, rfl⟩ (by kernel_rfl) rfl
    (fun f fn hf hfn => by
      obtain rfl : f = 7 := Option.some.inj ((show Tryd.prog.funcNamed "peatbank/peatbanklaw01.ShaTwo" = some 7 by kernel_rfl).symm.trans hf) |>.symm
      obtain rfl : fn = Tryd.f7 := (Option.some.inj (Tryd.func7.symm.trans hfn)).symm
      exact ⟨by kernel_rfl, fun j t ht => by
        rw [Tryd.params7] at ht
        have hm : t ∈ [22, 22] := by simpa using Array.mem_of_getElem? ht
        have hall : ([22, 22].all fun u => !Tryd.prog.wantsStandIn u) = true := by kernel_rfl
        exact (show Tryd.prog.wantsStandIn t = false by simpa using List.all_eq_true.1 hall t hm)⟩)
    (by kernel_rfl)
#print axioms proved
end Go.Proofs.YtbocdgmkiajihaaDoor.shaTwo
