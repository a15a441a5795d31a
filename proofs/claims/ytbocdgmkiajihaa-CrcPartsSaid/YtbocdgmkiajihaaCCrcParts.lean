/- For every polynomial and sum, every three slices of bytes and every number the law CrcParts of layer 2 (crc) returns true, and each argument reads afterwards as it read before. -/
import Derived.Test.YtbocdgmkiajihaaCrcP
import Derived.Test.YtbocdgmkiajihaaCrcO
namespace Go.Proofs.Ytbocdgmkiajihaa.crcParts
open Go.ChangeShapes Go.WideShapes Go.ChangeAt Go.RowKit

theorem own : ownKnob Try.prog.godebug = none := by kernel_rfl
theorem laidOut : laidOutB Try.prog = true := by kernel_rfl

set_option maxRecDepth 100000 in
theorem contract (H : Type) (enc : TypeId × Value → H) (W : World) (base : Nat) (args : Array Value) (ds gs : List (DataW H)) (before : List MemPlace)
    (hval : ∀ (j : Nat) t v, Try.f7.params[j]? = some t → args[j]? = some v → Value.okWide Try.prog W .any base t v)
    (hW : DataW.Whole enc Try.prog Try.f7.params.toList Rows.crcPartsSpec.vars false W args.toList ds gs before) :
    Calls Try.prog 7 args W fun e W' => ∃ v, e = .returned v ∧ Rows.crcPartsSpec.post enc Try.prog Try.f7 false true false false W args v W' := by
  have hW' := hW
  obtain ⟨p, q, hA0, hV, rfl, hfz, hnd⟩ := hW
  have hA : DataW.TrodAll enc Try.prog W 0 (fun _ => true) true Try.f7.params.toList args.toList ds p := hA0
  rw [Try.params7] at hA hval
  obtain ⟨v0, vs0, d0, ds0, p0, q0, hargs, rfl, rfl, h0, r0⟩ := trodAll_cons hA
  obtain ⟨v1, vs1, d1, ds1, p1, q1, rfl, rfl, rfl, h1, r1⟩ := trodAll_cons r0
  obtain ⟨v2, vs2, d2, ds2, p2, q2, rfl, rfl, rfl, h2, r2⟩ := trodAll_cons r1
  obtain ⟨v3, vs3, d3, ds3, p3, q3, rfl, rfl, rfl, h3, r3⟩ := trodAll_cons r2
  obtain ⟨v4, vs4, d4, ds4, p4, q4, rfl, rfl, rfl, h4, r4⟩ := trodAll_cons r3
  obtain ⟨v5, vs5, d5, ds5, p5, q5, rfl, rfl, rfl, h5, r5⟩ := trodAll_cons r4
  obtain ⟨rfl, rfl, rfl⟩ := trodAll_nil r5
  obtain rfl : args = #[v0, v1, v2, v3, v4, v5] := by cases args; simp_all
  obtain ⟨x0, rfl⟩ := okWide_int Try.underlying22 (hval 0 _ v0 rfl rfl)
  obtain ⟨x1, rfl⟩ := okWide_int Try.underlying22 (hval 1 _ v1 rfl rfl)
  obtain ⟨_, _, _, rfl⟩ := okWide_slice Try.underlying23 (hval 2 _ v2 rfl rfl)
  obtain ⟨_, _, _, rfl⟩ := okWide_slice Try.underlying23 (hval 3 _ v3 rfl rfl)
  obtain ⟨_, _, _, rfl⟩ := okWide_slice Try.underlying23 (hval 4 _ v4 rfl rfl)
  obtain ⟨x5, rfl⟩ := okWide_int Try.underlying3 (hval 5 _ v5 rfl rfl)
  obtain ⟨f0, hf0⟩ := h0
  obtain ⟨f1, hf1⟩ := h1
  obtain ⟨f2, hf2⟩ := h2
  obtain ⟨f3, hf3⟩ := h3
  obtain ⟨f4, hf4⟩ := h4
  obtain ⟨f5, hf5⟩ := h5
  obtain ⟨z', e0, _, hz0⟩ := DataW.trod_int Try.underlying22 hf0
  injection e0 with e0 _; injection e0 with _ e0; subst e0
  obtain ⟨x0, rfl⟩ := word_of hz0
  obtain ⟨z', e0, _, hz1⟩ := DataW.trod_int Try.underlying22 hf1
  injection e0 with e0 _; injection e0 with _ e0; subst e0
  obtain ⟨x1, rfl⟩ := word_of hz1
  obtain ⟨A2, n2, c2, zs2, e1, hx2, hz2, hc2, hm2⟩ := rd_of_ints (P := Try.prog) Try.underlying23 Try.underlying5 (by kernel_rfl) hf2
  injection e1 with e11 e12 e13; subst e11; subst e12; subst e13
  obtain ⟨l2, hr2, hl2⟩ := bytes_of hx2 hz2
  obtain ⟨A3, n3, c3, zs3, e1, hx3, hz3, hc3, hm3⟩ := rd_of_ints (P := Try.prog) Try.underlying23 Try.underlying5 (by kernel_rfl) hf3
  injection e1 with e11 e12 e13; subst e11; subst e12; subst e13
  obtain ⟨l3, hr3, hl3⟩ := bytes_of hx3 hz3
  obtain ⟨A4, n4, c4, zs4, e1, hx4, hz4, hc4, hm4⟩ := rd_of_ints (P := Try.prog) Try.underlying23 Try.underlying5 (by kernel_rfl) hf4
  injection e1 with e11 e12 e13; subst e11; subst e12; subst e13
  obtain ⟨l4, hr4, hl4⟩ := bytes_of hx4 hz4
  refine (parts_any x0 x1 x5 hr2 hr3 hr4 hl2 hl3 hl4 hc2 hc3 hc4 hm2 hm3 hm4).mono fun e W' ⟨he, hm⟩ => ?_
  subst he
  exact ⟨_, rfl, law_post laidOut (by kernel_rfl) rfl Try.underlying4 rfl hW' rfl hm⟩

set_option maxRecDepth 100000 in
theorem lifted (os : Os) (started : os.Started) (H : Type) (enc : TypeId × Value → H) :
    ReturnsInHanded {} Try.checked os 7 .any (Rows.crcPartsSpec.pre6 enc Try.prog Try.f7 Rows.crcPartsRow.domain false) (Rows.crcPartsSpec.post enc Try.prog Try.f7 false true false false) := by
  refine returnsInHanded_of_change (C := Try.checked) own started (by kernel_rfl) Try.func7
    (ChangeSpec.witness6 (enc := enc) (C := Try.checked) false ⟨#[], #[.int .u32 0, .int .u32 0, .slice none 0 0, .slice none 0 0, .slice none 0 0, .int .i64 0], []⟩ 8 (by kernel_rfl) (by kernel_rfl) (by kernel_rfl) (by kernel_rfl)) ?_
  intro W base args ds gs before hval hW _ _
  exact contract H enc W base args ds gs before hval hW

theorem proved : Rows.CrcPartsSaid :=
  OpenClaim.holds_of_wide 7 Try.f7 rfl rfl rfl rfl rfl rfl rfl ⟨rfl, rfl, rfl, rfl, rfl⟩ rfl rfl rfl rfl rfl (by kernel_rfl) Try.func7 (by kernel_rfl)
    (of_decide_eq_true (by kernel_rfl)) (by unfold Func.isWrapper; first | (rw [if_pos (by decide +kernel)]; kernel_rfl) | (rw [if_neg (by decide +kernel)]; exact ⟨rfl, rfl⟩))
    (fun os started H enc _ => lifted os started H enc)
#print axioms proved
end Go.Proofs.Ytbocdgmkiajihaa.crcParts
