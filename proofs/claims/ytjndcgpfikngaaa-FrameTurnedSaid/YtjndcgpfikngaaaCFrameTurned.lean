/- For every frame, number, byte and slice of bytes the law FrameTurned of layer 10 (frame) returns true, and each argument reads afterwards as it read before. -/
import Derived.Test.YtjndcgpfikngaaaFrL4
import Derived.Test.YtjndcgpfikngaaaOpen
import Derived.Test.YtjndcgpfikngaaaFrO
import Derived.Test.YtjndcgpfikngaaaOpen2
namespace Go.Proofs.Ytjndcgpfikngaaa.frameTurned
open Go.ChangeShapes Go.WideShapes Go.ChangeAt Go.RowKit

theorem own : ownKnob Try.prog.godebug = none := by kernel_rfl
theorem laidOut : laidOutB Try.prog = true := by kernel_rfl

set_option maxRecDepth 100000 in
theorem contract (H : Type) (enc : TypeId × Value → H) (W : World) (base : Nat) (args : Array Value) (ds gs : List (DataW H)) (before : List MemPlace)
    (hval : ∀ (j : Nat) t v, Try.f5.params[j]? = some t → args[j]? = some v → Value.okWide Try.prog W .any base t v)
    (hW : DataW.Whole enc Try.prog Try.f5.params.toList Rows.frameTurnedSpec.vars false W args.toList ds gs before) (hsz : (DataW.weightsEach Try.prog (Try.f5.params.toList ++ Rows.frameTurnedSpec.plain.varTypes Try.prog) (ds ++ gs)).all (· ≤ reachBytes) = true) :
    Calls Try.prog 5 args W fun e W' => ∃ v, e = .returned v ∧ Rows.frameTurnedSpec.post enc Try.prog Try.f5 false true false false W args v W' := by
  have hW' := hW
  obtain ⟨p, q, hA0, hV, rfl, hfz, hnd⟩ := hW
  have hA : DataW.TrodAll enc Try.prog W 0 (fun _ => true) true Try.f5.params.toList args.toList ds p := hA0
  rw [Try.params5] at hA hval hsz
  obtain ⟨v0, vs0, d0, ds0, p0, q0, hargs, rfl, rfl, h0, r0⟩ := trodAll_cons hA
  obtain ⟨v1, vs1, d1, ds1, p1, q1, rfl, rfl, rfl, h1, r1⟩ := trodAll_cons r0
  obtain ⟨v2, vs2, d2, ds2, p2, q2, rfl, rfl, rfl, h2, r2⟩ := trodAll_cons r1
  obtain ⟨v3, vs3, d3, ds3, p3, q3, rfl, rfl, rfl, h3, r3⟩ := trodAll_cons r2
  obtain ⟨rfl, rfl, rfl⟩ := trodAll_nil r3
  obtain rfl : args = #[v0, v1, v2, v3] := by cases args; simp_all
  obtain ⟨cs0, rfl, _⟩ := okWide_struct Try.underlying24 (hval 0 _ v0 rfl rfl)
  obtain ⟨x1, rfl⟩ := okWide_int Try.underlying3 (hval 1 _ v1 rfl rfl)
  obtain ⟨x2, rfl⟩ := okWide_int Try.underlying5 (hval 2 _ v2 rfl rfl)
  obtain ⟨_, _, _, rfl⟩ := okWide_slice Try.underlying22 (hval 3 _ v3 rfl rfl)
  obtain ⟨f0, hf0⟩ := h0
  obtain ⟨f1, hf1⟩ := h1
  obtain ⟨f2, hf2⟩ := h2
  obtain ⟨f3, hf3⟩ := h3
  obtain ⟨k0, e0, s0, A0, n0, c0, l0, ec0, hr0, hl0, hc0, hm0⟩ := frame_of hf0
  obtain rfl : cs0 = #[.int .i64 k0, .int .i64 e0, .int .i64 s0, .slice A0 n0 c0] := by rw [← Array.toArray_toList (xs := cs0)]; exact congrArg List.toArray ec0
  obtain ⟨z', e0, _, hz2⟩ := DataW.trod_int Try.underlying5 hf2
  injection e0 with e0 _; injection e0 with _ e0; subst e0
  have hb2 := wf_u8b hz2
  obtain ⟨y2, hy2, rfl⟩ : ∃ y2 : Nat, y2 < 256 ∧ x2 = (y2 : Int) := ⟨x2.toNat, by omega, by omega⟩
  have hlen3 := len_of_ints (P := Try.prog) Try.underlying22 Try.underlying5 (by kernel_rfl) hf3
  obtain ⟨A3, n3, c3, zs3, e1, hx3, hz3, hc3, hm3⟩ := rd_of_ints (P := Try.prog) Try.underlying22 Try.underlying5 (by kernel_rfl) hf3
  injection e1 with e11 e12 e13; subst e11; subst e12; subst e13
  have hb3 := len_lt hsz (j := 3) (t := 22) (e := 5) (by rfl) (by rfl) Try.underlying22 (by kernel_rfl) hlen3
  obtain ⟨l3, hr3, hl3⟩ := bytes_of hx3 hz3
  refine (fturn_any k0 e0 s0 x1 y2 hy2 hr0 hl0 (by have := hm0; unfold maxLen at this; omega) hr3 hl3 hb3).mono fun e W' ⟨he, hm⟩ => ?_
  subst he
  exact ⟨_, rfl, law_post laidOut (by kernel_rfl) rfl Try.underlying4 rfl hW' rfl hm⟩

set_option maxRecDepth 100000 in
theorem lifted (os : Os) (started : os.Started) (H : Type) (enc : TypeId × Value → H) :
    ReturnsInHanded {} Try.checked os 5 .any (Rows.frameTurnedSpec.pre6 enc Try.prog Try.f5 Rows.frameTurnedRow.domain false) (Rows.frameTurnedSpec.post enc Try.prog Try.f5 false true false false) := by
  refine returnsInHanded_of_change_sized (C := Try.checked) own started (by kernel_rfl) Try.func5
    (ChangeSpec.witness6 (enc := enc) (C := Try.checked) false ⟨#[], #[.agg #[.int .i64 0, .int .i64 0, .int .i64 0, .slice none 0 0], .int .i64 0, .int .u8 0, .slice none 0 0], []⟩ 8 (by kernel_rfl) (by kernel_rfl) (by kernel_rfl) (by kernel_rfl)) ?_
  intro W base args ds gs before hval hW _ hsz _
  exact contract H enc W base args ds gs before hval hW hsz

theorem proved : Rows.FrameTurnedSaid :=
  OpenClaim.holds_of_wide 5 Try.f5 rfl rfl rfl rfl rfl rfl rfl ⟨rfl, rfl, rfl, rfl, rfl⟩ rfl rfl rfl rfl rfl (by kernel_rfl) Try.func5 (by kernel_rfl)
    (of_decide_eq_true (by kernel_rfl)) (by unfold Func.isWrapper; first | (rw [if_pos (by decide +kernel)]; kernel_rfl) | (rw [if_neg (by decide +kernel)]; exact ⟨rfl, rfl⟩))
    (fun os started H enc _ => lifted os started H enc)
#print axioms proved
end Go.Proofs.Ytjndcgpfikngaaa.frameTurned
