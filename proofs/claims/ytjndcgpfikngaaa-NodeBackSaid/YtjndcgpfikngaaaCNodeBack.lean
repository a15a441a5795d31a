/- For every node, all bytes, every place and every pattern of turned bits, all within the form's reach, the law NodeBack of layer 15 (node) returns true, and its arguments read afterwards as they read before. -/
import Derived.Test.YtjndcgpfikngaaaNdBk
import Derived.Test.YtjndcgpfikngaaaNdO
import Derived.Test.YtjndcgpfikngaaaCrcO
import Derived.Test.YtjndcgpfikngaaaOpenA
namespace Go.Proofs.Ytjndcgpfikngaaa.nodeBack
open Go.ChangeShapes Go.WideShapes Go.ChangeAt Go.RowKit

theorem own : ownKnob Try.prog.godebug = none := by kernel_rfl
theorem laidOut : laidOutB Try.prog = true := by kernel_rfl

set_option maxRecDepth 100000 in
theorem contract (H : Type) (enc : TypeId × Value → H) (W : World) (base : Nat) (args : Array Value) (ds gs : List (DataW H)) (before : List MemPlace)
    (hval : ∀ (j : Nat) t v, Try.f9.params[j]? = some t → args[j]? = some v → Value.okWide Try.prog W .any base t v)
    (hW : DataW.Whole enc Try.prog Try.f9.params.toList Rows.nodeBackSpec.vars false W args.toList ds gs before) (hsz : (DataW.weightsEach Try.prog (Try.f9.params.toList ++ Rows.nodeBackSpec.plain.varTypes Try.prog) (ds ++ gs)).all (· ≤ reachBytes) = true) :
    Calls Try.prog 9 args W fun e W' => ∃ v, e = .returned v ∧ Rows.nodeBackSpec.post enc Try.prog Try.f9 false true false false W args v W' := by
  have hW' := hW
  obtain ⟨p, q, hA0, hV, rfl, hfz, hnd⟩ := hW
  have hA : DataW.TrodAll enc Try.prog W 0 (fun _ => true) true Try.f9.params.toList args.toList ds p := hA0
  rw [Try.params9] at hA hval hsz
  obtain ⟨v0, vs0, d0, ds0, p0, q0, hargs, rfl, rfl, h0, r0⟩ := trodAll_cons hA
  obtain ⟨v1, vs1, d1, ds1, p1, q1, rfl, rfl, rfl, h1, r1⟩ := trodAll_cons r0
  obtain ⟨v2, vs2, d2, ds2, p2, q2, rfl, rfl, rfl, h2, r2⟩ := trodAll_cons r1
  obtain ⟨v3, vs3, d3, ds3, p3, q3, rfl, rfl, rfl, h3, r3⟩ := trodAll_cons r2
  obtain ⟨rfl, rfl, rfl⟩ := trodAll_nil r3
  obtain rfl : args = #[v0, v1, v2, v3] := by cases args; simp_all
  obtain ⟨cs0, rfl, _⟩ := okWide_struct Try.underlying48 (hval 0 _ v0 rfl rfl)
  obtain ⟨_, _, _, rfl⟩ := okWide_slice Try.underlying22 (hval 1 _ v1 rfl rfl)
  obtain ⟨x2, rfl⟩ := okWide_int Try.underlying3 (hval 2 _ v2 rfl rfl)
  obtain ⟨x3, rfl⟩ := okWide_int Try.underlying49 (hval 3 _ v3 rfl rfl)
  obtain ⟨f0, hf0⟩ := h0
  obtain ⟨f1, hf1⟩ := h1
  obtain ⟨f2, hf2⟩ := h2
  obtain ⟨f3, hf3⟩ := h3
  obtain ⟨EA0, en0, ec0, KA0, kn0, kc0, CA0, cn0, cc0, N0, es0, hq0, he0, hk0, hc0, parts0, hx0, la0, lb0, lc0⟩ := node_of hf0
  obtain rfl : cs0 = #[.bool N0.leaf, .slice EA0 en0 ec0, .slice KA0 kn0 kc0, .slice CA0 cn0 cc0] := by rw [← Array.toArray_toList (xs := cs0)]; exact congrArg List.toArray es0
  have hs0 := node_small hsz (j := 0) (by rfl) (by rfl) hx0 la0 lb0 lc0
  obtain ⟨A1, n1, c1, zs1, e1, hx1, hz1, hc1, hm1⟩ := rd_of_ints (P := Try.prog) Try.underlying22 Try.underlying5 (by kernel_rfl) hf1
  injection e1 with e11 e12 e13; subst e11; subst e12; subst e13
  obtain ⟨l1, hr1, hl1⟩ := bytes_of hx1 hz1
  obtain ⟨z', e0, _, hz3⟩ := DataW.trod_int Try.underlying49 hf3
  injection e0 with e0 _; injection e0 with _ e0; subst e0
  obtain ⟨x3, rfl⟩ := word_of hz3
  refine (nback_any x2 x3 hq0 hs0 hr1 hc1 hl1 (by have := hm1; unfold maxLen at this; omega)).mono fun e W' ⟨he, hm⟩ => ?_
  subst he
  exact ⟨_, rfl, law_post laidOut (by kernel_rfl) rfl Try.underlying4 rfl hW' rfl hm⟩

set_option maxRecDepth 100000 in
theorem lifted (os : Os) (started : os.Started) (H : Type) (enc : TypeId × Value → H) :
    ReturnsInHanded {} Try.checked os 9 .any (Rows.nodeBackSpec.pre6 enc Try.prog Try.f9 Rows.nodeBackRow.domain false) (Rows.nodeBackSpec.post enc Try.prog Try.f9 false true false false) := by
  refine returnsInHanded_of_change_sized (C := Try.checked) own started (by kernel_rfl) Try.func9
    (ChangeSpec.witness6 (enc := enc) (C := Try.checked) false ⟨#[], #[.agg #[.bool false, .slice none 0 0, .slice none 0 0, .slice none 0 0], .slice none 0 0, .int .i64 0, .int .u32 0], []⟩ 8 (by kernel_rfl) (by kernel_rfl) (by kernel_rfl) (by kernel_rfl)) ?_
  intro W base args ds gs before hval hW _ hsz _
  exact contract H enc W base args ds gs before hval hW hsz

theorem proved : Rows.NodeBackSaid :=
  OpenClaim.holds_of_wide 9 Try.f9 rfl rfl rfl rfl rfl rfl rfl ⟨rfl, rfl, rfl, rfl, rfl⟩ rfl rfl rfl rfl rfl (by kernel_rfl) Try.func9 (by kernel_rfl)
    (of_decide_eq_true (by kernel_rfl)) (by unfold Func.isWrapper; first | (rw [if_pos (by decide +kernel)]; kernel_rfl) | (rw [if_neg (by decide +kernel)]; exact ⟨rfl, rfl⟩))
    (fun os started H enc _ => lifted os started H enc)
#print axioms proved
end Go.Proofs.Ytjndcgpfikngaaa.nodeBack
