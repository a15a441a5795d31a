/- What a list of peatbanklaw09.Do reads as. -/
import Derived.Test.YtgmkibckbbbhkaaDev9

namespace Go.Proofs.Ytgmkibckbbbhkaa
open Go.RowKit

section
open Go.ChangeShapes Go.WideShapes Go.ChangeAt Go.Deep
variable {H : Type} {enc : TypeId × Value → H} {w : World} {base : Nat} {spare : Nat → Bool} {held : Bool}
theorem rd_of_do9s {fuel : Nat} {v : Value} {x : DataW H × List MemPlace} (h : DataW.trod enc Try.prog w base spare held fuel 79 [v] = some x) :
    ∃ (A : Option Addr) (len cap : Nat) (xs : List DoR), v = .slice A len cap ∧ RdDo w A len xs ∧ len ≤ cap ∧ cap ≤ maxLen := by
  obtain ⟨A, len, cap, rfl, hl, hm, hr⟩ := rd_of_structs (P := Try.prog) Try.underlying79 Try.underlying85 (by kernel_rfl) (by kernel_rfl) (by decide) h
  rcases Nat.eq_zero_or_pos len with h0 | h0
  · subst h0; exact ⟨A, 0, cap, [], rfl, ⟨rfl, fun h => absurd h (by omega), by simp⟩, hl, hm⟩
  · obtain ⟨g, off, hA, hg, hk⟩ := hr h0
    obtain ⟨xs, hxl, hx⟩ := list_of (p := fun k (x : DoR) => DoAt w g off k x ∧ x.ok ∧ Rd w x.fa x.fn (x.fl.map (Value.int .i64))) len (fun k hkl => by
      obtain ⟨n, hf⟩ := hk k hkl
      obtain ⟨u0, y0, hc0, ht0⟩ := hf 0 _ rfl
      obtain ⟨u1, y1, hc1, ht1⟩ := hf 1 _ rfl
      obtain ⟨u2, y2, hc2, ht2⟩ := hf 2 _ rfl
      obtain ⟨u3, y3, hc3, ht3⟩ := hf 3 _ rfl
      obtain ⟨u4, y4, hc4, ht4⟩ := hf 4 _ rfl
      obtain ⟨z0, e0, _, w0⟩ := DataW.trod_int Try.underlying3 ht0
      obtain ⟨z1, e1, _, w1⟩ := DataW.trod_int Try.underlying3 ht1
      obtain ⟨z2, e2, _, w2⟩ := DataW.trod_int Try.underlying3 ht2
      obtain ⟨z3, e3, _, w3⟩ := DataW.trod_int Try.underlying5 ht3
      obtain ⟨fa, fn, fc, fl, rfl, hfr, _, hfl, hfm⟩ := rd_of_fates ht4
      injection e0 with e0 _; injection e1 with e1 _; injection e2 with e2 _; injection e3 with e3 _
      subst e0; subst e1; subst e2; subst e3
      exact ⟨⟨z0, z1, z2, z3, fa, fn, fc, fl⟩, ⟨hc0, hc1, hc2, hc3, hc4⟩, ⟨wf_i64 w0, wf_i64 w1, wf_i64 w2, wf_u8 w3, by show fn ≤ maxLen; omega⟩, hfr⟩)
    exact ⟨A, len, cap, xs, rfl, ⟨hxl, fun _ => ⟨g, off, hA, hg, fun k x h => (hx k x h).1⟩, fun k x h => (hx k x h).2⟩, hl, hm⟩
end
end Go.Proofs.Ytgmkibckbbbhkaa
