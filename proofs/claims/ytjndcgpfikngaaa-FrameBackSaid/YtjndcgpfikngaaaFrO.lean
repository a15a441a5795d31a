/- A frame out of the form's reading. -/
import Derived.Test.YtjndcgpfikngaaaFrM
import Derived.Test.YtjndcgpfikngaaaOpen4
import Derived.Test.YtjndcgpfikngaaaCrcO
namespace Go.Proofs.Ytjndcgpfikngaaa
open Go.RowKit Go.ChangeShapes Go.WideShapes Go.ChangeAt Go.Deep

theorem list4 {α : Type} {l : List α} (h : l.length = 4) : ∃ a b c d, l = [a, b, c, d] := by
  match l, h with
  | [a, b, c, d], _ => exact ⟨a, b, c, d, rfl⟩
theorem wf_u8b {a : Int} (h : (Lit.int .u8 a).wf = true) : 0 ≤ a ∧ a ≤ 255 := by simpa [Lit.wf, IntKind.min, IntKind.max, IntKind.signed, IntKind.bits] using h
section
variable {H : Type} {enc : TypeId × Value → H} {w : World} {base : Nat} {spare : Nat → Bool} {held : Bool}
theorem frame_of {fuel : Nat} {cs : List Value} {x : DataW H × List MemPlace} (h : DataW.trod enc Try.prog w base spare held fuel 24 cs = some x) :
    ∃ (k e s : Int) (A : Option Addr) (n c : Nat) (l : List Nat), cs = [.int .i64 k, .int .i64 e, .int .i64 s, .slice A n c] ∧ Rd w A n (bv l) ∧ (∀ z ∈ l, z < 256) ∧ n ≤ c ∧ c ≤ maxLen := by
  obtain ⟨hl, m, hf⟩ := fields_of (P := Try.prog) Try.underlying24 (by kernel_rfl) (by kernel_rfl) h
  obtain ⟨v0, v1, v2, v3, rfl⟩ := list4 hl
  obtain ⟨y0, h0⟩ := hf 0 _ v0 rfl rfl
  obtain ⟨y1, h1⟩ := hf 1 _ v1 rfl rfl
  obtain ⟨y2, h2⟩ := hf 2 _ v2 rfl rfl
  obtain ⟨y3, h3⟩ := hf 3 _ v3 rfl rfl
  obtain ⟨k, e0, _, _⟩ := DataW.trod_int Try.underlying3 h0
  obtain ⟨e, e1, _, _⟩ := DataW.trod_int Try.underlying3 h1
  obtain ⟨s, e2, _, _⟩ := DataW.trod_int Try.underlying3 h2
  obtain ⟨A, n, c, zs, e3, hx, hz, hc, hm⟩ := rd_of_ints (P := Try.prog) Try.underlying22 Try.underlying5 (by kernel_rfl) h3
  injection e0 with e0 _
  injection e1 with e1 _
  injection e2 with e2 _
  subst e0; subst e1; subst e2; subst e3
  obtain ⟨l, hr, hl'⟩ := bytes_of hx hz
  exact ⟨k, e, s, A, n, c, l, rfl, hr, hl', hc, hm⟩
end
end Go.Proofs.Ytjndcgpfikngaaa
