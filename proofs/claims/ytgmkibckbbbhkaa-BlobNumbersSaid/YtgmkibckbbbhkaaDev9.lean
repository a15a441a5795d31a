/- peatbanklaw08: what a list of Do reads as; DevWhole's plain side. -/
import Derived.Test.YtgmkibckbbbhkaaDev8
import Derived.Test.YtgmkibckbbbhkaaOpenA
namespace Go.Proofs.Ytgmkibckbbbhkaa
open Go.RowKit

theorem list_of {β : Type} {p : Nat → β → Prop} : ∀ (n : Nat), (∀ k, k < n → ∃ x, p k x) → ∃ xs : List β, xs.length = n ∧ ∀ k x, xs[k]? = some x → p k x
  | 0, _ => ⟨[], rfl, by simp⟩
  | n + 1, h => by
    obtain ⟨xs, hl, hp⟩ := list_of n (fun k hk => h k (by omega))
    obtain ⟨x, hx⟩ := h n (by omega)
    refine ⟨xs ++ [x], by simp [hl], fun k y hy => ?_⟩
    rw [List.getElem?_append] at hy
    split at hy
    · exact hp k y hy
    · rename_i hk
      have : k = n := by
        rcases Nat.lt_or_ge (k - xs.length) 1 with h1 | h1
        · omega
        · rw [List.getElem?_eq_none (by simpa using h1)] at hy; cases hy
      subst this
      rw [hl, Nat.sub_self] at hy
      simp at hy
      subst hy; exact hx

structure DoR where
  op : Int
  sec : Int
  num : Int
  byt : Int
  fa : Option Addr
  fn : Nat
  fc : Nat
  fl : List Int
structure DoR.ok (x : DoR) : Prop where
  o : -9223372036854775808 ≤ x.op ∧ x.op ≤ 9223372036854775807
  s : -9223372036854775808 ≤ x.sec ∧ x.sec ≤ 9223372036854775807
  n : -9223372036854775808 ≤ x.num ∧ x.num ≤ 9223372036854775807
  b : 0 ≤ x.byt ∧ x.byt ≤ 255
  f : x.fn ≤ maxLen
structure DoAt (w : World) (g off k : Nat) (x : DoR) : Prop where
  c0 : w.cell? ⟨g, off + k * 5, none⟩ = some (.int .i64 x.op)
  c1 : w.cell? ⟨g, off + k * 5 + 1, none⟩ = some (.int .i64 x.sec)
  c2 : w.cell? ⟨g, off + k * 5 + 2, none⟩ = some (.int .i64 x.num)
  c3 : w.cell? ⟨g, off + k * 5 + 3, none⟩ = some (.int .u8 x.byt)
  c4 : w.cell? ⟨g, off + k * 5 + 4, none⟩ = some (.slice x.fa x.fn x.fc)
def RdDo (w : World) (A : Option Addr) (n : Nat) (xs : List DoR) : Prop :=
  xs.length = n ∧ (0 < n → ∃ g off, A = some ⟨g, off, none⟩ ∧ g < w.heap.size ∧ ∀ (k : Nat) (x : DoR), xs[k]? = some x → DoAt w g off k x) ∧
    (∀ (k : Nat) (x : DoR), xs[k]? = some x → x.ok ∧ Rd w x.fa x.fn (x.fl.map (Value.int .i64)))
theorem DoAt.mod {w w' : World} {g off k : Nat} {x : DoR} {S : Nat → Prop} (h : DoAt w g off k x) (hm : Mod S w w') (hg : g < w.heap.size) (hn : ¬ S g) : DoAt w' g off k x :=
  ⟨(hm.cell (p := ⟨g, _, none⟩) hg hn).trans h.c0, (hm.cell (p := ⟨g, _, none⟩) hg hn).trans h.c1, (hm.cell (p := ⟨g, _, none⟩) hg hn).trans h.c2, (hm.cell (p := ⟨g, _, none⟩) hg hn).trans h.c3, (hm.cell (p := ⟨g, _, none⟩) hg hn).trans h.c4⟩
theorem RdDo.mod {w w' : World} {A : Option Addr} {n : Nat} {xs : List DoR} (h : RdDo w A n xs) (hm : Mod Nn w w') : RdDo w' A n xs :=
  ⟨h.1, fun hp => by
    obtain ⟨g, off, hA, hg, hc⟩ := h.2.1 hp
    exact ⟨g, off, hA, by have := hm.size; omega, fun k x hx => (hc k x hx).mod hm hg (fun f => f)⟩,
   fun k x hx => ⟨(h.2.2 k x hx).1, (h.2.2 k x hx).2.mod hm (fun _ _ f => f)⟩⟩
theorem RdDo.at_ {w : World} {A : Option Addr} {n : Nat} {xs : List DoR} (h : RdDo w A n xs) {k : Nat} (hk : k < n) :
    ∃ g off x, A = some ⟨g, off, none⟩ ∧ xs[k]? = some x ∧ DoAt w g off k x ∧ x.ok ∧ Rd w x.fa x.fn (x.fl.map (Value.int .i64)) := by
  obtain ⟨g, off, hA, hg, hc⟩ := h.2.1 (by omega)
  have hx : xs[k]? = some (xs[k]'(by rw [h.1]; exact hk)) := List.getElem?_eq_getElem _
  exact ⟨g, off, _, hA, hx, hc k _ hx, (h.2.2 k _ hx).1, (h.2.2 k _ hx).2⟩

theorem wf_i64 {a : Int} (h : (Lit.int .i64 a).wf = true) : -9223372036854775808 ≤ a ∧ a ≤ 9223372036854775807 := by
  simpa [Lit.wf, IntKind.min, IntKind.max, IntKind.signed, IntKind.bits] using h
theorem wf_u8 {a : Int} (h : (Lit.int .u8 a).wf = true) : 0 ≤ a ∧ a ≤ 255 := by
  simpa [Lit.wf, IntKind.min, IntKind.max, IntKind.signed, IntKind.bits] using h

section
open Go.ChangeShapes Go.WideShapes Go.ChangeAt Go.Deep
variable {H : Type} {enc : TypeId × Value → H} {w : World} {base : Nat} {spare : Nat → Bool} {held : Bool}
theorem cells_fate : Try.prog.cellsOf 39 = 1 := by kernel_rfl

/-- a list of fates reads as the sectors that they name -/
theorem rd_of_fates {fuel : Nat} {v : Value} {x : DataW H × List MemPlace} (h : DataW.trod enc Try.prog w base spare held fuel 23 [v] = some x) :
    ∃ (A : Option Addr) (len cap : Nat) (zs : List Int), v = .slice A len cap ∧ Rd w A len (zs.map (Value.int .i64)) ∧ (∀ z ∈ zs, -9223372036854775808 ≤ z ∧ z ≤ 9223372036854775807) ∧ len ≤ cap ∧ cap ≤ maxLen := by
  obtain ⟨A, len, cap, rfl, hl, hm, hr⟩ := rd_of_structs (P := Try.prog) Try.underlying23 Try.underlying39 (by kernel_rfl) (by kernel_rfl) (by decide) h
  rcases Nat.eq_zero_or_pos len with h0 | h0
  · subst h0; exact ⟨A, 0, cap, [], rfl, Rd.nil _ _, by simp, hl, hm⟩
  · obtain ⟨g, off, hA, hg, hk⟩ := hr h0
    obtain ⟨zs, hzl, hz⟩ := list_of (p := fun k (z : Int) => w.cell? ⟨g, off + k, none⟩ = some (.int .i64 z) ∧ (Lit.int .i64 z).wf = true) len (fun k hkl => by
      obtain ⟨n, hf⟩ := hk k hkl
      obtain ⟨u, y, hc, ht⟩ := hf 0 _ rfl
      obtain ⟨z, hu, _, hw⟩ := DataW.trod_int Try.underlying3 ht
      injection hu with hu _
      subst hu
      exact ⟨z, by simpa using hc, hw⟩)
    refine ⟨A, len, cap, zs, rfl, ⟨by simpa using hzl, fun _ => ⟨g, off, hA, fun j v hv => ?_⟩⟩, fun z hz' => ?_, hl, hm⟩
    · rw [List.getElem?_map] at hv
      obtain ⟨z, hzj, rfl⟩ := Option.map_eq_some_iff.1 hv
      exact (hz j z hzj).1
    · obtain ⟨j, hj⟩ := List.mem_iff_getElem?.1 hz'
      exact wf_i64 (hz j z hj).2

theorem rd_of_dos {fuel : Nat} {v : Value} {x : DataW H × List MemPlace} (h : DataW.trod enc Try.prog w base spare held fuel 22 [v] = some x) :
    ∃ (A : Option Addr) (len cap : Nat) (xs : List DoR), v = .slice A len cap ∧ RdDo w A len xs ∧ len ≤ cap ∧ cap ≤ maxLen := by
  obtain ⟨A, len, cap, rfl, hl, hm, hr⟩ := rd_of_structs (P := Try.prog) Try.underlying22 Try.underlying31 (by kernel_rfl) (by kernel_rfl) (by decide) h
  rcases Nat.eq_zero_or_pos len with h0 | h0
  · subst h0; exact ⟨A, 0, cap, [], rfl, ⟨rfl, fun h => absurd h (by omega), by simp⟩, hl, hm⟩
  · obtain ⟨g, off, hA, hg, hk⟩ := hr h0
    obtain ⟨xs, hxl, hx⟩ := list_of (p := fun k (x : DoR) => DoAt w g off k x ∧ x.ok ∧ Rd w x.fa x.fn (x.fl.map (Value.int .i64))) len (fun k hkl => by
      obtain ⟨n, hf⟩ := hk k hkl
      obtain ⟨u0, y0, hc0, ht0⟩ := hf 0 _ rfl
      obtain ⟨u1, y1, hc1, ht1⟩ := hf 1 _ rfl
      obtain ⟨u2, y2, hc2, ht2⟩ := hf 2 _ rfl
      obtain ⟨u3, y3, hc3, ht3⟩ := hf 3 _ rfl
      obtain ⟨u4, y4, hc4, ht4⟩ := hf 4 _ rfl
      obtain ⟨z0, e0, _, w0⟩ := DataW.trod_int Try.underlying3 ht0
      obtain ⟨z1, e1, _, w1⟩ := DataW.trod_int Try.underlying3 ht1
      obtain ⟨z2, e2, _, w2⟩ := DataW.trod_int Try.underlying3 ht2
      obtain ⟨z3, e3, _, w3⟩ := DataW.trod_int Try.underlying5 ht3
      obtain ⟨fa, fn, fc, fl, rfl, hfr, _, hfl, hfm⟩ := rd_of_fates ht4
      injection e0 with e0 _; injection e1 with e1 _; injection e2 with e2 _; injection e3 with e3 _
      subst e0; subst e1; subst e2; subst e3
      exact ⟨⟨z0, z1, z2, z3, fa, fn, fc, fl⟩, ⟨hc0, hc1, hc2, hc3, hc4⟩, ⟨wf_i64 w0, wf_i64 w1, wf_i64 w2, wf_u8 w3, by show fn ≤ maxLen; omega⟩, hfr⟩)
    exact ⟨A, len, cap, xs, rfl, ⟨hxl, fun _ => ⟨g, off, hA, hg, fun k x h => (hx k x h).1⟩, fun k x h => (hx k x h).2⟩, hl, hm⟩
end
end Go.Proofs.Ytgmkibckbbbhkaa
