/- Slices with room: append within the capacity; a block that is filled, known whole. No program is named. -/
import Derived.Test.YtjndcgpfikngaaaKit5
import Derived.Deep.DeepAppendRoom
namespace Go.Proofs.Ytjndcgpfikngaaa
open Go.RowKit

section
variable {P : Program} {w w' : World} {g : Nat}
theorem own_of_blk {e : TypeId} {cur : Array Value} {base n cap : Nat} {xs : List Value} (h : Blk w g e cur) (hb : base ≤ g) (hs : cur.size = cap) (hcap : cap ≤ maxLen) (hn : n ≤ cap) (hx : cur.toList.take n = xs) :
    w.ownsRow base e 1 (.slice (some ⟨g, 0, none⟩) n cap) n xs :=
  ⟨by rw [← hx, List.length_take, Array.length_toList, hs]; omega, .inr ⟨g, cap, cur, rfl, hb, h, hn, hcap, by omega, by rw [Nat.mul_one]; exact hx⟩⟩
/-- a row that fills its block is the block -/
theorem blk_of_own {e : TypeId} {base cap : Nat} {xs : List Value} (h : w.ownsRow base e 1 (.slice (some ⟨g, 0, none⟩) cap cap) cap xs) : Blk w g e xs.toArray := by
  rcases h.2 with ⟨h0, _⟩ | ⟨g', cap', cur, hv, _, hg, _, _, hcs, ht⟩
  · cases h0
  · injection hv with hv _ hc
    injection hv with hv; injection hv with hv _ _
    subst hv; subst hc
    have : cur = xs.toArray := by
      rw [← ht, ← hcs, List.take_of_length_le (by simp)]
    rw [← this]; exact hg
theorem run_append_spare_rd (base : Nat) (t ty e : TypeId) (z : Value) (size bytes : Nat) (ht : P.underlying t = some (.slice e))
    (hi : (P.info? e).map (fun i => (i.zero, i.size, i.bytes)) = some (some z, size, bytes))
    (n cap : Nat) (xs : List Value) (hown : w.ownsRow base e size (.slice (some ⟨g, 0, none⟩) n cap) n xs)
    (A : Option Addr) (m c : Nat) (news : List Value) (hr : RdC w A m size news) (h1 : ∀ u ∈ news, u.oneCell' = true) (hroom : n + m ≤ cap) :
    ∃ w', (Builtin.append_ #[t, t] ty #[.slice (some ⟨g, 0, none⟩) n cap, .slice A m c]).run P w = .ok (.slice (some ⟨g, 0, none⟩) (n + m) cap) w' ∧
      w'.ownsRow base e size (.slice (some ⟨g, 0, none⟩) (n + m) cap) (n + m) (xs ++ news) ∧ w.grownBy w' (some g) := by
  obtain ⟨i, hi, hz, hs, hby⟩ := info_parts hi
  by_cases hA : ∃ ad, A = some ad
  · obtain ⟨ad, rfl⟩ := hA
    have hcells : ∀ j u, news[j]? = some u → w.cell? (ad.add j) = some u := by
      intro j u hu
      rcases Nat.eq_zero_or_pos m with h0 | h0
      · have := hr.1; rw [h0, Nat.zero_mul] at this
        rw [List.eq_nil_of_length_eq_zero this] at hu; simp at hu
      · obtain ⟨g, off, h, hc⟩ := hr.2 h0
        injection h with h; subst h
        have hadd : (⟨g, off, none⟩ : Addr).add j = ⟨g, off + j, none⟩ := by unfold Addr.add; split <;> simp_all
        rw [hadd]; exact hc j u hu
    exact run_append_own_spare (P := P) w base t ty e i size ht hi hs g n cap xs hown ad m c news hr.1 hcells h1 hroom
  · have hA' : A = none := by cases A with | none => rfl | some a => exact absurd ⟨a, rfl⟩ hA
    subst hA'
    have hm : m = 0 := by
      rcases Nat.eq_zero_or_pos m with h0 | h0
      · exact h0
      · obtain ⟨_, _, h, _⟩ := hr.2 h0; cases h
    subst hm
    have hn : news = [] := List.eq_nil_of_length_eq_zero (by simpa using hr.1)
    subst hn
    refine ⟨w, ?_, by simpa using hown, World.grownBy.refl w _⟩
    simp only [Nat.add_zero] at hroom
    simp [Builtin.append_, run_underlying ht, sizeOf, typeInfo, hi, Builtin.lenOf, Builtin.firstCells, hroom, storeCells]

variable {ops : Array Oper} {rest : List Oper} {o : Oper} {a : Act} {Q : Exit → Act → World → Prop}
theorem wpList_append_spare_rd (t : TypeId) (s x : Operand) (hg : Region.wanted o (yielded ops a.tmps) = true) (ho : o.op = .call { callee := .builtin .append, args := #[s, x], argTypes := #[t, t] })
    (base : Nat) (e : TypeId) (z : Value) (size bytes : Nat) (ht : P.underlying t = some (.slice e))
    (hi : (P.info? e).map (fun i => (i.zero, i.size, i.bytes)) = some (some z, size, bytes))
    (n cap : Nat) (xs : List Value) (hs : a.eval s = .slice (some ⟨g, 0, none⟩) n cap) (hown : w.ownsRow base e size (.slice (some ⟨g, 0, none⟩) n cap) n xs)
    (A : Option Addr) (m c : Nat) (news : List Value) (hx : a.eval x = .slice A m c) (hr : RdC w A m size news) (h1 : ∀ u ∈ news, u.oneCell' = true) (hroom : n + m ≤ cap)
    (hK : ∀ w', w'.ownsRow base e size (.slice (some ⟨g, 0, none⟩) (n + m) cap) (n + m) (xs ++ news) → w.grownBy w' (some g) → wpList P ops Q rest (a.put o.dst (.slice (some ⟨g, 0, none⟩) (n + m) cap)) w') :
    wpList P ops Q (o :: rest) a w := by
  obtain ⟨w', h2, h3, h4⟩ := run_append_spare_rd (P := P) base t o.type e z size bytes ht hi n cap xs hown A m c news hr h1 hroom
  refine wpList_val hg (v := .slice (some ⟨g, 0, none⟩) (n + m) cap) (w1 := w') ?_ (hK w' h3 h4)
  simp [execOp, ho, resolve, invoke, builtin, hs, hx, h2, Result.andThen]
end
end Go.Proofs.Ytjndcgpfikngaaa
