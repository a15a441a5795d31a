/- peatbanklaw15.NodeGets: the walk. -/
import Derived.Test.YtfoldjnmknaklaaGreatNdAw
import Derived.Test.YtfoldjnmknaklaaGreatBgN
import Derived.Test.YtfoldjnmknaklaaGreatNdRc
import Derived.Test.YtfoldjnmknaklaaGreatBytesL
import Derived.Test.YtfoldjnmknaklaaGreatBytesO
namespace Go.Proofs.YtfoldjnmknaklaaGreat
open Go.RowKit

theorem get_form {l : List Nat} (hz : ∀ z ∈ l, z < 256) : ∃ (M : Nd) (E : Int), M.ok ∧ M.ents.length ≤ 20 ∧ M.keys.length ≤ 20 ∧ M.kids.length ≤ 20 ∧
    ∀ w e w', GetP w l e w' → ∃ ev kv cv, e = .returned (.tuple #[.agg #[.bool M.leaf, ev, kv, cv], .int .i64 E]) ∧ NdH w' w.heap.size M ev kv cv ∧ Mod Nn w w' := by
  by_cases h : isNd l
  · have hl := nd_right h.2.2.1
    exact ⟨ndOf l, 0, ndUp_ok h.1 hz h.2.1 (Nat.le_refl _), by omega, by omega, by omega, fun w e w' hg => by
      rcases hg with ⟨_, ev, kv, cv, h1, h2, h3⟩ | ⟨h1, _⟩
      · exact ⟨ev, kv, cv, h1, h2, h3⟩
      · exact (h1 h).elim⟩
  · exact ⟨⟨false, [], [], []⟩, 4, no_ok false, Nat.zero_le _, Nat.zero_le _, Nat.zero_le _, fun w e w' hg => by
      rcases hg with ⟨h1, _⟩ | ⟨_, h1, h3⟩
      · exact (h h1).elim
      · exact ⟨_, _, _, h1, ⟨own_nil _ _ _ _, own_nil _ _ _ _, own_nil _ _ _ _⟩, h3⟩⟩
def two2 {α : Type} (a b : List α) : Nat → List α := fun j => match j with | 0 => a | 1 => b | _ => []
theorem two_rows {w : World} {e : TypeId} {s b0 b1 : Nat} {r0 r1 : Row} {Y0 Y1 : List Value} (h0 : w.ownsRow b0 e s r0.v r0.n Y0) (h1 : w.ownsRow b1 e s r1.v r1.n Y1) : RowsY w e s [r0, r1] (two2 Y0 Y1) := fun j r hj => by
  match j, hj with
  | 0, hj => injection hj with hj; subst hj; exact own_base h0 (fun _ _ => Nat.zero_le _)
  | 1, hj => injection hj with hj; subst hj; exact own_base h1 (fun _ _ => Nat.zero_le _)
  | j + 2, hj => simp at hj
theorem two_apt {r0 r1 : Row} (h : ∀ g, r0.v.ownBlock = some g → r1.v.ownBlock = some g → False) : AptR [r0, r1] := fun i j r q g hi hj hg hq => by
  match i, j, hi, hj with
  | 0, 0, _, _ => rfl
  | 1, 1, _, _ => rfl
  | 0, 1, hi, hj => injection hi with hi; injection hj with hj; subst hi; subst hj; exact (h g hg hq).elim
  | 1, 0, hi, hj => injection hi with hi; injection hj with hj; subst hi; subst hj; exact (h g hq hg).elim
  | i + 2, _, hi, _ => simp at hi
  | _, j + 2, _, hj => simp at hj
theorem two_all {r0 r1 : Row} {Q : Row → Prop} (h0 : Q r0) (h1 : Q r1) : ∀ (j : Nat) (r : Row), ([r0, r1] : List Row)[j]? = some r → Q r := fun j r hj => by
  match j, hj with
  | 0, hj => injection hj with hj; subst hj; exact h0
  | 1, hj => injection hj with hj; subst hj; exact h1
  | j + 2, hj => simp at hj
theorem two_bks {r0 r1 : Row} {g : Nat} (h : Bks [r0, r1] g) : r0.v.ownBlock = some g ∨ r1.v.ownBlock = some g := by
  obtain ⟨j, r, hj, hg⟩ := h
  match j, hj with
  | 0, hj => injection hj with hj; subst hj; exact .inl hg
  | 1, hj => injection hj with hj; subst hj; exact .inr hg
  | j + 2, hj => simp at hj
theorem NdH.mod {w w' : World} {base : Nat} {N : Nd} {ev kv cv : Value} {S : Nat → Prop} (h : NdH w base N ev kv cv) (hm : Mod S w w') (hS : ∀ g, base ≤ g → g < w.heap.size → ¬ S g) : NdH w' base N ev kv cv :=
  ⟨own_mod h.e hm (fun g hg => hS g (own_ge h.e g hg) (own_blk_lt h.e hg)), own_mod h.k hm (fun g hg => hS g (own_ge h.k g hg) (own_blk_lt h.k hg)), own_mod h.c hm (fun g hg => hS g (own_ge h.c g hg) (own_blk_lt h.c hg))⟩
theorem NdH.nn {w w' : World} {base : Nat} {N : Nd} {ev kv cv : Value} (h : NdH w base N ev kv cv) (hm : Mod Nn w w') : NdH w' base N ev kv cv := h.mod hm (fun _ _ _ f => f)
/-- two nodes, each alone in a list, the lists in a row: their rows lie apart -/
theorem apartN2 {w : World} {M : Nd} {B B1 B2 b1 b2 cc : Nat} {A1 K1 C1 A2 K2 C2 : Option Addr} {a1 k1 c1 a2 k2 c2 : Nat} (hok : M.ents.length ≤ 20 ∧ M.keys.length ≤ 20 ∧ M.kids.length ≤ 20)
    (hB : Blk w B 22 #[.slice (some ⟨B1, 0, none⟩) 1 1, .slice (some ⟨B2, 0, none⟩) 1 1])
    (hB1 : Blk w B1 32 #[.bool M.leaf, .slice A1 M.ents.length a1, .slice K1 M.keys.length k1, .slice C1 M.kids.length c1]) (hB2 : Blk w B2 32 #[.bool M.leaf, .slice A2 M.ents.length a2, .slice K2 M.keys.length k2, .slice C2 M.kids.length c2])
    (h1 : NdH w b1 M (.slice A1 M.ents.length a1) (.slice K1 M.keys.length k1) (.slice C1 M.kids.length c1)) (h2 : NdH w b2 M (.slice A2 M.ents.length a2) (.slice K2 M.keys.length k2) (.slice C2 M.kids.length c2))
    (hne : B1 ≠ B2) (he : ∀ g, Of A1 g → ¬ Of A2 g) (hk : ∀ g, Of K1 g → ¬ Of K2 g) (hc : ∀ g, Of C1 g → ¬ Of C2 g) :
    Calls Tryz.prog 26 #[.slice (some ⟨B, 0, none⟩) 2 cc] w fun e w' => e = .returned (.bool true) ∧ Mod (fun g => b1 ≤ g ∨ b2 ≤ g ∨ g = B1 ∨ g = B2) w w' := by
  have hr : Rd w (some ⟨B, 0, none⟩) 2 (([⟨some ⟨B1, 0, none⟩, 1, 1⟩, ⟨some ⟨B2, 0, none⟩, 1, 1⟩] : List Row).map Row.v) := Rd.of_blk0 hB rfl
  have own1 : w.ownsRow 0 32 4 (.slice (some ⟨B1, 0, none⟩) 1 1) 1 (NRow.cells ⟨M.leaf, ⟨A1, M.ents.length, a1⟩, ⟨K1, M.keys.length, k1⟩, ⟨C1, M.kids.length, c1⟩⟩) := own_of_blkS hB1 (Nat.zero_le _) rfl (by decide) (Nat.le_refl _) rfl
  have own2 : w.ownsRow 0 32 4 (.slice (some ⟨B2, 0, none⟩) 1 1) 1 (NRow.cells ⟨M.leaf, ⟨A2, M.ents.length, a2⟩, ⟨K2, M.keys.length, k2⟩, ⟨C2, M.kids.length, c2⟩⟩) := own_of_blkS hB2 (Nat.zero_le _) rfl (by decide) (Nat.le_refl _) rfl
  have hN : RowsY w 32 4 [⟨some ⟨B1, 0, none⟩, 1, 1⟩, ⟨some ⟨B2, 0, none⟩, 1, 1⟩] (fun j => flat NRow.cells (two2 [⟨M.leaf, ⟨A1, M.ents.length, a1⟩, ⟨K1, M.keys.length, k1⟩, ⟨C1, M.kids.length, c1⟩⟩] [⟨M.leaf, ⟨A2, M.ents.length, a2⟩, ⟨K2, M.keys.length, k2⟩, ⟨C2, M.kids.length, c2⟩⟩] j)) := fun j r hj => by
    match j, hj with
    | 0, hj => injection hj with hj; subst hj; show w.ownsRow 0 32 4 (.slice (some ⟨B1, 0, none⟩) 1 1) 1 (flat NRow.cells [_]); rw [flat_one]; exact own1
    | 1, hj => injection hj with hj; subst hj; show w.ownsRow 0 32 4 (.slice (some ⟨B2, 0, none⟩) 1 1) 1 (flat NRow.cells [_]); rw [flat_one]; exact own2
    | j + 2, hj => simp at hj
  have key := apartN_any (c0 := cc) (NS := two2 [⟨M.leaf, ⟨A1, M.ents.length, a1⟩, ⟨K1, M.keys.length, k1⟩, ⟨C1, M.kids.length, c1⟩⟩] [⟨M.leaf, ⟨A2, M.ents.length, a2⟩, ⟨K2, M.keys.length, k2⟩, ⟨C2, M.kids.length, c2⟩⟩]) hr hN
    (two_apt (fun g hg hq => by injection hg with hg; injection hq with hq; exact hne (hg.trans hq.symm)))
    (YI := two2 _ _) (YK := two2 _ _) (YE := two2 _ _)
    (two_rows (r0 := ⟨C1, M.kids.length, c1⟩) (r1 := ⟨C2, M.kids.length, c2⟩) h1.c h2.c) (two_rows (r0 := ⟨K1, M.keys.length, k1⟩) (r1 := ⟨K2, M.keys.length, k2⟩) h1.k h2.k) (two_rows (r0 := ⟨A1, M.ents.length, a1⟩) (r1 := ⟨A2, M.ents.length, a2⟩) h1.e h2.e)
    (two_apt (r0 := ⟨C1, M.kids.length, c1⟩) (r1 := ⟨C2, M.kids.length, c2⟩) (fun g hg hq => hc g (own_of hg) (own_of hq))) (two_apt (r0 := ⟨K1, M.keys.length, k1⟩) (r1 := ⟨K2, M.keys.length, k2⟩) (fun g hg hq => hk g (own_of hg) (own_of hq))) (two_apt (r0 := ⟨A1, M.ents.length, a1⟩) (r1 := ⟨A2, M.ents.length, a2⟩) (fun g hg hq => he g (own_of hg) (own_of hq)))
    (by omega) (fun k hk => by
      match k, hk with
      | 0, _ => exact Nat.zero_le _
      | 1, _ => show 1 ≤ 400; omega
      | 2, _ => show 2 ≤ 400; omega
      | k + 3, hk => omega)
    (fun j r hj => by
      match j, hj with
      | 0, hj => injection hj with hj; subst hj; exact ⟨rfl, by show 1 ≤ 10000; omega⟩
      | 1, hj => injection hj with hj; subst hj; exact ⟨rfl, by show 1 ≤ 10000; omega⟩
      | j + 2, hj => simp at hj)
    (two_all (r0 := ⟨C1, M.kids.length, c1⟩) (r1 := ⟨C2, M.kids.length, c2⟩) (Q := fun r => r.n ≤ 1099511627776) (by show M.kids.length ≤ _; omega) (by show M.kids.length ≤ _; omega)) (two_all (r0 := ⟨K1, M.keys.length, k1⟩) (r1 := ⟨K2, M.keys.length, k2⟩) (Q := fun r => r.n ≤ 1099511627776) (by show M.keys.length ≤ _; omega) (by show M.keys.length ≤ _; omega)) (two_all (r0 := ⟨A1, M.ents.length, a1⟩) (r1 := ⟨A2, M.ents.length, a2⟩) (Q := fun r => r.n ≤ 1099511627776) (by show M.ents.length ≤ _; omega) (by show M.ents.length ≤ _; omega))
  refine key.mono fun e w' ⟨h1', hm⟩ => ⟨h1', hm.mono (fun g _ hg => ?_)⟩
  rcases hg with hg | hg | hg | hg
  · rcases two_bks (r0 := ⟨C1, M.kids.length, c1⟩) (r1 := ⟨C2, M.kids.length, c2⟩) hg with h | h
    · exact .inl (own_ge h1.c g h)
    · exact .inr (.inl (own_ge h2.c g h))
  · rcases two_bks (r0 := ⟨K1, M.keys.length, k1⟩) (r1 := ⟨K2, M.keys.length, k2⟩) hg with h | h
    · exact .inl (own_ge h1.k g h)
    · exact .inr (.inl (own_ge h2.k g h))
  · rcases two_bks (r0 := ⟨A1, M.ents.length, a1⟩) (r1 := ⟨A2, M.ents.length, a2⟩) hg with h | h
    · exact .inl (own_ge h1.e g h)
    · exact .inr (.inl (own_ge h2.e g h))
  · rcases two_bks hg with h | h
    · injection h with h; exact .inr (.inr (.inl h.symm))
    · injection h with h; exact .inr (.inr (.inr h.symm))
end Go.Proofs.YtfoldjnmknaklaaGreat
