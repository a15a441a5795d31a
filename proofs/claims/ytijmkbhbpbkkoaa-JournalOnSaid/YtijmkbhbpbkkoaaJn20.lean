/- Rows that lie elsewhere, listed in a row of one's own: what has been appended to a journal. -/
import Derived.Test.YtijmkbhbpbkkoaaJn17
import Derived.Test.YtijmkbhbpbkkoaaJnE
namespace Go.Proofs.Ytijmkbhbpbkkoaa
open Go.RowKit

/-- an own row (from wb on) of slices; what they read is as it was in wb -/
def RowsIn (wb w : World) (v : Value) (R : List (List Nat)) : Prop :=
  ∃ vs : List Value, w.ownsRow wb.heap.size 38 1 v R.length vs ∧ ∀ (i : Nat) (r : List Nat), R[i]? = some r → ∃ (B : Option Addr) (c : Nat), vs[i]? = some (.slice B r.length c) ∧ Rd wb B r.length (bv r)
section
variable {wb w w' : World} {v : Value} {R : List (List Nat)}
theorem RowsIn.nil (wb w : World) : RowsIn wb w (.slice none 0 0) [] := ⟨[], own_nil _ _ _ _, fun i r h => by simp at h⟩
theorem RowsIn.rd (h : RowsIn wb w v R) (hm : Mod Nn wb w) : ∃ A c, v = .slice A R.length c ∧ RdR w A R.length R := by
  obtain ⟨vs, h1, h2⟩ := h
  obtain ⟨A, c, rfl, -, -⟩ := own_form h1
  refine ⟨A, c, rfl, rfl, vs, Rd.of_own h1, fun i r hi => ?_⟩
  obtain ⟨B, c', h3, h4⟩ := h2 i r hi
  exact ⟨B, c', h3, h4.mod hm (fun _ _ f => f)⟩
theorem RowsIn.mod {S : Nat → Prop} (h : RowsIn wb w v R) (hm : Mod S w w') (hn : ∀ g, v.ownBlock = some g → ¬ S g) : RowsIn wb w' v R := by
  obtain ⟨vs, h1, h2⟩ := h
  exact ⟨vs, own_mod h1 hm hn, h2⟩
theorem RowsIn.nn (h : RowsIn wb w v R) (hm : Mod Nn w w') : RowsIn wb w' v R := h.mod hm (fun _ _ f => f)
theorem RowsIn.ge (h : RowsIn wb w v R) : ∀ g, v.ownBlock = some g → wb.heap.size ≤ g := by
  obtain ⟨vs, h1, -⟩ := h
  exact own_ge h1
theorem RowsIn.lt (h : RowsIn wb w v R) : ∀ g, v.ownBlock = some g → g < w.heap.size := fun g hg => by
  obtain ⟨vs, h1, -⟩ := h
  exact own_blk_lt h1 hg
theorem rowsin_append {vo : Value} {B : Option Addr} {c' : Nat} {d : List Nat} (h : RowsIn wb w vo R) (hd : Rd wb B d.length (bv d)) (hb : wb.heap.size ≤ w.heap.size) (hl : R.length + 1 ≤ 1000000) :
    ∃ (v' : Value) (wq : World), (Builtin.append_ #[24, 24] 24 #[vo, .slice (some ⟨w.heap.size, 0, none⟩) 1 1]).run Try.prog (w.alloc (.cells #[.slice B d.length c'] 38)) = .ok v' wq ∧
      RowsIn wb wq v' (R ++ [d]) ∧ Mod (fun g => vo.ownBlock = some g) w wq ∧ ∀ g, v'.ownBlock = some g → g < wq.heap.size ∧ (vo.ownBlock = some g ∨ w.heap.size ≤ g) := by
  obtain ⟨vs, hvs, hrs⟩ := h
  have bA := Blk.new w 38 #[.slice B d.length c']
  have mA : Mod Nn w (w.alloc (.cells #[.slice B d.length c'] 38)) := (Mod.refl Nn w).alloc _
  have hvsA := own_mod hvs mA (fun _ _ f => f)
  obtain ⟨v', wq, hap, own', gr', hob⟩ := run_append_rd (P := Try.prog) (w.alloc (.cells #[.slice B d.length c'] 38)) wb.heap.size 24 24 38 (.slice none 0 0) 1 24 Try.underlying24 (by kernel_rfl) rfl (by omega) vo R.length vs hvsA (some ⟨w.heap.size, 0, none⟩) 1 1 [.slice B d.length c'] (RdC.of_blk bA rfl) (fun u hu => by simp at hu; subst hu; rfl) (by omega) (by omega) (by rw [World.size_alloc]; omega)
  have mB : Mod (fun g => vo.ownBlock = some g) w wq := mA.nn.grown gr' (fun g hg => .inr hg)
  have hvl : vs.length = R.length := by have := hvs.1; omega
  refine ⟨v', wq, hap, ⟨vs ++ [.slice B d.length c'], ?_, fun i r hir => ?_⟩, mB, fun g hg => ⟨own_blk_lt own' hg, ?_⟩⟩
  · rw [List.length_append]; exact own'
  · rcases Nat.lt_or_ge i R.length with h1 | h1
    · rw [List.getElem?_append_left h1] at hir
      obtain ⟨A, cq, h5, h6⟩ := hrs i r hir
      exact ⟨A, cq, by rw [List.getElem?_append_left (by omega)]; exact h5, h6⟩
    · rw [List.getElem?_append_right h1] at hir
      have h2 : i - R.length = 0 := by
        have := (List.getElem?_eq_some_iff.1 hir).1
        simp at this; omega
      rw [h2] at hir
      injection hir with hir
      subst hir
      exact ⟨B, c', by rw [List.getElem?_append_right (by omega), hvl, h2]; rfl, hd⟩
  · rcases hob with h3 | h3
    · left; rw [← h3]; exact hg
    · right
      rw [h3] at hg
      injection hg with hg
      rw [World.size_alloc] at hg
      omega
end
end Go.Proofs.Ytijmkbhbpbkkoaa
