/- A region that draws its order, by a plan in any order: (k, true) takes operation k, which reads, ahead of all that stay; (k, false): operation k comes up alone. -/
import Derived.Test.YtjndcgpfikngaaaKit6
namespace Go.Proofs.Ytjndcgpfikngaaa
open Go.RowKit

def planC (md : Region.Mode) (ops : Array Oper) : List (Nat × Bool) → Array Bool → Bool
  | [], L => (Region.ready md ops L) == []
  | (k, true) :: ps, L => Region.free md ops L k && (Region.ready md ops L).contains k && planC md ops ps (L.setIfInBounds k true)
  | (k, false) :: ps, L => (Region.ready md ops L) == [k] && planC md ops ps (L.setIfInBounds k true)

section
variable {P : Program} {ops : Array Oper} {Q : Exit → Act → World → Prop} {S : World → Prop} {w : World} {a : Act} {o : Oper} {ps : List (Nat × Bool)} {k : Nat}

def wpPlC (P : Program) (ops : Array Oper) (Q : Exit → Act → World → Prop) (S : World → Prop) : List (Nat × Bool) → Act → World → Prop
  | [], a, w => Q .normal a w
  | (k, true) :: ps, a, w => ∃ o, ops[k]? = some o ∧ ∃ v, YieldsIf P ops S o v a ∧ wpPlC P ops Q S ps (a.put o.dst v) w
  | (k, false) :: ps, a, w => ∃ o, ops[k]? = some o ∧ ((Region.wanted o (yielded ops a.tmps) = true ∧ o.wp P a w (fun a' w' => S w' ∧ wpPlC P ops Q S ps a' w') Q) ∨ (Region.wanted o (yielded ops a.tmps) = false ∧ wpPlC P ops Q S ps (a.put o.dst undef) w))

theorem wpAnyH_planC {md : Region.Mode} (hs : Region.noSelect ops = true) (hQ : ∀ c a d v w, Q (.panic c) (Act.put a d v) w → Q (.panic c) a w) :
    ∀ (ps : List (Nat × Bool)) (L : Array Bool) (a : Act) (w : World), S w → planC md ops ps L = true → wpPlC P ops Q S ps a w → wpAnyH P md ops Q S ps.length L a w
  | [], L, a, w, _, hB, h => by
    simp only [planC, beq_iff_eq] at hB
    exact ⟨hB, h⟩
  | (k, true) :: ps, L, a, w, hS, hB, h => by
    simp only [planC, Bool.and_eq_true] at hB
    obtain ⟨o, h0, v, hy, hK⟩ := h
    exact wpAnyH_take h0 hs hB.1.1 hB.1.2 (fun c a w => hQ c a o.dst v w) hy hS (wpAnyH_planC hs hQ ps _ _ _ hS hB.2 hK)
  | (k, false) :: ps, L, a, w, hS, hB, h => by
    simp only [planC, Bool.and_eq_true, beq_iff_eq] at hB
    obtain ⟨o, h0, h⟩ := h
    refine wpAnyH_all hB.1 (by simp) (fun i hi => ?_)
    simp only [List.mem_singleton] at hi
    subst hi
    unfold wpOp
    simp only [h0]
    rcases h with ⟨hw, h⟩ | ⟨hw, h⟩
    · rw [if_pos hw]
      exact .inl (Oper.wp_mono (fun a' w' h' => ⟨h'.1, wpAnyH_planC hs hQ ps _ a' w' h'.1 hB.2 h'.2⟩) h)
    · rw [if_neg (by rw [hw]; exact Bool.false_ne_true)]
      exact ⟨hS, wpAnyH_planC hs hQ ps _ _ w hS hB.2 h⟩

theorem wp_region_planC {id : Nat} {l : List Oper} (S : World → Prop) (ps : List (Nat × Bool)) (hm : P.follows .mixedOrders = true) (hB : (Region.noSelect l.toArray && planC .any l.toArray ps (Array.replicate l.length false) && (ps.length == l.length)) = true)
    (hS : S w.drew) (h : wpPlC P l.toArray (NoP Q) S ps a w.drew) : (Code.region id l.toArray true).wp P Q a w := by
  simp only [Bool.and_eq_true, beq_iff_eq] at hB
  refine Code.wp_mono NoP.imp (wp_region_held (S := S) hm ?_)
  have := wpAnyH_planC (md := .any) (Q := NoP Q) hB.1.1 (fun _ _ _ _ _ h => h) ps _ a w.drew hS hB.1.2 h
  rw [hB.2] at this
  simpa using this

/-! ### the steps -/
theorem pc_nil (h : Q .normal a w) : wpPlC P ops (NoP Q) S [] a w := h
theorem pc_pure (ho : ops[k]? = some o) (hg : Region.wanted o (yielded ops a.tmps) = true) (h : ∀ K : Act → Prop, (∀ a', wpPlC P ops Q S ps a' w → K a') → ∃ v, (∀ w', (execOp a.eval o).run P w' = .ok (.value v) w') ∧ K (a.put o.dst v)) : wpPlC P ops Q S ((k, true) :: ps) a w := by
  obtain ⟨v, h1, h2⟩ := h _ (fun _ h => h)
  exact ⟨o, ho, v, .inl ⟨hg, fun w' _ => h1 w'⟩, h2⟩
/-- a load, a lookup ..: the equation is laid -/
theorem pc_take (v : Value) (ho : ops[k]? = some o) (hg : Region.wanted o (yielded ops a.tmps) = true) (hrun : ∀ w', S w' → (execOp a.eval o).run P w' = .ok (.value v) w')
    (h : ∀ K : Act → Prop, (∀ a', wpPlC P ops Q S ps a' w → K a') → K (a.put o.dst v)) : wpPlC P ops Q S ((k, true) :: ps) a w :=
  ⟨o, ho, v, .inl ⟨hg, hrun⟩, h (fun a' => wpPlC P ops Q S ps a' w) (fun _ h => h)⟩
theorem pc_skip (ho : ops[k]? = some o) (hg : Region.wanted o (yielded ops a.tmps) = false) (h : ∀ K : Act → Prop, (∀ a', wpPlC P ops Q S ps a' w → K a') → K (a.put o.dst undef)) : wpPlC P ops Q S ((k, true) :: ps) a w :=
  ⟨o, ho, undef, .inr ⟨hg, rfl⟩, h (fun a' => wpPlC P ops Q S ps a' w) (fun _ h => h)⟩
theorem pc_skipD (ho : ops[k]? = some o) (hg : Region.wanted o (yielded ops a.tmps) = false) (h : ∀ K : Act → Prop, (∀ a', wpPlC P ops Q S ps a' w → K a') → K (a.put o.dst undef)) : wpPlC P ops Q S ((k, false) :: ps) a w :=
  ⟨o, ho, .inr ⟨hg, h (fun a' => wpPlC P ops Q S ps a' w) (fun _ h => h)⟩⟩
theorem pc_val {v : Value} {w1 : World} (ho : ops[k]? = some o) (hg : Region.wanted o (yielded ops a.tmps) = true) (hrun : (execOp a.eval o).run P w = .ok (.value v) w1) (hS : S w1)
    (h : ∀ K : Act → Prop, (∀ a', wpPlC P ops Q S ps a' w1 → K a') → K (a.put o.dst v)) : wpPlC P ops Q S ((k, false) :: ps) a w :=
  ⟨o, ho, .inl ⟨hg, by unfold Oper.wp; rw [hrun]; exact ⟨hS, h (fun a' => wpPlC P ops Q S ps a' w1) (fun _ h => h)⟩⟩⟩
/-- one that reads, and comes up alone -/
theorem pc_only (ho : ops[k]? = some o) (hg : Region.wanted o (yielded ops a.tmps) = true) (hS : S w) (h : ∀ K : Act → Prop, (∀ a', wpPlC P ops Q S ps a' w → K a') → ∃ v, (execOp a.eval o).run P w = .ok (.value v) w ∧ K (a.put o.dst v)) : wpPlC P ops Q S ((k, false) :: ps) a w := by
  obtain ⟨v, h1, h2⟩ := h _ (fun _ h => h)
  exact ⟨o, ho, .inl ⟨hg, by unfold Oper.wp; rw [h1]; exact ⟨hS, h2⟩⟩⟩
theorem pc_unit {w1 : World} (ho : ops[k]? = some o) (hg : Region.wanted o (yielded ops a.tmps) = true) (hrun : (execOp a.eval o).run P w = .ok .skip w1) (hS : S w1)
    (h : ∀ K : Act → Prop, (∀ a', wpPlC P ops Q S ps a' w1 → K a') → K (a.put o.dst undef)) : wpPlC P ops Q S ((k, false) :: ps) a w :=
  ⟨o, ho, .inl ⟨hg, by unfold Oper.wp; rw [hrun]; exact ⟨hS, h (fun a' => wpPlC P ops Q S ps a' w1) (fun _ h => h)⟩⟩⟩
/-- a call of a function of the program -/
theorem pc_call (ho : ops[k]? = some o) (hg : Region.wanted o (yielded ops a.tmps) = true)
    (h : ∀ K : FuncId → Array Value → (Value → Act) → Prop, (∀ f args (c : Value → Act), (Calls P f args w fun e w1 => ∃ v, e = .returned v ∧ S w1 ∧ wpPlC P ops Q S ps (c v) w1) → K f args c) →
      ∃ f args, (execOp a.eval o).run P w = .ok (.enter f args) w ∧ K f args (fun v => a.put o.dst v)) : wpPlC P ops Q S ((k, false) :: ps) a w := by
  obtain ⟨f, args, hrun, hc⟩ := h _ (fun _ _ _ h => h)
  exact ⟨o, ho, .inl ⟨hg, by
    unfold Oper.wp; rw [hrun]
    exact hc.mono fun e w1 hr => by obtain ⟨v, rfl, h1, h2⟩ := hr; exact ⟨h1, h2⟩⟩⟩
end
end Go.Proofs.Ytjndcgpfikngaaa
