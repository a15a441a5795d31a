/- A region that draws its order, by a plan: each operation in the order of the text; one that reads is taken first, one that acts comes up alone. -/
import Derived.Test.YtjndcgpfikngaaaKit5
import Derived.OrdersHeld
namespace Go.Proofs.Ytjndcgpfikngaaa
open Go.RowKit

def listedTo (n k : Nat) : Array Bool := (Array.range n).map (fun i => decide (i < k))
theorem listedTo_set (n k : Nat) : (listedTo n k).setIfInBounds k true = listedTo n (k + 1) := by
  apply Array.ext_getElem?
  intro i
  simp only [listedTo, Array.getElem?_setIfInBounds, Array.getElem?_map, Array.size_map, Array.size_range, Array.getElem?_range]
  by_cases h : k = i
  · subst h; by_cases hk : k < n <;> simp [hk]
  · by_cases hi : i < n
    · have h1 : (decide (i < k)) = decide (i < k + 1) := by
        by_cases h2 : i < k
        · simp [h2]; omega
        · have : ¬ i < k + 1 := by omega
          simp [h2, this]
      simp [h, hi, h1]
    · simp [h, hi]
theorem listedTo_zero (n : Nat) : Array.replicate n false = listedTo n 0 := by
  apply Array.ext_getElem?
  intro i
  by_cases hi : i < n <;> simp [listedTo, hi]

def planB (md : Region.Mode) (ops : Array Oper) : List Bool → Nat → Bool
  | [], k => (Region.ready md ops (listedTo ops.size k)) == []
  | true :: ps, k => Region.free md ops (listedTo ops.size k) k && (Region.ready md ops (listedTo ops.size k)).contains k && planB md ops ps (k + 1)
  | false :: ps, k => (Region.ready md ops (listedTo ops.size k)) == [k] && planB md ops ps (k + 1)

section
variable {P : Program} {ops : Array Oper} {Q : Exit → Act → World → Prop} {S : World → Prop} {w : World} {a : Act} {o : Oper} {rest : List Oper} {ps : List Bool}

def wpPlan (P : Program) (ops : Array Oper) (Q : Exit → Act → World → Prop) (S : World → Prop) : List Bool → List Oper → Act → World → Prop
  | true :: ps, o :: rest, a, w => ∃ v, YieldsIf P ops S o v a ∧ wpPlan P ops Q S ps rest (a.put o.dst v) w
  | false :: ps, o :: rest, a, w => (Region.wanted o (yielded ops a.tmps) = true ∧ o.wp P a w (fun a' w' => S w' ∧ wpPlan P ops Q S ps rest a' w') Q) ∨ (Region.wanted o (yielded ops a.tmps) = false ∧ wpPlan P ops Q S ps rest (a.put o.dst undef) w)
  | [], [], a, w => Q .normal a w
  | _, _, _, _ => False

theorem wpAnyH_plan {md : Region.Mode} (hs : Region.noSelect ops = true) (hQ : ∀ c a d v w, Q (.panic c) (Act.put a d v) w → Q (.panic c) a w) :
    ∀ (ps : List Bool) (l : List Oper) (k : Nat) (a : Act) (w : World), (∀ j, l[j]? = ops[k + j]?) → S w → planB md ops ps k = true → wpPlan P ops Q S ps l a w →
      wpAnyH P md ops Q S l.length (listedTo ops.size k) a w
  | [], [], k, a, w, _, _, hB, h => by
    simp only [planB, beq_iff_eq] at hB
    exact ⟨hB, h⟩
  | [], o :: rest, k, a, w, _, _, _, h => h.elim
  | true :: ps, [], k, a, w, _, _, _, h => h.elim
  | false :: ps, [], k, a, w, _, _, _, h => h.elim
  | true :: ps, o :: rest, k, a, w, hl, hS, hB, h => by
    have h0 : ops[k]? = some o := by simpa using (hl 0).symm
    have hl' : ∀ j, rest[j]? = ops[(k + 1) + j]? := fun j => by
      have := hl (j + 1); simpa [Nat.add_assoc, Nat.add_comm 1 j] using this
    simp only [planB, Bool.and_eq_true] at hB
    obtain ⟨v, hy, hK⟩ := h
    refine wpAnyH_take h0 hs hB.1.1 hB.1.2 (fun c a w => hQ c a o.dst v w) hy hS ?_
    rw [listedTo_set]
    exact wpAnyH_plan hs hQ ps rest (k + 1) _ _ hl' hS hB.2 hK
  | false :: ps, o :: rest, k, a, w, hl, hS, hB, h => by
    have h0 : ops[k]? = some o := by simpa using (hl 0).symm
    have hl' : ∀ j, rest[j]? = ops[(k + 1) + j]? := fun j => by
      have := hl (j + 1); simpa [Nat.add_assoc, Nat.add_comm 1 j] using this
    simp only [planB, Bool.and_eq_true, beq_iff_eq] at hB
    refine wpAnyH_all hB.1 (by simp) (fun i hi => ?_)
    simp only [List.mem_singleton] at hi
    subst hi
    rw [listedTo_set]
    unfold wpOp
    simp only [h0]
    rcases h with ⟨hw, h⟩ | ⟨hw, h⟩
    · rw [if_pos hw]
      exact .inl (Oper.wp_mono (fun a' w' h' => ⟨h'.1, wpAnyH_plan hs hQ ps rest (i + 1) a' w' hl' h'.1 hB.2 h'.2⟩) h)
    · rw [if_neg (by rw [hw]; exact Bool.false_ne_true)]
      exact ⟨hS, wpAnyH_plan hs hQ ps rest (i + 1) _ w hl' hS hB.2 h⟩

/-- Q, but nothing at a panic. -/
def NoP (Q : Exit → Act → World → Prop) : Exit → Act → World → Prop
  | .panic _, _, _ => False
  | e, a, w => Q e a w
theorem NoP.imp {Q : Exit → Act → World → Prop} : ∀ (e : Exit) (a : Act) (w : World), NoP Q e a w → Q e a w := fun e a w h => by
  cases e <;> first | exact h | exact (h : False).elim
theorem wp_region_plan {id : Nat} {l : List Oper} (S : World → Prop) (ps : List Bool) (hm : P.follows .mixedOrders = true) (hB : (Region.noSelect l.toArray && planB .any l.toArray ps 0) = true)
    (hS : S w.drew) (h : wpPlan P l.toArray (NoP Q) S ps l a w.drew) : (Code.region id l.toArray true).wp P Q a w := by
  simp only [Bool.and_eq_true] at hB
  refine Code.wp_mono NoP.imp (wp_region_held (S := S) hm ?_)
  have := wpAnyH_plan (md := .any) (Q := NoP Q) hB.1 (fun _ _ _ _ _ h => h) ps l 0 a w.drew (fun j => by simp) hS hB.2 h
  rw [listedTo_zero]
  simpa using this

/-! ### the steps -/
theorem plan_nil (h : Q .normal a w) : wpPlan P ops (NoP Q) S [] [] a w := h
theorem plan_pure (hg : Region.wanted o (yielded ops a.tmps) = true) (h : ∀ K : Act → Prop, (∀ a', wpPlan P ops Q S ps rest a' w → K a') → ∃ v, (∀ w', (execOp a.eval o).run P w' = .ok (.value v) w') ∧ K (a.put o.dst v)) : wpPlan P ops Q S (true :: ps) (o :: rest) a w := by
  obtain ⟨v, h1, h2⟩ := h _ (fun _ h => h)
  exact ⟨v, .inl ⟨hg, fun w' _ => h1 w'⟩, h2⟩
theorem plan_take (v : Value) (hg : Region.wanted o (yielded ops a.tmps) = true) (hrun : ∀ w', S w' → (execOp a.eval o).run P w' = .ok (.value v) w') (h : wpPlan P ops Q S ps rest (a.put o.dst v) w) : wpPlan P ops Q S (true :: ps) (o :: rest) a w :=
  ⟨v, .inl ⟨hg, hrun⟩, h⟩
theorem plan_skip (hg : Region.wanted o (yielded ops a.tmps) = false) (h : wpPlan P ops Q S ps rest (a.put o.dst undef) w) : wpPlan P ops Q S (true :: ps) (o :: rest) a w :=
  ⟨undef, .inr ⟨hg, rfl⟩, h⟩
theorem plan_skipD (hg : Region.wanted o (yielded ops a.tmps) = false) (h : wpPlan P ops Q S ps rest (a.put o.dst undef) w) : wpPlan P ops Q S (false :: ps) (o :: rest) a w :=
  .inr ⟨hg, h⟩
theorem plan_val {v : Value} {w1 : World} (hg : Region.wanted o (yielded ops a.tmps) = true) (hrun : (execOp a.eval o).run P w = .ok (.value v) w1) (hS : S w1) (h : wpPlan P ops Q S ps rest (a.put o.dst v) w1) : wpPlan P ops Q S (false :: ps) (o :: rest) a w :=
  .inl ⟨hg, by unfold Oper.wp; rw [hrun]; exact ⟨hS, h⟩⟩
theorem plan_unit {w1 : World} (hg : Region.wanted o (yielded ops a.tmps) = true) (hrun : (execOp a.eval o).run P w = .ok .skip w1) (hS : S w1) (h : wpPlan P ops Q S ps rest (a.put o.dst undef) w1) : wpPlan P ops Q S (false :: ps) (o :: rest) a w :=
  .inl ⟨hg, by unfold Oper.wp; rw [hrun]; exact ⟨hS, h⟩⟩
/-- a call of a function of the program -/
theorem plan_call {f : FuncId} {args : Array Value} {R : Ending → World → Prop} (hg : Region.wanted o (yielded ops a.tmps) = true) (hrun : (execOp a.eval o).run P w = .ok (.enter f args) w)
    (hc : Calls P f args w R) (h : ∀ e w1, R e w1 → ∃ v, e = .returned v ∧ S w1 ∧ wpPlan P ops Q S ps rest (a.put o.dst v) w1) : wpPlan P ops Q S (false :: ps) (o :: rest) a w :=
  .inl ⟨hg, by
    unfold Oper.wp; rw [hrun]
    exact hc.mono fun e w1 hr => by obtain ⟨v, rfl, h1, h2⟩ := h e w1 hr; exact ⟨h1, h2⟩⟩
end
end Go.Proofs.Ytjndcgpfikngaaa
