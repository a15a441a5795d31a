/- Own lemmas of several kinds, put together: Kit6, Kit7, Kit8, Kit9, Kit10, Kit12. -/
import Derived.Test.YtijmkbhbpbkkoaaGreatKitA
import Derived.OrdersHeld
import Derived.Deep.DeepAppendRoom
/- A region that draws its order, by a plan: each operation in the order of the text; one that reads is taken first, one that acts comes up alone. -/
namespace Go.Proofs.YtijmkbhbpbkkoaaGreat
open Go.RowKit

def listedTo (n k : Nat) : Array Bool := (Array.range n).map (fun i => decide (i < k))
theorem listedTo_set (n k : Nat) : (listedTo n k).setIfInBounds k true = listedTo n (k + 1) := by
  apply Array.ext_getElem?
  intro i
  simp only [listedTo, Array.getElem?_setIfInBounds, Array.getElem?_map, Array.size_map, Array.size_range, Array.getElem?_range]
  by_cases h : k = i
  · subst h; by_cases hk : k < n <;> simp [hk]
  · by_cases hi : i < n
    · have h1 : (decide (i < k)) = decide (i < k + 1) := by
        by_cases h2 : i < k
        · simp [h2]; omega
        · have : ¬ i < k + 1 := by omega
          simp [h2, this]
      simp [h, hi, h1]
    · simp [h, hi]
theorem listedTo_zero (n : Nat) : Array.replicate n false = listedTo n 0 := by
  apply Array.ext_getElem?
  intro i
  by_cases hi : i < n <;> simp [listedTo, hi]

def planB (md : Region.Mode) (ops : Array Oper) : List Bool → Nat → Bool
  | [], k => (Region.ready md ops (listedTo ops.size k)) == []
  | true :: ps, k => Region.free md ops (listedTo ops.size k) k && (Region.ready md ops (listedTo ops.size k)).contains k && planB md ops ps (k + 1)
  | false :: ps, k => (Region.ready md ops (listedTo ops.size k)) == [k] && planB md ops ps (k + 1)

section
variable {P : Program} {ops : Array Oper} {Q : Exit → Act → World → Prop} {S : World → Prop} {w : World} {a : Act} {o : Oper} {rest : List Oper} {ps : List Bool}

def wpPlan (P : Program) (ops : Array Oper) (Q : Exit → Act → World → Prop) (S : World → Prop) : List Bool → List Oper → Act → World → Prop
  | true :: ps, o :: rest, a, w => ∃ v, YieldsIf P ops S o v a ∧ wpPlan P ops Q S ps rest (a.put o.dst v) w
  | false :: ps, o :: rest, a, w => (Region.wanted o (yielded ops a.tmps) = true ∧ o.wp P a w (fun a' w' => S w' ∧ wpPlan P ops Q S ps rest a' w') Q) ∨ (Region.wanted o (yielded ops a.tmps) = false ∧ wpPlan P ops Q S ps rest (a.put o.dst undef) w)
  | [], [], a, w => Q .normal a w
  | _, _, _, _ => False

theorem wpAnyH_plan {md : Region.Mode} (hs : Region.noSelect ops = true) (hQ : ∀ c a d v w, Q (.panic c) (Act.put a d v) w → Q (.panic c) a w) :
    ∀ (ps : List Bool) (l : List Oper) (k : Nat) (a : Act) (w : World), (∀ j, l[j]? = ops[k + j]?) → S w → planB md ops ps k = true → wpPlan P ops Q S ps l a w →
      wpAnyH P md ops Q S l.length (listedTo ops.size k) a w
  | [], [], k, a, w, _, _, hB, h => by
    simp only [planB, beq_iff_eq] at hB
    exact ⟨hB, h⟩
  | [], o :: rest, k, a, w, _, _, _, h => h.elim
  | true :: ps, [], k, a, w, _, _, _, h => h.elim
  | false :: ps, [], k, a, w, _, _, _, h => h.elim
  | true :: ps, o :: rest, k, a, w, hl, hS, hB, h => by
    have h0 : ops[k]? = some o := by simpa using (hl 0).symm
    have hl' : ∀ j, rest[j]? = ops[(k + 1) + j]? := fun j => by
      have := hl (j + 1); simpa [Nat.add_assoc, Nat.add_comm 1 j] using this
    simp only [planB, Bool.and_eq_true] at hB
    obtain ⟨v, hy, hK⟩ := h
    refine wpAnyH_take h0 hs hB.1.1 hB.1.2 (fun c a w => hQ c a o.dst v w) hy hS ?_
    rw [listedTo_set]
    exact wpAnyH_plan hs hQ ps rest (k + 1) _ _ hl' hS hB.2 hK
  | false :: ps, o :: rest, k, a, w, hl, hS, hB, h => by
    have h0 : ops[k]? = some o := by simpa using (hl 0).symm
    have hl' : ∀ j, rest[j]? = ops[(k + 1) + j]? := fun j => by
      have := hl (j + 1); simpa [Nat.add_assoc, Nat.add_comm 1 j] using this
    simp only [planB, Bool.and_eq_true, beq_iff_eq] at hB
    refine wpAnyH_all hB.1 (by simp) (fun i hi => ?_)
    simp only [List.mem_singleton] at hi
    subst hi
    rw [listedTo_set]
    unfold wpOp
    simp only [h0]
    rcases h with ⟨hw, h⟩ | ⟨hw, h⟩
    · rw [if_pos hw]
      exact .inl (Oper.wp_mono (fun a' w' h' => ⟨h'.1, wpAnyH_plan hs hQ ps rest (i + 1) a' w' hl' h'.1 hB.2 h'.2⟩) h)
    · rw [if_neg (by rw [hw]; exact Bool.false_ne_true)]
      exact ⟨hS, wpAnyH_plan hs hQ ps rest (i + 1) _ w hl' hS hB.2 h⟩

/-- Q, but nothing at a panic. -/
def NoP (Q : Exit → Act → World → Prop) : Exit → Act → World → Prop
  | .panic _, _, _ => False
  | e, a, w => Q e a w
theorem NoP.imp {Q : Exit → Act → World → Prop} : ∀ (e : Exit) (a : Act) (w : World), NoP Q e a w → Q e a w := fun e a w h => by
  cases e <;> first | exact h | exact (h : False).elim
theorem wp_region_plan {id : Nat} {l : List Oper} (S : World → Prop) (ps : List Bool) (hm : P.follows .mixedOrders = true) (hB : (Region.noSelect l.toArray && planB .any l.toArray ps 0) = true)
    (hS : S w.drew) (h : wpPlan P l.toArray (NoP Q) S ps l a w.drew) : (Code.region id l.toArray true).wp P Q a w := by
  simp only [Bool.and_eq_true] at hB
  refine Code.wp_mono NoP.imp (wp_region_held (S := S) hm ?_)
  have := wpAnyH_plan (md := .any) (Q := NoP Q) hB.1 (fun _ _ _ _ _ h => h) ps l 0 a w.drew (fun j => by simp) hS hB.2 h
  rw [listedTo_zero]
  simpa using this

/-! ### the steps -/
theorem plan_nil (h : Q .normal a w) : wpPlan P ops (NoP Q) S [] [] a w := h
theorem plan_pure (hg : Region.wanted o (yielded ops a.tmps) = true) (h : ∀ K : Act → Prop, (∀ a', wpPlan P ops Q S ps rest a' w → K a') → ∃ v, (∀ w', (execOp a.eval o).run P w' = .ok (.value v) w') ∧ K (a.put o.dst v)) : wpPlan P ops Q S (true :: ps) (o :: rest) a w := by
  obtain ⟨v, h1, h2⟩ := h _ (fun _ h => h)
  exact ⟨v, .inl ⟨hg, fun w' _ => h1 w'⟩, h2⟩
theorem plan_take (v : Value) (hg : Region.wanted o (yielded ops a.tmps) = true) (hrun : ∀ w', S w' → (execOp a.eval o).run P w' = .ok (.value v) w') (h : wpPlan P ops Q S ps rest (a.put o.dst v) w) : wpPlan P ops Q S (true :: ps) (o :: rest) a w :=
  ⟨v, .inl ⟨hg, hrun⟩, h⟩
theorem plan_skip (hg : Region.wanted o (yielded ops a.tmps) = false) (h : wpPlan P ops Q S ps rest (a.put o.dst undef) w) : wpPlan P ops Q S (true :: ps) (o :: rest) a w :=
  ⟨undef, .inr ⟨hg, rfl⟩, h⟩
theorem plan_skipD (hg : Region.wanted o (yielded ops a.tmps) = false) (h : wpPlan P ops Q S ps rest (a.put o.dst undef) w) : wpPlan P ops Q S (false :: ps) (o :: rest) a w :=
  .inr ⟨hg, h⟩
theorem plan_val {v : Value} {w1 : World} (hg : Region.wanted o (yielded ops a.tmps) = true) (hrun : (execOp a.eval o).run P w = .ok (.value v) w1) (hS : S w1) (h : wpPlan P ops Q S ps rest (a.put o.dst v) w1) : wpPlan P ops Q S (false :: ps) (o :: rest) a w :=
  .inl ⟨hg, by unfold Oper.wp; rw [hrun]; exact ⟨hS, h⟩⟩
theorem plan_unit {w1 : World} (hg : Region.wanted o (yielded ops a.tmps) = true) (hrun : (execOp a.eval o).run P w = .ok .skip w1) (hS : S w1) (h : wpPlan P ops Q S ps rest (a.put o.dst undef) w1) : wpPlan P ops Q S (false :: ps) (o :: rest) a w :=
  .inl ⟨hg, by unfold Oper.wp; rw [hrun]; exact ⟨hS, h⟩⟩
/-- a call of a function of the program -/
theorem plan_call {f : FuncId} {args : Array Value} {R : Ending → World → Prop} (hg : Region.wanted o (yielded ops a.tmps) = true) (hrun : (execOp a.eval o).run P w = .ok (.enter f args) w)
    (hc : Calls P f args w R) (h : ∀ e w1, R e w1 → ∃ v, e = .returned v ∧ S w1 ∧ wpPlan P ops Q S ps rest (a.put o.dst v) w1) : wpPlan P ops Q S (false :: ps) (o :: rest) a w :=
  .inl ⟨hg, by
    unfold Oper.wp; rw [hrun]
    exact hc.mono fun e w1 hr => by obtain ⟨v, rfl, h1, h2⟩ := h e w1 hr; exact ⟨h1, h2⟩⟩
end
end Go.Proofs.YtijmkbhbpbkkoaaGreat

/- A region that draws its order, by a plan in any order: (k, true) takes operation k, which reads, ahead of all that stay; (k, false): operation k comes up alone. -/
namespace Go.Proofs.YtijmkbhbpbkkoaaGreat
open Go.RowKit

def planC (md : Region.Mode) (ops : Array Oper) : List (Nat × Bool) → Array Bool → Bool
  | [], L => (Region.ready md ops L) == []
  | (k, true) :: ps, L => Region.free md ops L k && (Region.ready md ops L).contains k && planC md ops ps (L.setIfInBounds k true)
  | (k, false) :: ps, L => (Region.ready md ops L) == [k] && planC md ops ps (L.setIfInBounds k true)

section
variable {P : Program} {ops : Array Oper} {Q : Exit → Act → World → Prop} {S : World → Prop} {w : World} {a : Act} {o : Oper} {ps : List (Nat × Bool)} {k : Nat}

def wpPlC (P : Program) (ops : Array Oper) (Q : Exit → Act → World → Prop) (S : World → Prop) : List (Nat × Bool) → Act → World → Prop
  | [], a, w => Q .normal a w
  | (k, true) :: ps, a, w => ∃ o, ops[k]? = some o ∧ ∃ v, YieldsIf P ops S o v a ∧ wpPlC P ops Q S ps (a.put o.dst v) w
  | (k, false) :: ps, a, w => ∃ o, ops[k]? = some o ∧ ((Region.wanted o (yielded ops a.tmps) = true ∧ o.wp P a w (fun a' w' => S w' ∧ wpPlC P ops Q S ps a' w') Q) ∨ (Region.wanted o (yielded ops a.tmps) = false ∧ wpPlC P ops Q S ps (a.put o.dst undef) w))

theorem wpAnyH_planC {md : Region.Mode} (hs : Region.noSelect ops = true) (hQ : ∀ c a d v w, Q (.panic c) (Act.put a d v) w → Q (.panic c) a w) :
    ∀ (ps : List (Nat × Bool)) (L : Array Bool) (a : Act) (w : World), S w → planC md ops ps L = true → wpPlC P ops Q S ps a w → wpAnyH P md ops Q S ps.length L a w
  | [], L, a, w, _, hB, h => by
    simp only [planC, beq_iff_eq] at hB
    exact ⟨hB, h⟩
  | (k, true) :: ps, L, a, w, hS, hB, h => by
    simp only [planC, Bool.and_eq_true] at hB
    obtain ⟨o, h0, v, hy, hK⟩ := h
    exact wpAnyH_take h0 hs hB.1.1 hB.1.2 (fun c a w => hQ c a o.dst v w) hy hS (wpAnyH_planC hs hQ ps _ _ _ hS hB.2 hK)
  | (k, false) :: ps, L, a, w, hS, hB, h => by
    simp only [planC, Bool.and_eq_true, beq_iff_eq] at hB
    obtain ⟨o, h0, h⟩ := h
    refine wpAnyH_all hB.1 (by simp) (fun i hi => ?_)
    simp only [List.mem_singleton] at hi
    subst hi
    unfold wpOp
    simp only [h0]
    rcases h with ⟨hw, h⟩ | ⟨hw, h⟩
    · rw [if_pos hw]
      exact .inl (Oper.wp_mono (fun a' w' h' => ⟨h'.1, wpAnyH_planC hs hQ ps _ a' w' h'.1 hB.2 h'.2⟩) h)
    · rw [if_neg (by rw [hw]; exact Bool.false_ne_true)]
      exact ⟨hS, wpAnyH_planC hs hQ ps _ _ w hS hB.2 h⟩

theorem wp_region_planC {id : Nat} {l : List Oper} (S : World → Prop) (ps : List (Nat × Bool)) (hm : P.follows .mixedOrders = true) (hB : (Region.noSelect l.toArray && planC .any l.toArray ps (Array.replicate l.length false) && (ps.length == l.length)) = true)
    (hS : S w.drew) (h : wpPlC P l.toArray (NoP Q) S ps a w.drew) : (Code.region id l.toArray true).wp P Q a w := by
  simp only [Bool.and_eq_true, beq_iff_eq] at hB
  refine Code.wp_mono NoP.imp (wp_region_held (S := S) hm ?_)
  have := wpAnyH_planC (md := .any) (Q := NoP Q) hB.1.1 (fun _ _ _ _ _ h => h) ps _ a w.drew hS hB.1.2 h
  rw [hB.2] at this
  simpa using this

/-! ### the steps -/
theorem pc_nil (h : Q .normal a w) : wpPlC P ops (NoP Q) S [] a w := h
theorem pc_pure (ho : ops[k]? = some o) (hg : Region.wanted o (yielded ops a.tmps) = true) (h : ∀ K : Act → Prop, (∀ a', wpPlC P ops Q S ps a' w → K a') → ∃ v, (∀ w', (execOp a.eval o).run P w' = .ok (.value v) w') ∧ K (a.put o.dst v)) : wpPlC P ops Q S ((k, true) :: ps) a w := by
  obtain ⟨v, h1, h2⟩ := h _ (fun _ h => h)
  exact ⟨o, ho, v, .inl ⟨hg, fun w' _ => h1 w'⟩, h2⟩
/-- a load, a lookup ..: the equation is laid -/
theorem pc_take (v : Value) (ho : ops[k]? = some o) (hg : Region.wanted o (yielded ops a.tmps) = true) (hrun : ∀ w', S w' → (execOp a.eval o).run P w' = .ok (.value v) w')
    (h : ∀ K : Act → Prop, (∀ a', wpPlC P ops Q S ps a' w → K a') → K (a.put o.dst v)) : wpPlC P ops Q S ((k, true) :: ps) a w :=
  ⟨o, ho, v, .inl ⟨hg, hrun⟩, h (fun a' => wpPlC P ops Q S ps a' w) (fun _ h => h)⟩
theorem pc_skip (ho : ops[k]? = some o) (hg : Region.wanted o (yielded ops a.tmps) = false) (h : ∀ K : Act → Prop, (∀ a', wpPlC P ops Q S ps a' w → K a') → K (a.put o.dst undef)) : wpPlC P ops Q S ((k, true) :: ps) a w :=
  ⟨o, ho, undef, .inr ⟨hg, rfl⟩, h (fun a' => wpPlC P ops Q S ps a' w) (fun _ h => h)⟩
theorem pc_skipD (ho : ops[k]? = some o) (hg : Region.wanted o (yielded ops a.tmps) = false) (h : ∀ K : Act → Prop, (∀ a', wpPlC P ops Q S ps a' w → K a') → K (a.put o.dst undef)) : wpPlC P ops Q S ((k, false) :: ps) a w :=
  ⟨o, ho, .inr ⟨hg, h (fun a' => wpPlC P ops Q S ps a' w) (fun _ h => h)⟩⟩
theorem pc_val {v : Value} {w1 : World} (ho : ops[k]? = some o) (hg : Region.wanted o (yielded ops a.tmps) = true) (hrun : (execOp a.eval o).run P w = .ok (.value v) w1) (hS : S w1)
    (h : ∀ K : Act → Prop, (∀ a', wpPlC P ops Q S ps a' w1 → K a') → K (a.put o.dst v)) : wpPlC P ops Q S ((k, false) :: ps) a w :=
  ⟨o, ho, .inl ⟨hg, by unfold Oper.wp; rw [hrun]; exact ⟨hS, h (fun a' => wpPlC P ops Q S ps a' w1) (fun _ h => h)⟩⟩⟩
/-- one that reads, and comes up alone -/
theorem pc_only (ho : ops[k]? = some o) (hg : Region.wanted o (yielded ops a.tmps) = true) (hS : S w) (h : ∀ K : Act → Prop, (∀ a', wpPlC P ops Q S ps a' w → K a') → ∃ v, (execOp a.eval o).run P w = .ok (.value v) w ∧ K (a.put o.dst v)) : wpPlC P ops Q S ((k, false) :: ps) a w := by
  obtain ⟨v, h1, h2⟩ := h _ (fun _ h => h)
  exact ⟨o, ho, .inl ⟨hg, by unfold Oper.wp; rw [h1]; exact ⟨hS, h2⟩⟩⟩
theorem pc_unit {w1 : World} (ho : ops[k]? = some o) (hg : Region.wanted o (yielded ops a.tmps) = true) (hrun : (execOp a.eval o).run P w = .ok .skip w1) (hS : S w1)
    (h : ∀ K : Act → Prop, (∀ a', wpPlC P ops Q S ps a' w1 → K a') → K (a.put o.dst undef)) : wpPlC P ops Q S ((k, false) :: ps) a w :=
  ⟨o, ho, .inl ⟨hg, by unfold Oper.wp; rw [hrun]; exact ⟨hS, h (fun a' => wpPlC P ops Q S ps a' w1) (fun _ h => h)⟩⟩⟩
/-- a call of a function of the program -/
theorem pc_call (ho : ops[k]? = some o) (hg : Region.wanted o (yielded ops a.tmps) = true)
    (h : ∀ K : FuncId → Array Value → (Value → Act) → Prop, (∀ f args (c : Value → Act), (Calls P f args w fun e w1 => ∃ v, e = .returned v ∧ S w1 ∧ wpPlC P ops Q S ps (c v) w1) → K f args c) →
      ∃ f args, (execOp a.eval o).run P w = .ok (.enter f args) w ∧ K f args (fun v => a.put o.dst v)) : wpPlC P ops Q S ((k, false) :: ps) a w := by
  obtain ⟨f, args, hrun, hc⟩ := h _ (fun _ _ _ h => h)
  exact ⟨o, ho, .inl ⟨hg, by
    unfold Oper.wp; rw [hrun]
    exact hc.mono fun e w1 hr => by obtain ⟨v, rfl, h1, h2⟩ := hr; exact ⟨h1, h2⟩⟩⟩
end
end Go.Proofs.YtijmkbhbpbkkoaaGreat

/- Slices with room: append within the capacity; a block that is filled, known whole. No program is named. -/
namespace Go.Proofs.YtijmkbhbpbkkoaaGreat
open Go.RowKit

section
variable {P : Program} {w w' : World} {g : Nat}
theorem own_of_blk {e : TypeId} {cur : Array Value} {base n cap : Nat} {xs : List Value} (h : Blk w g e cur) (hb : base ≤ g) (hs : cur.size = cap) (hcap : cap ≤ maxLen) (hn : n ≤ cap) (hx : cur.toList.take n = xs) :
    w.ownsRow base e 1 (.slice (some ⟨g, 0, none⟩) n cap) n xs :=
  ⟨by rw [← hx, List.length_take, Array.length_toList, hs]; omega, .inr ⟨g, cap, cur, rfl, hb, h, hn, hcap, by omega, by rw [Nat.mul_one]; exact hx⟩⟩
/-- a row that fills its block is the block -/
theorem blk_of_own {e : TypeId} {base cap : Nat} {xs : List Value} (h : w.ownsRow base e 1 (.slice (some ⟨g, 0, none⟩) cap cap) cap xs) : Blk w g e xs.toArray := by
  rcases h.2 with ⟨h0, _⟩ | ⟨g', cap', cur, hv, _, hg, _, _, hcs, ht⟩
  · cases h0
  · injection hv with hv _ hc
    injection hv with hv; injection hv with hv _ _
    subst hv; subst hc
    have : cur = xs.toArray := by
      rw [← ht, ← hcs, List.take_of_length_le (by simp)]
    rw [← this]; exact hg
theorem run_append_spare_rd (base : Nat) (t ty e : TypeId) (z : Value) (size bytes : Nat) (ht : P.underlying t = some (.slice e))
    (hi : (P.info? e).map (fun i => (i.zero, i.size, i.bytes)) = some (some z, size, bytes))
    (n cap : Nat) (xs : List Value) (hown : w.ownsRow base e size (.slice (some ⟨g, 0, none⟩) n cap) n xs)
    (A : Option Addr) (m c : Nat) (news : List Value) (hr : RdC w A m size news) (h1 : ∀ u ∈ news, u.oneCell' = true) (hroom : n + m ≤ cap) :
    ∃ w', (Builtin.append_ #[t, t] ty #[.slice (some ⟨g, 0, none⟩) n cap, .slice A m c]).run P w = .ok (.slice (some ⟨g, 0, none⟩) (n + m) cap) w' ∧
      w'.ownsRow base e size (.slice (some ⟨g, 0, none⟩) (n + m) cap) (n + m) (xs ++ news) ∧ w.grownBy w' (some g) := by
  obtain ⟨i, hi, hz, hs, hby⟩ := info_parts hi
  by_cases hA : ∃ ad, A = some ad
  · obtain ⟨ad, rfl⟩ := hA
    have hcells : ∀ j u, news[j]? = some u → w.cell? (ad.add j) = some u := by
      intro j u hu
      rcases Nat.eq_zero_or_pos m with h0 | h0
      · have := hr.1; rw [h0, Nat.zero_mul] at this
        rw [List.eq_nil_of_length_eq_zero this] at hu; simp at hu
      · obtain ⟨g, off, h, hc⟩ := hr.2 h0
        injection h with h; subst h
        have hadd : (⟨g, off, none⟩ : Addr).add j = ⟨g, off + j, none⟩ := by unfold Addr.add; split <;> simp_all
        rw [hadd]; exact hc j u hu
    exact run_append_own_spare (P := P) w base t ty e i size ht hi hs g n cap xs hown ad m c news hr.1 hcells h1 hroom
  · have hA' : A = none := by cases A with | none => rfl | some a => exact absurd ⟨a, rfl⟩ hA
    subst hA'
    have hm : m = 0 := by
      rcases Nat.eq_zero_or_pos m with h0 | h0
      · exact h0
      · obtain ⟨_, _, h, _⟩ := hr.2 h0; cases h
    subst hm
    have hn : news = [] := List.eq_nil_of_length_eq_zero (by simpa using hr.1)
    subst hn
    refine ⟨w, ?_, by simpa using hown, World.grownBy.refl w _⟩
    simp only [Nat.add_zero] at hroom
    simp [Builtin.append_, run_underlying ht, sizeOf, typeInfo, hi, Builtin.lenOf, Builtin.firstCells, hroom, storeCells]

variable {ops : Array Oper} {rest : List Oper} {o : Oper} {a : Act} {Q : Exit → Act → World → Prop}
theorem wpList_append_spare_rd (t : TypeId) (s x : Operand) (hg : Region.wanted o (yielded ops a.tmps) = true) (ho : o.op = .call { callee := .builtin .append, args := #[s, x], argTypes := #[t, t] })
    (base : Nat) (e : TypeId) (z : Value) (size bytes : Nat) (ht : P.underlying t = some (.slice e))
    (hi : (P.info? e).map (fun i => (i.zero, i.size, i.bytes)) = some (some z, size, bytes))
    (n cap : Nat) (xs : List Value) (hs : a.eval s = .slice (some ⟨g, 0, none⟩) n cap) (hown : w.ownsRow base e size (.slice (some ⟨g, 0, none⟩) n cap) n xs)
    (A : Option Addr) (m c : Nat) (news : List Value) (hx : a.eval x = .slice A m c) (hr : RdC w A m size news) (h1 : ∀ u ∈ news, u.oneCell' = true) (hroom : n + m ≤ cap)
    (hK : ∀ w', w'.ownsRow base e size (.slice (some ⟨g, 0, none⟩) (n + m) cap) (n + m) (xs ++ news) → w.grownBy w' (some g) → wpList P ops Q rest (a.put o.dst (.slice (some ⟨g, 0, none⟩) (n + m) cap)) w') :
    wpList P ops Q (o :: rest) a w := by
  obtain ⟨w', h2, h3, h4⟩ := run_append_spare_rd (P := P) base t o.type e z size bytes ht hi n cap xs hown A m c news hr h1 hroom
  refine wpList_val hg (v := .slice (some ⟨g, 0, none⟩) (n + m) cap) (w1 := w') ?_ (hK w' h3 h4)
  simp [execOp, ho, resolve, invoke, builtin, hs, hx, h2, Result.andThen]
end
end Go.Proofs.YtijmkbhbpbkkoaaGreat

/- Parts of slices: what a part reads as; min of three. No program is named. -/
namespace Go.Proofs.YtijmkbhbpbkkoaaGreat
open Go.RowKit

/-- where a part of a slice begins -/
def subA (A : Option Addr) (c l s : Nat) : Option Addr := if c = l then A else A.map (·.add (l * s))
theorem subA_zero (A : Option Addr) (c s : Nat) : subA A c 0 s = A := by
  unfold subA
  split
  · rfl
  · cases A with
    | none => rfl
    | some a => simp [Addr.add]
section
variable {P : Program} {w w' : World} {A : Option Addr} {n c : Nat} {xs : List Value} {S : Nat → Prop}
theorem of_sub {l s g : Nat} (h : Of (subA A c l s) g) : Of A g := by
  obtain ⟨a, ha, rfl⟩ := h
  unfold subA at ha
  split at ha
  · exact ⟨a, ha, rfl⟩
  · cases A with
    | none => cases ha
    | some b => injection ha with ha; exact ⟨b, rfl, by rw [← ha]; unfold Addr.add; split <;> rfl⟩
theorem Rd.sub (h : Rd w A n xs) (l k : Nat) (hk : l + k ≤ n) (hc : n ≤ c) : Rd w (subA A c l 1) k ((xs.drop l).take k) := by
  have hL : xs.length = n := h.1
  refine ⟨by simp; omega, fun hp => ?_⟩
  obtain ⟨g, off, hA, hcl⟩ := h.2 (by omega)
  refine ⟨g, off + l, ?_, fun j v hv => ?_⟩
  · unfold subA
    rw [if_neg (by omega), hA]
    simp [Addr.add]
  · rw [List.getElem?_take] at hv
    split at hv
    · rw [List.getElem?_drop] at hv
      rw [Nat.add_assoc]
      exact hcl (l + j) v hv
    · cases hv
theorem Rd.pre (h : Rd w A n xs) (k : Nat) (hk : k ≤ n) (hc : n ≤ c) : Rd w (subA A c 0 1) k (xs.take k) := by
  have := h.sub (c := c) 0 k (by omega) hc
  simpa using this
theorem Rd.post (h : Rd w A n xs) (l : Nat) (hk : l ≤ n) (hc : n ≤ c) : Rd w (subA A c l 1) (n - l) (xs.drop l) := by
  have := h.sub (c := c) l (n - l) (by omega) hc
  rwa [List.take_of_length_le (by simp [h.1])] at this

variable {ops : Array Oper} {rest : List Oper} {o : Oper} {a : Act} {Q : Exit → Act → World → Prop}
theorem exec_sub_lh (t : TypeId) (x lo hi : Operand) (ho : o.op = .slice t x (some lo) (some hi) none) (e : TypeId) (size : Nat) (ht : P.underlying t = some (.slice e)) (hi' : (P.info? e).map (·.size) = some size)
    {l h : Nat} (hx : a.eval x = .slice A n c) (hl : a.eval lo = .int .i64 (l : Int)) (hh : a.eval hi = .int .i64 (h : Int)) (h1 : l ≤ h) (h2 : h ≤ c) :
    (execOp a.eval o).run P w = .ok (.value (.slice (subA A c l size) (h - l) (c - l))) w := by
  have he : P.elem t = e := by simp [Program.elem, ht]
  have ht' : P.underlying t = some (.slice (P.elem t)) := by rw [he]; exact ht
  obtain ⟨i, hii, hs⟩ := Option.map_eq_some_iff.1 hi'
  simp only [execOp, ho, Option.map, hx, hl, hh]
  simp [run_sliceAt_slice w t _ _ _ _ ht', run_slice_lh w t A n c ht' .i64 .i64 (l : Int) (h : Int) (by omega) (by omega) (by omega), he, sizeOf, typeInfo, hii, hs, Result.andThen, sliced, subA]
theorem exec_sub_h (t : TypeId) (x hi : Operand) (ho : o.op = .slice t x none (some hi) none) (e : TypeId) (size : Nat) (ht : P.underlying t = some (.slice e)) (hi' : (P.info? e).map (·.size) = some size)
    {h : Nat} (hx : a.eval x = .slice A n c) (hh : a.eval hi = .int .i64 (h : Int)) (h2 : h ≤ c) :
    (execOp a.eval o).run P w = .ok (.value (.slice (subA A c 0 size) h c)) w := by
  have he : P.elem t = e := by simp [Program.elem, ht]
  have ht' : P.underlying t = some (.slice (P.elem t)) := by rw [he]; exact ht
  obtain ⟨i, hii, hs⟩ := Option.map_eq_some_iff.1 hi'
  simp only [execOp, ho, Option.map, hx, hh]
  simp [run_sliceAt_slice w t _ _ _ _ ht', run_slice_h w t A n c ht' .i64 (h : Int) (by omega) (by omega), he, sizeOf, typeInfo, hii, hs, Result.andThen, sliced, subA]
theorem exec_sub_l (t : TypeId) (x lo : Operand) (ho : o.op = .slice t x (some lo) none none) (e : TypeId) (size : Nat) (ht : P.underlying t = some (.slice e)) (hi' : (P.info? e).map (·.size) = some size)
    {l : Nat} (hx : a.eval x = .slice A n c) (hl : a.eval lo = .int .i64 (l : Int)) (h1 : l ≤ n) :
    (execOp a.eval o).run P w = .ok (.value (.slice (subA A c l size) (n - l) (c - l))) w := by
  have he : P.elem t = e := by simp [Program.elem, ht]
  have ht' : P.underlying t = some (.slice (P.elem t)) := by rw [he]; exact ht
  obtain ⟨i, hii, hs⟩ := Option.map_eq_some_iff.1 hi'
  simp only [execOp, ho, Option.map, hx, hl]
  simp [run_sliceAt_slice w t _ _ _ _ ht', run_slice_l w t A n c ht' .i64 (l : Int) (by omega) (by omega), he, sizeOf, typeInfo, hii, hs, Result.andThen, sliced, subA]
theorem wpList_sub_lh (t : TypeId) (x lo hi : Operand) (hg : Region.wanted o (yielded ops a.tmps) = true) (ho : o.op = .slice t x (some lo) (some hi) none) (e : TypeId) (size : Nat) (ht : P.underlying t = some (.slice e)) (hi' : (P.info? e).map (·.size) = some size)
    (l h : Nat) (hx : a.eval x = .slice A n c) (hl : a.eval lo = .int .i64 (l : Int)) (hh : a.eval hi = .int .i64 (h : Int)) (h1 : l ≤ h) (h2 : h ≤ c)
    (hK : wpList P ops Q rest (a.put o.dst (.slice (subA A c l size) (h - l) (c - l))) w) : wpList P ops Q (o :: rest) a w :=
  wpList_val hg (exec_sub_lh t x lo hi ho e size ht hi' hx hl hh h1 h2) hK
theorem wpList_sub_h (t : TypeId) (x hi : Operand) (hg : Region.wanted o (yielded ops a.tmps) = true) (ho : o.op = .slice t x none (some hi) none) (e : TypeId) (size : Nat) (ht : P.underlying t = some (.slice e)) (hi' : (P.info? e).map (·.size) = some size)
    (h : Nat) (hx : a.eval x = .slice A n c) (hh : a.eval hi = .int .i64 (h : Int)) (h2 : h ≤ c)
    (hK : wpList P ops Q rest (a.put o.dst (.slice (subA A c 0 size) h c)) w) : wpList P ops Q (o :: rest) a w :=
  wpList_val hg (exec_sub_h t x hi ho e size ht hi' hx hh h2) hK
theorem wpList_sub_l (t : TypeId) (x lo : Operand) (hg : Region.wanted o (yielded ops a.tmps) = true) (ho : o.op = .slice t x (some lo) none none) (e : TypeId) (size : Nat) (ht : P.underlying t = some (.slice e)) (hi' : (P.info? e).map (·.size) = some size)
    (l : Nat) (hx : a.eval x = .slice A n c) (hl : a.eval lo = .int .i64 (l : Int)) (h1 : l ≤ n)
    (hK : wpList P ops Q rest (a.put o.dst (.slice (subA A c l size) (n - l) (c - l))) w) : wpList P ops Q (o :: rest) a w :=
  wpList_val hg (exec_sub_l t x lo ho e size ht hi' hx hl h1) hK
theorem cell_far {w : World} {p q : Addr} {v : Value} (h : p.block ≠ q.block) : (w.setCell p v).cell? q = w.cell? q :=
  World.cell?_setCell_other _ _ _ _ (fun e => h (congrArg Addr.block e))
theorem exec_store1 (T : TypeId) (x y : Operand) (ho : o.op = .store T x y) {ad : Addr} {v u : Value} (hx : a.eval x = .pointer (some ad)) (hy : a.eval y = v) (hc : w.cell? ad = some u) (hf : w.frozen? ad = false) (hs0 : ad.spot = none) (hv : v.oneCell' = true) (hvc : v.cells = #[v])
    (hi : (P.info? T).map (·.size) = some 1) : (execOp a.eval o).run P w = .ok .skip (w.setCell ad v) := by
  obtain ⟨i, hii, hs⟩ := Option.map_eq_some_iff.1 hi
  have h0 : ad.add 0 = ad := by simp [Addr.add]
  simp [execOp, ho, hx, hy, Instr.storeAt, Instr.sureAddr, storeVar, sizeOf, typeInfo, hii, hs, hvc, storeCells, h0, Result.andThen]
  have := run_store P w ad v .plain (by simpa using hv)
  rw [this]
  simp [hc, hf]
theorem wpList_min3 (t : TypeId) (x y z : Operand) (hg : Region.wanted o (yielded ops a.tmps) = true) (ho : o.op = .call { callee := .builtin .min, args := #[x, y, z], argTypes := #[t, t, t] })
    (i j k q : Int) (hx : a.eval x = .int .i64 i) (hy : a.eval y = .int .i64 j) (hz : a.eval z = .int .i64 k) (hq : q = min i (min j k))
    (hK : wpList P ops Q rest (a.put o.dst (.int .i64 q)) w) : wpList P ops Q (o :: rest) a w := by
  have hr := run_min_int3 (P := P) (w := w) #[t, t, t] o.type .i64 .i64 .i64 i j k
  have he : (if k < (if j < i then j else i) then k else (if j < i then j else i)) = q := by rw [hq]; split <;> split <;> omega
  rw [he] at hr
  refine wpList_val hg (v := .int .i64 q) (w1 := w) ?_ hK
  simp [execOp, ho, resolve, invoke, builtin, hx, hy, hz, hr, Result.andThen]
end
end Go.Proofs.YtijmkbhbpbkkoaaGreat

/- Rows of elements of several cells: a list of elements as cells; a row that the call owns, cell by cell. No program is named. -/
namespace Go.Proofs.YtijmkbhbpbkkoaaGreat
open Go.RowKit

/-- a list of elements as cells -/
def flat {α : Type} (enc : α → List Value) (L : List α) : List Value := L.flatMap enc
section
variable {α : Type} {enc : α → List Value} {s : Nat}
theorem flat_nil : flat enc ([] : List α) = [] := rfl
theorem flat_cons (x : α) (L : List α) : flat enc (x :: L) = enc x ++ flat enc L := List.flatMap_cons ..
theorem flat_append (L M : List α) : flat enc (L ++ M) = flat enc L ++ flat enc M := List.flatMap_append ..
theorem flat_one (x : α) : flat enc [x] = enc x := by simp [flat]
theorem flat_len (he : ∀ x, (enc x).length = s) : ∀ L : List α, (flat enc L).length = L.length * s
  | [] => by simp [flat]
  | x :: L => by rw [flat_cons, List.length_append, he, flat_len he L, List.length_cons, Nat.add_mul]; omega
theorem flat_at (he : ∀ x, (enc x).length = s) : ∀ (L : List α) (i j : Nat), j < s → (flat enc L)[i * s + j]? = (L[i]?).bind (fun x => (enc x)[j]?)
  | [], i, j, _ => by simp [flat]
  | x :: L, 0, j, hj => by rw [flat_cons, List.getElem?_append_left (by rw [he]; omega)]; simp
  | x :: L, i + 1, j, hj => by
    rw [flat_cons, List.getElem?_append_right (by rw [he, Nat.add_mul]; omega), he, show (i + 1) * s + j - s = i * s + j from by rw [Nat.add_mul]; omega, flat_at he L i j hj]
    simp
theorem flat_take (he : ∀ x, (enc x).length = s) : ∀ (L : List α) (k : Nat), (flat enc L).take (k * s) = flat enc (L.take k)
  | [], k => by simp [flat]
  | x :: L, 0 => by simp [flat]
  | x :: L, k + 1 => by
    rw [flat_cons, List.take_succ_cons, flat_cons, List.take_append, he, List.take_of_length_le (by rw [he, Nat.add_mul]; omega), show (k + 1) * s - s = k * s from by rw [Nat.add_mul]; omega, flat_take he L k]
theorem flat_drop (he : ∀ x, (enc x).length = s) : ∀ (L : List α) (k : Nat), (flat enc L).drop (k * s) = flat enc (L.drop k)
  | [], k => by simp [flat]
  | x :: L, 0 => by simp
  | x :: L, k + 1 => by
    rw [flat_cons, List.drop_succ_cons, List.drop_append, he, List.drop_of_length_le (by rw [he, Nat.add_mul]; omega), show (k + 1) * s - s = k * s from by rw [Nat.add_mul]; omega, flat_drop he L k, List.nil_append]
theorem flat_set (he : ∀ x, (enc x).length = s) : ∀ (L : List α) (i j : Nat) (x y : α) (v : Value), L[i]? = some x → j < s → enc y = (enc x).set j v → (flat enc L).set (i * s + j) v = flat enc (L.set i y)
  | [], i, j, x, y, v, h, _, _ => by simp at h
  | z :: L, 0, j, x, y, v, h, hj, hy => by
    simp only [List.getElem?_cons_zero, Option.some.injEq] at h; subst h
    rw [flat_cons, List.set_cons_zero, flat_cons, List.set_append_left _ _ (by rw [he]; omega), hy, Nat.zero_mul, Nat.zero_add]
  | z :: L, i + 1, j, x, y, v, h, hj, hy => by
    simp only [List.getElem?_cons_succ] at h
    rw [flat_cons, List.set_cons_succ, flat_cons, List.set_append_right _ _ (by rw [he, Nat.add_mul]; omega), he, show (i + 1) * s + j - s = i * s + j from by rw [Nat.add_mul]; omega, flat_set he L i j x y v h hj hy]
end

section
variable {w w' : World} {base g n cap size : Nat} {e : TypeId} {xs : List Value}
theorem own_parts (h : w.ownsRow base e size (.slice (some ⟨g, 0, none⟩) n cap) n xs) :
    ∃ cur : Array Value, base ≤ g ∧ Blk w g e cur ∧ n ≤ cap ∧ cap ≤ maxLen ∧ cur.size = cap * size ∧ cur.toList.take (n * size) = xs := by
  rcases h.2 with ⟨h0, _⟩ | ⟨g', cap', cur, hv, h1, h2, h3, h4, h5, h6⟩
  · cases h0
  · injection hv with hv _ hc
    injection hv with hv; injection hv with hv _ _
    subst hv; subst hc
    exact ⟨cur, h1, h2, h3, h4, h5, h6⟩
theorem own_cell (h : w.ownsRow base e size (.slice (some ⟨g, 0, none⟩) n cap) n xs) {i : Nat} {v : Value} (hv : xs[i]? = some v) : w.cell? ⟨g, i, none⟩ = some v := by
  obtain ⟨cur, _, hb, _, _, _, ht⟩ := own_parts h
  rw [← ht, List.getElem?_take] at hv
  split at hv
  · rw [hb.cell i]; simpa using hv
  · cases hv
theorem own_free (h : w.ownsRow base e size (.slice (some ⟨g, 0, none⟩) n cap) n xs) (i : Nat) : w.frozen? ⟨g, i, none⟩ = false := by
  obtain ⟨cur, _, hb, _⟩ := own_parts h
  exact hb.frozen i
theorem own_lt (h : w.ownsRow base e size (.slice (some ⟨g, 0, none⟩) n cap) n xs) : g < w.heap.size := by
  obtain ⟨cur, _, hb, _⟩ := own_parts h
  exact hb.lt
theorem own_set (h : w.ownsRow base e size (.slice (some ⟨g, 0, none⟩) n cap) n xs) (i : Nat) (v : Value) : (w.setCell ⟨g, i, none⟩ v).ownsRow base e size (.slice (some ⟨g, 0, none⟩) n cap) n (xs.set i v) := by
  obtain ⟨cur, h1, h2, h3, h4, h5, h6⟩ := own_parts h
  refine ⟨by rw [List.length_set]; exact h.1, .inr ⟨g, cap, cur.setIfInBounds i v, rfl, h1, h2.set_ i v, h3, h4, by rw [Array.size_setIfInBounds]; exact h5, ?_⟩⟩
  rw [Array.toList_setIfInBounds, List.take_set, h6]
theorem own_setRow (h : w.ownsRow base e size (.slice (some ⟨g, 0, none⟩) n cap) n xs) {u : Addr} (hu : u.block ≠ g) (v : Value) : (w.setCell u v).ownsRow base e size (.slice (some ⟨g, 0, none⟩) n cap) n xs :=
  own_mod h ((Mod.refl (At u.block) w).setCell (.inr rfl) v) (fun k hk e => by injection hk with hk; exact hu (e.symm.trans hk.symm))
theorem own_rdC {A : Option Addr} {c : Nat} (h : w.ownsRow base e size (.slice A n c) n xs) : RdC w A n size xs := by
  refine ⟨h.1, fun hn => ?_⟩
  obtain ⟨g, cap, cur, hv, _, hb, hnc, _, hcs, ht⟩ := own_blk h hn
  injection hv with hA _ _
  refine ⟨g, 0, hA, fun j v hj => ?_⟩
  rw [Nat.zero_add, hb.cell j]
  rw [← ht, List.getElem?_take] at hj
  split at hj
  · simpa using hj
  · cases hj
end
end Go.Proofs.YtijmkbhbpbkkoaaGreat

/- A region that draws its order, by a plan, where an operation at the end writes what was read before: what the reads need must hold only till operation c has come up. No program is named. -/
namespace Go.Proofs.YtijmkbhbpbkkoaaGreat
open Go.RowKit

section
variable {P : Program} {ops : Array Oper} {Q : Exit → Act → World → Prop} {md : Region.Mode} {S : World → Prop} {c : Nat}

/-- whoever has come up, what it waits for has come up -/
def Closed (md : Region.Mode) (ops : Array Oper) (L : Array Bool) : Prop :=
  ∀ (k : Nat) (o : Oper), ops[k]? = some o → L.getD k false = true → ∀ e ∈ o.after, Region.binds md e = true → L.getD e.on false = true
/-- does k wait for i? -/
def waits (md : Region.Mode) (ops : Array Oper) (i : Nat) : Nat → Nat → Bool
  | 0, _ => false
  | n + 1, k => match ops[k]? with
    | none => false
    | some o => o.after.any (fun e => Region.binds md e && (e.on == i || waits md ops i n e.on))
theorem waits_spec {i : Nat} {L : Array Bool} (hL : Closed md ops L) : ∀ (n k : Nat), waits md ops i n k = true → L.getD k false = true → L.getD i false = true
  | 0, _, h, _ => by cases h
  | n + 1, k, h, hk => by
    unfold waits at h
    cases ho : ops[k]? with
    | none => rw [ho] at h; cases h
    | some o =>
      rw [ho] at h
      simp only [Array.any_eq_true', Bool.and_eq_true, Bool.or_eq_true, beq_iff_eq] at h
      obtain ⟨e, he, hb, h⟩ := h
      have h1 := hL k o ho hk e he hb
      rcases h with h | h
      · rw [← h]; exact h1
      · exact waits_spec hL n _ h h1
theorem Closed.set {i : Nat} {L : Array Bool} (hL : Closed md ops L) (hi : i ∈ Region.ready md ops L) : Closed md ops (L.setIfInBounds i true) := by
  intro k o hk hl e he hb
  by_cases hik : i = k
  · subst hik
    obtain ⟨_, o', ho', hall⟩ := mem_ready.1 hi
    rw [ho'] at hk; injection hk with hk; subst hk
    exact getD_set_true (hall e he hb)
  · rw [getD_set_ne false hik] at hl
    exact getD_set_true (hL k o hk hl e he hb)
theorem Closed.start (n : Nat) : Closed md ops (Array.replicate n false) := by
  intro k o _ hl
  exfalso
  rw [Array.getD_eq_getD_getElem?, Array.getElem?_replicate] at hl
  split at hl <;> simp at hl

def wpT (P : Program) (md : Region.Mode) (ops : Array Oper) (Q : Exit → Act → World → Prop) (S : World → Prop) (c : Nat) : Nat → Array Bool → Act → World → Prop
  | 0, L, a, w => Region.ready md ops L = [] ∧ Q .normal a w
  | n + 1, L, a, w => (Region.ready md ops L = [] → Q .normal a w) ∧
    ∀ i ∈ Region.ready md ops L, wpOp P ops Q i (fun a' w' => ((L.setIfInBounds i true).getD c false = false → S w') ∧ wpT P md ops Q S c n (L.setIfInBounds i true) a' w') a w
theorem wpAny_of_T : ∀ (n : Nat) (L : Array Bool) (a : Act) (w : World), wpT P md ops Q S c n L a w → wpAny P md ops Q n L a w
  | 0, _, _, _, h => h
  | n + 1, L, a, w, h => ⟨h.1, fun i hi => wpOp_mono (fun a' w' h' => wpAny_of_T n _ a' w' h'.2) (h.2 i hi)⟩
theorem getD_two {L : Array Bool} {i : Nat} (h : L.getD i true = false) : L.getD i false = false := by
  rcases Nat.lt_or_ge i L.size with h' | h'
  · simp [h'] at h ⊢; exact h
  · simp [Array.getElem?_eq_none h'] at h

theorem wpT_first {T : World → Prop} {i : Nat} {oi : Oper} {v : Value} (hi : ops[i]? = some oi) (hsel : ∀ (j : Nat) (o : Oper) cs b, ops[j]? = some o → o.op ≠ .select cs b)
    (hQ : ∀ c a w, Q (.panic c) (a.put oi.dst v) w → Q (.panic c) a w) (hic : i ≠ c)
    (hT : ∀ (L : Array Bool) (w : World), Closed md ops L → L.getD i true = false → (L.getD c false = false → S w) → T w) :
    ∀ (n : Nat) (L : Array Bool) (a : Act) (w : World), (∀ j oj, ops[j]? = some oj → j ≠ i → L.getD j true = false → (∀ e ∈ oj.after, Region.binds md e = true → e.on ≠ i) → oi.apart ops oj = true) →
      i ∈ Region.ready md ops L → Closed md ops L → YieldsIf P ops T oi v a → (L.getD c false = false → S w) →
      wpT P md ops Q S c n (L.setIfInBounds i true) (a.put oi.dst v) w → wpT P md ops Q S c (n + 1) L a w := by
  intro n
  induction n with
  | zero =>
    intro L a w _ hr hC hy hS H
    refine ⟨fun h => (by rw [h] at hr; cases hr), fun j hj => ?_⟩
    by_cases hji : j = i
    · subst hji
      exact hy.wpOp hi (hT L w hC (mem_ready.1 hr).1 hS) ⟨fun h => hS (by rw [← getD_set_ne false hic]; exact h), H⟩
    · have := ready_mono hj hji
      rw [H.1] at this
      cases this
  | succ n ih =>
    intro L a w hfree hr hC hy hS H
    refine ⟨fun h => (by rw [h] at hr; cases hr), fun j hj => ?_⟩
    by_cases hji : j = i
    · subst hji
      exact hy.wpOp hi (hT L w hC (mem_ready.1 hr).1 hS) ⟨fun h => hS (by rw [← getD_set_ne false hic]; exact h), H⟩
    · have h1 := H.2 j (ready_mono hj hji)
      obtain ⟨hjun, oj, hoj, hall⟩ := mem_ready.1 hj
      have hiun := getD_two (mem_ready.1 hr).1
      have hnot : ∀ e ∈ oj.after, Region.binds md e = true → e.on ≠ i := fun e he hb heq => by
        have h2 := hall e he hb
        rw [heq, hiun] at h2
        cases h2
      have h2 := wpOp_putIf hoj (hfree j oj hoj hji hjun hnot) (fun cs b => hsel i oi cs b hi) (fun cs b => hsel j oj cs b hoj) hQ hy h1
      have hfree' : ∀ k ok, ops[k]? = some ok → k ≠ i → (L.setIfInBounds j true).getD k true = false → (∀ e ∈ ok.after, Region.binds md e = true → e.on ≠ i) → oi.apart ops ok = true := fun k ok hk hki hun hno => by
        refine hfree k ok hk hki ?_ hno
        by_cases hjk : j = k
        · subst hjk; exact hjun
        · rw [getD_set_ne true hjk] at hun; exact hun
      have hcomm : (L.setIfInBounds i true).setIfInBounds j true = (L.setIfInBounds j true).setIfInBounds i true := (Array.setIfInBounds_comm _ _ (Ne.symm hji))
      refine wpOp_mono (fun a' w' h3 => ?_) h2
      have hS' : (L.setIfInBounds j true).getD c false = false → S w' := fun h => h3.2.1 (by rw [hcomm, getD_set_ne false hic]; exact h)
      refine ⟨hS', ih (L.setIfInBounds j true) a' w' hfree' (ready_mono hr (Ne.symm hji)) (hC.set hj) h3.1 hS' ?_⟩
      rw [← hcomm]
      exact h3.2.2

/-! ### the plan -/
/-- 0: it reads nothing; 1: it reads, and c waits for it; 2: it comes up alone -/
def planT (md : Region.Mode) (ops : Array Oper) (c : Nat) : List (Nat × Nat) → Array Bool → Bool
  | [], L => (Region.ready md ops L) == []
  | (k, 0) :: ps, L => Region.free md ops L k && (Region.ready md ops L).contains k && (k != c) && planT md ops c ps (L.setIfInBounds k true)
  | (k, 1) :: ps, L => Region.free md ops L k && (Region.ready md ops L).contains k && (k != c) && waits md ops k ops.size c && planT md ops c ps (L.setIfInBounds k true)
  | (k, _) :: ps, L => (Region.ready md ops L) == [k] && planT md ops c ps (L.setIfInBounds k true)
def wpPT (P : Program) (ops : Array Oper) (Q : Exit → Act → World → Prop) (S : World → Prop) (c : Nat) : List (Nat × Nat) → Bool → Act → World → Prop
  | [], _, a, w => Q .normal a w
  | (k, 0) :: ps, d, a, w => ∃ o, ops[k]? = some o ∧ ∃ v, YieldsIf P ops (fun _ => True) o v a ∧ wpPT P ops Q S c ps d (a.put o.dst v) w
  | (k, 1) :: ps, d, a, w => ∃ o, ops[k]? = some o ∧ ∃ v, YieldsIf P ops S o v a ∧ wpPT P ops Q S c ps d (a.put o.dst v) w
  | (k, _ + 2) :: ps, d, a, w => ∃ o, ops[k]? = some o ∧ ((Region.wanted o (yielded ops a.tmps) = true ∧ o.wp P a w (fun a' w' => ((d || k == c) = false → S w') ∧ wpPT P ops Q S c ps (d || k == c) a' w') Q) ∨
      (Region.wanted o (yielded ops a.tmps) = false ∧ wpPT P ops Q S c ps (d || k == c) (a.put o.dst undef) w))

theorem wpT_plan (hs : Region.noSelect ops = true) (hQ : ∀ c a d v w, Q (.panic c) (Act.put a d v) w → Q (.panic c) a w) (hcs : c < ops.size) :
    ∀ (ps : List (Nat × Nat)) (L : Array Bool) (d : Bool) (a : Act) (w : World), L.size = ops.size → L.getD c false = d → Closed md ops L → (d = false → S w) → planT md ops c ps L = true → wpPT P ops Q S c ps d a w → wpT P md ops Q S c ps.length L a w
  | [], L, d, a, w, _, _, _, _, hB, h => by
    simp only [planT, beq_iff_eq] at hB
    exact ⟨hB, h⟩
  | (k, 0) :: ps, L, d, a, w, hsz, hd, hC, hS, hB, h => by
    simp only [planT, Bool.and_eq_true, bne_iff_ne, ne_eq] at hB
    obtain ⟨⟨⟨h1, h2⟩, h3⟩, h4⟩ := hB
    obtain ⟨o, h0, v, hy, hK⟩ := h
    have hr : k ∈ Region.ready md ops L := by simpa using h2
    refine wpT_first h0 (Region.noSelect_spec hs) (fun c a w => hQ c a o.dst v w) h3 (fun _ _ _ _ _ => trivial) _ L a w (Region.free_spec h0 h1) hr hC hy (fun h => hS (hd ▸ h)) ?_
    exact wpT_plan hs hQ hcs ps _ d _ _ (by rw [Array.size_setIfInBounds]; exact hsz) (by rw [getD_set_ne false h3]; exact hd) (hC.set hr) hS h4 hK
  | (k, 1) :: ps, L, d, a, w, hsz, hd, hC, hS, hB, h => by
    simp only [planT, Bool.and_eq_true, bne_iff_ne, ne_eq] at hB
    obtain ⟨⟨⟨⟨h1, h2⟩, h3⟩, hw⟩, h4⟩ := hB
    obtain ⟨o, h0, v, hy, hK⟩ := h
    have hr : k ∈ Region.ready md ops L := by simpa using h2
    refine wpT_first h0 (Region.noSelect_spec hs) (fun c a w => hQ c a o.dst v w) h3 (fun L' w' hC' hi' hS' => hS' ?_) _ L a w (Region.free_spec h0 h1) hr hC hy (fun h => hS (hd ▸ h)) ?_
    · cases hl : L'.getD c false with
      | false => rfl
      | true =>
        have := waits_spec hC' _ _ hw hl
        rw [getD_two hi'] at this
        cases this
    · exact wpT_plan hs hQ hcs ps _ d _ _ (by rw [Array.size_setIfInBounds]; exact hsz) (by rw [getD_set_ne false h3]; exact hd) (hC.set hr) hS h4 hK
  | (k, j + 2) :: ps, L, d, a, w, hsz, hd, hC, hS, hB, h => by
    simp only [planT, Bool.and_eq_true, beq_iff_eq] at hB
    obtain ⟨hr, hB⟩ := hB
    have hk : k ∈ Region.ready md ops L := by rw [hr]; simp
    have hd' : (L.setIfInBounds k true).getD c false = (d || k == c) := by
      by_cases hkc : k = c
      · subst hkc
        simp [hsz, hcs]
      · rw [getD_set_ne false hkc, hd]; simp [hkc]
    refine ⟨fun h0 => (by rw [hr] at h0; cases h0), fun i hi => ?_⟩
    rw [hr, List.mem_singleton] at hi
    subst hi
    obtain ⟨o, h0, h⟩ := h
    unfold wpOp
    simp only [h0]
    have hsz' : (L.setIfInBounds i true).size = ops.size := by rw [Array.size_setIfInBounds]; exact hsz
    rcases h with ⟨hw, h⟩ | ⟨hw, h⟩
    · rw [if_pos hw]
      exact .inl (Oper.wp_mono (fun a' w' h' => ⟨fun h => h'.1 (hd' ▸ h), wpT_plan hs hQ hcs ps _ _ a' w' hsz' hd' (hC.set hk) h'.1 hB h'.2⟩) h)
    · rw [if_neg (by rw [hw]; exact Bool.false_ne_true)]
      have hS' : (d || i == c) = false → S w := fun h => hS (by cases d <;> simp_all)
      exact ⟨fun h => hS' (hd' ▸ h), wpT_plan hs hQ hcs ps _ _ _ w hsz' hd' (hC.set hk) hS' hB h⟩

variable {w : World} {a : Act} {o : Oper} {ps : List (Nat × Nat)} {k : Nat} {d : Bool}
theorem wp_region_planT {id : Nat} {l : List Oper} (S : World → Prop) (c : Nat) (ps : List (Nat × Nat)) (hm : P.follows .mixedOrders = true)
    (hB : (Region.noSelect l.toArray && planT .any l.toArray c ps (Array.replicate l.length false) && (ps.length == l.length) && decide (c < l.length)) = true)
    (hS : S w.drew) (h : wpPT P l.toArray (NoP Q) S c ps false a w.drew) : (Code.region id l.toArray true).wp P Q a w := by
  simp only [Bool.and_eq_true, beq_iff_eq, decide_eq_true_eq] at hB
  obtain ⟨⟨⟨h1, h2⟩, h3⟩, h4⟩ := hB
  refine Code.wp_mono NoP.imp (wp_region_any hm (wpAny_of_T (S := S) (c := c) _ _ _ _ ?_))
  have := wpT_plan (P := P) (md := .any) (Q := NoP Q) (S := S) (c := c) h1 (fun _ _ _ _ _ h => h) (by simpa using h4) ps (Array.replicate l.length false) false a w.drew (by simp) (by rw [Array.getD_eq_getD_getElem?, Array.getElem?_replicate]; split <;> rfl) (Closed.start _) (fun _ => hS) h2 h
  rw [h3] at this
  simpa using this

theorem pt_nil (h : Q .normal a w) : wpPT P ops (NoP Q) S c [] d a w := h
theorem pt_pure (ho : ops[k]? = some o) (hg : Region.wanted o (yielded ops a.tmps) = true) (h : ∀ K : Act → Prop, (∀ a', wpPT P ops Q S c ps d a' w → K a') → ∃ v, (∀ w', (execOp a.eval o).run P w' = .ok (.value v) w') ∧ K (a.put o.dst v)) : wpPT P ops Q S c ((k, 0) :: ps) d a w := by
  obtain ⟨v, h1, h2⟩ := h _ (fun _ h => h)
  exact ⟨o, ho, v, .inl ⟨hg, fun w' _ => h1 w'⟩, h2⟩
/-- one that reads nothing, its run laid -/
theorem pt_is (v : Value) (ho : ops[k]? = some o) (hg : Region.wanted o (yielded ops a.tmps) = true) (hrun : ∀ w', (execOp a.eval o).run P w' = .ok (.value v) w')
    (h : ∀ K : Act → Prop, (∀ a', wpPT P ops Q S c ps d a' w → K a') → K (a.put o.dst v)) : wpPT P ops Q S c ((k, 0) :: ps) d a w :=
  ⟨o, ho, v, .inl ⟨hg, fun w' _ => hrun w'⟩, h (fun a' => wpPT P ops Q S c ps d a' w) (fun _ h => h)⟩
theorem pt_skip (ho : ops[k]? = some o) (hg : Region.wanted o (yielded ops a.tmps) = false) (h : ∀ K : Act → Prop, (∀ a', wpPT P ops Q S c ps d a' w → K a') → K (a.put o.dst undef)) : wpPT P ops Q S c ((k, 0) :: ps) d a w :=
  ⟨o, ho, undef, .inr ⟨hg, rfl⟩, h (fun a' => wpPT P ops Q S c ps d a' w) (fun _ h => h)⟩
theorem pt_take (v : Value) (ho : ops[k]? = some o) (hg : Region.wanted o (yielded ops a.tmps) = true) (hrun : ∀ w', S w' → (execOp a.eval o).run P w' = .ok (.value v) w')
    (h : ∀ K : Act → Prop, (∀ a', wpPT P ops Q S c ps d a' w → K a') → K (a.put o.dst v)) : wpPT P ops Q S c ((k, 1) :: ps) d a w :=
  ⟨o, ho, v, .inl ⟨hg, hrun⟩, h (fun a' => wpPT P ops Q S c ps d a' w) (fun _ h => h)⟩
theorem pt_val {v : Value} {w1 : World} (ho : ops[k]? = some o) (hg : Region.wanted o (yielded ops a.tmps) = true) (hrun : (execOp a.eval o).run P w = .ok (.value v) w1) (hS : (d || k == c) = false → S w1)
    (h : ∀ K : Act → Prop, (∀ a', wpPT P ops Q S c ps (d || k == c) a' w1 → K a') → K (a.put o.dst v)) : wpPT P ops Q S c ((k, 2) :: ps) d a w :=
  ⟨o, ho, .inl ⟨hg, by unfold Oper.wp; rw [hrun]; exact ⟨hS, h (fun a' => wpPT P ops Q S c ps (d || k == c) a' w1) (fun _ h => h)⟩⟩⟩
theorem pt_unit {w1 : World} (ho : ops[k]? = some o) (hg : Region.wanted o (yielded ops a.tmps) = true) (hrun : (execOp a.eval o).run P w = .ok .skip w1) (hS : (d || k == c) = false → S w1)
    (h : ∀ K : Act → Prop, (∀ a', wpPT P ops Q S c ps (d || k == c) a' w1 → K a') → K (a.put o.dst undef)) : wpPT P ops Q S c ((k, 2) :: ps) d a w :=
  ⟨o, ho, .inl ⟨hg, by unfold Oper.wp; rw [hrun]; exact ⟨hS, h (fun a' => wpPT P ops Q S c ps (d || k == c) a' w1) (fun _ h => h)⟩⟩⟩
/-- an operation by a law of the walk (wpList) -/
theorem pt_law {K0 : Act → World → Prop} (ho : ops[k]? = some o) (hg : Region.wanted o (yielded ops a.tmps) = true) (h : o.wp P a w K0 Q)
    (hk : ∀ a' w', K0 a' w' → ((d || k == c) = false → S w') ∧ wpPT P ops Q S c ps (d || k == c) a' w') : wpPT P ops Q S c ((k, 2) :: ps) d a w :=
  ⟨o, ho, .inl ⟨hg, Oper.wp_mono (fun a' w' h' => hk a' w' h') h⟩⟩
theorem pt_call (ho : ops[k]? = some o) (hg : Region.wanted o (yielded ops a.tmps) = true)
    (h : ∀ K : FuncId → Array Value → (Value → Act) → Prop, (∀ f args (cc : Value → Act), (Calls P f args w fun e w1 => ∃ v, e = .returned v ∧ ((d || k == c) = false → S w1) ∧ wpPT P ops Q S c ps (d || k == c) (cc v) w1) → K f args cc) →
      ∃ f args, (execOp a.eval o).run P w = .ok (.enter f args) w ∧ K f args (fun v => a.put o.dst v)) : wpPT P ops Q S c ((k, 2) :: ps) d a w := by
  obtain ⟨f, args, hrun, hc⟩ := h _ (fun _ _ _ h => h)
  exact ⟨o, ho, .inl ⟨hg, by
    unfold Oper.wp; rw [hrun]
    exact hc.mono fun e w1 hr => by obtain ⟨v, rfl, h1, h2⟩ := hr; exact ⟨h1, h2⟩⟩⟩
/-- an operation that makes memory, as the walk's simp runs it -/
theorem pt_mem (ho : ops[k]? = some o) (hg : Region.wanted o (yielded ops a.tmps) = true)
    (h : ∀ K : Act → World → Prop, (∀ a' w1, ((d || k == c) = false → S w1) → wpPT P ops Q S c ps (d || k == c) a' w1 → K a' w1) → ∃ v w1, (execOp a.eval o).run P w = .ok (.value v) w1 ∧ K (a.put o.dst v) w1) : wpPT P ops Q S c ((k, 2) :: ps) d a w := by
  obtain ⟨v, w1, hrun, h1, h2⟩ := h (fun a' w1 => ((d || k == c) = false → S w1) ∧ wpPT P ops Q S c ps (d || k == c) a' w1) (fun _ _ h1 h2 => ⟨h1, h2⟩)
  exact ⟨o, ho, .inl ⟨hg, by unfold Oper.wp; rw [hrun]; exact ⟨h1, h2⟩⟩⟩
end

section
variable {P : Program} {w : World} {o : Oper} {a : Act}
/-- make, of one-cell elements -/
theorem exec_make1 (t : TypeId) (l c : Operand) (ho : o.op = .makeSlice t l c) (e : TypeId) (z : Value) (bytes : Nat) (ht : P.underlying t = some (.slice e))
    (hi : (P.info? e).map (fun i => (i.zero, i.size, i.bytes)) = some (some z, 1, bytes)) (hzs : z.cells = #[z]) (n m : Nat) (hl : a.eval l = .int .i64 (n : Int)) (hc : a.eval c = .int .i64 (m : Int)) (hnm : n ≤ m)
    (hb : bytes * m ≤ 281474976710656) (hm : m ≤ 140737488355328) :
    (execOp a.eval o).run P w = .ok (.value (.slice (some ⟨w.heap.size, 0, none⟩) n m)) (w.alloc (.cells (Array.replicate m z) e)) := by
  obtain ⟨i, hii, hz, hs, hby⟩ := info_parts hi
  subst hby
  have hb' : (i.bytes : Int) * (m : Int) ≤ 281474976710656 := by
    have h : ((i.bytes * m : Nat) : Int) ≤ 281474976710656 := by omega
    rwa [Int.natCast_mul] at h
  have hr := run_make (P := P) w t e i z ht hii hz .i64 .i64 n m (by omega) (by omega) hb' (by omega)
  simp only [Int.toNat_natCast, hs, Nat.mul_one, hzs, made_one] at hr
  simp [execOp, ho, hl, hc, hr, Result.andThen]
theorem exec_append (t : TypeId) (s x : Operand) (ho : o.op = .call { callee := .builtin .append, args := #[s, x], argTypes := #[t, t] })
    (base : Nat) (e : TypeId) (z : Value) (size bytes : Nat) (ht : P.underlying t = some (.slice e))
    (hi : (P.info? e).map (fun i => (i.zero, i.size, i.bytes)) = some (some z, size, bytes)) (hzs : z.cells.size = size) (hsz : 0 < size)
    {v : Value} {n : Nat} {xs : List Value} (hs : a.eval s = v) (hown : w.ownsRow base e size v n xs)
    {A : Option Addr} {m c : Nat} {news : List Value} (hx : a.eval x = .slice A m c) (hr : RdC w A m size news) (h1 : ∀ u ∈ news, u.oneCell' = true)
    (hbytes : (n + m) * bytes ≤ 140737488355328) (h63 : n + m ≤ 140737488355328) (hbase : base ≤ w.heap.size) :
    ∃ v' w', (execOp a.eval o).run P w = .ok (.value v') w' ∧ w'.ownsRow base e size v' (n + m) (xs ++ news) ∧ w.grownBy w' v.ownBlock ∧ (v'.ownBlock = v.ownBlock ∨ v'.ownBlock = some w.heap.size) := by
  obtain ⟨v', w', h2, h3, h4, h5⟩ := run_append_rd (P := P) w base t o.type e z size bytes ht hi hzs hsz v n xs hown A m c news hr h1 hbytes h63 hbase
  exact ⟨v', w', by simp [execOp, ho, resolve, invoke, builtin, hs, hx, h2, Result.andThen], h3, h4, h5⟩
section
variable {ops : Array Oper} {Q : Exit → Act → World → Prop} {S : World → Prop} {c : Nat} {ps : List (Nat × Nat)} {k : Nat} {d : Bool}
theorem pt_append (t : TypeId) (s x : Operand) (hk : ops[k]? = some o) (hg : Region.wanted o (yielded ops a.tmps) = true) (ho : o.op = .call { callee := .builtin .append, args := #[s, x], argTypes := #[t, t] })
    (base : Nat) (e : TypeId) (z : Value) (size bytes : Nat) (ht : P.underlying t = some (.slice e))
    (hi : (P.info? e).map (fun i => (i.zero, i.size, i.bytes)) = some (some z, size, bytes)) (hzs : z.cells.size = size) (hsz : 0 < size)
    (v : Value) (n : Nat) (xs : List Value) (hs : a.eval s = v) (hown : w.ownsRow base e size v n xs)
    (A : Option Addr) (m cc : Nat) (news : List Value) (hx : a.eval x = .slice A m cc) (hr : RdC w A m size news) (h1 : ∀ u ∈ news, u.oneCell' = true)
    (hbytes : (n + m) * bytes ≤ 140737488355328) (h63 : n + m ≤ 140737488355328) (hbase : base ≤ w.heap.size)
    (hK : ∀ v' w', w'.ownsRow base e size v' (n + m) (xs ++ news) → w.grownBy w' v.ownBlock → (v'.ownBlock = v.ownBlock ∨ v'.ownBlock = some w.heap.size) →
      ((d || k == c) = false → S w') ∧ ∀ K : Act → Prop, (∀ a', wpPT P ops Q S c ps (d || k == c) a' w' → K a') → K (a.put o.dst v')) : wpPT P ops Q S c ((k, 2) :: ps) d a w := by
  obtain ⟨v', w', hrun, h2, h3, h4⟩ := exec_append (P := P) t s x ho base e z size bytes ht hi hzs hsz hs hown hx hr h1 hbytes h63 hbase
  obtain ⟨h5, h6⟩ := hK v' w' h2 h3 h4
  exact pt_val hk hg hrun h5 h6
end
theorem RdC.of_blk {g : Nat} {t : TypeId} {xs : List Value} {m size : Nat} (h : Blk w g t xs.toArray) (hx : xs.length = m * size) : RdC w (some ⟨g, 0, none⟩) m size xs :=
  ⟨hx, fun _ => ⟨g, 0, rfl, fun j v hv => by rw [Nat.zero_add, h.cell j]; simpa using hv⟩⟩
end
end Go.Proofs.YtijmkbhbpbkkoaaGreat
