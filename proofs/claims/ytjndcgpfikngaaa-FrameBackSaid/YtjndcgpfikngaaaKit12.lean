/- A region that draws its order, by a plan, where an operation at the end writes what was read before: what the reads need must hold only till operation c has come up. No program is named. -/
import Derived.Test.YtjndcgpfikngaaaKit7
import Derived.Test.YtjndcgpfikngaaaKit8
import Derived.Test.YtjndcgpfikngaaaKit9
namespace Go.Proofs.Ytjndcgpfikngaaa
open Go.RowKit

section
variable {P : Program} {ops : Array Oper} {Q : Exit → Act → World → Prop} {md : Region.Mode} {S : World → Prop} {c : Nat}

/-- whoever has come up, what it waits for has come up -/
def Closed (md : Region.Mode) (ops : Array Oper) (L : Array Bool) : Prop :=
  ∀ (k : Nat) (o : Oper), ops[k]? = some o → L.getD k false = true → ∀ e ∈ o.after, Region.binds md e = true → L.getD e.on false = true
/-- does k wait for i? -/
def waits (md : Region.Mode) (ops : Array Oper) (i : Nat) : Nat → Nat → Bool
  | 0, _ => false
  | n + 1, k => match ops[k]? with
    | none => false
    | some o => o.after.any (fun e => Region.binds md e && (e.on == i || waits md ops i n e.on))
theorem waits_spec {i : Nat} {L : Array Bool} (hL : Closed md ops L) : ∀ (n k : Nat), waits md ops i n k = true → L.getD k false = true → L.getD i false = true
  | 0, _, h, _ => by cases h
  | n + 1, k, h, hk => by
    unfold waits at h
    cases ho : ops[k]? with
    | none => rw [ho] at h; cases h
    | some o =>
      rw [ho] at h
      simp only [Array.any_eq_true', Bool.and_eq_true, Bool.or_eq_true, beq_iff_eq] at h
      obtain ⟨e, he, hb, h⟩ := h
      have h1 := hL k o ho hk e he hb
      rcases h with h | h
      · rw [← h]; exact h1
      · exact waits_spec hL n _ h h1
theorem Closed.set {i : Nat} {L : Array Bool} (hL : Closed md ops L) (hi : i ∈ Region.ready md ops L) : Closed md ops (L.setIfInBounds i true) := by
  intro k o hk hl e he hb
  by_cases hik : i = k
  · subst hik
    obtain ⟨_, o', ho', hall⟩ := mem_ready.1 hi
    rw [ho'] at hk; injection hk with hk; subst hk
    exact getD_set_true (hall e he hb)
  · rw [getD_set_ne false hik] at hl
    exact getD_set_true (hL k o hk hl e he hb)
theorem Closed.start (n : Nat) : Closed md ops (Array.replicate n false) := by
  intro k o _ hl
  exfalso
  rw [Array.getD_eq_getD_getElem?, Array.getElem?_replicate] at hl
  split at hl <;> simp at hl

def wpT (P : Program) (md : Region.Mode) (ops : Array Oper) (Q : Exit → Act → World → Prop) (S : World → Prop) (c : Nat) : Nat → Array Bool → Act → World → Prop
  | 0, L, a, w => Region.ready md ops L = [] ∧ Q .normal a w
  | n + 1, L, a, w => (Region.ready md ops L = [] → Q .normal a w) ∧
    ∀ i ∈ Region.ready md ops L, wpOp P ops Q i (fun a' w' => ((L.setIfInBounds i true).getD c false = false → S w') ∧ wpT P md ops Q S c n (L.setIfInBounds i true) a' w') a w
theorem wpAny_of_T : ∀ (n : Nat) (L : Array Bool) (a : Act) (w : World), wpT P md ops Q S c n L a w → wpAny P md ops Q n L a w
  | 0, _, _, _, h => h
  | n + 1, L, a, w, h => ⟨h.1, fun i hi => wpOp_mono (fun a' w' h' => wpAny_of_T n _ a' w' h'.2) (h.2 i hi)⟩
theorem getD_two {L : Array Bool} {i : Nat} (h : L.getD i true = false) : L.getD i false = false := by
  rcases Nat.lt_or_ge i L.size with h' | h'
  · simp [h'] at h ⊢; exact h
  · simp [Array.getElem?_eq_none h'] at h

theorem wpT_first {T : World → Prop} {i : Nat} {oi : Oper} {v : Value} (hi : ops[i]? = some oi) (hsel : ∀ (j : Nat) (o : Oper) cs b, ops[j]? = some o → o.op ≠ .select cs b)
    (hQ : ∀ c a w, Q (.panic c) (a.put oi.dst v) w → Q (.panic c) a w) (hic : i ≠ c)
    (hT : ∀ (L : Array Bool) (w : World), Closed md ops L → L.getD i true = false → (L.getD c false = false → S w) → T w) :
    ∀ (n : Nat) (L : Array Bool) (a : Act) (w : World), (∀ j oj, ops[j]? = some oj → j ≠ i → L.getD j true = false → (∀ e ∈ oj.after, Region.binds md e = true → e.on ≠ i) → oi.apart ops oj = true) →
      i ∈ Region.ready md ops L → Closed md ops L → YieldsIf P ops T oi v a → (L.getD c false = false → S w) →
      wpT P md ops Q S c n (L.setIfInBounds i true) (a.put oi.dst v) w → wpT P md ops Q S c (n + 1) L a w := by
  intro n
  induction n with
  | zero =>
    intro L a w _ hr hC hy hS H
    refine ⟨fun h => (by rw [h] at hr; cases hr), fun j hj => ?_⟩
    by_cases hji : j = i
    · subst hji
      exact hy.wpOp hi (hT L w hC (mem_ready.1 hr).1 hS) ⟨fun h => hS (by rw [← getD_set_ne false hic]; exact h), H⟩
    · have := ready_mono hj hji
      rw [H.1] at this
      cases this
  | succ n ih =>
    intro L a w hfree hr hC hy hS H
    refine ⟨fun h => (by rw [h] at hr; cases hr), fun j hj => ?_⟩
    by_cases hji : j = i
    · subst hji
      exact hy.wpOp hi (hT L w hC (mem_ready.1 hr).1 hS) ⟨fun h => hS (by rw [← getD_set_ne false hic]; exact h), H⟩
    · have h1 := H.2 j (ready_mono hj hji)
      obtain ⟨hjun, oj, hoj, hall⟩ := mem_ready.1 hj
      have hiun := getD_two (mem_ready.1 hr).1
      have hnot : ∀ e ∈ oj.after, Region.binds md e = true → e.on ≠ i := fun e he hb heq => by
        have h2 := hall e he hb
        rw [heq, hiun] at h2
        cases h2
      have h2 := wpOp_putIf hoj (hfree j oj hoj hji hjun hnot) (fun cs b => hsel i oi cs b hi) (fun cs b => hsel j oj cs b hoj) hQ hy h1
      have hfree' : ∀ k ok, ops[k]? = some ok → k ≠ i → (L.setIfInBounds j true).getD k true = false → (∀ e ∈ ok.after, Region.binds md e = true → e.on ≠ i) → oi.apart ops ok = true := fun k ok hk hki hun hno => by
        refine hfree k ok hk hki ?_ hno
        by_cases hjk : j = k
        · subst hjk; exact hjun
        · rw [getD_set_ne true hjk] at hun; exact hun
      have hcomm : (L.setIfInBounds i true).setIfInBounds j true = (L.setIfInBounds j true).setIfInBounds i true := (Array.setIfInBounds_comm _ _ (Ne.symm hji))
      refine wpOp_mono (fun a' w' h3 => ?_) h2
      have hS' : (L.setIfInBounds j true).getD c false = false → S w' := fun h => h3.2.1 (by rw [hcomm, getD_set_ne false hic]; exact h)
      refine ⟨hS', ih (L.setIfInBounds j true) a' w' hfree' (ready_mono hr (Ne.symm hji)) (hC.set hj) h3.1 hS' ?_⟩
      rw [← hcomm]
      exact h3.2.2

/-! ### the plan -/
/-- 0: it reads nothing; 1: it reads, and c waits for it; 2: it comes up alone -/
def planT (md : Region.Mode) (ops : Array Oper) (c : Nat) : List (Nat × Nat) → Array Bool → Bool
  | [], L => (Region.ready md ops L) == []
  | (k, 0) :: ps, L => Region.free md ops L k && (Region.ready md ops L).contains k && (k != c) && planT md ops c ps (L.setIfInBounds k true)
  | (k, 1) :: ps, L => Region.free md ops L k && (Region.ready md ops L).contains k && (k != c) && waits md ops k ops.size c && planT md ops c ps (L.setIfInBounds k true)
  | (k, _) :: ps, L => (Region.ready md ops L) == [k] && planT md ops c ps (L.setIfInBounds k true)
def wpPT (P : Program) (ops : Array Oper) (Q : Exit → Act → World → Prop) (S : World → Prop) (c : Nat) : List (Nat × Nat) → Bool → Act → World → Prop
  | [], _, a, w => Q .normal a w
  | (k, 0) :: ps, d, a, w => ∃ o, ops[k]? = some o ∧ ∃ v, YieldsIf P ops (fun _ => True) o v a ∧ wpPT P ops Q S c ps d (a.put o.dst v) w
  | (k, 1) :: ps, d, a, w => ∃ o, ops[k]? = some o ∧ ∃ v, YieldsIf P ops S o v a ∧ wpPT P ops Q S c ps d (a.put o.dst v) w
  | (k, _ + 2) :: ps, d, a, w => ∃ o, ops[k]? = some o ∧ ((Region.wanted o (yielded ops a.tmps) = true ∧ o.wp P a w (fun a' w' => ((d || k == c) = false → S w') ∧ wpPT P ops Q S c ps (d || k == c) a' w') Q) ∨
      (Region.wanted o (yielded ops a.tmps) = false ∧ wpPT P ops Q S c ps (d || k == c) (a.put o.dst undef) w))

theorem wpT_plan (hs : Region.noSelect ops = true) (hQ : ∀ c a d v w, Q (.panic c) (Act.put a d v) w → Q (.panic c) a w) (hcs : c < ops.size) :
    ∀ (ps : List (Nat × Nat)) (L : Array Bool) (d : Bool) (a : Act) (w : World), L.size = ops.size → L.getD c false = d → Closed md ops L → (d = false → S w) → planT md ops c ps L = true → wpPT P ops Q S c ps d a w → wpT P md ops Q S c ps.length L a w
  | [], L, d, a, w, _, _, _, _, hB, h => by
    simp only [planT, beq_iff_eq] at hB
    exact ⟨hB, h⟩
  | (k, 0) :: ps, L, d, a, w, hsz, hd, hC, hS, hB, h => by
    simp only [planT, Bool.and_eq_true, bne_iff_ne, ne_eq] at hB
    obtain ⟨⟨⟨h1, h2⟩, h3⟩, h4⟩ := hB
    obtain ⟨o, h0, v, hy, hK⟩ := h
    have hr : k ∈ Region.ready md ops L := by simpa using h2
    refine wpT_first h0 (Region.noSelect_spec hs) (fun c a w => hQ c a o.dst v w) h3 (fun _ _ _ _ _ => trivial) _ L a w (Region.free_spec h0 h1) hr hC hy (fun h => hS (hd ▸ h)) ?_
    exact wpT_plan hs hQ hcs ps _ d _ _ (by rw [Array.size_setIfInBounds]; exact hsz) (by rw [getD_set_ne false h3]; exact hd) (hC.set hr) hS h4 hK
  | (k, 1) :: ps, L, d, a, w, hsz, hd, hC, hS, hB, h => by
    simp only [planT, Bool.and_eq_true, bne_iff_ne, ne_eq] at hB
    obtain ⟨⟨⟨⟨h1, h2⟩, h3⟩, hw⟩, h4⟩ := hB
    obtain ⟨o, h0, v, hy, hK⟩ := h
    have hr : k ∈ Region.ready md ops L := by simpa using h2
    refine wpT_first h0 (Region.noSelect_spec hs) (fun c a w => hQ c a o.dst v w) h3 (fun L' w' hC' hi' hS' => hS' ?_) _ L a w (Region.free_spec h0 h1) hr hC hy (fun h => hS (hd ▸ h)) ?_
    · cases hl : L'.getD c false with
      | false => rfl
      | true =>
        have := waits_spec hC' _ _ hw hl
        rw [getD_two hi'] at this
        cases this
    · exact wpT_plan hs hQ hcs ps _ d _ _ (by rw [Array.size_setIfInBounds]; exact hsz) (by rw [getD_set_ne false h3]; exact hd) (hC.set hr) hS h4 hK
  | (k, j + 2) :: ps, L, d, a, w, hsz, hd, hC, hS, hB, h => by
    simp only [planT, Bool.and_eq_true, beq_iff_eq] at hB
    obtain ⟨hr, hB⟩ := hB
    have hk : k ∈ Region.ready md ops L := by rw [hr]; simp
    have hd' : (L.setIfInBounds k true).getD c false = (d || k == c) := by
      by_cases hkc : k = c
      · subst hkc
        simp [hsz, hcs]
      · rw [getD_set_ne false hkc, hd]; simp [hkc]
    refine ⟨fun h0 => (by rw [hr] at h0; cases h0), fun i hi => ?_⟩
    rw [hr, List.mem_singleton] at hi
    subst hi
    obtain ⟨o, h0, h⟩ := h
    unfold wpOp
    simp only [h0]
    have hsz' : (L.setIfInBounds i true).size = ops.size := by rw [Array.size_setIfInBounds]; exact hsz
    rcases h with ⟨hw, h⟩ | ⟨hw, h⟩
    · rw [if_pos hw]
      exact .inl (Oper.wp_mono (fun a' w' h' => ⟨fun h => h'.1 (hd' ▸ h), wpT_plan hs hQ hcs ps _ _ a' w' hsz' hd' (hC.set hk) h'.1 hB h'.2⟩) h)
    · rw [if_neg (by rw [hw]; exact Bool.false_ne_true)]
      have hS' : (d || i == c) = false → S w := fun h => hS (by cases d <;> simp_all)
      exact ⟨fun h => hS' (hd' ▸ h), wpT_plan hs hQ hcs ps _ _ _ w hsz' hd' (hC.set hk) hS' hB h⟩

variable {w : World} {a : Act} {o : Oper} {ps : List (Nat × Nat)} {k : Nat} {d : Bool}
theorem wp_region_planT {id : Nat} {l : List Oper} (S : World → Prop) (c : Nat) (ps : List (Nat × Nat)) (hm : P.follows .mixedOrders = true)
    (hB : (Region.noSelect l.toArray && planT .any l.toArray c ps (Array.replicate l.length false) && (ps.length == l.length) && decide (c < l.length)) = true)
    (hS : S w.drew) (h : wpPT P l.toArray (NoP Q) S c ps false a w.drew) : (Code.region id l.toArray true).wp P Q a w := by
  simp only [Bool.and_eq_true, beq_iff_eq, decide_eq_true_eq] at hB
  obtain ⟨⟨⟨h1, h2⟩, h3⟩, h4⟩ := hB
  refine Code.wp_mono NoP.imp (wp_region_any hm (wpAny_of_T (S := S) (c := c) _ _ _ _ ?_))
  have := wpT_plan (P := P) (md := .any) (Q := NoP Q) (S := S) (c := c) h1 (fun _ _ _ _ _ h => h) (by simpa using h4) ps (Array.replicate l.length false) false a w.drew (by simp) (by rw [Array.getD_eq_getD_getElem?, Array.getElem?_replicate]; split <;> rfl) (Closed.start _) (fun _ => hS) h2 h
  rw [h3] at this
  simpa using this

theorem pt_nil (h : Q .normal a w) : wpPT P ops (NoP Q) S c [] d a w := h
theorem pt_pure (ho : ops[k]? = some o) (hg : Region.wanted o (yielded ops a.tmps) = true) (h : ∀ K : Act → Prop, (∀ a', wpPT P ops Q S c ps d a' w → K a') → ∃ v, (∀ w', (execOp a.eval o).run P w' = .ok (.value v) w') ∧ K (a.put o.dst v)) : wpPT P ops Q S c ((k, 0) :: ps) d a w := by
  obtain ⟨v, h1, h2⟩ := h _ (fun _ h => h)
  exact ⟨o, ho, v, .inl ⟨hg, fun w' _ => h1 w'⟩, h2⟩
/-- one that reads nothing, its run laid -/
theorem pt_is (v : Value) (ho : ops[k]? = some o) (hg : Region.wanted o (yielded ops a.tmps) = true) (hrun : ∀ w', (execOp a.eval o).run P w' = .ok (.value v) w')
    (h : ∀ K : Act → Prop, (∀ a', wpPT P ops Q S c ps d a' w → K a') → K (a.put o.dst v)) : wpPT P ops Q S c ((k, 0) :: ps) d a w :=
  ⟨o, ho, v, .inl ⟨hg, fun w' _ => hrun w'⟩, h (fun a' => wpPT P ops Q S c ps d a' w) (fun _ h => h)⟩
theorem pt_skip (ho : ops[k]? = some o) (hg : Region.wanted o (yielded ops a.tmps) = false) (h : ∀ K : Act → Prop, (∀ a', wpPT P ops Q S c ps d a' w → K a') → K (a.put o.dst undef)) : wpPT P ops Q S c ((k, 0) :: ps) d a w :=
  ⟨o, ho, undef, .inr ⟨hg, rfl⟩, h (fun a' => wpPT P ops Q S c ps d a' w) (fun _ h => h)⟩
theorem pt_take (v : Value) (ho : ops[k]? = some o) (hg : Region.wanted o (yielded ops a.tmps) = true) (hrun : ∀ w', S w' → (execOp a.eval o).run P w' = .ok (.value v) w')
    (h : ∀ K : Act → Prop, (∀ a', wpPT P ops Q S c ps d a' w → K a') → K (a.put o.dst v)) : wpPT P ops Q S c ((k, 1) :: ps) d a w :=
  ⟨o, ho, v, .inl ⟨hg, hrun⟩, h (fun a' => wpPT P ops Q S c ps d a' w) (fun _ h => h)⟩
theorem pt_val {v : Value} {w1 : World} (ho : ops[k]? = some o) (hg : Region.wanted o (yielded ops a.tmps) = true) (hrun : (execOp a.eval o).run P w = .ok (.value v) w1) (hS : (d || k == c) = false → S w1)
    (h : ∀ K : Act → Prop, (∀ a', wpPT P ops Q S c ps (d || k == c) a' w1 → K a') → K (a.put o.dst v)) : wpPT P ops Q S c ((k, 2) :: ps) d a w :=
  ⟨o, ho, .inl ⟨hg, by unfold Oper.wp; rw [hrun]; exact ⟨hS, h (fun a' => wpPT P ops Q S c ps (d || k == c) a' w1) (fun _ h => h)⟩⟩⟩
theorem pt_unit {w1 : World} (ho : ops[k]? = some o) (hg : Region.wanted o (yielded ops a.tmps) = true) (hrun : (execOp a.eval o).run P w = .ok .skip w1) (hS : (d || k == c) = false → S w1)
    (h : ∀ K : Act → Prop, (∀ a', wpPT P ops Q S c ps (d || k == c) a' w1 → K a') → K (a.put o.dst undef)) : wpPT P ops Q S c ((k, 2) :: ps) d a w :=
  ⟨o, ho, .inl ⟨hg, by unfold Oper.wp; rw [hrun]; exact ⟨hS, h (fun a' => wpPT P ops Q S c ps (d || k == c) a' w1) (fun _ h => h)⟩⟩⟩
/-- an operation by a law of the walk (wpList) -/
theorem pt_law {K0 : Act → World → Prop} (ho : ops[k]? = some o) (hg : Region.wanted o (yielded ops a.tmps) = true) (h : o.wp P a w K0 Q)
    (hk : ∀ a' w', K0 a' w' → ((d || k == c) = false → S w') ∧ wpPT P ops Q S c ps (d || k == c) a' w') : wpPT P ops Q S c ((k, 2) :: ps) d a w :=
  ⟨o, ho, .inl ⟨hg, Oper.wp_mono (fun a' w' h' => hk a' w' h') h⟩⟩
theorem pt_call (ho : ops[k]? = some o) (hg : Region.wanted o (yielded ops a.tmps) = true)
    (h : ∀ K : FuncId → Array Value → (Value → Act) → Prop, (∀ f args (cc : Value → Act), (Calls P f args w fun e w1 => ∃ v, e = .returned v ∧ ((d || k == c) = false → S w1) ∧ wpPT P ops Q S c ps (d || k == c) (cc v) w1) → K f args cc) →
      ∃ f args, (execOp a.eval o).run P w = .ok (.enter f args) w ∧ K f args (fun v => a.put o.dst v)) : wpPT P ops Q S c ((k, 2) :: ps) d a w := by
  obtain ⟨f, args, hrun, hc⟩ := h _ (fun _ _ _ h => h)
  exact ⟨o, ho, .inl ⟨hg, by
    unfold Oper.wp; rw [hrun]
    exact hc.mono fun e w1 hr => by obtain ⟨v, rfl, h1, h2⟩ := hr; exact ⟨h1, h2⟩⟩⟩
/-- an operation that makes memory, as the walk's simp runs it -/
theorem pt_mem (ho : ops[k]? = some o) (hg : Region.wanted o (yielded ops a.tmps) = true)
    (h : ∀ K : Act → World → Prop, (∀ a' w1, ((d || k == c) = false → S w1) → wpPT P ops Q S c ps (d || k == c) a' w1 → K a' w1) → ∃ v w1, (execOp a.eval o).run P w = .ok (.value v) w1 ∧ K (a.put o.dst v) w1) : wpPT P ops Q S c ((k, 2) :: ps) d a w := by
  obtain ⟨v, w1, hrun, h1, h2⟩ := h (fun a' w1 => ((d || k == c) = false → S w1) ∧ wpPT P ops Q S c ps (d || k == c) a' w1) (fun _ _ h1 h2 => ⟨h1, h2⟩)
  exact ⟨o, ho, .inl ⟨hg, by unfold Oper.wp; rw [hrun]; exact ⟨h1, h2⟩⟩⟩
end

section
variable {P : Program} {w : World} {o : Oper} {a : Act}
/-- make, of one-cell elements -/
theorem exec_make1 (t : TypeId) (l c : Operand) (ho : o.op = .makeSlice t l c) (e : TypeId) (z : Value) (bytes : Nat) (ht : P.underlying t = some (.slice e))
    (hi : (P.info? e).map (fun i => (i.zero, i.size, i.bytes)) = some (some z, 1, bytes)) (hzs : z.cells = #[z]) (n m : Nat) (hl : a.eval l = .int .i64 (n : Int)) (hc : a.eval c = .int .i64 (m : Int)) (hnm : n ≤ m)
    (hb : bytes * m ≤ 281474976710656) (hm : m ≤ 140737488355328) :
    (execOp a.eval o).run P w = .ok (.value (.slice (some ⟨w.heap.size, 0, none⟩) n m)) (w.alloc (.cells (Array.replicate m z) e)) := by
  obtain ⟨i, hii, hz, hs, hby⟩ := info_parts hi
  subst hby
  have hb' : (i.bytes : Int) * (m : Int) ≤ 281474976710656 := by
    have h : ((i.bytes * m : Nat) : Int) ≤ 281474976710656 := by omega
    rwa [Int.natCast_mul] at h
  have hr := run_make (P := P) w t e i z ht hii hz .i64 .i64 n m (by omega) (by omega) hb' (by omega)
  simp only [Int.toNat_natCast, hs, Nat.mul_one, hzs, made_one] at hr
  simp [execOp, ho, hl, hc, hr, Result.andThen]
theorem exec_append (t : TypeId) (s x : Operand) (ho : o.op = .call { callee := .builtin .append, args := #[s, x], argTypes := #[t, t] })
    (base : Nat) (e : TypeId) (z : Value) (size bytes : Nat) (ht : P.underlying t = some (.slice e))
    (hi : (P.info? e).map (fun i => (i.zero, i.size, i.bytes)) = some (some z, size, bytes)) (hzs : z.cells.size = size) (hsz : 0 < size)
    {v : Value} {n : Nat} {xs : List Value} (hs : a.eval s = v) (hown : w.ownsRow base e size v n xs)
    {A : Option Addr} {m c : Nat} {news : List Value} (hx : a.eval x = .slice A m c) (hr : RdC w A m size news) (h1 : ∀ u ∈ news, u.oneCell' = true)
    (hbytes : (n + m) * bytes ≤ 140737488355328) (h63 : n + m ≤ 140737488355328) (hbase : base ≤ w.heap.size) :
    ∃ v' w', (execOp a.eval o).run P w = .ok (.value v') w' ∧ w'.ownsRow base e size v' (n + m) (xs ++ news) ∧ w.grownBy w' v.ownBlock ∧ (v'.ownBlock = v.ownBlock ∨ v'.ownBlock = some w.heap.size) := by
  obtain ⟨v', w', h2, h3, h4, h5⟩ := run_append_rd (P := P) w base t o.type e z size bytes ht hi hzs hsz v n xs hown A m c news hr h1 hbytes h63 hbase
  exact ⟨v', w', by simp [execOp, ho, resolve, invoke, builtin, hs, hx, h2, Result.andThen], h3, h4, h5⟩
section
variable {ops : Array Oper} {Q : Exit → Act → World → Prop} {S : World → Prop} {c : Nat} {ps : List (Nat × Nat)} {k : Nat} {d : Bool}
theorem pt_append (t : TypeId) (s x : Operand) (hk : ops[k]? = some o) (hg : Region.wanted o (yielded ops a.tmps) = true) (ho : o.op = .call { callee := .builtin .append, args := #[s, x], argTypes := #[t, t] })
    (base : Nat) (e : TypeId) (z : Value) (size bytes : Nat) (ht : P.underlying t = some (.slice e))
    (hi : (P.info? e).map (fun i => (i.zero, i.size, i.bytes)) = some (some z, size, bytes)) (hzs : z.cells.size = size) (hsz : 0 < size)
    (v : Value) (n : Nat) (xs : List Value) (hs : a.eval s = v) (hown : w.ownsRow base e size v n xs)
    (A : Option Addr) (m cc : Nat) (news : List Value) (hx : a.eval x = .slice A m cc) (hr : RdC w A m size news) (h1 : ∀ u ∈ news, u.oneCell' = true)
    (hbytes : (n + m) * bytes ≤ 140737488355328) (h63 : n + m ≤ 140737488355328) (hbase : base ≤ w.heap.size)
    (hK : ∀ v' w', w'.ownsRow base e size v' (n + m) (xs ++ news) → w.grownBy w' v.ownBlock → (v'.ownBlock = v.ownBlock ∨ v'.ownBlock = some w.heap.size) →
      ((d || k == c) = false → S w') ∧ ∀ K : Act → Prop, (∀ a', wpPT P ops Q S c ps (d || k == c) a' w' → K a') → K (a.put o.dst v')) : wpPT P ops Q S c ((k, 2) :: ps) d a w := by
  obtain ⟨v', w', hrun, h2, h3, h4⟩ := exec_append (P := P) t s x ho base e z size bytes ht hi hzs hsz hs hown hx hr h1 hbytes h63 hbase
  obtain ⟨h5, h6⟩ := hK v' w' h2 h3 h4
  exact pt_val hk hg hrun h5 h6
end
theorem RdC.of_blk {g : Nat} {t : TypeId} {xs : List Value} {m size : Nat} (h : Blk w g t xs.toArray) (hx : xs.length = m * size) : RdC w (some ⟨g, 0, none⟩) m size xs :=
  ⟨hx, fun _ => ⟨g, 0, rfl, fun j v hv => by rw [Nat.zero_add, h.cell j]; simpa using hv⟩⟩
end
end Go.Proofs.Ytjndcgpfikngaaa
