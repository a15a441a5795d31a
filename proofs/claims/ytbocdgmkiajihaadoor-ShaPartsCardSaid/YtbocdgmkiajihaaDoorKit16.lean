/- A region that draws its order, by a plan (Kit12), with pairs: two operations that act, each of which may come up before the other. No program is named. -/
import Derived.Test.YtbocdgmkiajihaaDoorKit12
namespace Go.Proofs.YtbocdgmkiajihaaDoor
open Go.RowKit

section
variable {P : Program} {ops : Array Oper} {Q : Exit → Act → World → Prop} {md : Region.Mode} {S : World → Prop} {c : Nat}
/-- 0: it reads nothing; 1: it reads, and c waits for it; 2: it comes up alone; j + 3: it and j come up, in either order -/
def planU (md : Region.Mode) (ops : Array Oper) (c : Nat) : List (Nat × Nat) → Array Bool → Bool
  | [], L => (Region.ready md ops L) == []
  | (k, 0) :: ps, L => Region.free md ops L k && (Region.ready md ops L).contains k && (k != c) && planU md ops c ps (L.setIfInBounds k true)
  | (k, 1) :: ps, L => Region.free md ops L k && (Region.ready md ops L).contains k && (k != c) && waits md ops k ops.size c && planU md ops c ps (L.setIfInBounds k true)
  | (k, 2) :: ps, L => (Region.ready md ops L) == [k] && planU md ops c ps (L.setIfInBounds k true)
  | (k, j + 3) :: ps, L => ((Region.ready md ops L) == [k, j] || (Region.ready md ops L) == [j, k]) && (Region.ready md ops (L.setIfInBounds k true) == [j]) && (Region.ready md ops (L.setIfInBounds j true) == [k]) && (k != c) && (j != c) && (k != j) &&
      planU md ops c ps ((L.setIfInBounds k true).setIfInBounds j true)
def wpPU (P : Program) (ops : Array Oper) (Q : Exit → Act → World → Prop) (S : World → Prop) (c : Nat) : List (Nat × Nat) → Bool → Act → World → Prop
  | [], _, a, w => Q .normal a w
  | (k, 0) :: ps, d, a, w => ∃ o, ops[k]? = some o ∧ ∃ v, YieldsIf P ops (fun _ => True) o v a ∧ wpPU P ops Q S c ps d (a.put o.dst v) w
  | (k, 1) :: ps, d, a, w => ∃ o, ops[k]? = some o ∧ ∃ v, YieldsIf P ops S o v a ∧ wpPU P ops Q S c ps d (a.put o.dst v) w
  | (k, 2) :: ps, d, a, w => ∃ o, ops[k]? = some o ∧ (∀ y, Region.wanted o y = true) ∧ o.wp P a w (fun a' w' => ((d || k == c) = false → S w') ∧ wpPU P ops Q S c ps (d || k == c) a' w') Q
  | (k, j + 3) :: ps, d, a, w => ∃ o o', ops[k]? = some o ∧ ops[j]? = some o' ∧ (∀ y, Region.wanted o y = true) ∧ (∀ y, Region.wanted o' y = true) ∧
      o.wp P a w (fun a1 w1 => (d = false → S w1) ∧ o'.wp P a1 w1 (fun a2 w2 => (d = false → S w2) ∧ wpPU P ops Q S c ps d a2 w2) Q) Q ∧
      o'.wp P a w (fun a1 w1 => (d = false → S w1) ∧ o.wp P a1 w1 (fun a2 w2 => (d = false → S w2) ∧ wpPU P ops Q S c ps d a2 w2) Q) Q

theorem wpOp_of {k : Nat} {o : Oper} {K : Act → World → Prop} {a : Act} {w : World} (h0 : ops[k]? = some o) (hw : ∀ y, Region.wanted o y = true) (h : o.wp P a w K Q) : wpOp P ops Q k K a w := by
  unfold wpOp
  simp only [h0]
  rw [if_pos (hw _)]
  exact .inl h
theorem wpT_planU (hs : Region.noSelect ops = true) (hQ : ∀ c a d v w, Q (.panic c) (Act.put a d v) w → Q (.panic c) a w) (hcs : c < ops.size) :
    ∀ (ps : List (Nat × Nat)) (L : Array Bool) (d : Bool) (a : Act) (w : World) (n : Nat), L.size = ops.size → L.getD c false = d → Closed md ops L → (d = false → S w) → planU md ops c ps L = true → wpPU P ops Q S c ps d a w →
      n = (ps.map (fun e => if 3 ≤ e.2 then 2 else 1)).sum → wpT P md ops Q S c n L a w
  | [], L, d, a, w, n, _, _, _, _, hB, h, hn => by
    subst hn
    simp only [planU, beq_iff_eq] at hB
    exact ⟨hB, h⟩
  | (k, 0) :: ps, L, d, a, w, n, hsz, hd, hC, hS, hB, h, hn => by
    obtain ⟨m, hm⟩ : ∃ m, m = (ps.map (fun e => if 3 ≤ e.2 then 2 else 1)).sum := ⟨_, rfl⟩
    have hn' : n = m + 1 := by rw [hn, hm]; simp; omega
    subst hn'
    simp only [planU, Bool.and_eq_true, bne_iff_ne, ne_eq] at hB
    obtain ⟨⟨⟨h1, h2⟩, h3⟩, h4⟩ := hB
    obtain ⟨o, h0, v, hy, hK⟩ := h
    have hr : k ∈ Region.ready md ops L := by simpa using h2
    refine wpT_first h0 (Region.noSelect_spec hs) (fun c a w => hQ c a o.dst v w) h3 (fun _ _ _ _ _ => trivial) _ L a w (Region.free_spec h0 h1) hr hC hy (fun h => hS (hd ▸ h)) ?_
    exact wpT_planU hs hQ hcs ps _ d _ _ m (by rw [Array.size_setIfInBounds]; exact hsz) (by rw [getD_set_ne false h3]; exact hd) (hC.set hr) hS h4 hK hm
  | (k, 1) :: ps, L, d, a, w, n, hsz, hd, hC, hS, hB, h, hn => by
    obtain ⟨m, hm⟩ : ∃ m, m = (ps.map (fun e => if 3 ≤ e.2 then 2 else 1)).sum := ⟨_, rfl⟩
    have hn' : n = m + 1 := by rw [hn, hm]; simp; omega
    subst hn'
    simp only [planU, Bool.and_eq_true, bne_iff_ne, ne_eq] at hB
    obtain ⟨⟨⟨⟨h1, h2⟩, h3⟩, hw⟩, h4⟩ := hB
    obtain ⟨o, h0, v, hy, hK⟩ := h
    have hr : k ∈ Region.ready md ops L := by simpa using h2
    refine wpT_first h0 (Region.noSelect_spec hs) (fun c a w => hQ c a o.dst v w) h3 (fun L' w' hC' hi' hS' => hS' ?_) _ L a w (Region.free_spec h0 h1) hr hC hy (fun h => hS (hd ▸ h)) ?_
    · cases hl : L'.getD c false with
      | false => rfl
      | true =>
        have := waits_spec hC' _ _ hw hl
        rw [getD_two hi'] at this
        cases this
    · exact wpT_planU hs hQ hcs ps _ d _ _ m (by rw [Array.size_setIfInBounds]; exact hsz) (by rw [getD_set_ne false h3]; exact hd) (hC.set hr) hS h4 hK hm
  | (k, 2) :: ps, L, d, a, w, n, hsz, hd, hC, hS, hB, h, hn => by
    obtain ⟨m, hm⟩ : ∃ m, m = (ps.map (fun e => if 3 ≤ e.2 then 2 else 1)).sum := ⟨_, rfl⟩
    have hn' : n = m + 1 := by rw [hn, hm]; simp; omega
    subst hn'
    simp only [planU, Bool.and_eq_true, beq_iff_eq] at hB
    obtain ⟨hr, hB⟩ := hB
    have hk : k ∈ Region.ready md ops L := by rw [hr]; simp
    have hd' : (L.setIfInBounds k true).getD c false = (d || k == c) := by
      by_cases hkc : k = c
      · subst hkc
        simp [hsz, hcs]
      · rw [getD_set_ne false hkc, hd]; simp [hkc]
    refine ⟨fun h0 => (by rw [hr] at h0; cases h0), fun i hi => ?_⟩
    rw [hr, List.mem_singleton] at hi
    subst hi
    obtain ⟨o, h0, hw, h⟩ := h
    have hsz' : (L.setIfInBounds i true).size = ops.size := by rw [Array.size_setIfInBounds]; exact hsz
    exact wpOp_of h0 hw (Oper.wp_mono (fun a' w' h' => ⟨fun h => h'.1 (hd' ▸ h), wpT_planU hs hQ hcs ps _ _ a' w' m hsz' hd' (hC.set hk) h'.1 hB h'.2 hm⟩) h)
  | (k, j + 3) :: ps, L, d, a, w, n, hsz, hd, hC, hS, hB, h, hn => by
    obtain ⟨m, hm⟩ : ∃ m, m = (ps.map (fun e => if 3 ≤ e.2 then 2 else 1)).sum := ⟨_, rfl⟩
    have hn' : n = m + 2 := by rw [hn, hm]; simp; omega
    subst hn'
    simp only [planU, Bool.and_eq_true, Bool.or_eq_true, beq_iff_eq, bne_iff_ne, ne_eq] at hB
    obtain ⟨⟨⟨⟨⟨⟨hr, hrk⟩, hrj⟩, hkc⟩, hjc⟩, hkj⟩, hB⟩ := hB
    have hk : k ∈ Region.ready md ops L := by rcases hr with hr | hr <;> (rw [hr]; simp)
    have hj : j ∈ Region.ready md ops L := by rcases hr with hr | hr <;> (rw [hr]; simp)
    obtain ⟨o, o', h0, h0', hw, hw', h1, h2⟩ := h
    have hdk : (L.setIfInBounds k true).getD c false = d := by rw [getD_set_ne false hkc]; exact hd
    have hdj : (L.setIfInBounds j true).getD c false = d := by rw [getD_set_ne false hjc]; exact hd
    have hdb : ((L.setIfInBounds k true).setIfInBounds j true).getD c false = d := by rw [getD_set_ne false hjc]; exact hdk
    have hcomm : (L.setIfInBounds j true).setIfInBounds k true = (L.setIfInBounds k true).setIfInBounds j true := (Array.setIfInBounds_comm _ _ hkj).symm
    have hszb : ((L.setIfInBounds k true).setIfInBounds j true).size = ops.size := by rw [Array.size_setIfInBounds, Array.size_setIfInBounds]; exact hsz
    have hkj' : j ∈ Region.ready md ops (L.setIfInBounds k true) := by rw [hrk]; simp
    have hjk' : k ∈ Region.ready md ops (L.setIfInBounds j true) := by rw [hrj]; simp
    have hCb : Closed md ops ((L.setIfInBounds k true).setIfInBounds j true) := (hC.set hk).set hkj'
    refine ⟨fun h0 => (by rcases hr with hr | hr <;> (rw [hr] at h0; cases h0)), fun i hi => ?_⟩
    have hi : i = k ∨ i = j := by rcases hr with hr | hr <;> (rw [hr] at hi; simp at hi; omega)
    rcases hi with rfl | rfl
    · refine wpOp_of h0 hw (Oper.wp_mono (fun a1 w1 h' => ⟨fun h => h'.1 (hdk ▸ h), fun h0 => (by rw [hrk] at h0; cases h0), fun i2 hi2 => ?_⟩) h1)
      rw [hrk, List.mem_singleton] at hi2
      subst hi2
      exact wpOp_of h0' hw' (Oper.wp_mono (fun a2 w2 h'' => ⟨fun h => h''.1 (hdb ▸ h), wpT_planU hs hQ hcs ps _ d a2 w2 m hszb hdb hCb h''.1 hB h''.2 hm⟩) h'.2)
    · refine wpOp_of h0' hw' (Oper.wp_mono (fun a1 w1 h' => ⟨fun h => h'.1 (hdj ▸ h), fun h0 => (by rw [hrj] at h0; cases h0), fun i2 hi2 => ?_⟩) h2)
      rw [hrj, List.mem_singleton] at hi2
      subst hi2
      refine wpOp_of h0 hw (Oper.wp_mono (fun a2 w2 h'' => ?_) h'.2)
      rw [hcomm]
      exact ⟨fun h => h''.1 (hdb ▸ h), wpT_planU hs hQ hcs ps _ d a2 w2 m hszb hdb hCb h''.1 hB h''.2 hm⟩

variable {w : World} {a : Act} {o : Oper} {ps : List (Nat × Nat)} {k : Nat} {d : Bool}
theorem wp_region_planU {id : Nat} {l : List Oper} (S : World → Prop) (c : Nat) (ps : List (Nat × Nat)) (hm : P.follows .mixedOrders = true)
    (hB : (Region.noSelect l.toArray && planU .any l.toArray c ps (Array.replicate l.length false) && ((ps.map (fun e => if 3 ≤ e.2 then 2 else 1)).sum == l.length) && decide (c < l.length)) = true)
    (hS : S w.drew) (h : wpPU P l.toArray (NoP Q) S c ps false a w.drew) : (Code.region id l.toArray true).wp P Q a w := by
  simp only [Bool.and_eq_true, beq_iff_eq, decide_eq_true_eq] at hB
  obtain ⟨⟨⟨h1, h2⟩, h3⟩, h4⟩ := hB
  refine Code.wp_mono NoP.imp (wp_region_any hm (wpAny_of_T (S := S) (c := c) _ _ _ _ ?_))
  have := wpT_planU (P := P) (md := .any) (Q := NoP Q) (S := S) (c := c) h1 (fun _ _ _ _ _ h => h) (by simpa using h4) ps (Array.replicate l.length false) false a w.drew l.length (by simp) (by rw [Array.getD_eq_getD_getElem?, Array.getElem?_replicate]; split <;> rfl) (Closed.start _) (fun _ => hS) h2 h h3.symm
  simpa using this
theorem pu_nil (h : Q .normal a w) : wpPU P ops (NoP Q) S c [] d a w := h
theorem pu_pure (ho : ops[k]? = some o) (hg : Region.wanted o (yielded ops a.tmps) = true) (h : ∀ K : Act → Prop, (∀ a', wpPU P ops Q S c ps d a' w → K a') → ∃ v, (∀ w', (execOp a.eval o).run P w' = .ok (.value v) w') ∧ K (a.put o.dst v)) : wpPU P ops Q S c ((k, 0) :: ps) d a w := by
  obtain ⟨v, h1, h2⟩ := h _ (fun _ h => h)
  exact ⟨o, ho, v, .inl ⟨hg, fun w' _ => h1 w'⟩, h2⟩
theorem pu_is (v : Value) (ho : ops[k]? = some o) (hg : Region.wanted o (yielded ops a.tmps) = true) (hrun : ∀ w', (execOp a.eval o).run P w' = .ok (.value v) w')
    (h : ∀ K : Act → Prop, (∀ a', wpPU P ops Q S c ps d a' w → K a') → K (a.put o.dst v)) : wpPU P ops Q S c ((k, 0) :: ps) d a w :=
  ⟨o, ho, v, .inl ⟨hg, fun w' _ => hrun w'⟩, h (fun a' => wpPU P ops Q S c ps d a' w) (fun _ h => h)⟩
theorem pu_take (v : Value) (ho : ops[k]? = some o) (hg : Region.wanted o (yielded ops a.tmps) = true) (hrun : ∀ w', S w' → (execOp a.eval o).run P w' = .ok (.value v) w')
    (h : ∀ K : Act → Prop, (∀ a', wpPU P ops Q S c ps d a' w → K a') → K (a.put o.dst v)) : wpPU P ops Q S c ((k, 1) :: ps) d a w :=
  ⟨o, ho, v, .inl ⟨hg, hrun⟩, h (fun a' => wpPU P ops Q S c ps d a' w) (fun _ h => h)⟩
theorem pu_val {v : Value} {w1 : World} (ho : ops[k]? = some o) (hg : ∀ y, Region.wanted o y = true) (hrun : (execOp a.eval o).run P w = .ok (.value v) w1) (hS : (d || k == c) = false → S w1)
    (h : ∀ K : Act → Prop, (∀ a', wpPU P ops Q S c ps (d || k == c) a' w1 → K a') → K (a.put o.dst v)) : wpPU P ops Q S c ((k, 2) :: ps) d a w :=
  ⟨o, ho, hg, by unfold Oper.wp; rw [hrun]; exact ⟨hS, h (fun a' => wpPU P ops Q S c ps (d || k == c) a' w1) (fun _ h => h)⟩⟩
theorem pu_unit {w1 : World} (ho : ops[k]? = some o) (hg : ∀ y, Region.wanted o y = true) (hrun : (execOp a.eval o).run P w = .ok .skip w1) (hS : (d || k == c) = false → S w1)
    (h : ∀ K : Act → Prop, (∀ a', wpPU P ops Q S c ps (d || k == c) a' w1 → K a') → K (a.put o.dst undef)) : wpPU P ops Q S c ((k, 2) :: ps) d a w :=
  ⟨o, ho, hg, by unfold Oper.wp; rw [hrun]; exact ⟨hS, h (fun a' => wpPU P ops Q S c ps (d || k == c) a' w1) (fun _ h => h)⟩⟩
/-- a pair: an operation that makes memory and a call of a function of the program, in either order -/
theorem pu_pair {j : Nat} {o o' : Oper} (ho : ops[k]? = some o) (ho' : ops[j]? = some o') (hg : ∀ y, Region.wanted o y = true) (hg' : ∀ y, Region.wanted o' y = true)
    (h : ∀ K : Act → World → Prop, (∀ a' w', wpPU P ops Q S c ps d a' w' → K a' w') →
      ∃ v w1 f args, ((execOp a.eval o).run P w = .ok (.value v) w1 ∧ (execOp (a.put o.dst v).eval o').run P w1 = .ok (.enter f args) w1 ∧ (execOp a.eval o').run P w = .ok (.enter f args) w) ∧ (d = false → S w1) ∧
        (Calls P f args w1 fun e w' => ∃ u, e = .returned u ∧ (d = false → S w') ∧ K ((a.put o.dst v).put o'.dst u) w') ∧
        (Calls P f args w fun e w' => ∃ u, e = .returned u ∧ (d = false → S w') ∧ ∃ v2 w2, (execOp (a.put o'.dst u).eval o).run P w' = .ok (.value v2) w2 ∧ (d = false → S w2) ∧ K ((a.put o'.dst u).put o.dst v2) w2)) :
    wpPU P ops Q S c ((k, j + 3) :: ps) d a w := by
  obtain ⟨v, w1, f, args, ⟨hrun, hcall1, hcall2⟩, hS1, hc1, hc2⟩ := h (fun a' w' => wpPU P ops Q S c ps d a' w') (fun _ _ h => h)
  refine ⟨o, o', ho, ho', hg, hg', ?_, ?_⟩
  · unfold Oper.wp
    rw [hrun]
    refine ⟨hS1, ?_⟩
    rw [hcall1]
    exact hc1.mono fun e w' ⟨u, he, h1, h2⟩ => by subst he; exact ⟨h1, h2⟩
  · unfold Oper.wp
    rw [hcall2]
    refine hc2.mono fun e w' ⟨u, he, h1, v2, w2, h2, h3, h4⟩ => ?_
    subst he
    refine ⟨h1, ?_⟩
    rw [h2]
    exact ⟨h3, h4⟩
theorem pu_append (t : TypeId) (s x : Operand) (hk : ops[k]? = some o) (hg : ∀ y, Region.wanted o y = true) (ho : o.op = .call { callee := .builtin .append, args := #[s, x], argTypes := #[t, t] })
    (base : Nat) (e : TypeId) (z : Value) (size bytes : Nat) (ht : P.underlying t = some (.slice e))
    (hi : (P.info? e).map (fun i => (i.zero, i.size, i.bytes)) = some (some z, size, bytes)) (hzs : z.cells.size = size) (hsz : 0 < size)
    (v : Value) (n : Nat) (xs : List Value) (hs : a.eval s = v) (hown : w.ownsRow base e size v n xs)
    (A : Option Addr) (m cc : Nat) (news : List Value) (hx : a.eval x = .slice A m cc) (hr : RdC w A m size news) (h1 : ∀ u ∈ news, u.oneCell' = true)
    (hbytes : (n + m) * bytes ≤ 140737488355328) (h63 : n + m ≤ 140737488355328) (hbase : base ≤ w.heap.size)
    (hK : ∀ v' w', w'.ownsRow base e size v' (n + m) (xs ++ news) → w.grownBy w' v.ownBlock → (v'.ownBlock = v.ownBlock ∨ v'.ownBlock = some w.heap.size) →
      ((d || k == c) = false → S w') ∧ ∀ K : Act → Prop, (∀ a', wpPU P ops Q S c ps (d || k == c) a' w' → K a') → K (a.put o.dst v')) : wpPU P ops Q S c ((k, 2) :: ps) d a w := by
  obtain ⟨v', w', hrun, h2, h3, h4⟩ := exec_append (P := P) t s x ho base e z size bytes ht hi hzs hsz hs hown hx hr h1 hbytes h63 hbase
  obtain ⟨h5, h6⟩ := hK v' w' h2 h3 h4
  exact pu_val hk hg hrun h5 h6
end
end Go.Proofs.YtbocdgmkiajihaaDoor
