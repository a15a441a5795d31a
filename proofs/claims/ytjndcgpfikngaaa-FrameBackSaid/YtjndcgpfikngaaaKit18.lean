/- A region that draws its order, by a plan that forks where two operations act in either order (Kit12's law over trees). No program is named. -/
import Derived.Test.YtjndcgpfikngaaaKit12
namespace Go.Proofs.Ytjndcgpfikngaaa
open Go.RowKit

/-- pure: it reads nothing; read: it reads, and c waits for it; quiet: it calls what only reads, and c waits for it; alone: it comes up alone; fork: one of two comes up -/
inductive PTree where
  | nil : PTree
  | pure : Nat → PTree → PTree
  | read : Nat → PTree → PTree
  | quiet : Nat → PTree → PTree
  | alone : Nat → PTree → PTree
  | fork : Nat → Nat → PTree → PTree → PTree
section
variable {P : Program} {ops : Array Oper} {Q : Exit → Act → World → Prop} {md : Region.Mode} {S : World → Prop} {c : Nat}
/-- in every world that meets S it yields v, or calls what tells v, and leaves the world alone -/
def QuietIf (P : Program) (ops : Array Oper) (S : World → Prop) (o : Oper) (v : Value) (a : Act) : Prop :=
  (Region.wanted o (yielded ops a.tmps) = true ∧ ∀ w, S w → ∃ f args, (execOp a.eval o).run P w = .ok (.enter f args) w ∧ Calls P f args w fun e w' => e = .returned v ∧ w = w') ∨
  (Region.wanted o (yielded ops a.tmps) = false ∧ v = undef)
theorem QuietIf.wpOp {i : Nat} {o : Oper} {v : Value} {a : Act} (hi : ops[i]? = some o) (hy : QuietIf P ops S o v a) {K : Act → World → Prop} {w : World} (hS : S w) (h : K (a.put o.dst v) w) : wpOp P ops Q i K a w := by
  unfold Go.wpOp
  simp only [hi]
  rcases hy with ⟨hw, hv⟩ | ⟨hw, rfl⟩
  · obtain ⟨f, args, hr, hc⟩ := hv w hS
    rw [if_pos hw]
    refine .inl ?_
    unfold Oper.wp
    rw [hr]
    exact hc.mono fun e w' ⟨he, hw'⟩ => by subst he; subst hw'; exact h
  · rw [if_neg (by rw [hw]; exact Bool.false_ne_true)]
    exact h
theorem QuietIf.of_same {o : Oper} {v : Value} {a a' : Act} (hy : QuietIf P ops S o v a) (he : execOp a'.eval o = execOp a.eval o)
    (hw : Region.wanted o (yielded ops a'.tmps) = Region.wanted o (yielded ops a.tmps)) : QuietIf P ops S o v a' := by
  unfold QuietIf at *
  rw [he, hw]
  exact hy
theorem wpOp_putQ {j : Nat} {oi oj : Oper} {v : Value} (hj : ops[j]? = some oj) (hap : oi.apart ops oj = true)
    (hsi : ∀ cs b, oi.op ≠ .select cs b) (hsj : ∀ cs b, oj.op ≠ .select cs b)
    (hQ : ∀ c a w, Q (.panic c) (a.put oi.dst v) w → Q (.panic c) a w) {K : Act → World → Prop} {a : Act} {w : World}
    (hy : QuietIf P ops S oi v a) (h : wpOp P ops Q j K (a.put oi.dst v) w) :
    wpOp P ops Q j (fun a' w' => QuietIf P ops S oi v a' ∧ K (a'.put oi.dst v) w') a w := by
  obtain ⟨h1, h2, h3⟩ := Oper.apart_spec hap
  have keep : ∀ (a : Act), QuietIf P ops S oi v a → ∀ u, QuietIf P ops S oi v (a.put oj.dst u) := fun a hy u =>
    hy.of_same (execOp_put oi hsi a oj.dst u h3) (wanted_put oi a oj.dst u h3)
  have keepD : ∀ d, QuietIf P ops S oi v { a with defers := d :: a.defers } := fun d => hy.of_same rfl rfl
  unfold Go.wpOp at *
  simp only [hj] at *
  rw [wanted_put oj a oi.dst v h1] at h
  by_cases hw : Region.wanted oj (yielded ops a.tmps) = true
  · rw [if_pos hw] at h ⊢
    rcases h with h | ⟨hasks, hlets⟩
    · refine .inl ?_
      unfold Oper.wp at *
      rw [execOp_put oj hsj a oi.dst v h1] at h
      generalize (execOp a.eval oj).run P w = r at *
      cases r with
      | ok n w' =>
        cases n <;> simp only [Oper.upon] at h ⊢
        case value u => exact ⟨keep a hy u, by rw [← Act.put_comm a v u h2]; exact h⟩
        case skip => exact ⟨keep a hy _, by rw [← Act.put_comm a v undef h2]; exact h⟩
        case defer d =>
          refine ⟨keep _ (keepD d) _, ?_⟩
          rw [← Act.put_comm _ v undef h2, ← Act.put_defers]
          exact h
        case enter f args =>
          refine Calls.mono h fun e w'' he => ?_
          cases e with
          | returned u => exact ⟨keep a hy u, by rw [← Act.put_comm a v u h2]; exact he⟩
          | panicked c => exact hQ _ _ _ he
          | outgrown => exact he
        case row row args => exact Rows.mono h fun u w'' he => ⟨keep a hy u, by rw [← Act.put_comm a v u h2]; exact he⟩
      | halt x w' =>
        cases x <;> simp only [Oper.upon] at h ⊢
        case panic u => exact hQ _ _ _ h
    · exact .inr ⟨by unfold Oper.asks at *; rw [execOp_put oj hsj a oi.dst v h1] at hasks; exact hasks, hlets⟩
  · rw [if_neg hw] at h ⊢
    exact ⟨keep a hy _, by rw [← Act.put_comm a v undef h2]; exact h⟩
theorem wpT_firstQ {T : World → Prop} {i : Nat} {oi : Oper} {v : Value} (hi : ops[i]? = some oi) (hsel : ∀ (j : Nat) (o : Oper) cs b, ops[j]? = some o → o.op ≠ .select cs b)
    (hQ : ∀ c a w, Q (.panic c) (a.put oi.dst v) w → Q (.panic c) a w) (hic : i ≠ c)
    (hT : ∀ (L : Array Bool) (w : World), Closed md ops L → L.getD i true = false → (L.getD c false = false → S w) → T w) :
    ∀ (n : Nat) (L : Array Bool) (a : Act) (w : World), (∀ j oj, ops[j]? = some oj → j ≠ i → L.getD j true = false → (∀ e ∈ oj.after, Region.binds md e = true → e.on ≠ i) → oi.apart ops oj = true) →
      i ∈ Region.ready md ops L → Closed md ops L → QuietIf P ops T oi v a → (L.getD c false = false → S w) →
      wpT P md ops Q S c n (L.setIfInBounds i true) (a.put oi.dst v) w → wpT P md ops Q S c (n + 1) L a w := by
  intro n
  induction n with
  | zero =>
    intro L a w _ hr hC hy hS H
    refine ⟨fun h => (by rw [h] at hr; cases hr), fun j hj => ?_⟩
    by_cases hji : j = i
    · subst hji
      exact hy.wpOp hi (hT L w hC (mem_ready.1 hr).1 hS) ⟨fun h => hS (by rw [← getD_set_ne false hic]; exact h), H⟩
    · have := ready_mono hj hji
      rw [H.1] at this
      cases this
  | succ n ih =>
    intro L a w hfree hr hC hy hS H
    refine ⟨fun h => (by rw [h] at hr; cases hr), fun j hj => ?_⟩
    by_cases hji : j = i
    · subst hji
      exact hy.wpOp hi (hT L w hC (mem_ready.1 hr).1 hS) ⟨fun h => hS (by rw [← getD_set_ne false hic]; exact h), H⟩
    · have h1 := H.2 j (ready_mono hj hji)
      obtain ⟨hjun, oj, hoj, hall⟩ := mem_ready.1 hj
      have hiun := getD_two (mem_ready.1 hr).1
      have hnot : ∀ e ∈ oj.after, Region.binds md e = true → e.on ≠ i := fun e he hb heq => by
        have h2 := hall e he hb
        rw [heq, hiun] at h2
        cases h2
      have h2 := wpOp_putQ hoj (hfree j oj hoj hji hjun hnot) (fun cs b => hsel i oi cs b hi) (fun cs b => hsel j oj cs b hoj) hQ hy h1
      have hfree' : ∀ k ok, ops[k]? = some ok → k ≠ i → (L.setIfInBounds j true).getD k true = false → (∀ e ∈ ok.after, Region.binds md e = true → e.on ≠ i) → oi.apart ops ok = true := fun k ok hk hki hun hno => by
        refine hfree k ok hk hki ?_ hno
        by_cases hjk : j = k
        · subst hjk; exact hjun
        · rw [getD_set_ne true hjk] at hun; exact hun
      have hcomm : (L.setIfInBounds i true).setIfInBounds j true = (L.setIfInBounds j true).setIfInBounds i true := (Array.setIfInBounds_comm _ _ (Ne.symm hji))
      refine wpOp_mono (fun a' w' h3 => ?_) h2
      have hS' : (L.setIfInBounds j true).getD c false = false → S w' := fun h => h3.2.1 (by rw [hcomm, getD_set_ne false hic]; exact h)
      refine ⟨hS', ih (L.setIfInBounds j true) a' w' hfree' (ready_mono hr (Ne.symm hji)) (hC.set hj) h3.1 hS' ?_⟩
      rw [← hcomm]
      exact h3.2.2
def planV (md : Region.Mode) (ops : Array Oper) (c : Nat) : PTree → Nat → Array Bool → Bool
  | .nil, n, L => n == 0 && (Region.ready md ops L) == []
  | .pure k t, n, L => (n != 0) && Region.free md ops L k && (Region.ready md ops L).contains k && (k != c) && planV md ops c t (n - 1) (L.setIfInBounds k true)
  | .read k t, n, L => (n != 0) && Region.free md ops L k && (Region.ready md ops L).contains k && (k != c) && waits md ops k ops.size c && planV md ops c t (n - 1) (L.setIfInBounds k true)
  | .quiet k t, n, L => (n != 0) && Region.free md ops L k && (Region.ready md ops L).contains k && (k != c) && waits md ops k ops.size c && planV md ops c t (n - 1) (L.setIfInBounds k true)
  | .alone k t, n, L => (n != 0) && (Region.ready md ops L) == [k] && planV md ops c t (n - 1) (L.setIfInBounds k true)
  | .fork k j t u, n, L => (n != 0) && ((Region.ready md ops L) == [k, j] || (Region.ready md ops L) == [j, k]) && planV md ops c t (n - 1) (L.setIfInBounds k true) && planV md ops c u (n - 1) (L.setIfInBounds j true)
/-- k comes up here -/
def wpAl (P : Program) (ops : Array Oper) (Q : Exit → Act → World → Prop) (S : World → Prop) (c k : Nat) (d : Bool) (K : Act → World → Prop) (a : Act) (w : World) : Prop :=
  ∃ o, ops[k]? = some o ∧ ((Region.wanted o (yielded ops a.tmps) = true ∧ o.wp P a w (fun a' w' => ((d || k == c) = false → S w') ∧ K a' w') Q) ∨
      (Region.wanted o (yielded ops a.tmps) = false ∧ K (a.put o.dst undef) w))
def wpPV (P : Program) (ops : Array Oper) (Q : Exit → Act → World → Prop) (S : World → Prop) (c : Nat) : PTree → Bool → Act → World → Prop
  | .nil, _, a, w => Q .normal a w
  | .pure k t, d, a, w => ∃ o, ops[k]? = some o ∧ ∃ v, YieldsIf P ops (fun _ => True) o v a ∧ wpPV P ops Q S c t d (a.put o.dst v) w
  | .read k t, d, a, w => ∃ o, ops[k]? = some o ∧ ∃ v, YieldsIf P ops S o v a ∧ wpPV P ops Q S c t d (a.put o.dst v) w
  | .quiet k t, d, a, w => ∃ o, ops[k]? = some o ∧ ∃ v, QuietIf P ops S o v a ∧ wpPV P ops Q S c t d (a.put o.dst v) w
  | .alone k t, d, a, w => wpAl P ops Q S c k d (wpPV P ops Q S c t (d || k == c)) a w
  | .fork k j t u, d, a, w => wpAl P ops Q S c k d (wpPV P ops Q S c t (d || k == c)) a w ∧ wpAl P ops Q S c j d (wpPV P ops Q S c u (d || j == c)) a w

theorem wpOp_al {k n : Nat} {d : Bool} {L : Array Bool} {K : Act → World → Prop} {a : Act} {w : World} (hd' : (L.setIfInBounds k true).getD c false = (d || k == c)) (hS : d = false → S w)
    (hK : ∀ a' w', ((d || k == c) = false → S w') → K a' w' → wpT P md ops Q S c n (L.setIfInBounds k true) a' w') (h : wpAl P ops Q S c k d K a w) :
    wpOp P ops Q k (fun a' w' => ((L.setIfInBounds k true).getD c false = false → S w') ∧ wpT P md ops Q S c n (L.setIfInBounds k true) a' w') a w := by
  obtain ⟨o, h0, h⟩ := h
  unfold wpOp
  simp only [h0]
  rcases h with ⟨hw, h⟩ | ⟨hw, h⟩
  · rw [if_pos hw]
    exact .inl (Oper.wp_mono (fun a' w' h' => ⟨fun h => h'.1 (hd' ▸ h), hK a' w' h'.1 h'.2⟩) h)
  · rw [if_neg (by rw [hw]; exact Bool.false_ne_true)]
    have hS' : (d || k == c) = false → S w := fun h => hS (by cases d <;> simp_all)
    exact ⟨fun h => hS' (hd' ▸ h), hK _ _ hS' h⟩
theorem getD_al {k : Nat} {d : Bool} {L : Array Bool} (hsz : L.size = ops.size) (hcs : c < ops.size) (hd : L.getD c false = d) : (L.setIfInBounds k true).getD c false = (d || k == c) := by
  by_cases hkc : k = c
  · subst hkc
    simp [hsz, hcs]
  · rw [getD_set_ne false hkc, hd]; simp [hkc]
theorem wpT_planV (hs : Region.noSelect ops = true) (hQ : ∀ c a d v w, Q (.panic c) (Act.put a d v) w → Q (.panic c) a w) (hcs : c < ops.size) :
    ∀ (t : PTree) (n : Nat) (L : Array Bool) (d : Bool) (a : Act) (w : World), L.size = ops.size → L.getD c false = d → Closed md ops L → (d = false → S w) → planV md ops c t n L = true → wpPV P ops Q S c t d a w → wpT P md ops Q S c n L a w
  | .nil, n, L, d, a, w, _, _, _, _, hB, h => by
    simp only [planV, Bool.and_eq_true, beq_iff_eq] at hB
    obtain ⟨hn, hB⟩ := hB
    subst hn
    exact ⟨hB, h⟩
  | .pure k t, n, L, d, a, w, hsz, hd, hC, hS, hB, h => by
    simp only [planV, Bool.and_eq_true, bne_iff_ne, ne_eq] at hB
    obtain ⟨⟨⟨⟨h0', h1⟩, h2⟩, h3⟩, h4⟩ := hB
    obtain ⟨m, rfl⟩ : ∃ m, n = m + 1 := ⟨n - 1, by omega⟩
    obtain ⟨o, h0, v, hy, hK⟩ := h
    have hr : k ∈ Region.ready md ops L := by simpa using h2
    refine wpT_first h0 (Region.noSelect_spec hs) (fun c a w => hQ c a o.dst v w) h3 (fun _ _ _ _ _ => trivial) _ L a w (Region.free_spec h0 h1) hr hC hy (fun h => hS (hd ▸ h)) ?_
    exact wpT_planV hs hQ hcs t m _ d _ _ (by rw [Array.size_setIfInBounds]; exact hsz) (by rw [getD_set_ne false h3]; exact hd) (hC.set hr) hS h4 hK
  | .read k t, n, L, d, a, w, hsz, hd, hC, hS, hB, h => by
    simp only [planV, Bool.and_eq_true, bne_iff_ne, ne_eq] at hB
    obtain ⟨⟨⟨⟨⟨h0', h1⟩, h2⟩, h3⟩, hw⟩, h4⟩ := hB
    obtain ⟨m, rfl⟩ : ∃ m, n = m + 1 := ⟨n - 1, by omega⟩
    obtain ⟨o, h0, v, hy, hK⟩ := h
    have hr : k ∈ Region.ready md ops L := by simpa using h2
    refine wpT_first h0 (Region.noSelect_spec hs) (fun c a w => hQ c a o.dst v w) h3 (fun L' w' hC' hi' hS' => hS' ?_) _ L a w (Region.free_spec h0 h1) hr hC hy (fun h => hS (hd ▸ h)) ?_
    · cases hl : L'.getD c false with
      | false => rfl
      | true =>
        have := waits_spec hC' _ _ hw hl
        rw [getD_two hi'] at this
        cases this
    · exact wpT_planV hs hQ hcs t m _ d _ _ (by rw [Array.size_setIfInBounds]; exact hsz) (by rw [getD_set_ne false h3]; exact hd) (hC.set hr) hS h4 hK
  | .quiet k t, n, L, d, a, w, hsz, hd, hC, hS, hB, h => by
    simp only [planV, Bool.and_eq_true, bne_iff_ne, ne_eq] at hB
    obtain ⟨⟨⟨⟨⟨h0', h1⟩, h2⟩, h3⟩, hw⟩, h4⟩ := hB
    obtain ⟨m, rfl⟩ : ∃ m, n = m + 1 := ⟨n - 1, by omega⟩
    obtain ⟨o, h0, v, hy, hK⟩ := h
    have hr : k ∈ Region.ready md ops L := by simpa using h2
    refine wpT_firstQ h0 (Region.noSelect_spec hs) (fun c a w => hQ c a o.dst v w) h3 (fun L' w' hC' hi' hS' => hS' ?_) _ L a w (Region.free_spec h0 h1) hr hC hy (fun h => hS (hd ▸ h)) ?_
    · cases hl : L'.getD c false with
      | false => rfl
      | true =>
        have := waits_spec hC' _ _ hw hl
        rw [getD_two hi'] at this
        cases this
    · exact wpT_planV hs hQ hcs t m _ d _ _ (by rw [Array.size_setIfInBounds]; exact hsz) (by rw [getD_set_ne false h3]; exact hd) (hC.set hr) hS h4 hK
  | .alone k t, n, L, d, a, w, hsz, hd, hC, hS, hB, h => by
    simp only [planV, Bool.and_eq_true, bne_iff_ne, ne_eq, beq_iff_eq] at hB
    obtain ⟨⟨h0', hr⟩, hB⟩ := hB
    obtain ⟨m, rfl⟩ : ∃ m, n = m + 1 := ⟨n - 1, by omega⟩
    have hk : k ∈ Region.ready md ops L := by rw [hr]; simp
    have hd' := getD_al (k := k) hsz hcs hd
    refine ⟨fun h0 => (by rw [hr] at h0; cases h0), fun i hi => ?_⟩
    rw [hr, List.mem_singleton] at hi
    subst hi
    exact wpOp_al hd' hS (fun a' w' hS' hK => wpT_planV hs hQ hcs t m _ _ a' w' (by rw [Array.size_setIfInBounds]; exact hsz) hd' (hC.set hk) hS' hB hK) h
  | .fork k j t u, n, L, d, a, w, hsz, hd, hC, hS, hB, h => by
    simp only [planV, Bool.and_eq_true, bne_iff_ne, ne_eq, Bool.or_eq_true, beq_iff_eq] at hB
    obtain ⟨⟨⟨h0', hr⟩, hB1⟩, hB2⟩ := hB
    obtain ⟨m, rfl⟩ : ∃ m, n = m + 1 := ⟨n - 1, by omega⟩
    have hm : ∀ i, i ∈ Region.ready md ops L ↔ i = k ∨ i = j := by
      intro i
      rcases hr with hr | hr <;> rw [hr] <;> simp <;> constructor <;> rintro (h | h) <;> simp [h]
    have hk : k ∈ Region.ready md ops L := (hm k).2 (.inl rfl)
    have hj : j ∈ Region.ready md ops L := (hm j).2 (.inr rfl)
    refine ⟨fun h0 => (by rw [h0] at hk; cases hk), fun i hi => ?_⟩
    rcases (hm i).1 hi with rfl | rfl
    · exact wpOp_al (getD_al hsz hcs hd) hS (fun a' w' hS' hK => wpT_planV hs hQ hcs t m _ _ a' w' (by rw [Array.size_setIfInBounds]; exact hsz) (getD_al hsz hcs hd) (hC.set hk) hS' hB1 hK) h.1
    · exact wpOp_al (getD_al hsz hcs hd) hS (fun a' w' hS' hK => wpT_planV hs hQ hcs u m _ _ a' w' (by rw [Array.size_setIfInBounds]; exact hsz) (getD_al hsz hcs hd) (hC.set hj) hS' hB2 hK) h.2

variable {w : World} {a : Act} {o : Oper} {t u : PTree} {k j : Nat} {d : Bool}
theorem wp_region_planV {id : Nat} {l : List Oper} (S : World → Prop) (c : Nat) (t : PTree) (hm : P.follows .mixedOrders = true)
    (hB : (Region.noSelect l.toArray && planV .any l.toArray c t l.length (Array.replicate l.length false) && decide (c < l.length)) = true)
    (hS : S w.drew) (h : wpPV P l.toArray (NoP Q) S c t false a w.drew) : (Code.region id l.toArray true).wp P Q a w := by
  simp only [Bool.and_eq_true, decide_eq_true_eq] at hB
  obtain ⟨⟨h1, h2⟩, h4⟩ := hB
  refine Code.wp_mono NoP.imp (wp_region_any hm (wpAny_of_T (S := S) (c := c) _ _ _ _ ?_))
  have := wpT_planV (P := P) (md := .any) (Q := NoP Q) (S := S) (c := c) h1 (fun _ _ _ _ _ h => h) (by simpa using h4) t l.length (Array.replicate l.length false) false a w.drew (by simp) (by rw [Array.getD_eq_getD_getElem?, Array.getElem?_replicate]; split <;> rfl) (Closed.start _) (fun _ => hS) h2 h
  simpa using this
theorem pv_nil (h : Q .normal a w) : wpPV P ops (NoP Q) S c .nil d a w := h
theorem pv_pure (ho : ops[k]? = some o) (hg : Region.wanted o (yielded ops a.tmps) = true) (h : ∀ K : Act → Prop, (∀ a', wpPV P ops Q S c t d a' w → K a') → ∃ v, (∀ w', (execOp a.eval o).run P w' = .ok (.value v) w') ∧ K (a.put o.dst v)) : wpPV P ops Q S c (.pure k t) d a w := by
  obtain ⟨v, h1, h2⟩ := h _ (fun _ h => h)
  exact ⟨o, ho, v, .inl ⟨hg, fun w' _ => h1 w'⟩, h2⟩
theorem pv_is (v : Value) (ho : ops[k]? = some o) (hg : Region.wanted o (yielded ops a.tmps) = true) (hrun : ∀ w', (execOp a.eval o).run P w' = .ok (.value v) w')
    (h : ∀ K : Act → Prop, (∀ a', wpPV P ops Q S c t d a' w → K a') → K (a.put o.dst v)) : wpPV P ops Q S c (.pure k t) d a w :=
  ⟨o, ho, v, .inl ⟨hg, fun w' _ => hrun w'⟩, h (fun a' => wpPV P ops Q S c t d a' w) (fun _ h => h)⟩
theorem pv_skip (ho : ops[k]? = some o) (hg : Region.wanted o (yielded ops a.tmps) = false) (h : ∀ K : Act → Prop, (∀ a', wpPV P ops Q S c t d a' w → K a') → K (a.put o.dst undef)) : wpPV P ops Q S c (.pure k t) d a w :=
  ⟨o, ho, undef, .inr ⟨hg, rfl⟩, h (fun a' => wpPV P ops Q S c t d a' w) (fun _ h => h)⟩
theorem pv_take (v : Value) (ho : ops[k]? = some o) (hg : Region.wanted o (yielded ops a.tmps) = true) (hrun : ∀ w', S w' → (execOp a.eval o).run P w' = .ok (.value v) w')
    (h : ∀ K : Act → Prop, (∀ a', wpPV P ops Q S c t d a' w → K a') → K (a.put o.dst v)) : wpPV P ops Q S c (.read k t) d a w :=
  ⟨o, ho, v, .inl ⟨hg, hrun⟩, h (fun a' => wpPV P ops Q S c t d a' w) (fun _ h => h)⟩
theorem pv_quiet (v : Value) (ho : ops[k]? = some o) (hg : Region.wanted o (yielded ops a.tmps) = true)
    (h : ∀ K : Act → Prop, (∀ a', wpPV P ops Q S c t d a' w → K a') → ∃ f args, (∀ w', (execOp a.eval o).run P w' = .ok (.enter f args) w') ∧ (∀ w', S w' → Calls P f args w' fun e w'' => e = .returned v ∧ w' = w'') ∧ K (a.put o.dst v)) : wpPV P ops Q S c (.quiet k t) d a w := by
  obtain ⟨f, args, h1, h2, h3⟩ := h (fun a' => wpPV P ops Q S c t d a' w) (fun _ h => h)
  exact ⟨o, ho, v, .inl ⟨hg, fun w' hS => ⟨f, args, h1 w', h2 w' hS⟩⟩, h3⟩
theorem pv_fork (h : wpPV P ops Q S c (.alone k t) d a w) (h' : wpPV P ops Q S c (.alone j u) d a w) : wpPV P ops Q S c (.fork k j t u) d a w := ⟨h, h'⟩
theorem pv_val {v : Value} {w1 : World} (ho : ops[k]? = some o) (hg : Region.wanted o (yielded ops a.tmps) = true) (hrun : (execOp a.eval o).run P w = .ok (.value v) w1) (hS : (d || k == c) = false → S w1)
    (h : ∀ K : Act → Prop, (∀ a', wpPV P ops Q S c t (d || k == c) a' w1 → K a') → K (a.put o.dst v)) : wpPV P ops Q S c (.alone k t) d a w :=
  ⟨o, ho, .inl ⟨hg, by unfold Oper.wp; rw [hrun]; exact ⟨hS, h (fun a' => wpPV P ops Q S c t (d || k == c) a' w1) (fun _ h => h)⟩⟩⟩
theorem pv_unit {w1 : World} (ho : ops[k]? = some o) (hg : Region.wanted o (yielded ops a.tmps) = true) (hrun : (execOp a.eval o).run P w = .ok .skip w1) (hS : (d || k == c) = false → S w1)
    (h : ∀ K : Act → Prop, (∀ a', wpPV P ops Q S c t (d || k == c) a' w1 → K a') → K (a.put o.dst undef)) : wpPV P ops Q S c (.alone k t) d a w :=
  ⟨o, ho, .inl ⟨hg, by unfold Oper.wp; rw [hrun]; exact ⟨hS, h (fun a' => wpPV P ops Q S c t (d || k == c) a' w1) (fun _ h => h)⟩⟩⟩
theorem pv_skipA (ho : ops[k]? = some o) (hg : Region.wanted o (yielded ops a.tmps) = false) (h : ∀ K : Act → Prop, (∀ a', wpPV P ops Q S c t (d || k == c) a' w → K a') → K (a.put o.dst undef)) : wpPV P ops Q S c (.alone k t) d a w :=
  ⟨o, ho, .inr ⟨hg, h (fun a' => wpPV P ops Q S c t (d || k == c) a' w) (fun _ h => h)⟩⟩
theorem pv_call (ho : ops[k]? = some o) (hg : Region.wanted o (yielded ops a.tmps) = true)
    (h : ∀ K : FuncId → Array Value → (Value → Act) → Prop, (∀ f args (cc : Value → Act), (Calls P f args w fun e w1 => ∃ v, e = .returned v ∧ ((d || k == c) = false → S w1) ∧ wpPV P ops Q S c t (d || k == c) (cc v) w1) → K f args cc) →
      ∃ f args, (execOp a.eval o).run P w = .ok (.enter f args) w ∧ K f args (fun v => a.put o.dst v)) : wpPV P ops Q S c (.alone k t) d a w := by
  obtain ⟨f, args, hrun, hc⟩ := h _ (fun _ _ _ h => h)
  exact ⟨o, ho, .inl ⟨hg, by
    unfold Oper.wp; rw [hrun]
    exact hc.mono fun e w1 hr => by obtain ⟨v, rfl, h1, h2⟩ := hr; exact ⟨h1, h2⟩⟩⟩
theorem pv_mem (ho : ops[k]? = some o) (hg : Region.wanted o (yielded ops a.tmps) = true)
    (h : ∀ K : Act → World → Prop, (∀ a' w1, ((d || k == c) = false → S w1) → wpPV P ops Q S c t (d || k == c) a' w1 → K a' w1) → ∃ v w1, (execOp a.eval o).run P w = .ok (.value v) w1 ∧ K (a.put o.dst v) w1) : wpPV P ops Q S c (.alone k t) d a w := by
  obtain ⟨v, w1, hrun, h1, h2⟩ := h (fun a' w1 => ((d || k == c) = false → S w1) ∧ wpPV P ops Q S c t (d || k == c) a' w1) (fun _ _ h1 h2 => ⟨h1, h2⟩)
  exact ⟨o, ho, .inl ⟨hg, by unfold Oper.wp; rw [hrun]; exact ⟨h1, h2⟩⟩⟩
/-- an operation of which a contract tells what it does, as '∃ v w1, run = .. ∧ R v w1' -/
theorem pv_does {R : Value → World → Prop} (ho : ops[k]? = some o) (hg : Region.wanted o (yielded ops a.tmps) = true) (hrun : ∃ v w1, (execOp a.eval o).run P w = .ok (.value v) w1 ∧ R v w1)
    (h : ∀ v w1, R v w1 → ((d || k == c) = false → S w1) ∧ ∀ K : Act → Prop, (∀ a', wpPV P ops Q S c t (d || k == c) a' w1 → K a') → K (a.put o.dst v)) : wpPV P ops Q S c (.alone k t) d a w := by
  obtain ⟨v, w1, h1, h2⟩ := hrun
  obtain ⟨h3, h4⟩ := h v w1 h2
  exact pv_val ho hg h1 h3 h4
end
end Go.Proofs.Ytjndcgpfikngaaa
