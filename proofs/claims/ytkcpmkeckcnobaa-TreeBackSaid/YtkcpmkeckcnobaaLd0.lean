/- What the loader makes of nodes, in plain words, and that it is what the document's reader makes of them. -/
import Derived.Test.YtkcpmkeckcnobaaUn0
import Derived.Test.YtkcpmkeckcnobaaTr0
namespace Go.Proofs.Ytkcpmkeckcnobaa

/-- between which keys entries must be -/
structure Spn where
  lo : Option (List Nat)
  hi : Option (List Nat)
def Spn.above (s : Spn) (k : List Nat) : Bool := match s.lo with | none => true | some f => !decide (klt k f)
def Spn.under (s : Spn) (k : List Nat) : Bool := match s.hi with | none => true | some b => decide (klt k b)
def Spn.has (s : Spn) (k : List Nat) : Bool := s.above k && s.under k
def Spn.kid (s : Spn) (keys : List (List Nat)) (i : Nat) : Spn := ⟨if 0 < i then some (keys.getD (i - 1) []) else s.lo, if i < keys.length then some (keys.getD i []) else s.hi⟩
def Spn.all (s : Spn) (L : List (List Nat)) : Bool := L.all (fun e => s.has (keyOf e))
def lkidsM (U : Int → Spn → List Bool → UR) (s : Spn) (keys : List (List Nat)) : List Int → Nat → List (List Nat) → Nat → List Bool → UR
  | [], _, out, deep, σ => some (out, deep + 1, σ)
  | k :: ks, i, out, deep, σ => match U k (s.kid keys i) σ with
    | none => none
    | some (l, d, σ') => if (decide (0 < i) && decide (d ≠ deep)) then none else lkidsM U s keys ks (i + 1) (out ++ l) d σ'
def lastM (b : Bool) : UR → UR
  | none => none
  | some r => if b then none else some r
def partM (Ns : List Nd) : Nat → Int → Spn → Bool → List Bool → UR
  | 0, _, _, _, _ => none
  | f + 1, at_, s, top, σ =>
    if at_ < 0 ∨ (Ns.length : Int) ≤ at_ ∨ σ.getD at_.toNat true = true then none else
    match Ns[at_.toNat]? with
    | none => none
    | some n => if n.right = false then none else
      if n.leaf then (if (n.little && !top) || !s.all n.ents then none else some (n.ents, 1, σ.set at_.toNat true))
      else lastM (n.little && !top) (lkidsM (fun a s' σ' => partM Ns f a s' false σ') s n.keys n.kids 0 [] 0 (σ.set at_.toNat true))
def filt (s : Spn) : UR → UR
  | none => none
  | some (L, d, σ) => if s.all L then some (L, d, σ) else none
theorem all_app (s : Spn) (A B : List (List Nat)) : s.all (A ++ B) = (s.all A && s.all B) := List.all_append
/-- the entries below one kid are within its keys -/
def inK (keys : List (List Nat)) (i : Nat) (l : List (List Nat)) : Prop := ∀ e ∈ l, (0 < i → ¬ klt (keyOf e) (keys.getD (i - 1) [])) ∧ (i < keys.length → klt (keyOf e) (keys.getD i []))
theorem all_iff {s : Spn} {L : List (List Nat)} : s.all L = true ↔ ∀ e ∈ L, s.above (keyOf e) = true ∧ s.under (keyOf e) = true := by
  unfold Spn.all Spn.has
  rw [List.all_eq_true]
  simp only [Bool.and_eq_true]
theorem above_iff {s : Spn} {k : List Nat} : s.above k = true ↔ ∀ f, s.lo = some f → ¬ klt k f := by
  unfold Spn.above
  cases s.lo <;> simp
theorem under_iff {s : Spn} {k : List Nat} : s.under k = true ↔ ∀ b, s.hi = some b → klt k b := by
  unfold Spn.under
  cases s.hi <;> simp
theorem kid_all (s : Spn) (keys : List (List Nat)) (i : Nat) (l : List (List Nat)) (h : (s.kid keys i).all l = true) : l.any (badE keys i) = false := by
  refine List.any_eq_false.2 (fun r hr => ?_)
  have hh := all_iff.1 h r hr
  unfold badE
  rw [Bool.or_eq_true, Bool.and_eq_true, Bool.and_eq_true]
  rintro (⟨g1, g2⟩ | ⟨g1, g2⟩)
  · rw [decide_eq_true_eq] at g1 g2
    exact above_iff.1 hh.1 _ (by simp only [Spn.kid]; rw [if_pos g1]) g2
  · rw [decide_eq_true_eq] at g1
    have := under_iff.1 hh.2 _ (by simp only [Spn.kid]; rw [if_pos g1])
    rw [decide_eq_true this] at g2; cases g2
theorem inK_of {keys : List (List Nat)} {i : Nat} {l : List (List Nat)} (h : l.any (badE keys i) = false) : inK keys i l := fun e he => by
  have hh := List.any_eq_false.1 h e he
  exact ⟨fun h0 hk => hh (by unfold badE; rw [Bool.or_eq_true, Bool.and_eq_true]; exact .inl ⟨decide_eq_true h0, decide_eq_true hk⟩), fun h1 => Classical.byContradiction fun hk => hh (by unfold badE; rw [Bool.or_eq_true, Bool.and_eq_true, Bool.and_eq_true]; exact .inr ⟨decide_eq_true h1, by rw [decide_eq_false hk]; rfl⟩)⟩
theorem kid_all_of {s : Spn} {keys : List (List Nat)} {i : Nat} {l : List (List Nat)} (h : inK keys i l) (hs : s.all l = true) : (s.kid keys i).all l = true := by
  refine all_iff.2 fun e he => ?_
  have h1 := h e he
  have h2 := all_iff.1 hs e he
  refine ⟨above_iff.2 fun f hf => ?_, under_iff.2 fun b hb => ?_⟩
  · simp only [Spn.kid] at hf
    split at hf
    · rename_i c; injection hf with hf; subst hf; exact h1.1 c
    · exact above_iff.1 h2.1 f hf
  · simp only [Spn.kid] at hb
    split at hb
    · rename_i c; injection hb with hb; subst hb; exact h1.2 c
    · exact under_iff.1 h2.2 b hb
theorem keys_le {K : List (List Nat)} (h : K.Pairwise klt) {a b : Nat} (hab : a ≤ b) (hb : b < K.length) : ¬ klt (K.getD b []) (K.getD a []) := by
  rcases Nat.lt_or_ge a b with h1 | h1
  · have := List.pairwise_iff_getElem.1 h a b (by omega) hb h1
    have e1 : K.getD a [] = K[a] := by rw [List.getD_eq_getElem?_getD, List.getElem?_eq_getElem (show a < K.length by omega)]; rfl
    have e2 : K.getD b [] = K[b] := by rw [List.getD_eq_getElem?_getD, List.getElem?_eq_getElem hb]; rfl
    rw [e1, e2]; exact klt_asym this
  · obtain rfl : a = b := by omega
    exact klt_irr _
theorem spans_all {s : Spn} {keys : List (List Nat)} (hs : keys.Pairwise klt) {ls : List (List (List Nat))} (hl : ls.length = keys.length + 1) (hne : ∀ l ∈ ls, l ≠ []) (h : ∀ j l, ls[j]? = some l → (s.kid keys j).all l = true) : s.all ls.flatten = true := by
  refine all_iff.2 fun e he => ?_
  obtain ⟨l, hl', he'⟩ := List.mem_flatten.1 he
  obtain ⟨j, hj⟩ := List.mem_iff_getElem?.1 hl'
  have hjl := (List.getElem?_eq_some_iff.1 hj).1
  have hje := all_iff.1 (h j l hj) e he'
  constructor
  · refine above_iff.2 fun f hf => ?_
    by_cases h0 : j = 0
    · subst h0
      exact above_iff.1 hje.1 f (by simp [Spn.kid, hf])
    · obtain ⟨l0, hl0⟩ : ∃ l0, ls[0]? = some l0 := ⟨_, List.getElem?_eq_getElem (by omega)⟩
      obtain ⟨e0, he0⟩ := List.exists_mem_of_ne_nil _ (hne l0 (List.mem_of_getElem? hl0))
      have h0e := all_iff.1 (h 0 l0 hl0) e0 he0
      have hk0 : 0 < keys.length := by omega
      have a1 : ¬ klt (keyOf e0) f := above_iff.1 h0e.1 f (by simp [Spn.kid, hf])
      have a2 : klt (keyOf e0) (keys.getD 0 []) := under_iff.1 h0e.2 _ (by simp only [Spn.kid]; rw [if_pos hk0])
      have a3 : ¬ klt (keyOf e) (keys.getD (j - 1) []) := above_iff.1 hje.1 _ (by simp only [Spn.kid]; rw [if_pos (by omega)])
      exact fun hc => a3 (klt_of_lt_le (klt_trans (klt_of_lt_le hc a1) a2) (keys_le hs (Nat.zero_le _) (by omega)))
  · refine under_iff.2 fun b hb => ?_
    by_cases hm : j = keys.length
    · exact under_iff.1 hje.2 b (by simp only [Spn.kid]; rw [if_neg (by omega)]; exact hb)
    · obtain ⟨l1, hl1⟩ : ∃ l1, ls[keys.length]? = some l1 := ⟨_, List.getElem?_eq_getElem (by omega)⟩
      obtain ⟨e1, he1⟩ := List.exists_mem_of_ne_nil _ (hne l1 (List.mem_of_getElem? hl1))
      have h1e := all_iff.1 (h _ l1 hl1) e1 he1
      have a1 : klt (keyOf e1) b := under_iff.1 h1e.2 b (by simp only [Spn.kid]; rw [if_neg (by omega)]; exact hb)
      have a2 : ¬ klt (keyOf e1) (keys.getD (keys.length - 1) []) := above_iff.1 h1e.1 _ (by simp only [Spn.kid]; rw [if_pos (by omega)])
      have a3 : klt (keyOf e) (keys.getD j []) := under_iff.1 hje.2 _ (by simp only [Spn.kid]; rw [if_pos (by omega)])
      exact klt_trans (klt_of_lt_le (klt_of_lt_le a3 (keys_le hs (show j ≤ keys.length - 1 by omega) (by omega))) a2) a1
section
variable {U : Int → List Bool → UR} {V : Int → Spn → List Bool → UR} {s : Spn} {keys : List (List Nat)}
theorem lkids_some : ∀ (kids : List Int) (i : Nat) (out : List (List Nat)) (deep : Nat) (σ : List Bool) (L : List (List Nat)) (d : Nat) (σ' : List Bool), lkidsM V s keys kids i out deep σ = some (L, d, σ') →
    ∃ ls : List (List (List Nat)), L = out ++ ls.flatten ∧ ls.length = kids.length ∧ ∀ j l, ls[j]? = some l → ∃ k σ1 d1 σ2, V k (s.kid keys (i + j)) σ1 = some (l, d1, σ2)
  | [], i, out, deep, σ, L, d, σ', h => by
    simp only [lkidsM, Option.some.injEq, Prod.mk.injEq] at h
    exact ⟨[], by rw [← h.1]; simp, rfl, fun j l hj => by simp at hj⟩
  | k :: ks, i, out, deep, σ, L, d, σ', h => by
    simp only [lkidsM] at h
    split at h
    · cases h
    · rename_i l d1 σ1 he
      split at h
      · cases h
      · obtain ⟨ls, h1, h2, h3⟩ := lkids_some ks (i + 1) (out ++ l) d1 σ1 L d σ' h
        refine ⟨l :: ls, by rw [h1]; simp, by simp [h2], fun j l' hj => ?_⟩
        cases j with
        | zero =>
          simp only [List.getElem?_cons_zero, Option.some.injEq] at hj
          subst hj
          exact ⟨k, σ, d1, σ1, he⟩
        | succ j =>
          simp only [List.getElem?_cons_succ] at hj
          have := h3 j l' hj
          rwa [show i + 1 + j = i + (j + 1) by omega] at this
theorem filt_some {r : UR} {L : List (List Nat)} {d : Nat} {σ : List Bool} (h : filt s r = some (L, d, σ)) : r = some (L, d, σ) ∧ s.all L = true := by
  unfold filt at h
  split at h
  · cases h
  · split at h
    · rename_i hc
      injection h with h; injection h with h1 h2; injection h2 with h2 h3
      subst h1 h2 h3
      exact ⟨rfl, hc⟩
    · cases h
theorem lkids_to (hUV : ∀ k s σ, V k s σ = filt s (U k σ)) : ∀ (kids : List Int) (i : Nat) (out : List (List Nat)) (deep : Nat) (σ : List Bool) (L : List (List Nat)) (d : Nat) (σ' : List Bool), lkidsM V s keys kids i out deep σ = some (L, d, σ') → kidsM U keys kids i out deep σ = some (L, d, σ')
  | [], i, out, deep, σ, L, d, σ', h => h
  | k :: ks, i, out, deep, σ, L, d, σ', h => by
    simp only [lkidsM] at h
    split at h
    · cases h
    · rename_i l d1 σ1 he
      rw [hUV] at he
      obtain ⟨he1, he2⟩ := filt_some he
      split at h
      · cases h
      · rename_i hc
        simp only [kidsM, he1]
        rw [kid_all s keys i l he2, Bool.or_false, if_neg hc]
        exact lkids_to hUV ks (i + 1) (out ++ l) d1 σ1 L d σ' h
theorem kids_out : ∀ (kids : List Int) (i : Nat) (out : List (List Nat)) (deep : Nat) (σ : List Bool) (L : List (List Nat)) (d : Nat) (σ' : List Bool), kidsM U keys kids i out deep σ = some (L, d, σ') → ∃ t, L = out ++ t
  | [], i, out, deep, σ, L, d, σ', h => by
    simp only [kidsM, Option.some.injEq, Prod.mk.injEq] at h
    exact ⟨[], by rw [← h.1]; simp⟩
  | k :: ks, i, out, deep, σ, L, d, σ', h => by
    simp only [kidsM] at h
    split at h
    · cases h
    · rename_i l d1 σ1 he
      split at h
      · cases h
      · obtain ⟨t, ht⟩ := kids_out ks (i + 1) (out ++ l) d1 σ1 L d σ' h
        exact ⟨l ++ t, by rw [ht]; simp⟩
theorem lkids_from (hUV : ∀ k s σ, V k s σ = filt s (U k σ)) : ∀ (kids : List Int) (i : Nat) (out : List (List Nat)) (deep : Nat) (σ : List Bool) (L : List (List Nat)) (d : Nat) (σ' : List Bool), kidsM U keys kids i out deep σ = some (L, d, σ') → s.all L = true → lkidsM V s keys kids i out deep σ = some (L, d, σ')
  | [], i, out, deep, σ, L, d, σ', h, _ => h
  | k :: ks, i, out, deep, σ, L, d, σ', h, hs => by
    simp only [kidsM] at h
    split at h
    · cases h
    · rename_i l d1 σ1 he
      split at h
      · cases h
      · rename_i hc
        rw [Bool.or_eq_true, not_or] at hc
        obtain ⟨t, ht⟩ := kids_out ks (i + 1) (out ++ l) d1 σ1 L d σ' h
        have hl : s.all l = true := by
          rw [ht, all_app, all_app] at hs
          simp only [Bool.and_eq_true] at hs
          exact hs.1.2
        have hk := kid_all_of (s := s) (inK_of (by cases hb : l.any (badE keys i) with | false => rfl | true => exact absurd hb hc.2)) hl
        have hV : V k (s.kid keys i) σ = some (l, d1, σ1) := by rw [hUV, he]; exact if_pos hk
        simp only [lkidsM, hV]
        rw [if_neg hc.1]
        exact lkids_from hUV ks (i + 1) (out ++ l) d1 σ1 L d σ' h hs
theorem lkids_eq (hUV : ∀ k s σ, V k s σ = filt s (U k σ)) (hne : ∀ k σ L d σ', U k σ = some (L, d, σ') → L ≠ []) (hs : keys.Pairwise klt) (kids : List Int) (hl : kids.length = keys.length + 1) (σ : List Bool) : lkidsM V s keys kids 0 [] 0 σ = filt s (kidsM U keys kids 0 [] 0 σ) := by
  cases h : lkidsM V s keys kids 0 [] 0 σ with
  | some r =>
    obtain ⟨L, d, σ'⟩ := r
    have h1 := lkids_to hUV kids 0 [] 0 σ L d σ' h
    obtain ⟨ls, h2, h3, h4⟩ := lkids_some kids 0 [] 0 σ L d σ' h
    rw [h1]
    refine (if_pos ?_).symm
    rw [h2, List.nil_append]
    refine spans_all hs (by omega) (fun l hl' => ?_) (fun j l hj => ?_)
    · obtain ⟨j, hj⟩ := List.mem_iff_getElem?.1 hl'
      obtain ⟨k, σ1, d1, σ2, h5⟩ := h4 j l hj
      rw [hUV] at h5
      exact hne _ _ _ _ _ (filt_some h5).1
    · obtain ⟨k, σ1, d1, σ2, h5⟩ := h4 j l hj
      rw [hUV, Nat.zero_add] at h5
      exact (filt_some h5).2
  | none =>
    cases h1 : kidsM U keys kids 0 [] 0 σ with
    | none => rfl
    | some r =>
      obtain ⟨L, d, σ'⟩ := r
      refine (if_neg (fun hc => ?_)).symm
      rw [lkids_from hUV kids 0 [] 0 σ L d σ' h1 hc] at h
      cases h
end
theorem rise_pair : ∀ {L : List (List Nat)}, riseB L = true → L.Pairwise klt
  | [], _ => List.Pairwise.nil
  | [a], _ => List.pairwise_singleton ..
  | a :: b :: l, h => by
    simp only [riseB, Bool.and_eq_true, decide_eq_true_eq] at h
    have ih := rise_pair h.2
    refine List.pairwise_cons.2 ⟨fun c hc => ?_, ih⟩
    rcases List.mem_cons.1 hc with rfl | hc
    · exact h.1
    · exact klt_trans h.1 ((List.pairwise_cons.1 ih).1 c hc)
theorem right_inner_facts {N : Nd} (h : N.right = true) (hl : N.leaf = false) : 2 ≤ N.kids.length ∧ N.kids.length ≤ 20 ∧ N.keys.length + 1 = N.kids.length ∧ N.keys.Pairwise klt := by
  unfold Nd.right at h
  rw [if_neg (by rw [hl]; decide)] at h
  simp only [Bool.and_eq_true, decide_eq_true_eq, beq_iff_eq] at h
  exact ⟨h.1.1.1.2, h.1.1.2, h.1.2, rise_pair h.2⟩
theorem right_leaf_facts {N : Nd} (h : N.right = true) (hl : N.leaf = true) : N.ents.length ≤ 12 ∧ Srt N.ents := by
  unfold Nd.right at h
  rw [if_pos hl] at h
  simp only [Bool.and_eq_true, decide_eq_true_eq, beq_iff_eq] at h
  exact ⟨h.1.2, List.pairwise_map.1 (rise_pair h.2)⟩
section
variable {Ns : List Nd}
theorem undM_ne : ∀ (f : Nat) (a : Int) (σ : List Bool) (L : List (List Nat)) (d : Nat) (σ' : List Bool), undM Ns f a false σ = some (L, d, σ') → L ≠ []
  | 0, _, _, _, _, _, h => by cases h
  | f + 1, a, σ, L, d, σ', h => by
    simp only [undM] at h
    split at h
    · cases h
    · split at h
      · cases h
      · rename_i N hN
        split at h
        · cases h
        · rename_i hr
          have hlt : N.little = false := by
            cases hx : N.little with
            | false => rfl
            | true => exact absurd (.inr (by simp [hx])) hr
          split at h
          · rename_i hlf
            simp only [Option.some.injEq, Prod.mk.injEq] at h
            obtain ⟨rfl, _, rfl⟩ := h
            intro e
            unfold Nd.little at hlt
            rw [if_pos hlf, e] at hlt
            simp at hlt
          · rename_i hlf
            cases hk : N.kids with
            | nil =>
              unfold Nd.little at hlt
              rw [if_neg hlf, hk] at hlt
              simp at hlt
            | cons k ks =>
              rw [hk] at h
              simp only [kidsM] at h
              split at h
              · cases h
              · rename_i l d1 σ1 he
                split at h
                · cases h
                · obtain ⟨t, ht⟩ := kids_out ks 1 ([] ++ l) d1 σ1 L d σ' h
                  have := undM_ne f k _ l d1 σ1 he
                  rw [ht]
                  simp [this]
/-- THE LAW: the loader makes of nodes what the reader does, where the entries are within the span -/
theorem partM_eq : ∀ (f : Nat) (a : Int) (s : Spn) (top : Bool) (σ : List Bool), partM Ns f a s top σ = filt s (undM Ns f a top σ)
  | 0, _, _, _, _ => rfl
  | f + 1, a, s, top, σ => by
    simp only [partM, undM]
    split
    · rfl
    · cases hN : Ns[a.toNat]? with
      | none => rfl
      | some N =>
        dsimp only
        by_cases hr : N.right = false
        · rw [if_pos hr, if_pos (.inl hr)]; rfl
        · rw [if_neg hr]
          have hrt : N.right = true := by simpa using hr
          have hb : (N.right = false ∨ top = false ∧ N.little = true) ↔ (N.little && !top) = true := by
            rw [hrt]; cases N.little <;> cases top <;> simp
          by_cases hlf : N.leaf = true
          · rw [if_pos hlf, if_pos hlf]
            by_cases hl : (N.little && !top) = true
            · rw [if_pos (hb.2 hl), if_pos (by rw [hl]; rfl)]; rfl
            · rw [if_neg (fun h => hl (hb.1 h))]
              have hl' : (N.little && !top) = false := by simpa using hl
              rw [hl', Bool.false_or]
              unfold filt
              cases hx : s.all N.ents <;> simp [hx]
          · rw [if_neg hlf, if_neg hlf]
            have hf := right_inner_facts hrt (by simpa using hlf)
            by_cases hl : (N.little && !top) = true
            · rw [if_pos (hb.2 hl), hl]
              unfold lastM
              split <;> rfl
            · rw [if_neg (fun h => hl (hb.1 h))]
              have hl' : (N.little && !top) = false := by simpa using hl
              rw [hl', lkids_eq (U := fun a s => undM Ns f a false s) (fun k s σ => partM_eq f k s false σ) (fun k σ L d σ' h => undM_ne f k σ L d σ' h) hf.2.2.2 N.kids hf.2.2.1.symm]
              unfold lastM
              split
              · rename_i h; exact h.symm
              · rename_i r h; exact (if_neg (by decide)).trans h.symm
end
end Go.Proofs.Ytkcpmkeckcnobaa
