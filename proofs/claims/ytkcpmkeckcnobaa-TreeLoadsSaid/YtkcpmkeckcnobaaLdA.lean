/- Own lemmas of several kinds, put together: Ld0, Ld1, Ld2. -/
import Derived.Test.YtkcpmkeckcnobaaUn0
import Derived.Test.YtkcpmkeckcnobaaTr0
import Derived.Test.YtkcpmkeckcnobaaTr1
import Derived.Test.YtkcpmkeckcnobaaKitF
/- What the loader makes of nodes, in plain words, and that it is what the document's reader makes of them. -/
namespace Go.Proofs.Ytkcpmkeckcnobaa

/-- between which keys entries must be -/
structure Spn where
  lo : Option (List Nat)
  hi : Option (List Nat)
def Spn.above (s : Spn) (k : List Nat) : Bool := match s.lo with | none => true | some f => !decide (klt k f)
def Spn.under (s : Spn) (k : List Nat) : Bool := match s.hi with | none => true | some b => decide (klt k b)
def Spn.has (s : Spn) (k : List Nat) : Bool := s.above k && s.under k
def Spn.kid (s : Spn) (keys : List (List Nat)) (i : Nat) : Spn := ⟨if 0 < i then some (keys.getD (i - 1) []) else s.lo, if i < keys.length then some (keys.getD i []) else s.hi⟩
def Spn.all (s : Spn) (L : List (List Nat)) : Bool := L.all (fun e => s.has (keyOf e))
def lkidsM (U : Int → Spn → List Bool → UR) (s : Spn) (keys : List (List Nat)) : List Int → Nat → List (List Nat) → Nat → List Bool → UR
  | [], _, out, deep, σ => some (out, deep + 1, σ)
  | k :: ks, i, out, deep, σ => match U k (s.kid keys i) σ with
    | none => none
    | some (l, d, σ') => if (decide (0 < i) && decide (d ≠ deep)) then none else lkidsM U s keys ks (i + 1) (out ++ l) d σ'
def lastM (b : Bool) : UR → UR
  | none => none
  | some r => if b then none else some r
def partM (Ns : List Nd) : Nat → Int → Spn → Bool → List Bool → UR
  | 0, _, _, _, _ => none
  | f + 1, at_, s, top, σ =>
    if at_ < 0 ∨ (Ns.length : Int) ≤ at_ ∨ σ.getD at_.toNat true = true then none else
    match Ns[at_.toNat]? with
    | none => none
    | some n => if n.right = false then none else
      if n.leaf then (if (n.little && !top) || !s.all n.ents then none else some (n.ents, 1, σ.set at_.toNat true))
      else lastM (n.little && !top) (lkidsM (fun a s' σ' => partM Ns f a s' false σ') s n.keys n.kids 0 [] 0 (σ.set at_.toNat true))
def filt (s : Spn) : UR → UR
  | none => none
  | some (L, d, σ) => if s.all L then some (L, d, σ) else none
theorem all_app (s : Spn) (A B : List (List Nat)) : s.all (A ++ B) = (s.all A && s.all B) := List.all_append
/-- the entries below one kid are within its keys -/
def inK (keys : List (List Nat)) (i : Nat) (l : List (List Nat)) : Prop := ∀ e ∈ l, (0 < i → ¬ klt (keyOf e) (keys.getD (i - 1) [])) ∧ (i < keys.length → klt (keyOf e) (keys.getD i []))
theorem all_iff {s : Spn} {L : List (List Nat)} : s.all L = true ↔ ∀ e ∈ L, s.above (keyOf e) = true ∧ s.under (keyOf e) = true := by
  unfold Spn.all Spn.has
  rw [List.all_eq_true]
  simp only [Bool.and_eq_true]
theorem above_iff {s : Spn} {k : List Nat} : s.above k = true ↔ ∀ f, s.lo = some f → ¬ klt k f := by
  unfold Spn.above
  cases s.lo <;> simp
theorem under_iff {s : Spn} {k : List Nat} : s.under k = true ↔ ∀ b, s.hi = some b → klt k b := by
  unfold Spn.under
  cases s.hi <;> simp
theorem kid_all (s : Spn) (keys : List (List Nat)) (i : Nat) (l : List (List Nat)) (h : (s.kid keys i).all l = true) : l.any (badE keys i) = false := by
  refine List.any_eq_false.2 (fun r hr => ?_)
  have hh := all_iff.1 h r hr
  unfold badE
  rw [Bool.or_eq_true, Bool.and_eq_true, Bool.and_eq_true]
  rintro (⟨g1, g2⟩ | ⟨g1, g2⟩)
  · rw [decide_eq_true_eq] at g1 g2
    exact above_iff.1 hh.1 _ (by simp only [Spn.kid]; rw [if_pos g1]) g2
  · rw [decide_eq_true_eq] at g1
    have := under_iff.1 hh.2 _ (by simp only [Spn.kid]; rw [if_pos g1])
    rw [decide_eq_true this] at g2; cases g2
theorem inK_of {keys : List (List Nat)} {i : Nat} {l : List (List Nat)} (h : l.any (badE keys i) = false) : inK keys i l := fun e he => by
  have hh := List.any_eq_false.1 h e he
  exact ⟨fun h0 hk => hh (by unfold badE; rw [Bool.or_eq_true, Bool.and_eq_true]; exact .inl ⟨decide_eq_true h0, decide_eq_true hk⟩), fun h1 => Classical.byContradiction fun hk => hh (by unfold badE; rw [Bool.or_eq_true, Bool.and_eq_true, Bool.and_eq_true]; exact .inr ⟨decide_eq_true h1, by rw [decide_eq_false hk]; rfl⟩)⟩
theorem kid_all_of {s : Spn} {keys : List (List Nat)} {i : Nat} {l : List (List Nat)} (h : inK keys i l) (hs : s.all l = true) : (s.kid keys i).all l = true := by
  refine all_iff.2 fun e he => ?_
  have h1 := h e he
  have h2 := all_iff.1 hs e he
  refine ⟨above_iff.2 fun f hf => ?_, under_iff.2 fun b hb => ?_⟩
  · simp only [Spn.kid] at hf
    split at hf
    · rename_i c; injection hf with hf; subst hf; exact h1.1 c
    · exact above_iff.1 h2.1 f hf
  · simp only [Spn.kid] at hb
    split at hb
    · rename_i c; injection hb with hb; subst hb; exact h1.2 c
    · exact under_iff.1 h2.2 b hb
theorem keys_le {K : List (List Nat)} (h : K.Pairwise klt) {a b : Nat} (hab : a ≤ b) (hb : b < K.length) : ¬ klt (K.getD b []) (K.getD a []) := by
  rcases Nat.lt_or_ge a b with h1 | h1
  · have := List.pairwise_iff_getElem.1 h a b (by omega) hb h1
    have e1 : K.getD a [] = K[a] := by rw [List.getD_eq_getElem?_getD, List.getElem?_eq_getElem (show a < K.length by omega)]; rfl
    have e2 : K.getD b [] = K[b] := by rw [List.getD_eq_getElem?_getD, List.getElem?_eq_getElem hb]; rfl
    rw [e1, e2]; exact klt_asym this
  · obtain rfl : a = b := by omega
    exact klt_irr _
theorem spans_all {s : Spn} {keys : List (List Nat)} (hs : keys.Pairwise klt) {ls : List (List (List Nat))} (hl : ls.length = keys.length + 1) (hne : ∀ l ∈ ls, l ≠ []) (h : ∀ j l, ls[j]? = some l → (s.kid keys j).all l = true) : s.all ls.flatten = true := by
  refine all_iff.2 fun e he => ?_
  obtain ⟨l, hl', he'⟩ := List.mem_flatten.1 he
  obtain ⟨j, hj⟩ := List.mem_iff_getElem?.1 hl'
  have hjl := (List.getElem?_eq_some_iff.1 hj).1
  have hje := all_iff.1 (h j l hj) e he'
  constructor
  · refine above_iff.2 fun f hf => ?_
    by_cases h0 : j = 0
    · subst h0
      exact above_iff.1 hje.1 f (by simp [Spn.kid, hf])
    · obtain ⟨l0, hl0⟩ : ∃ l0, ls[0]? = some l0 := ⟨_, List.getElem?_eq_getElem (by omega)⟩
      obtain ⟨e0, he0⟩ := List.exists_mem_of_ne_nil _ (hne l0 (List.mem_of_getElem? hl0))
      have h0e := all_iff.1 (h 0 l0 hl0) e0 he0
      have hk0 : 0 < keys.length := by omega
      have a1 : ¬ klt (keyOf e0) f := above_iff.1 h0e.1 f (by simp [Spn.kid, hf])
      have a2 : klt (keyOf e0) (keys.getD 0 []) := under_iff.1 h0e.2 _ (by simp only [Spn.kid]; rw [if_pos hk0])
      have a3 : ¬ klt (keyOf e) (keys.getD (j - 1) []) := above_iff.1 hje.1 _ (by simp only [Spn.kid]; rw [if_pos (by omega)])
      exact fun hc => a3 (klt_of_lt_le (klt_trans (klt_of_lt_le hc a1) a2) (keys_le hs (Nat.zero_le _) (by omega)))
  · refine under_iff.2 fun b hb => ?_
    by_cases hm : j = keys.length
    · exact under_iff.1 hje.2 b (by simp only [Spn.kid]; rw [if_neg (by omega)]; exact hb)
    · obtain ⟨l1, hl1⟩ : ∃ l1, ls[keys.length]? = some l1 := ⟨_, List.getElem?_eq_getElem (by omega)⟩
      obtain ⟨e1, he1⟩ := List.exists_mem_of_ne_nil _ (hne l1 (List.mem_of_getElem? hl1))
      have h1e := all_iff.1 (h _ l1 hl1) e1 he1
      have a1 : klt (keyOf e1) b := under_iff.1 h1e.2 b (by simp only [Spn.kid]; rw [if_neg (by omega)]; exact hb)
      have a2 : ¬ klt (keyOf e1) (keys.getD (keys.length - 1) []) := above_iff.1 h1e.1 _ (by simp only [Spn.kid]; rw [if_pos (by omega)])
      have a3 : klt (keyOf e) (keys.getD j []) := under_iff.1 hje.2 _ (by simp only [Spn.kid]; rw [if_pos (by omega)])
      exact klt_trans (klt_of_lt_le (klt_of_lt_le a3 (keys_le hs (show j ≤ keys.length - 1 by omega) (by omega))) a2) a1
section
variable {U : Int → List Bool → UR} {V : Int → Spn → List Bool → UR} {s : Spn} {keys : List (List Nat)}
theorem lkids_some : ∀ (kids : List Int) (i : Nat) (out : List (List Nat)) (deep : Nat) (σ : List Bool) (L : List (List Nat)) (d : Nat) (σ' : List Bool), lkidsM V s keys kids i out deep σ = some (L, d, σ') →
    ∃ ls : List (List (List Nat)), L = out ++ ls.flatten ∧ ls.length = kids.length ∧ ∀ j l, ls[j]? = some l → ∃ k σ1 d1 σ2, V k (s.kid keys (i + j)) σ1 = some (l, d1, σ2)
  | [], i, out, deep, σ, L, d, σ', h => by
    simp only [lkidsM, Option.some.injEq, Prod.mk.injEq] at h
    exact ⟨[], by rw [← h.1]; simp, rfl, fun j l hj => by simp at hj⟩
  | k :: ks, i, out, deep, σ, L, d, σ', h => by
    simp only [lkidsM] at h
    split at h
    · cases h
    · rename_i l d1 σ1 he
      split at h
      · cases h
      · obtain ⟨ls, h1, h2, h3⟩ := lkids_some ks (i + 1) (out ++ l) d1 σ1 L d σ' h
        refine ⟨l :: ls, by rw [h1]; simp, by simp [h2], fun j l' hj => ?_⟩
        cases j with
        | zero =>
          simp only [List.getElem?_cons_zero, Option.some.injEq] at hj
          subst hj
          exact ⟨k, σ, d1, σ1, he⟩
        | succ j =>
          simp only [List.getElem?_cons_succ] at hj
          have := h3 j l' hj
          rwa [show i + 1 + j = i + (j + 1) by omega] at this
theorem filt_some {r : UR} {L : List (List Nat)} {d : Nat} {σ : List Bool} (h : filt s r = some (L, d, σ)) : r = some (L, d, σ) ∧ s.all L = true := by
  unfold filt at h
  split at h
  · cases h
  · split at h
    · rename_i hc
      injection h with h; injection h with h1 h2; injection h2 with h2 h3
      subst h1 h2 h3
      exact ⟨rfl, hc⟩
    · cases h
theorem lkids_to (hUV : ∀ k s σ, V k s σ = filt s (U k σ)) : ∀ (kids : List Int) (i : Nat) (out : List (List Nat)) (deep : Nat) (σ : List Bool) (L : List (List Nat)) (d : Nat) (σ' : List Bool), lkidsM V s keys kids i out deep σ = some (L, d, σ') → kidsM U keys kids i out deep σ = some (L, d, σ')
  | [], i, out, deep, σ, L, d, σ', h => h
  | k :: ks, i, out, deep, σ, L, d, σ', h => by
    simp only [lkidsM] at h
    split at h
    · cases h
    · rename_i l d1 σ1 he
      rw [hUV] at he
      obtain ⟨he1, he2⟩ := filt_some he
      split at h
      · cases h
      · rename_i hc
        simp only [kidsM, he1]
        rw [kid_all s keys i l he2, Bool.or_false, if_neg hc]
        exact lkids_to hUV ks (i + 1) (out ++ l) d1 σ1 L d σ' h
theorem kids_out : ∀ (kids : List Int) (i : Nat) (out : List (List Nat)) (deep : Nat) (σ : List Bool) (L : List (List Nat)) (d : Nat) (σ' : List Bool), kidsM U keys kids i out deep σ = some (L, d, σ') → ∃ t, L = out ++ t
  | [], i, out, deep, σ, L, d, σ', h => by
    simp only [kidsM, Option.some.injEq, Prod.mk.injEq] at h
    exact ⟨[], by rw [← h.1]; simp⟩
  | k :: ks, i, out, deep, σ, L, d, σ', h => by
    simp only [kidsM] at h
    split at h
    · cases h
    · rename_i l d1 σ1 he
      split at h
      · cases h
      · obtain ⟨t, ht⟩ := kids_out ks (i + 1) (out ++ l) d1 σ1 L d σ' h
        exact ⟨l ++ t, by rw [ht]; simp⟩
theorem lkids_from (hUV : ∀ k s σ, V k s σ = filt s (U k σ)) : ∀ (kids : List Int) (i : Nat) (out : List (List Nat)) (deep : Nat) (σ : List Bool) (L : List (List Nat)) (d : Nat) (σ' : List Bool), kidsM U keys kids i out deep σ = some (L, d, σ') → s.all L = true → lkidsM V s keys kids i out deep σ = some (L, d, σ')
  | [], i, out, deep, σ, L, d, σ', h, _ => h
  | k :: ks, i, out, deep, σ, L, d, σ', h, hs => by
    simp only [kidsM] at h
    split at h
    · cases h
    · rename_i l d1 σ1 he
      split at h
      · cases h
      · rename_i hc
        rw [Bool.or_eq_true, not_or] at hc
        obtain ⟨t, ht⟩ := kids_out ks (i + 1) (out ++ l) d1 σ1 L d σ' h
        have hl : s.all l = true := by
          rw [ht, all_app, all_app] at hs
          simp only [Bool.and_eq_true] at hs
          exact hs.1.2
        have hk := kid_all_of (s := s) (inK_of (by cases hb : l.any (badE keys i) with | false => rfl | true => exact absurd hb hc.2)) hl
        have hV : V k (s.kid keys i) σ = some (l, d1, σ1) := by rw [hUV, he]; exact if_pos hk
        simp only [lkidsM, hV]
        rw [if_neg hc.1]
        exact lkids_from hUV ks (i + 1) (out ++ l) d1 σ1 L d σ' h hs
theorem lkids_eq (hUV : ∀ k s σ, V k s σ = filt s (U k σ)) (hne : ∀ k σ L d σ', U k σ = some (L, d, σ') → L ≠ []) (hs : keys.Pairwise klt) (kids : List Int) (hl : kids.length = keys.length + 1) (σ : List Bool) : lkidsM V s keys kids 0 [] 0 σ = filt s (kidsM U keys kids 0 [] 0 σ) := by
  cases h : lkidsM V s keys kids 0 [] 0 σ with
  | some r =>
    obtain ⟨L, d, σ'⟩ := r
    have h1 := lkids_to hUV kids 0 [] 0 σ L d σ' h
    obtain ⟨ls, h2, h3, h4⟩ := lkids_some kids 0 [] 0 σ L d σ' h
    rw [h1]
    refine (if_pos ?_).symm
    rw [h2, List.nil_append]
    refine spans_all hs (by omega) (fun l hl' => ?_) (fun j l hj => ?_)
    · obtain ⟨j, hj⟩ := List.mem_iff_getElem?.1 hl'
      obtain ⟨k, σ1, d1, σ2, h5⟩ := h4 j l hj
      rw [hUV] at h5
      exact hne _ _ _ _ _ (filt_some h5).1
    · obtain ⟨k, σ1, d1, σ2, h5⟩ := h4 j l hj
      rw [hUV, Nat.zero_add] at h5
      exact (filt_some h5).2
  | none =>
    cases h1 : kidsM U keys kids 0 [] 0 σ with
    | none => rfl
    | some r =>
      obtain ⟨L, d, σ'⟩ := r
      refine (if_neg (fun hc => ?_)).symm
      rw [lkids_from hUV kids 0 [] 0 σ L d σ' h1 hc] at h
      cases h
end
theorem rise_pair : ∀ {L : List (List Nat)}, riseB L = true → L.Pairwise klt
  | [], _ => List.Pairwise.nil
  | [a], _ => List.pairwise_singleton ..
  | a :: b :: l, h => by
    simp only [riseB, Bool.and_eq_true, decide_eq_true_eq] at h
    have ih := rise_pair h.2
    refine List.pairwise_cons.2 ⟨fun c hc => ?_, ih⟩
    rcases List.mem_cons.1 hc with rfl | hc
    · exact h.1
    · exact klt_trans h.1 ((List.pairwise_cons.1 ih).1 c hc)
theorem right_inner_facts {N : Nd} (h : N.right = true) (hl : N.leaf = false) : 2 ≤ N.kids.length ∧ N.kids.length ≤ 20 ∧ N.keys.length + 1 = N.kids.length ∧ N.keys.Pairwise klt := by
  unfold Nd.right at h
  rw [if_neg (by rw [hl]; decide)] at h
  simp only [Bool.and_eq_true, decide_eq_true_eq, beq_iff_eq] at h
  exact ⟨h.1.1.1.2, h.1.1.2, h.1.2, rise_pair h.2⟩
theorem right_leaf_facts {N : Nd} (h : N.right = true) (hl : N.leaf = true) : N.ents.length ≤ 12 ∧ Srt N.ents := by
  unfold Nd.right at h
  rw [if_pos hl] at h
  simp only [Bool.and_eq_true, decide_eq_true_eq, beq_iff_eq] at h
  exact ⟨h.1.2, List.pairwise_map.1 (rise_pair h.2)⟩
section
variable {Ns : List Nd}
theorem undM_ne : ∀ (f : Nat) (a : Int) (σ : List Bool) (L : List (List Nat)) (d : Nat) (σ' : List Bool), undM Ns f a false σ = some (L, d, σ') → L ≠ []
  | 0, _, _, _, _, _, h => by cases h
  | f + 1, a, σ, L, d, σ', h => by
    simp only [undM] at h
    split at h
    · cases h
    · split at h
      · cases h
      · rename_i N hN
        split at h
        · cases h
        · rename_i hr
          have hlt : N.little = false := by
            cases hx : N.little with
            | false => rfl
            | true => exact absurd (.inr (by simp [hx])) hr
          split at h
          · rename_i hlf
            simp only [Option.some.injEq, Prod.mk.injEq] at h
            obtain ⟨rfl, _, rfl⟩ := h
            intro e
            unfold Nd.little at hlt
            rw [if_pos hlf, e] at hlt
            simp at hlt
          · rename_i hlf
            cases hk : N.kids with
            | nil =>
              unfold Nd.little at hlt
              rw [if_neg hlf, hk] at hlt
              simp at hlt
            | cons k ks =>
              rw [hk] at h
              simp only [kidsM] at h
              split at h
              · cases h
              · rename_i l d1 σ1 he
                split at h
                · cases h
                · obtain ⟨t, ht⟩ := kids_out ks 1 ([] ++ l) d1 σ1 L d σ' h
                  have := undM_ne f k _ l d1 σ1 he
                  rw [ht]
                  simp [this]
/-- THE LAW: the loader makes of nodes what the reader does, where the entries are within the span -/
theorem partM_eq : ∀ (f : Nat) (a : Int) (s : Spn) (top : Bool) (σ : List Bool), partM Ns f a s top σ = filt s (undM Ns f a top σ)
  | 0, _, _, _, _ => rfl
  | f + 1, a, s, top, σ => by
    simp only [partM, undM]
    split
    · rfl
    · cases hN : Ns[a.toNat]? with
      | none => rfl
      | some N =>
        dsimp only
        by_cases hr : N.right = false
        · rw [if_pos hr, if_pos (.inl hr)]; rfl
        · rw [if_neg hr]
          have hrt : N.right = true := by simpa using hr
          have hb : (N.right = false ∨ top = false ∧ N.little = true) ↔ (N.little && !top) = true := by
            rw [hrt]; cases N.little <;> cases top <;> simp
          by_cases hlf : N.leaf = true
          · rw [if_pos hlf, if_pos hlf]
            by_cases hl : (N.little && !top) = true
            · rw [if_pos (hb.2 hl), if_pos (by rw [hl]; rfl)]; rfl
            · rw [if_neg (fun h => hl (hb.1 h))]
              have hl' : (N.little && !top) = false := by simpa using hl
              rw [hl', Bool.false_or]
              unfold filt
              cases hx : s.all N.ents <;> simp [hx]
          · rw [if_neg hlf, if_neg hlf]
            have hf := right_inner_facts hrt (by simpa using hlf)
            by_cases hl : (N.little && !top) = true
            · rw [if_pos (hb.2 hl), hl]
              unfold lastM
              split <;> rfl
            · rw [if_neg (fun h => hl (hb.1 h))]
              have hl' : (N.little && !top) = false := by simpa using hl
              rw [hl', lkids_eq (U := fun a s => undM Ns f a false s) (fun k s σ => partM_eq f k s false σ) (fun k σ L d σ' h => undM_ne f k σ L d σ' h) hf.2.2.2 N.kids hf.2.2.1.symm]
              unfold lastM
              split
              · rename_i h; exact h.symm
              · rename_i r h; exact (if_neg (by decide)).trans h.symm
end
end Go.Proofs.Ytkcpmkeckcnobaa

/- (span).has: is a key within? (printed by wip/gen/ldhas.py) -/
namespace Go.Proofs.Ytkcpmkeckcnobaa
open Go.RowKit

/-- a pointer to a key, or nil -/
def PtrAt (w : World) (p : Option Addr) (o : Option (List Nat)) : Prop := match o with
  | none => p = none
  | some k => ∃ g off, p = some ⟨g, off, none⟩ ∧ k.length = 40 ∧ (∀ z ∈ k, z < 256) ∧ ∀ j v, (bv k)[j]? = some v → w.cell? ⟨g, off + j, none⟩ = some v
theorem PtrAt.mod {S : Nat → Prop} {w w' : World} {p : Option Addr} {o : Option (List Nat)} (h : PtrAt w p o) (hm : Mod S w w') (hS : ∀ g, Of p g → ¬ S g) : PtrAt w' p o := by
  cases o with
  | none => exact h
  | some k =>
    obtain ⟨g, off, e, h1, h2, h3⟩ := h
    refine ⟨g, off, e, h1, h2, fun j v hv => ?_⟩
    have := h3 j v hv
    rw [hm.cell (p := ⟨g, off + j, none⟩) (World.block_lt_of_cell? w _ this) (hS g ⟨_, e, rfl⟩)]
    exact this
theorem PtrAt.nn {w w' : World} {p : Option Addr} {o : Option (List Nat)} (h : PtrAt w p o) (hm : Mod Nn w w') : PtrAt w' p o := h.mod hm (fun _ _ f => f)
def spV (pl ph : Option Addr) : Value := .agg #[.pointer pl, .pointer ph]
theorem size_span : (Try.prog.info? 130).map (·.size) = some 2 := by kernel_rfl
section
variable {w : World} {pl ph : Option Addr} {s : Spn} {k : List Nat}
theorem cellsP {w w' : World} {g off : Nat} {f : List Nat} (h : ∀ j v, (bv f)[j]? = some v → w.cell? ⟨g, off + j, none⟩ = some v) (hm : Mod Nn w w') : ∀ j v, (bv f)[j]? = some v → w'.cell? ⟨g, off + j, none⟩ = some v := fun j v hv => by
  have h1 := h j v hv
  rw [hm.cell (p := ⟨g, off + j, none⟩) (World.block_lt_of_cell? w _ h1) (fun f => f)]
  exact h1
set_option maxRecDepth 100000 in
set_option maxHeartbeats 3200000 in
theorem has_none_none  (hk : k.length = 40) (hkz : ∀ z ∈ k, z < 256) : Calls Try.prog 81 #[.agg #[.pointer none, .pointer none], .agg (bv k).toArray] w fun r w' => r = .returned (.bool (true)) ∧ Mod Nn w w' := by
  have HK := Lib.hid (And.intro hk hkz)
  have hsk : (Try.prog.info? 23).map (·.size) = some (bv k).toArray.size := by rw [List.size_toArray, bv_len, hk]; exact size_keyT
  clear hk hkz
  go_enter Try.func81, Try.ntmps81
  go_wp2_with (first
    | (with_reducible change wpList _ _ _ (⟨some 2, Op.box _ _, _, _, _, _⟩ :: _) _ _
       go_must (refine wpList_box_var 130 _ rfl rfl #[.pointer none, .pointer none] rfl ?_)
       intro w1 b1 m1 z1
       clear z1
       have hs1 : w.heap.size < w1.heap.size := b1.lt
       have H1 := Lib.hid (And.intro b1 m1)
       clear b1 m1)
    | (with_reducible change wpList _ _ _ (⟨some 3, Op.box _ _, _, _, _, _⟩ :: _) _ _
       go_must (refine wpList_box_var 23 _ rfl rfl (bv k).toArray rfl ?_)
       intro w2 b2 m2 z2
       clear z2
       have H2 := Lib.hid (And.intro (H1.out.1.mod m2 (fun f => f)) (And.intro b2 (H1.out.2.nn_ m2)))
       clear b2 m2))
  -- zzA
  have hN : Mod Nn w2 w2.drew := (Mod.refl Nn w2).drew
  refine wp_region_planC (fun w' => Mod Nn w2 w') [(0, true), (1, true), (2, true), (3, true), (4, true), (5, true), (6, true), (7, true), (8, true), (9, false), (10, true), (11, true), (12, true), (13, true), (14, true), (15, true), (16, true), (17, true), (18, true), (19, true), (20, true), (21, true), (22, false), (23, true), (24, true), (25, true), (26, true)] (by kernel_rfl) (by kernel_rfl) hN ?_
  iterate 1 (refine pc_pure rfl rfl (fun K hK => ?_); go_simp; refine hK _ ?_; clear hK K)
  refine pc_take (.pointer none) rfl rfl (fun w' hS => exec_load1 (P := Try.prog) (v := .pointer none) (ad := ⟨w.heap.size, 0, none⟩) 128 (.tmp 5) rfl rfl ((H2.out.1.mod hS (fun f => f)).cell 0) Try.underlying128 rfl) (fun K hK => ?_); go_simp; refine hK _ ?_; clear hK K
  iterate 2 (refine pc_pure rfl rfl (fun K hK => ?_); go_simp; refine hK _ ?_; clear hK K)
  iterate 5 (refine pc_skip rfl rfl (fun K hK => ?_); go_simp; refine hK _ ?_; clear hK K)
  refine pc_skipD rfl rfl (fun K hK => ?_); go_simp; refine hK _ ?_; clear hK K
  refine pc_skip rfl rfl (fun K hK => ?_); go_simp; refine hK _ ?_; clear hK K
  iterate 2 (refine pc_pure rfl rfl (fun K hK => ?_); go_simp; refine hK _ ?_; clear hK K)
  iterate 1 (refine pc_pure rfl rfl (fun K hK => ?_); go_simp; refine hK _ ?_; clear hK K)
  refine pc_take (.pointer none) rfl rfl (fun w' hS => exec_load1 (P := Try.prog) (v := .pointer none) (ad := ⟨w.heap.size, 1, none⟩) 128 (.tmp 18) rfl rfl ((H2.out.1.mod hS (fun f => f)).cell 1) Try.underlying128 rfl) (fun K hK => ?_); go_simp; refine hK _ ?_; clear hK K
  iterate 2 (refine pc_pure rfl rfl (fun K hK => ?_); go_simp; refine hK _ ?_; clear hK K)
  iterate 5 (refine pc_skip rfl rfl (fun K hK => ?_); go_simp; refine hK _ ?_; clear hK K)
  refine pc_skipD rfl rfl (fun K hK => ?_); go_simp; refine hK _ ?_; clear hK K
  refine pc_skip rfl rfl (fun K hK => ?_); go_simp; refine hK _ ?_; clear hK K
  iterate 1 (refine pc_pure rfl rfl (fun K hK => ?_); go_simp; refine hK _ ?_; clear hK K)
  iterate 2 (refine pc_pure rfl rfl (fun K hK => ?_); go_simp; refine hK _ ?_; clear hK K)
  refine pc_nil ?_
  go_wp2
  go_ret
  exact ⟨rfl, H2.out.2.2.nn_ hN⟩
set_option maxRecDepth 100000 in
set_option maxHeartbeats 3200000 in
theorem has_none_some {gh oh : Nat} {fh : List Nat} (hHL : fh.length = 40) (hHZ : ∀ z ∈ fh, z < 256) (hH : ∀ j v, (bv fh)[j]? = some v → w.cell? ⟨gh, oh + j, none⟩ = some v) (hk : k.length = 40) (hkz : ∀ z ∈ k, z < 256) : Calls Try.prog 81 #[.agg #[.pointer none, .pointer (some ⟨gh, oh, none⟩)], .agg (bv k).toArray] w fun r w' => r = .returned (.bool (decide (lexc k fh < 0))) ∧ Mod Nn w w' := by
  have HK := Lib.hid (And.intro hk hkz)
  have hsk : (Try.prog.info? 23).map (·.size) = some (bv k).toArray.size := by rw [List.size_toArray, bv_len, hk]; exact size_keyT
  clear hk hkz
  have HH := Lib.hid hH
  have HHL := Lib.hid hHL
  have HHZ := Lib.hid hHZ
  clear hH hHL hHZ
  go_enter Try.func81, Try.ntmps81
  go_wp2_with (first
    | (with_reducible change wpList _ _ _ (⟨some 2, Op.box _ _, _, _, _, _⟩ :: _) _ _
       go_must (refine wpList_box_var 130 _ rfl rfl #[.pointer none, .pointer (some ⟨gh, oh, none⟩)] rfl ?_)
       intro w1 b1 m1 z1
       clear z1
       have hs1 : w.heap.size < w1.heap.size := b1.lt
       have H1 := Lib.hid (And.intro b1 m1)
       clear b1 m1)
    | (with_reducible change wpList _ _ _ (⟨some 3, Op.box _ _, _, _, _, _⟩ :: _) _ _
       go_must (refine wpList_box_var 23 _ rfl rfl (bv k).toArray rfl ?_)
       intro w2 b2 m2 z2
       clear z2
       have H2 := Lib.hid (And.intro (H1.out.1.mod m2 (fun f => f)) (And.intro b2 (H1.out.2.nn_ m2)))
       clear b2 m2))
  -- zzA
  have hN : Mod Nn w2 w2.drew := (Mod.refl Nn w2).drew
  refine wp_region_planC (fun w' => Mod Nn w2 w') [(0, true), (1, true), (2, true), (3, true), (4, true), (5, true), (6, true), (7, true), (8, true), (9, false), (10, true), (11, true), (12, true), (13, true), (14, true), (15, true), (16, true), (17, true), (18, true), (19, true), (20, true), (21, true), (22, false), (23, true), (24, true), (25, true), (26, true)] (by kernel_rfl) (by kernel_rfl) hN ?_
  iterate 1 (refine pc_pure rfl rfl (fun K hK => ?_); go_simp; refine hK _ ?_; clear hK K)
  refine pc_take (.pointer none) rfl rfl (fun w' hS => exec_load1 (P := Try.prog) (v := .pointer none) (ad := ⟨w.heap.size, 0, none⟩) 128 (.tmp 5) rfl rfl ((H2.out.1.mod hS (fun f => f)).cell 0) Try.underlying128 rfl) (fun K hK => ?_); go_simp; refine hK _ ?_; clear hK K
  iterate 2 (refine pc_pure rfl rfl (fun K hK => ?_); go_simp; refine hK _ ?_; clear hK K)
  iterate 5 (refine pc_skip rfl rfl (fun K hK => ?_); go_simp; refine hK _ ?_; clear hK K)
  refine pc_skipD rfl rfl (fun K hK => ?_); go_simp; refine hK _ ?_; clear hK K
  refine pc_skip rfl rfl (fun K hK => ?_); go_simp; refine hK _ ?_; clear hK K
  iterate 2 (refine pc_pure rfl rfl (fun K hK => ?_); go_simp; refine hK _ ?_; clear hK K)
  iterate 1 (refine pc_pure rfl rfl (fun K hK => ?_); go_simp; refine hK _ ?_; clear hK K)
  refine pc_take (.pointer (some ⟨gh, oh, none⟩)) rfl rfl (fun w' hS => exec_load1 (P := Try.prog) (v := .pointer (some ⟨gh, oh, none⟩)) (ad := ⟨w.heap.size, 1, none⟩) 128 (.tmp 18) rfl rfl ((H2.out.1.mod hS (fun f => f)).cell 1) Try.underlying128 rfl) (fun K hK => ?_); go_simp; refine hK _ ?_; clear hK K
  iterate 2 (refine pc_pure rfl rfl (fun K hK => ?_); go_simp; refine hK _ ?_; clear hK K)
  refine pc_take (.agg (bv k).toArray) rfl rfl (fun w' hS => exec_load_row (P := Try.prog) (g := w1.heap.size) (cs := (bv k).toArray) 23 (.tmp 3) rfl rfl (H2.out.2.1.mod hS (fun f => f)) Try.underlying23 rfl hsk) (fun K hK => ?_); go_simp; refine hK _ ?_; clear hK K
  iterate 1 (refine pc_pure rfl rfl (fun K hK => ?_); go_simp; refine hK _ ?_; clear hK K)
  refine pc_take (.pointer (some ⟨gh, oh, none⟩)) rfl rfl (fun w' hS => exec_load1 (P := Try.prog) (v := .pointer (some ⟨gh, oh, none⟩)) (ad := ⟨w.heap.size, 1, none⟩) 128 (.tmp 23) rfl rfl ((H2.out.1.mod hS (fun f => f)).cell 1) Try.underlying128 rfl) (fun K hK => ?_); go_simp; refine hK _ ?_; clear hK K
  iterate 1 (refine pc_pure rfl rfl (fun K hK => ?_); go_simp; refine hK _ ?_; clear hK K)
  refine pc_take (.agg (bv fh).toArray) rfl rfl (fun w' hS => exec_load_cells (P := Try.prog) (b := gh) (off := oh) (cs := bv fh) 23 (.tmp 25) rfl rfl (cellsP HH.out (H2.out.2.2.nn_ hS)) Try.underlying23 rfl (by rw [bv_len, HHL.out]; exact size_keyT)) (fun K hK => ?_); go_simp; refine hK _ ?_; clear hK K
  refine pc_call rfl rfl (fun K hK => ?_); go_simp; refine ⟨_, _, ⟨rfl, rfl⟩, hK _ _ _ ?_⟩; clear hK K
  refine (ecompare_any _ HK.out.2 HHZ.out HK.out.1 HHL.out).mono ?_
  rintro r w4 ⟨rfl, m4⟩
  have H4 := Lib.hid (hN.nn_ m4)
  clear m4
  refine ⟨_, rfl, H4.out, ?_⟩
  iterate 2 (refine pc_pure rfl rfl (fun K hK => ?_); go_simp; refine hK _ ?_; clear hK K)
  iterate 2 (refine pc_pure rfl rfl (fun K hK => ?_); go_simp; refine hK _ ?_; clear hK K)
  refine pc_nil ?_
  go_wp2
  go_ret
  exact ⟨rfl, H2.out.2.2.nn_ H4.out⟩
set_option maxRecDepth 100000 in
set_option maxHeartbeats 3200000 in
theorem has_yes_none {gl ol : Nat} {fl : List Nat} (hLL : fl.length = 40) (hLZ : ∀ z ∈ fl, z < 256) (hL : ∀ j v, (bv fl)[j]? = some v → w.cell? ⟨gl, ol + j, none⟩ = some v) (hcl : decide ((0 : Int) ≤ lexc k fl) = true) (hk : k.length = 40) (hkz : ∀ z ∈ k, z < 256) : Calls Try.prog 81 #[.agg #[.pointer (some ⟨gl, ol, none⟩), .pointer none], .agg (bv k).toArray] w fun r w' => r = .returned (.bool (true)) ∧ Mod Nn w w' := by
  have HK := Lib.hid (And.intro hk hkz)
  have hsk : (Try.prog.info? 23).map (·.size) = some (bv k).toArray.size := by rw [List.size_toArray, bv_len, hk]; exact size_keyT
  clear hk hkz
  have HL := Lib.hid hL
  have HLL := Lib.hid hLL
  have HLZ := Lib.hid hLZ
  clear hL hLL hLZ
  go_enter Try.func81, Try.ntmps81
  go_wp2_with (first
    | (with_reducible change wpList _ _ _ (⟨some 2, Op.box _ _, _, _, _, _⟩ :: _) _ _
       go_must (refine wpList_box_var 130 _ rfl rfl #[.pointer (some ⟨gl, ol, none⟩), .pointer none] rfl ?_)
       intro w1 b1 m1 z1
       clear z1
       have hs1 : w.heap.size < w1.heap.size := b1.lt
       have H1 := Lib.hid (And.intro b1 m1)
       clear b1 m1)
    | (with_reducible change wpList _ _ _ (⟨some 3, Op.box _ _, _, _, _, _⟩ :: _) _ _
       go_must (refine wpList_box_var 23 _ rfl rfl (bv k).toArray rfl ?_)
       intro w2 b2 m2 z2
       clear z2
       have H2 := Lib.hid (And.intro (H1.out.1.mod m2 (fun f => f)) (And.intro b2 (H1.out.2.nn_ m2)))
       clear b2 m2))
  -- zzA
  have hN : Mod Nn w2 w2.drew := (Mod.refl Nn w2).drew
  refine wp_region_planC (fun w' => Mod Nn w2 w') [(0, true), (1, true), (2, true), (3, true), (4, true), (5, true), (6, true), (7, true), (8, true), (9, false), (10, true), (11, true), (12, true), (13, true), (14, true), (15, true), (16, true), (17, true), (18, true), (19, true), (20, true), (21, true), (22, false), (23, true), (24, true), (25, true), (26, true)] (by kernel_rfl) (by kernel_rfl) hN ?_
  iterate 1 (refine pc_pure rfl rfl (fun K hK => ?_); go_simp; refine hK _ ?_; clear hK K)
  refine pc_take (.pointer (some ⟨gl, ol, none⟩)) rfl rfl (fun w' hS => exec_load1 (P := Try.prog) (v := .pointer (some ⟨gl, ol, none⟩)) (ad := ⟨w.heap.size, 0, none⟩) 128 (.tmp 5) rfl rfl ((H2.out.1.mod hS (fun f => f)).cell 0) Try.underlying128 rfl) (fun K hK => ?_); go_simp; refine hK _ ?_; clear hK K
  iterate 2 (refine pc_pure rfl rfl (fun K hK => ?_); go_simp; refine hK _ ?_; clear hK K)
  refine pc_take (.agg (bv k).toArray) rfl rfl (fun w' hS => exec_load_row (P := Try.prog) (g := w1.heap.size) (cs := (bv k).toArray) 23 (.tmp 3) rfl rfl (H2.out.2.1.mod hS (fun f => f)) Try.underlying23 rfl hsk) (fun K hK => ?_); go_simp; refine hK _ ?_; clear hK K
  iterate 1 (refine pc_pure rfl rfl (fun K hK => ?_); go_simp; refine hK _ ?_; clear hK K)
  refine pc_take (.pointer (some ⟨gl, ol, none⟩)) rfl rfl (fun w' hS => exec_load1 (P := Try.prog) (v := .pointer (some ⟨gl, ol, none⟩)) (ad := ⟨w.heap.size, 0, none⟩) 128 (.tmp 10) rfl rfl ((H2.out.1.mod hS (fun f => f)).cell 0) Try.underlying128 rfl) (fun K hK => ?_); go_simp; refine hK _ ?_; clear hK K
  iterate 1 (refine pc_pure rfl rfl (fun K hK => ?_); go_simp; refine hK _ ?_; clear hK K)
  refine pc_take (.agg (bv fl).toArray) rfl rfl (fun w' hS => exec_load_cells (P := Try.prog) (b := gl) (off := ol) (cs := bv fl) 23 (.tmp 12) rfl rfl (cellsP HL.out (H2.out.2.2.nn_ hS)) Try.underlying23 rfl (by rw [bv_len, HLL.out]; exact size_keyT)) (fun K hK => ?_); go_simp; refine hK _ ?_; clear hK K
  refine pc_call rfl rfl (fun K hK => ?_); go_simp; refine ⟨_, _, ⟨rfl, rfl⟩, hK _ _ _ ?_⟩; clear hK K
  refine (ecompare_any _ HK.out.2 HLZ.out HK.out.1 HLL.out).mono ?_
  rintro r w3 ⟨rfl, m3⟩
  have H3 := Lib.hid (hN.nn_ m3)
  clear m3
  refine ⟨_, rfl, H3.out, ?_⟩
  have hc3 : decide ((0 : Int) ≤ lexc k fl) = true := hcl
  iterate 1 (refine pc_pure rfl rfl (fun K hK => ?_); go_simp; refine hK _ ?_; clear hK K)
  iterate 2 (refine pc_pure rfl rfl (fun K hK => ?_); go_simp; refine hK _ ?_; clear hK K)
  iterate 1 (refine pc_pure rfl rfl (fun K hK => ?_); go_simp; refine hK _ ?_; clear hK K)
  refine pc_take (.pointer none) rfl rfl (fun w' hS => exec_load1 (P := Try.prog) (v := .pointer none) (ad := ⟨w.heap.size, 1, none⟩) 128 (.tmp 18) rfl rfl ((H2.out.1.mod hS (fun f => f)).cell 1) Try.underlying128 rfl) (fun K hK => ?_); go_simp; refine hK _ ?_; clear hK K
  iterate 2 (refine pc_pure rfl rfl (fun K hK => ?_); go_simp; refine hK _ ?_; clear hK K)
  iterate 5 (refine pc_skip rfl rfl (fun K hK => ?_); go_simp; refine hK _ ?_; clear hK K)
  refine pc_skipD rfl rfl (fun K hK => ?_); go_simp; refine hK _ ?_; clear hK K
  refine pc_skip rfl rfl (fun K hK => ?_); go_simp; refine hK _ ?_; clear hK K
  iterate 1 (refine pc_pure rfl rfl (fun K hK => ?_); go_simp; refine hK _ ?_; clear hK K)
  iterate 2 (refine pc_pure rfl rfl (fun K hK => ?_); go_simp; refine hK _ ?_; clear hK K)
  refine pc_nil ?_
  go_wp2
  go_ret
  exact ⟨rfl, H2.out.2.2.nn_ H3.out⟩
set_option maxRecDepth 100000 in
set_option maxHeartbeats 3200000 in
theorem has_yes_some {gl ol : Nat} {fl : List Nat} (hLL : fl.length = 40) (hLZ : ∀ z ∈ fl, z < 256) (hL : ∀ j v, (bv fl)[j]? = some v → w.cell? ⟨gl, ol + j, none⟩ = some v) (hcl : decide ((0 : Int) ≤ lexc k fl) = true) {gh oh : Nat} {fh : List Nat} (hHL : fh.length = 40) (hHZ : ∀ z ∈ fh, z < 256) (hH : ∀ j v, (bv fh)[j]? = some v → w.cell? ⟨gh, oh + j, none⟩ = some v) (hk : k.length = 40) (hkz : ∀ z ∈ k, z < 256) : Calls Try.prog 81 #[.agg #[.pointer (some ⟨gl, ol, none⟩), .pointer (some ⟨gh, oh, none⟩)], .agg (bv k).toArray] w fun r w' => r = .returned (.bool (decide (lexc k fh < 0))) ∧ Mod Nn w w' := by
  have HK := Lib.hid (And.intro hk hkz)
  have hsk : (Try.prog.info? 23).map (·.size) = some (bv k).toArray.size := by rw [List.size_toArray, bv_len, hk]; exact size_keyT
  clear hk hkz
  have HL := Lib.hid hL
  have HLL := Lib.hid hLL
  have HLZ := Lib.hid hLZ
  clear hL hLL hLZ
  have HH := Lib.hid hH
  have HHL := Lib.hid hHL
  have HHZ := Lib.hid hHZ
  clear hH hHL hHZ
  go_enter Try.func81, Try.ntmps81
  go_wp2_with (first
    | (with_reducible change wpList _ _ _ (⟨some 2, Op.box _ _, _, _, _, _⟩ :: _) _ _
       go_must (refine wpList_box_var 130 _ rfl rfl #[.pointer (some ⟨gl, ol, none⟩), .pointer (some ⟨gh, oh, none⟩)] rfl ?_)
       intro w1 b1 m1 z1
       clear z1
       have hs1 : w.heap.size < w1.heap.size := b1.lt
       have H1 := Lib.hid (And.intro b1 m1)
       clear b1 m1)
    | (with_reducible change wpList _ _ _ (⟨some 3, Op.box _ _, _, _, _, _⟩ :: _) _ _
       go_must (refine wpList_box_var 23 _ rfl rfl (bv k).toArray rfl ?_)
       intro w2 b2 m2 z2
       clear z2
       have H2 := Lib.hid (And.intro (H1.out.1.mod m2 (fun f => f)) (And.intro b2 (H1.out.2.nn_ m2)))
       clear b2 m2))
  -- zzA
  have hN : Mod Nn w2 w2.drew := (Mod.refl Nn w2).drew
  refine wp_region_planC (fun w' => Mod Nn w2 w') [(0, true), (1, true), (2, true), (3, true), (4, true), (5, true), (6, true), (7, true), (8, true), (9, false), (10, true), (11, true), (12, true), (13, true), (14, true), (15, true), (16, true), (17, true), (18, true), (19, true), (20, true), (21, true), (22, false), (23, true), (24, true), (25, true), (26, true)] (by kernel_rfl) (by kernel_rfl) hN ?_
  iterate 1 (refine pc_pure rfl rfl (fun K hK => ?_); go_simp; refine hK _ ?_; clear hK K)
  refine pc_take (.pointer (some ⟨gl, ol, none⟩)) rfl rfl (fun w' hS => exec_load1 (P := Try.prog) (v := .pointer (some ⟨gl, ol, none⟩)) (ad := ⟨w.heap.size, 0, none⟩) 128 (.tmp 5) rfl rfl ((H2.out.1.mod hS (fun f => f)).cell 0) Try.underlying128 rfl) (fun K hK => ?_); go_simp; refine hK _ ?_; clear hK K
  iterate 2 (refine pc_pure rfl rfl (fun K hK => ?_); go_simp; refine hK _ ?_; clear hK K)
  refine pc_take (.agg (bv k).toArray) rfl rfl (fun w' hS => exec_load_row (P := Try.prog) (g := w1.heap.size) (cs := (bv k).toArray) 23 (.tmp 3) rfl rfl (H2.out.2.1.mod hS (fun f => f)) Try.underlying23 rfl hsk) (fun K hK => ?_); go_simp; refine hK _ ?_; clear hK K
  iterate 1 (refine pc_pure rfl rfl (fun K hK => ?_); go_simp; refine hK _ ?_; clear hK K)
  refine pc_take (.pointer (some ⟨gl, ol, none⟩)) rfl rfl (fun w' hS => exec_load1 (P := Try.prog) (v := .pointer (some ⟨gl, ol, none⟩)) (ad := ⟨w.heap.size, 0, none⟩) 128 (.tmp 10) rfl rfl ((H2.out.1.mod hS (fun f => f)).cell 0) Try.underlying128 rfl) (fun K hK => ?_); go_simp; refine hK _ ?_; clear hK K
  iterate 1 (refine pc_pure rfl rfl (fun K hK => ?_); go_simp; refine hK _ ?_; clear hK K)
  refine pc_take (.agg (bv fl).toArray) rfl rfl (fun w' hS => exec_load_cells (P := Try.prog) (b := gl) (off := ol) (cs := bv fl) 23 (.tmp 12) rfl rfl (cellsP HL.out (H2.out.2.2.nn_ hS)) Try.underlying23 rfl (by rw [bv_len, HLL.out]; exact size_keyT)) (fun K hK => ?_); go_simp; refine hK _ ?_; clear hK K
  refine pc_call rfl rfl (fun K hK => ?_); go_simp; refine ⟨_, _, ⟨rfl, rfl⟩, hK _ _ _ ?_⟩; clear hK K
  refine (ecompare_any _ HK.out.2 HLZ.out HK.out.1 HLL.out).mono ?_
  rintro r w3 ⟨rfl, m3⟩
  have H3 := Lib.hid (hN.nn_ m3)
  clear m3
  refine ⟨_, rfl, H3.out, ?_⟩
  have hc3 : decide ((0 : Int) ≤ lexc k fl) = true := hcl
  iterate 1 (refine pc_pure rfl rfl (fun K hK => ?_); go_simp; refine hK _ ?_; clear hK K)
  iterate 2 (refine pc_pure rfl rfl (fun K hK => ?_); go_simp; refine hK _ ?_; clear hK K)
  iterate 1 (refine pc_pure rfl rfl (fun K hK => ?_); go_simp; refine hK _ ?_; clear hK K)
  refine pc_take (.pointer (some ⟨gh, oh, none⟩)) rfl rfl (fun w' hS => exec_load1 (P := Try.prog) (v := .pointer (some ⟨gh, oh, none⟩)) (ad := ⟨w.heap.size, 1, none⟩) 128 (.tmp 18) rfl rfl ((H2.out.1.mod hS (fun f => f)).cell 1) Try.underlying128 rfl) (fun K hK => ?_); go_simp; refine hK _ ?_; clear hK K
  iterate 2 (refine pc_pure rfl rfl (fun K hK => ?_); go_simp; refine hK _ ?_; clear hK K)
  refine pc_take (.agg (bv k).toArray) rfl rfl (fun w' hS => exec_load_row (P := Try.prog) (g := w1.heap.size) (cs := (bv k).toArray) 23 (.tmp 3) rfl rfl (H2.out.2.1.mod hS (fun f => f)) Try.underlying23 rfl hsk) (fun K hK => ?_); go_simp; refine hK _ ?_; clear hK K
  iterate 1 (refine pc_pure rfl rfl (fun K hK => ?_); go_simp; refine hK _ ?_; clear hK K)
  refine pc_take (.pointer (some ⟨gh, oh, none⟩)) rfl rfl (fun w' hS => exec_load1 (P := Try.prog) (v := .pointer (some ⟨gh, oh, none⟩)) (ad := ⟨w.heap.size, 1, none⟩) 128 (.tmp 23) rfl rfl ((H2.out.1.mod hS (fun f => f)).cell 1) Try.underlying128 rfl) (fun K hK => ?_); go_simp; refine hK _ ?_; clear hK K
  iterate 1 (refine pc_pure rfl rfl (fun K hK => ?_); go_simp; refine hK _ ?_; clear hK K)
  refine pc_take (.agg (bv fh).toArray) rfl rfl (fun w' hS => exec_load_cells (P := Try.prog) (b := gh) (off := oh) (cs := bv fh) 23 (.tmp 25) rfl rfl (cellsP HH.out (H2.out.2.2.nn_ hS)) Try.underlying23 rfl (by rw [bv_len, HHL.out]; exact size_keyT)) (fun K hK => ?_); go_simp; refine hK _ ?_; clear hK K
  refine pc_call rfl rfl (fun K hK => ?_); go_simp; refine ⟨_, _, ⟨rfl, rfl⟩, hK _ _ _ ?_⟩; clear hK K
  refine (ecompare_any _ HK.out.2 HHZ.out HK.out.1 HHL.out).mono ?_
  rintro r w4 ⟨rfl, m4⟩
  have H4 := Lib.hid (H3.out.nn_ m4)
  clear m4
  refine ⟨_, rfl, H4.out, ?_⟩
  iterate 2 (refine pc_pure rfl rfl (fun K hK => ?_); go_simp; refine hK _ ?_; clear hK K)
  iterate 2 (refine pc_pure rfl rfl (fun K hK => ?_); go_simp; refine hK _ ?_; clear hK K)
  refine pc_nil ?_
  go_wp2
  go_ret
  exact ⟨rfl, H2.out.2.2.nn_ H4.out⟩
set_option maxRecDepth 100000 in
set_option maxHeartbeats 3200000 in
theorem has_no_out {gl ol : Nat} {fl : List Nat} (hLL : fl.length = 40) (hLZ : ∀ z ∈ fl, z < 256) (hL : ∀ j v, (bv fl)[j]? = some v → w.cell? ⟨gl, ol + j, none⟩ = some v) (hcl : decide ((0 : Int) ≤ lexc k fl) = false) (hk : k.length = 40) (hkz : ∀ z ∈ k, z < 256) : Calls Try.prog 81 #[.agg #[.pointer (some ⟨gl, ol, none⟩), .pointer ph], .agg (bv k).toArray] w fun r w' => r = .returned (.bool (false)) ∧ Mod Nn w w' := by
  have HK := Lib.hid (And.intro hk hkz)
  have hsk : (Try.prog.info? 23).map (·.size) = some (bv k).toArray.size := by rw [List.size_toArray, bv_len, hk]; exact size_keyT
  clear hk hkz
  have HL := Lib.hid hL
  have HLL := Lib.hid hLL
  have HLZ := Lib.hid hLZ
  clear hL hLL hLZ
  go_enter Try.func81, Try.ntmps81
  go_wp2_with (first
    | (with_reducible change wpList _ _ _ (⟨some 2, Op.box _ _, _, _, _, _⟩ :: _) _ _
       go_must (refine wpList_box_var 130 _ rfl rfl #[.pointer (some ⟨gl, ol, none⟩), .pointer ph] rfl ?_)
       intro w1 b1 m1 z1
       clear z1
       have hs1 : w.heap.size < w1.heap.size := b1.lt
       have H1 := Lib.hid (And.intro b1 m1)
       clear b1 m1)
    | (with_reducible change wpList _ _ _ (⟨some 3, Op.box _ _, _, _, _, _⟩ :: _) _ _
       go_must (refine wpList_box_var 23 _ rfl rfl (bv k).toArray rfl ?_)
       intro w2 b2 m2 z2
       clear z2
       have H2 := Lib.hid (And.intro (H1.out.1.mod m2 (fun f => f)) (And.intro b2 (H1.out.2.nn_ m2)))
       clear b2 m2))
  -- zzA
  have hN : Mod Nn w2 w2.drew := (Mod.refl Nn w2).drew
  refine wp_region_planC (fun w' => Mod Nn w2 w') [(0, true), (1, true), (2, true), (3, true), (4, true), (5, true), (6, true), (7, true), (8, true), (9, false), (10, true), (11, true), (12, true), (13, true), (14, true), (15, true), (16, true), (17, true), (18, true), (19, true), (20, true), (21, true), (22, false), (23, true), (24, true), (25, true), (26, true)] (by kernel_rfl) (by kernel_rfl) hN ?_
  iterate 1 (refine pc_pure rfl rfl (fun K hK => ?_); go_simp; refine hK _ ?_; clear hK K)
  refine pc_take (.pointer (some ⟨gl, ol, none⟩)) rfl rfl (fun w' hS => exec_load1 (P := Try.prog) (v := .pointer (some ⟨gl, ol, none⟩)) (ad := ⟨w.heap.size, 0, none⟩) 128 (.tmp 5) rfl rfl ((H2.out.1.mod hS (fun f => f)).cell 0) Try.underlying128 rfl) (fun K hK => ?_); go_simp; refine hK _ ?_; clear hK K
  iterate 2 (refine pc_pure rfl rfl (fun K hK => ?_); go_simp; refine hK _ ?_; clear hK K)
  refine pc_take (.agg (bv k).toArray) rfl rfl (fun w' hS => exec_load_row (P := Try.prog) (g := w1.heap.size) (cs := (bv k).toArray) 23 (.tmp 3) rfl rfl (H2.out.2.1.mod hS (fun f => f)) Try.underlying23 rfl hsk) (fun K hK => ?_); go_simp; refine hK _ ?_; clear hK K
  iterate 1 (refine pc_pure rfl rfl (fun K hK => ?_); go_simp; refine hK _ ?_; clear hK K)
  refine pc_take (.pointer (some ⟨gl, ol, none⟩)) rfl rfl (fun w' hS => exec_load1 (P := Try.prog) (v := .pointer (some ⟨gl, ol, none⟩)) (ad := ⟨w.heap.size, 0, none⟩) 128 (.tmp 10) rfl rfl ((H2.out.1.mod hS (fun f => f)).cell 0) Try.underlying128 rfl) (fun K hK => ?_); go_simp; refine hK _ ?_; clear hK K
  iterate 1 (refine pc_pure rfl rfl (fun K hK => ?_); go_simp; refine hK _ ?_; clear hK K)
  refine pc_take (.agg (bv fl).toArray) rfl rfl (fun w' hS => exec_load_cells (P := Try.prog) (b := gl) (off := ol) (cs := bv fl) 23 (.tmp 12) rfl rfl (cellsP HL.out (H2.out.2.2.nn_ hS)) Try.underlying23 rfl (by rw [bv_len, HLL.out]; exact size_keyT)) (fun K hK => ?_); go_simp; refine hK _ ?_; clear hK K
  refine pc_call rfl rfl (fun K hK => ?_); go_simp; refine ⟨_, _, ⟨rfl, rfl⟩, hK _ _ _ ?_⟩; clear hK K
  refine (ecompare_any _ HK.out.2 HLZ.out HK.out.1 HLL.out).mono ?_
  rintro r w3 ⟨rfl, m3⟩
  have H3 := Lib.hid (hN.nn_ m3)
  clear m3
  refine ⟨_, rfl, H3.out, ?_⟩
  have hc3 : decide ((0 : Int) ≤ lexc k fl) = false := hcl
  iterate 1 (refine pc_pure rfl rfl (fun K hK => ?_); go_simp; refine hK _ ?_; clear hK K)
  iterate 2 (refine pc_pure rfl rfl (fun K hK => ?_); go_simp; refine hK _ ?_; clear hK K)
  iterate 9 (refine pc_skip rfl rfl (fun K hK => ?_); go_simp; refine hK _ ?_; clear hK K)
  refine pc_skipD rfl rfl (fun K hK => ?_); go_simp; refine hK _ ?_; clear hK K
  iterate 2 (refine pc_skip rfl rfl (fun K hK => ?_); go_simp; refine hK _ ?_; clear hK K)
  iterate 2 (refine pc_pure rfl rfl (fun K hK => ?_); go_simp; refine hK _ ?_; clear hK K)
  refine pc_nil ?_
  go_wp2
  go_ret
  exact ⟨rfl, H2.out.2.2.nn_ H3.out⟩
theorem has_any (hl : PtrAt w pl s.lo) (hh : PtrAt w ph s.hi) (hk : k.length = 40) (hkz : ∀ z ∈ k, z < 256) : Calls Try.prog 81 #[spV pl ph, .agg (bv k).toArray] w fun r w' => r = .returned (.bool (s.has k)) ∧ Mod Nn w w' := by
  obtain ⟨lo, hi⟩ := s
  unfold spV Spn.has Spn.above Spn.under
  cases lo with
  | none =>
    obtain rfl : pl = none := hl
    cases hi with
    | none =>
      obtain rfl : ph = none := hh
      exact has_none_none hk hkz
    | some fh =>
      obtain ⟨gh, oh, rfl, h1, h2, h3⟩ := hh
      exact has_none_some h1 h2 h3 hk hkz
  | some fl =>
    obtain ⟨gl, ol, rfl, g1, g2, g3⟩ := hl
    by_cases hc : klt k fl
    · have hc' : lexc k fl < 0 := hc
      have e : (!decide (klt k fl)) = false := by rw [decide_eq_true hc]; rfl
      dsimp only
      rw [e, Bool.false_and]
      exact has_no_out g1 g2 g3 (decide_eq_false (by omega)) hk hkz
    · have hc' : ¬ lexc k fl < 0 := hc
      have e : (!decide (klt k fl)) = true := by rw [decide_eq_false hc]; rfl
      dsimp only
      rw [e, Bool.true_and]
      cases hi with
      | none =>
        obtain rfl : ph = none := hh
        exact has_yes_none g1 g2 g3 (decide_eq_true (by omega)) hk hkz
      | some fh =>
        obtain ⟨gh, oh, rfl, h1, h2, h3⟩ := hh
        exact has_yes_some g1 g2 g3 (decide_eq_true (by omega)) h1 h2 h3 hk hkz
end
end Go.Proofs.Ytkcpmkeckcnobaa

/- The loader's look at a leaf's entries: slices.ContainsFunc with the closure that asks whether an entry is within. -/
namespace Go.Proofs.Ytkcpmkeckcnobaa
open Go.RowKit

section
variable {w : World} {sb : Nat} {pl ph : Option Addr} {s : Spn} {e : List Nat}
set_option maxRecDepth 100000 in
set_option maxHeartbeats 3200000 in
theorem part1_any (hb : Blk w sb 130 #[.pointer pl, .pointer ph]) (hl : PtrAt w pl s.lo) (hh : PtrAt w ph s.hi) (he : e.length = 80) (hez : ∀ z ∈ e, z < 256) : Calls Try.prog 80 #[.agg (bv e).toArray, .pointer (some ⟨sb, 0, none⟩)] w fun r w' => r = .returned (.bool (!s.has (keyOf e))) ∧ Mod Nn w w' := by
  have HB := Lib.hid (And.intro hb (And.intro hl hh))
  have hk : (keyOf e).length = 40 := by unfold keyOf; rw [List.length_take, he]; rfl
  have hkz : ∀ z ∈ keyOf e, z < 256 := fun z hz => hez z (List.mem_of_mem_take hz)
  have HK := Lib.hid (And.intro hk hkz)
  have hsz : (bv e).toArray.size = 80 := by rw [List.size_toArray, bv_len, he]
  clear hb hl hh hk hkz
  go_enter Try.func80, Try.ntmps80
  go_wp2_with (first
    | (with_reducible change wpList _ _ _ (⟨some 2, Op.box _ _, _, _, _, _⟩ :: _) _ _
       go_must (refine wpList_box_var 28 _ rfl rfl (bv e).toArray rfl ?_)
       intro w1 b1 m1 z1
       clear z1
       have H1 := Lib.hid (And.intro b1 m1)
       clear b1 m1)
    | (with_reducible change wpList _ _ _ (⟨some 4, _, _, _, _, _⟩ :: _) _ _
       go_must (refine wpList_val rfl (exec_load_row (P := Try.prog) (g := sb) (cs := #[.pointer pl, .pointer ph]) 130 _ rfl rfl (HB.out.1.mod H1.out.2 (fun f => f)) Try.underlying130 rfl size_span) ?_))
    | (with_reducible change wpList _ _ _ (⟨some 6, _, _, _, _, _⟩ :: _) _ _
       go_must (refine wpList_val rfl (exec_load_cells (P := Try.prog) (b := w.heap.size) (off := 0) (cs := bv (keyOf e)) 23 _ rfl rfl (fun j v hj => by
         rw [Nat.zero_add]
         have hj' : j < 40 := by have := (List.getElem?_eq_some_iff.1 hj).1; rw [bv_len, HK.out.1] at this; exact this
         refine (H1.out.1.cell j).trans ?_
         rw [List.getElem?_toArray, ← hj]
         unfold keyOf bv
         rw [List.map_take, List.getElem?_take_of_lt hj']) Try.underlying23 rfl (by rw [bv_len, HK.out.1]; exact size_keyT)) ?_)))
  refine (has_any (HB.out.2.1.nn H1.out.2) (HB.out.2.2.nn H1.out.2) HK.out.1 HK.out.2).mono ?_
  rintro r w2 ⟨rfl, m2⟩
  have H2 := Lib.hid (H1.out.2.nn_ m2)
  clear m2
  go_wp2
  go_ret
  exact ⟨rfl, H2.out⟩
end
section
variable {w : World} {sb n c : Nat} {A : Option Addr} {pl ph : Option Addr} {s : Spn} {L : List (List Nat)}
set_option maxRecDepth 100000 in
set_option maxHeartbeats 3200000 in
theorem indexf_any (hb : Blk w sb 130 #[.pointer pl, .pointer ph]) (hl : PtrAt w pl s.lo) (hh : PtrAt w ph s.hi) (hR : RdC w A n 80 (bv L.flatten)) (hr : Rows 80 L) (hL : L.length = n) (hn : n ≤ 1099511627776) :
    Calls Try.prog 108 #[.slice A n c, .func (.func 80) #[] #[.pointer (some ⟨sb, 0, none⟩)]] w fun r w' => ∃ z : Int, r = .returned (.int .i64 z) ∧ decide (0 ≤ z) = !s.all L ∧ Mod Nn w w' := by
  have HH := Lib.hid (And.intro hb (And.intro hl (And.intro hh (And.intro hR hr))))
  clear hb hl hh hR hr
  go_enter Try.func108, Try.ntmps108
  go_wp2_with fail
  go_loopw [8] (fun i wr => ∃ q : Nat, q ≤ n ∧ i = .int .i64 q ∧ Mod Nn w wr ∧ Hid (∀ (t : Nat) (r : List Nat), t < q → L[t]? = some r → s.has (keyOf r) = true)) (fun i _ => n - (intOf i).toNat)
  case atStart => exact ⟨0, Nat.zero_le _, rfl, Mod.refl _ _, Lib.hid (fun t r ht => by omega)⟩
  case round =>
    obtain ⟨q, hq, rfl, hm, hs⟩ := hrel
    by_cases hlt : q < n
    · have hlt' : (q : Int) < n := by omega
      obtain ⟨r, hrx⟩ : ∃ r, L[q]? = some r := ⟨_, List.getElem?_eq_getElem (by omega)⟩
      have hrr := HH.out.2.2.2.2 r (List.mem_of_getElem? hrx)
      obtain ⟨g, off, rfl, hcell⟩ := row_cells HH.out.2.2.2.1 HH.out.2.2.2.2 hrx hL (by omega)
      have HR := Lib.hid (And.intro hm (And.intro hcell (And.intro hrr (And.intro hrx hs.out))))
      clear hm hcell hrr hrx hs
      go_wp2_with (first
        | (with_reducible change wpList _ _ _ (⟨some 14, _, _, _, _, _⟩ :: _) _ _
           go_must (refine wpList_val rfl (exec_elem (P := Try.prog) (g := g) (off := off) (q := q) 40 _ _ rfl 28 80 uuE sizeE rfl rfl hlt) ?_))
        | (with_reducible change wpList _ _ _ (⟨some 15, _, _, _, _, _⟩ :: _) _ _
           go_must (refine wpList_val rfl (exec_load_cells (P := Try.prog) (b := g) (off := off + q * 80) (cs := bv r) 28 _ rfl rfl (cellsP HR.out.2.1 HR.out.1) Try.underlying28 rfl (by rw [bv_len, HR.out.2.2.1.1]; exact size_entT)) ?_)))
      refine (part1_any (HH.out.1.mod HR.out.1 (fun f => f)) (HH.out.2.1.nn HR.out.1) (HH.out.2.2.1.nn HR.out.1) HR.out.2.2.1.1 HR.out.2.2.1.2).mono ?_
      rintro r2 w2 ⟨rfl, m2⟩
      have H2 := Lib.hid (HR.out.1.nn_ m2)
      clear m2
      obtain ⟨bb, hbb⟩ : ∃ bb, s.has (keyOf r) = bb := ⟨_, rfl⟩
      rw [hbb]
      have HBB := Lib.hid hbb
      clear hbb
      cases bb
      · go_wp2
        go_ret
        refine ⟨(q : Int), rfl, ?_, H2.out⟩
        have : s.all L = false := by
          cases hx : s.all L with
          | false => rfl
          | true =>
            have := List.all_eq_true.1 hx r (List.mem_of_getElem? HR.out.2.2.2.1)
            rw [HBB.out] at this; cases this
        rw [this, decide_eq_true (by omega)]; rfl
      · go_wp2
        refine ⟨⟨q + 1, by omega, by go_num, H2.out, Lib.hid (fun t r' ht ht' => ?_)⟩, by simp [intOf]; omega⟩
        rcases Nat.lt_or_ge t q with h | h
        · exact HR.out.2.2.2.2 t r' h ht'
        · obtain rfl : t = q := by omega
          rw [HR.out.2.2.2.1] at ht'
          injection ht' with ht'
          subst ht'
          exact HBB.out
    · have hlt' : ¬ (q : Int) < n := by omega
      go_wp2
      go_ret
      refine ⟨-1, rfl, ?_, hm⟩
      have : s.all L = true := List.all_eq_true.2 (fun e he => by
        obtain ⟨t, ht⟩ := List.mem_iff_getElem?.1 he
        exact hs.out t e (by have := (List.getElem?_eq_some_iff.1 ht).1; omega) ht)
      rw [this]; rfl
set_option maxRecDepth 100000 in
set_option maxHeartbeats 3200000 in
theorem containsf_any (hb : Blk w sb 130 #[.pointer pl, .pointer ph]) (hl : PtrAt w pl s.lo) (hh : PtrAt w ph s.hi) (hR : RdC w A n 80 (bv L.flatten)) (hr : Rows 80 L) (hL : L.length = n) (hn : n ≤ 1099511627776) :
    Calls Try.prog 79 #[.slice A n c, .func (.func 80) #[] #[.pointer (some ⟨sb, 0, none⟩)]] w fun r w' => r = .returned (.bool (!s.all L)) ∧ Mod Nn w w' := by
  have hi := indexf_any (c := c) hb hl hh hR hr hL hn
  clear hb hl hh hR hr
  obtain ⟨bb, hbb⟩ : ∃ bb, (!s.all L) = bb := ⟨_, rfl⟩
  rw [hbb] at hi ⊢
  clear hbb
  go_enter Try.func79, Try.ntmps79
  go_wp2_with fail
  refine hi.mono ?_
  rintro r w1 ⟨z, rfl, hz, m1⟩
  have HZ := Lib.hid hz
  clear hz hi
  go_wp2
  go_ret
  exact ⟨by rw [← HZ.out]; rfl, m1⟩
end
end Go.Proofs.Ytkcpmkeckcnobaa
