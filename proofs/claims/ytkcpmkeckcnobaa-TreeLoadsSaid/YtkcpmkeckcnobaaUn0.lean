/- What stands below a node (peatbankref16's reader), in plain words. -/
import Derived.Test.YtkcpmkeckcnobaaNdA
import Derived.Test.YtkcpmkeckcnobaaTr0
namespace Go.Proofs.Ytkcpmkeckcnobaa

/-- is a node too little? -/
def Nd.little (N : Nd) : Bool := if N.leaf then decide (N.ents.length < 6) else decide (N.kids.length < 10)
/-- an entry of kid i is beside the keys -/
def badE (keys : List (List Nat)) (i : Nat) (r : List Nat) : Bool := (decide (0 < i) && decide (klt (keyOf r) (keys.getD (i - 1) []))) || (decide (i < keys.length) && !decide (klt (keyOf r) (keys.getD i [])))
abbrev UR := Option (List (List Nat) × Nat × List Bool)
def kidsM (U : Int → List Bool → UR) (keys : List (List Nat)) : List Int → Nat → List (List Nat) → Nat → List Bool → UR
  | [], _, out, deep, σ => some (out, deep + 1, σ)
  | k :: ks, i, out, deep, σ => match U k σ with
    | none => none
    | some (l, d, σ') => if (decide (0 < i) && decide (d ≠ deep)) || l.any (badE keys i) then none else kidsM U keys ks (i + 1) (out ++ l) d σ'
def undM (Ns : List Nd) : Nat → Int → Bool → List Bool → UR
  | 0, _, _, _ => none
  | f + 1, at_, top, σ =>
    if at_ < 0 ∨ (Ns.length : Int) ≤ at_ ∨ σ.getD at_.toNat true = true then none else
    match Ns[at_.toNat]? with
    | none => none
    | some n => if n.right = false ∨ (top = false ∧ n.little = true) then none else
      if n.leaf then some (n.ents, 1, σ.set at_.toNat true) else kidsM (fun a s => undM Ns f a false s) n.keys n.kids 0 [] 0 (σ.set at_.toNat true)
/-- how many were not come to -/
def unseen (σ : List Bool) : Nat := σ.count false
theorem unseen_set {σ : List Bool} {i : Nat} (h : σ[i]? = some false) : unseen (σ.set i true) + 1 = unseen σ := by
  unfold unseen
  obtain ⟨hi, he⟩ := List.getElem?_eq_some_iff.1 h
  rw [List.count_set hi, he]
  simp
  exact Nat.sub_add_cancel (List.count_pos_iff.2 (he ▸ List.getElem_mem hi))
/-- what a run keeps -/
structure Kept (σ : List Bool) (L : List (List Nat)) (σ' : List Bool) : Prop where
  len : σ'.length = σ.length
  un : L.length + 12 * unseen σ' ≤ 12 * unseen σ
  rows : Rows 80 L
theorem kidsM_kept {U : Int → List Bool → UR} {keys : List (List Nat)} {m : Nat} (hU : ∀ k σ L d σ', unseen σ ≤ m → U k σ = some (L, d, σ') → Kept σ L σ') : ∀ (kids : List Int) (i : Nat) (out : List (List Nat)) (deep : Nat) (σ : List Bool) (L : List (List Nat)) (d : Nat) (σ' : List Bool), unseen σ ≤ m → Rows 80 out →
    kidsM U keys kids i out deep σ = some (L, d, σ') → σ'.length = σ.length ∧ L.length + 12 * unseen σ' ≤ out.length + 12 * unseen σ ∧ Rows 80 L
  | [], i, out, deep, σ, L, d, σ', _, hr, h => by
    simp only [kidsM, Option.some.injEq, Prod.mk.injEq] at h
    obtain ⟨rfl, _, rfl⟩ := h
    exact ⟨rfl, Nat.le_refl _, hr⟩
  | k :: ks, i, out, deep, σ, L, d, σ', hm, hr, h => by
    simp only [kidsM] at h
    split at h
    · cases h
    · rename_i l d1 σ1 he
      have hk := hU k σ l d1 σ1 hm he
      split at h
      · cases h
      · have hu := hk.un
        have := kidsM_kept hU ks (i + 1) (out ++ l) d1 σ1 L d σ' (by omega) (fun r hr' => (List.mem_append.1 hr').elim (hr r) (hk.rows r)) h
        rw [List.length_append] at this
        exact ⟨this.1.trans hk.len, by omega, this.2.2⟩
theorem right_leaf_len {N : Nd} (h : N.right = true) (hl : N.leaf = true) : N.ents.length ≤ 12 := by
  unfold Nd.right at h
  rw [if_pos hl] at h
  simp only [Bool.and_eq_true, decide_eq_true_eq] at h
  exact h.1.2
theorem undM_kept {Ns : List Nd} (hok : ∀ N ∈ Ns, N.ok) : ∀ (f : Nat) (a : Int) (top : Bool) (σ : List Bool) (L : List (List Nat)) (d : Nat) (σ' : List Bool), undM Ns f a top σ = some (L, d, σ') → Kept σ L σ'
  | 0, _, _, _, _, _, _, h => by cases h
  | f + 1, a, top, σ, L, d, σ', h => by
    simp only [undM] at h
    split at h
    · cases h
    · rename_i hg
      split at h
      · cases h
      · rename_i N hN
        split at h
        · cases h
        · rename_i hr
          have hsf : σ[a.toNat]? = some false := by
            cases hs : σ[a.toNat]? with
            | none => exact absurd (by rw [List.getD, hs]; rfl) (fun e => hg (.inr (.inr e)))
            | some b =>
              cases b with
              | false => rfl
              | true => exact absurd (by rw [List.getD, hs]; rfl) (fun e => hg (.inr (.inr e)))
          have hus := unseen_set hsf
          have hNok := hok N (List.mem_of_getElem? hN)
          have hrt : N.right = true := by cases hx : N.right with
            | true => rfl
            | false => exact absurd (.inl hx) hr
          split at h
          · rename_i hlf
            simp only [Option.some.injEq, Prod.mk.injEq] at h
            obtain ⟨rfl, _, rfl⟩ := h
            exact ⟨List.length_set, by have := right_leaf_len hrt hlf; omega, hNok.e⟩
          · have := kidsM_kept (m := unseen σ) (fun k s L d s' _ he => undM_kept hok f k false s L d s' he) N.kids 0 [] 0 (σ.set a.toNat true) L d σ' (by omega) (fun r hr => by cases hr) h
            simp only [List.length_nil] at this
            exact ⟨by rw [this.1, List.length_set], by omega, this.2.2⟩
end Go.Proofs.Ytkcpmkeckcnobaa
