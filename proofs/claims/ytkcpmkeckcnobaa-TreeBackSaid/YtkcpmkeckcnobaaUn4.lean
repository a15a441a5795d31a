/- A tree's nodes make its entries: what the reader's 'under' computes of them, in plain words. -/
import Derived.Test.YtkcpmkeckcnobaaUn0
import Derived.Test.YtkcpmkeckcnobaaTrI
namespace Go.Proofs.Ytkcpmkeckcnobaa
open Go.RowKit

def ndP (n : PN) : Nd := ⟨n.leaf, n.ents, n.keys, n.kids.map Int.ofNat⟩
/-- places b .. b + m - 1 were come to -/
structure Marked (σ : List Bool) (b m : Nat) (σ' : List Bool) : Prop where
  len : σ'.length = σ.length
  at_ : ∀ x, σ'.getD x true = (σ.getD x true || decide (b ≤ x ∧ x < b + m))
theorem Marked.refl (σ : List Bool) (b : Nat) : Marked σ b 0 σ := ⟨rfl, fun x => by rw [decide_eq_false (by omega)]; simp⟩
theorem Marked.trans {σ σ1 σ2 : List Bool} {b m k : Nat} (h : Marked σ b m σ1) (h' : Marked σ1 (b + m) k σ2) : Marked σ b (m + k) σ2 := ⟨h'.len.trans h.len, fun x => by
  rw [h'.at_, h.at_, Bool.or_assoc]
  congr 1
  by_cases h1 : b ≤ x ∧ x < b + (m + k)
  · rw [decide_eq_true h1]
    by_cases h2 : x < b + m
    · rw [decide_eq_true (show b ≤ x ∧ x < b + m by omega)]; rfl
    · rw [decide_eq_true (show b + m ≤ x ∧ x < b + m + k by omega)]; simp
  · rw [decide_eq_false h1, decide_eq_false (show ¬ (b ≤ x ∧ x < b + m) by omega), decide_eq_false (show ¬ (b + m ≤ x ∧ x < b + m + k) by omega)]; rfl⟩
theorem getD_set {σ : List Bool} {i : Nat} (hi : i < σ.length) (x : Nat) : (σ.set i true).getD x true = (σ.getD x true || decide (x = i)) := by
  by_cases h : x = i
  · subst h
    rw [decide_eq_true rfl, List.getD, List.getElem?_set_self hi]; simp
  · rw [decide_eq_false h, List.getD, List.getElem?_set_ne (fun e => h e.symm), Bool.or_false]; rfl
/-- the nodes lie from place b on -/
def LieAt (Ns : List Nd) (b : Nat) (Ms : List PN) : Prop := ∀ j n, Ms[j]? = some n → Ns[b + j]? = some (ndP n)
theorem LieAt.left {Ns : List Nd} {b : Nat} {A B : List PN} (h : LieAt Ns b (A ++ B)) : LieAt Ns b A := fun j n hj => h j n (by rw [List.getElem?_append_left (List.getElem?_eq_some_iff.1 hj).1]; exact hj)
theorem LieAt.right {Ns : List Nd} {b : Nat} {A B : List PN} (h : LieAt Ns b (A ++ B)) : LieAt Ns (b + A.length) B := fun j n hj => by
  have := h (A.length + j) n (by rw [List.getElem?_append_right (by omega), Nat.add_sub_cancel_left]; exact hj)
  rwa [← Nat.add_assoc] at this
theorem rise_at {L : List (List Nat)} (h : L.Pairwise klt) {i : Nat} (hi : i + 1 < L.length) : lexc (L.getD i []) (L.getD (i + 1) []) < 0 := by
  have := List.pairwise_iff_getElem.1 h i (i + 1) (by omega) hi (by omega)
  rw [List.getD, List.getD, List.getElem?_eq_getElem (show i < L.length by omega), List.getElem?_eq_getElem hi]
  exact this
theorem rise_of {L : List (List Nat)} (h : L.Pairwise klt) : riseB L = true := (rise_iff L).2 (fun i hi => rise_at h hi)
theorem entsQ_app (A B : List KQ) : entsQ (A ++ B) = entsQ A ++ entsQ B := List.flatMap_append
theorem msOf_app (A B : List KQ) : msOf (A ++ B) = msOf A ++ msOf B := List.flatMap_append
section
variable {Ns : List Nd}
/-- the kids, one behind the other -/
theorem kids_und {U : Int → List Bool → UR} {ks : List (List Nat)} {qs : List KQ} {b d n : Nat}
    (hU : ∀ (pre rest : List KQ) (q : KQ) (σ : List Bool), σ.length = n → qs = pre ++ q :: rest → (∀ x, b + (msOf pre).length ≤ x → x < b + (msOf qs).length → σ.getD x true = false) → ∃ σ', U (Int.ofNat q.i) σ = some (q.L, d + 1, σ') ∧ Marked σ (b + (msOf pre).length) q.ms.length σ')
    (hbad : ∀ (pre rest : List KQ) (q : KQ), qs = pre ++ q :: rest → q.L.any (badE ks pre.length) = false) :
    ∀ (rest pre : List KQ) (deep : Nat) (σ : List Bool), σ.length = n → qs = pre ++ rest → (pre ≠ [] → deep = d + 1) → (∀ x, b + (msOf pre).length ≤ x → x < b + (msOf qs).length → σ.getD x true = false) →
      ∃ σ' dd, kidsM U ks (rest.map (fun q => Int.ofNat q.i)) pre.length (entsQ pre) deep σ = some (entsQ qs, dd + 1, σ') ∧ Marked σ (b + (msOf pre).length) (msOf rest).length σ' ∧ (qs ≠ [] → dd = d + 1)
  | [], pre, deep, σ, _, hq, hd, hσ => by
    rw [List.append_nil] at hq
    subst hq
    exact ⟨σ, deep, rfl, Marked.refl _ _, hd⟩
  | q :: rest, pre, deep, σ, hl, hq, hd, hσ => by
    obtain ⟨σ1, h1, h2⟩ := hU pre rest q σ hl hq hσ
    have hq' : qs = (pre ++ [q]) ++ rest := by rw [List.append_assoc]; exact hq
    have hml : (msOf (pre ++ [q])).length = (msOf pre).length + q.ms.length := by rw [msOf_app, List.length_append]; simp [msOf]
    obtain ⟨σ', dd, h3, h4, h5⟩ := kids_und hU hbad rest (pre ++ [q]) (d + 1) σ1 (h2.len.trans hl) hq' (fun _ => rfl) (fun x h6 h7 => by
      rw [hml] at h6
      rw [h2.at_, hσ x (by omega) h7, decide_eq_false (by omega)]; rfl)
    refine ⟨σ', dd, ?_, ?_, h5⟩
    · show kidsM U ks (Int.ofNat q.i :: rest.map (fun q => Int.ofNat q.i)) pre.length (entsQ pre) deep σ = _
      simp only [kidsM, h1]
      have hc : (decide (0 < pre.length) && decide (d + 1 ≠ deep)) = false := by
        cases pre with
        | nil => rfl
        | cons p ps => rw [hd (by simp)]; simp
      rw [hc, hbad pre rest q hq]
      have e : entsQ (pre ++ [q]) = entsQ pre ++ q.L := by rw [entsQ_app]; simp [entsQ]
      rw [e, List.length_append] at h3
      exact h3
    · rw [hml, ← Nat.add_assoc] at h4
      have := h2.trans h4
      rwa [show q.ms.length + (msOf rest).length = (msOf (q :: rest)).length from by simp [msOf]] at this
theorem und_nodes (hNl : Ns.length ≤ 1000000) : ∀ (d : Nat) (L : List (List Nat)) (k b : Nat) (Ms : List PN) (i f : Nat) (top : Bool) (σ : List Bool), NodesIs d L k b Ms i → k ≤ hiB d → (d = 0 ∨ 2 ≤ k) → (top = false → loB d ≤ k) → Srt L → LieAt Ns b Ms → d < f → σ.length = Ns.length → (∀ x, b ≤ x → x < b + Ms.length → σ.getD x true = false) →
    ∃ σ', undM Ns f i top σ = some (L, d + 1, σ') ∧ Marked σ b Ms.length σ'
  | 0, L, k, b, Ms, i, f + 1, top, σ, ⟨h1, h2, h3⟩, hk, _, hlo, hs, hlie, _, hl, hσ => by
    subst h1 h2
    have hat := hlie 0 _ rfl
    rw [Nat.add_zero] at hat
    have hb : i < Ns.length := (List.getElem?_eq_some_iff.1 hat).1
    have hsi := hσ i (Nat.le_refl _) (by simp)
    refine ⟨σ.set i true, ?_, ⟨List.length_set, fun x => ?_⟩⟩
    · simp only [undM]
      rw [if_neg (by
        rintro (h | h | h)
        · omega
        · omega
        · rw [Int.toNat_natCast, hsi] at h; cases h), Int.toNat_natCast, hat]
      dsimp only
      simp only [hiB] at hk
      have hr : (ndP ⟨true, L, [], []⟩).right = true := by
        show (if true = true then _ else _) = true
        rw [if_pos rfl]
        simp only [ndP, List.map_nil, List.length_nil, beq_self_eq_true, Bool.true_and, Bool.and_eq_true, decide_eq_true_eq]
        exact ⟨by omega, rise_of (List.pairwise_map.2 hs)⟩
      rw [if_neg (by
        rintro (h | ⟨h, h'⟩)
        · rw [hr] at h; cases h
        · have := hlo h
          simp only [loB] at this
          have h' : decide (L.length < 6) = true := h'
          rw [decide_eq_true_eq] at h'; omega)]
      rfl
    · rw [getD_set (by omega)]
      congr 1
      simp only [List.length_singleton]
      by_cases h : x = i
      · rw [decide_eq_true h, decide_eq_true (by omega)]
      · rw [decide_eq_false h, decide_eq_false (by omega)]
  | d + 1, L, k, b, Ms, i, f + 1, top, σ, ⟨ks, qs, h1, h2, h3, h4, h5, hr, hsk, hsep, h9⟩, hk, hk2, hlo, hs, hlie, hf, hl, hσ => by
    subst h1 h3 h4
    have hk2 : 2 ≤ qs.length := hk2.elim (fun h => by omega) id
    simp only [hiB] at hk
    have hat := hlie.right 0 _ rfl
    rw [Nat.add_zero, ← h2] at hat
    have hb : i < Ns.length := (List.getElem?_eq_some_iff.1 hat).1
    have hsi := hσ i (by omega) (by simp; omega)
    have hq : ∀ (pre rest : List KQ) (q : KQ), qs = pre ++ q :: rest → qs[pre.length]? = some q ∧ qs.take pre.length = pre ∧ qs.drop pre.length = q :: rest := fun pre rest q e => by
      subst e
      exact ⟨by rw [List.getElem?_append_right (Nat.le_refl _), Nat.sub_self]; rfl, by rw [List.take_left], by rw [List.drop_left]⟩
    have hlieq : ∀ (pre rest : List KQ) (q : KQ), qs = pre ++ q :: rest → LieAt Ns (b + (msOf pre).length) q.ms := fun pre rest q e => by
      have := hlie.left
      rw [e, msOf_app] at this
      have h' := this.right
      have e2 : msOf (q :: rest) = q.ms ++ msOf rest := rfl
      rw [e2] at h'
      exact h'.left
    have hidx : ∀ q ∈ qs, q.i < Ns.length := fun q hq' => by
      obtain ⟨pre, rest, e⟩ := List.append_of_mem hq'
      obtain ⟨a1, a2, _⟩ := hq pre rest q e
      obtain ⟨hn, _, _⟩ := h9 _ q a1
      rw [a2] at hn
      have hl2 := hlieq pre rest q e
      cases d with
      | zero =>
        obtain ⟨e1, e2, _⟩ := hn
        have := hl2 0 _ (by rw [e1]; rfl)
        rw [e2, ← Nat.add_zero (b + _)]
        exact (List.getElem?_eq_some_iff.1 this).1
      | succ d =>
        obtain ⟨ks', qs', e1, e2, _⟩ := hn
        have := hl2 (msOf qs').length _ (by rw [e1, List.getElem?_append_right (Nat.le_refl _), Nat.sub_self]; rfl)
        rw [e2]
        exact (List.getElem?_eq_some_iff.1 this).1
    have hsL : ∀ (pre rest : List KQ) (q : KQ), qs = pre ++ q :: rest → Srt q.L := fun pre rest q e => by
      have h' : Srt (entsQ pre ++ (q.L ++ entsQ rest)) := by
        have := hs
        rw [e, entsQ_app] at this
        exact this
      exact (h'.parts.2.1).parts.1
    obtain ⟨σ', dd, e1, e2, e3⟩ := kids_und (n := Ns.length) (U := fun a s => undM Ns f a false s) (ks := ks) (qs := qs) (b := b) (d := d)
      (fun pre rest q σ1 hl1 e hσ1 => by
        obtain ⟨a1, a2, _⟩ := hq pre rest q e
        obtain ⟨hn, hlo', hhi'⟩ := h9 _ q a1
        rw [a2] at hn
        refine und_nodes hNl d q.L q.k (b + (msOf pre).length) q.ms q.i f false σ1 hn hhi' (by cases d <;> simp only [loB] at hlo' <;> omega) (fun _ => hlo') (hsL pre rest q e) (hlieq pre rest q e) (by omega) hl1 (fun x hx hx' => hσ1 x hx (by
          have : (msOf qs).length = (msOf pre).length + (q.ms.length + (msOf rest).length) := by rw [e, msOf_app, List.length_append]; simp [msOf]
          omega)))
      (fun pre rest q e => by
        obtain ⟨a1, a2, a3⟩ := hq pre rest q e
        refine List.any_eq_false.2 (fun r hr' => ?_)
        have hpl : pre.length < qs.length := (List.getElem?_eq_some_iff.1 a1).1
        unfold badE
        rw [Bool.or_eq_true, Bool.and_eq_true, Bool.and_eq_true]
        rintro (⟨g1, g2⟩ | ⟨g1, g2⟩)
        · rw [decide_eq_true_eq] at g1 g2
          have hk' : ks[pre.length - 1]? = some (ks.getD (pre.length - 1) []) := by rw [List.getD, List.getElem?_eq_getElem (by omega)]; rfl
          refine (hsep (pre.length - 1) _ hk').2 r ?_ g2
          rw [show pre.length - 1 + 1 = pre.length by omega, a3]
          exact List.mem_append_left _ hr'
        · rw [decide_eq_true_eq] at g1
          have hk' : ks[pre.length]? = some (ks.getD pre.length []) := by rw [List.getD, List.getElem?_eq_getElem g1]; rfl
          have := (hsep pre.length _ hk').1 r (by
            rw [List.take_add_one, a1, a2, entsQ_app]
            exact List.mem_append_right _ (by simpa [entsQ] using hr'))
          rw [decide_eq_true this] at g2; cases g2)
      qs [] 0 (σ.set i true) (List.length_set.trans hl) rfl (fun h => absurd rfl h) (fun x hx hx' => by
        simp only [msOf, List.flatMap_nil, List.length_nil, Nat.add_zero] at hx
        rw [getD_set (by omega), hσ x hx (by simp [msOf] at hx' ⊢; omega), decide_eq_false (by omega)]; rfl)
    have hdd := e3 (fun e => by rw [e] at hk2; simp at hk2)
    subst hdd
    refine ⟨σ', ?_, ⟨e2.len.trans List.length_set, fun x => ?_⟩⟩
    · simp only [undM]
      rw [if_neg (by
        rintro (h | h | h)
        · omega
        · omega
        · rw [Int.toNat_natCast, hsi] at h; cases h), Int.toNat_natCast, hat]
      dsimp only
      have hr : (ndP ⟨false, [], ks, qs.map (·.i)⟩).right = true := by
        show (if false = true then _ else _) = true
        rw [if_neg (by decide)]
        simp only [ndP, List.length_map, List.length_nil, beq_self_eq_true, Bool.and_eq_true, decide_eq_true_eq, beq_iff_eq, and_true]
        refine ⟨⟨⟨⟨?_, hk2⟩, hk⟩, h5⟩, rise_of hsk⟩
        rw [List.all_eq_true]
        intro z hz
        obtain ⟨y, hy, rfl⟩ := List.mem_map.1 hz
        obtain ⟨q, hq', rfl⟩ := List.mem_map.1 hy
        have := hidx q hq'
        rw [decide_eq_true_eq]
        show 0 ≤ ((q.i : Nat) : Int) ∧ ((q.i : Nat) : Int) ≤ 1048576
        omega
      rw [if_neg (by
        rintro (h | ⟨h, h'⟩)
        · rw [hr] at h; cases h
        · have := hlo h
          simp only [loB] at this
          have h' : decide (((qs.map (·.i)).map Int.ofNat).length < 10) = true := h'
          rw [decide_eq_true_eq, List.length_map, List.length_map] at h'; omega)]
      have e4 : (qs.map (·.i)).map Int.ofNat = qs.map (fun q => Int.ofNat q.i) := List.map_map ..
      show (if (false : Bool) = true then _ else kidsM (fun a s => undM Ns f a false s) ks ((qs.map (·.i)).map Int.ofNat) 0 [] 0 (σ.set i true)) = _
      rw [if_neg (by decide), e4]
      exact e1
    · rw [e2.at_, getD_set (by omega), Bool.or_assoc]
      congr 1
      simp only [msOf, List.flatMap_nil, List.length_nil, Nat.add_zero, List.length_append, List.length_singleton]
      have h2' : i = b + (qs.flatMap (·.ms)).length := h2
      by_cases h : x = i
      · rw [decide_eq_true h, Bool.true_or]; exact (decide_eq_true (by omega)).symm
      · rw [decide_eq_false h, Bool.false_or]
        by_cases h' : b ≤ x ∧ x < b + (qs.flatMap (·.ms)).length
        · rw [decide_eq_true h', decide_eq_true (by omega)]
        · rw [decide_eq_false h', decide_eq_false (by omega)]
theorem nodes_deep : ∀ (d : Nat) (L : List (List Nat)) (k b : Nat) (Ms : List PN) (i : Nat), NodesIs d L k b Ms i → (d = 0 ∨ 2 ≤ k) → d < Ms.length := by
  intro d
  induction d with
  | zero => intro L k b Ms i hn _; rw [hn.1]; exact Nat.zero_lt_one
  | succ d ih =>
    intro L k b Ms i hn hk
    obtain ⟨ks, qs, h1, h2, h3, h4, h5, _, _, _, h9⟩ := hn
    have hk2 : 2 ≤ qs.length := by rw [← h4]; exact hk.elim (fun h => by omega) id
    obtain ⟨q, hq⟩ : ∃ q, qs[0]? = some q := ⟨_, List.getElem?_eq_getElem (by omega)⟩
    obtain ⟨hn', hlo, _⟩ := h9 0 q hq
    have := ih q.L q.k _ q.ms q.i hn' (by cases d <;> simp only [loB] at hlo <;> omega)
    have hm : q.ms.length ≤ (msOf qs).length := by
      obtain ⟨pre, rest, e⟩ := List.append_of_mem (List.mem_of_getElem? hq)
      rw [e, msOf_app, List.length_append]
      simp [msOf]; omega
    rw [h1, List.length_append, List.length_singleton]; omega
/-- THE LAW: a tree's nodes make its entries -/
theorem load_nodes {L : List (List Nat)} {Ms : List PN} {i : Nat} (h : NodesT L Ms i) (hs : Srt L) (hl : Ms.length ≤ 1000000) : ∃ d σ, undM (Ms.map ndP) ((Ms.map ndP).length + 1) i true (List.replicate (Ms.map ndP).length false) = some (L, d, σ) ∧ σ.all id = true := by
  obtain ⟨d, k, hn, hk, hd⟩ := h
  have hdl := nodes_deep d L k 0 Ms i hn hd
  have hml : (Ms.map ndP).length = Ms.length := List.length_map ..
  obtain ⟨σ', h1, h2⟩ := und_nodes (Ns := Ms.map ndP) (by omega) d L k 0 Ms i ((Ms.map ndP).length + 1) true (List.replicate (Ms.map ndP).length false) hn hk hd (fun h => by cases h) hs
    (fun j n hj => by rw [Nat.zero_add, List.getElem?_map, hj]; rfl) (by omega) (List.length_replicate ..) (fun x _ hx => by
      rw [List.getD, List.getElem?_replicate, if_pos (by omega)]; rfl)
  refine ⟨d + 1, σ', h1, ?_⟩
  rw [List.all_eq_true]
  intro b hb
  obtain ⟨x, hx⟩ := List.mem_iff_getElem?.1 hb
  have hxl := (List.getElem?_eq_some_iff.1 hx).1
  rw [h2.len, List.length_replicate] at hxl
  have := h2.at_ x
  rw [List.getD, hx, decide_eq_true (by omega), Bool.or_true] at this
  exact this
end
end Go.Proofs.Ytkcpmkeckcnobaa
