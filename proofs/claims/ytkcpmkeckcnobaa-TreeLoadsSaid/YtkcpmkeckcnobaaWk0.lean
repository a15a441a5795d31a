/- Walks in plain words: rows in any order beside the rising list; what a cursor tells. No program is named. -/
import Derived.Test.YtkcpmkeckcnobaaTr0
namespace Go.Proofs.Ytkcpmkeckcnobaa

def rdel (R : List (List Nat)) (k : List Nat) : List (List Nat) := R.filter (fun r => decide (keyOf r ≠ k))
def rset (R : List (List Nat)) (e : List Nat) : List (List Nat) := rdel R (keyOf e) ++ [e]
/-- the same entries: in any order, and rising -/
structure Like (R L : List (List Nat)) : Prop where
  mem : ∀ r, r ∈ R ↔ r ∈ L
  srt : Srt L
  nd : (R.map keyOf).Nodup
theorem klt_ne {a b : List Nat} : a ≠ b ↔ klt a b ∨ klt b a := by
  constructor
  · intro h
    refine Classical.byContradiction fun hc => h (klt_eq (fun e => hc (.inl e)) (fun e => hc (.inr e)))
  · rintro (h | h) rfl <;> exact klt_irr _ h
theorem mem_ins_iff {L : List (List Nat)} {e r : List Nat} : r ∈ ins L e ↔ (r ∈ L ∧ keyOf r ≠ keyOf e) ∨ r = e := by
  unfold ins
  rw [List.mem_append, List.mem_cons, mem_lows, mem_highs, klt_ne]
  constructor
  · rintro (⟨h, h'⟩ | h | ⟨h, h'⟩)
    · exact .inl ⟨h, .inl h'⟩
    · exact .inr h
    · exact .inl ⟨h, .inr h'⟩
  · rintro (⟨h, h' | h'⟩ | h)
    · exact .inl ⟨h, h'⟩
    · exact .inr (.inr ⟨h, h'⟩)
    · exact .inr (.inl h)
theorem mem_dele_iff {L : List (List Nat)} {k r : List Nat} : r ∈ dele L k ↔ r ∈ L ∧ keyOf r ≠ k := by
  unfold dele
  rw [List.mem_append, mem_lows, mem_highs, klt_ne]
  constructor
  · rintro (⟨h, h'⟩ | ⟨h, h'⟩)
    · exact ⟨h, .inl h'⟩
    · exact ⟨h, .inr h'⟩
  · rintro ⟨h, h' | h'⟩
    · exact .inl ⟨h, h'⟩
    · exact .inr ⟨h, h'⟩
theorem mem_rdel {R : List (List Nat)} {k r : List Nat} : r ∈ rdel R k ↔ r ∈ R ∧ keyOf r ≠ k := by simp [rdel]
theorem rows_rdel {s : Nat} {R : List (List Nat)} {k : List Nat} (h : Rows s R) : Rows s (rdel R k) := fun r hr => h r (mem_rdel.1 hr).1
theorem rows_rset {s : Nat} {R : List (List Nat)} {e : List Nat} (h : Rows s R) (he : e.length = s ∧ ∀ z ∈ e, z < 256) : Rows s (rset R e) := fun r hr => by
  rcases List.mem_append.1 hr with h' | h'
  · exact rows_rdel h r h'
  · rw [List.mem_singleton] at h'; subst h'; exact he
theorem rdel_append (R S : List (List Nat)) (k : List Nat) : rdel (R ++ S) k = rdel R k ++ rdel S k := List.filter_append ..
theorem rdel_len (R : List (List Nat)) (k : List Nat) : (rdel R k).length ≤ R.length := List.length_filter_le ..
theorem srt_keys {L : List (List Nat)} (h : Srt L) : (L.map keyOf).Nodup := by
  unfold List.Nodup
  rw [List.pairwise_map]
  exact h.imp (fun hab e => by rw [e] at hab; exact klt_irr _ hab)
theorem nd_of_keys {L : List (List Nat)} (h : (L.map keyOf).Nodup) : L.Nodup := by
  unfold List.Nodup at h ⊢
  rw [List.pairwise_map] at h
  exact h.imp (fun hab e => hab (by rw [e]))
section
variable {R L M : List (List Nat)} {e k r : List Nat}
theorem Like.nil : Like [] [] := ⟨fun _ => Iff.rfl, List.Pairwise.nil, List.nodup_nil⟩
theorem Like.del (h : Like R L) (k : List Nat) : Like (rdel R k) (dele L k) :=
  ⟨fun r => by rw [mem_rdel, mem_dele_iff, h.mem], srt_dele h.srt k, h.nd.sublist (List.filter_sublist.map _)⟩
theorem Like.set (h : Like R L) (e : List Nat) : Like (rset R e) (ins L e) := by
  refine ⟨fun r => ?_, srt_ins h.srt e, ?_⟩
  · unfold rset
    rw [List.mem_append, mem_rdel, mem_ins_iff, h.mem, List.mem_singleton]
  · unfold rset
    rw [List.map_append, List.nodup_append]
    refine ⟨h.nd.sublist (List.filter_sublist.map _), by simp, fun a ha b hb hab => ?_⟩
    obtain ⟨r, hr, rfl⟩ := List.mem_map.1 ha
    simp only [List.map_cons, List.map_nil, List.mem_singleton] at hb
    exact (mem_rdel.1 hr).2 (hab.trans hb)
theorem Like.len (h : Like R L) : R.length = L.length :=
  Nat.le_antisymm (nodup_sub_len _ _ (nd_of_keys h.nd) (fun r hr => (h.mem r).1 hr)) (nodup_sub_len _ _ (nd_of_keys (srt_keys h.srt)) (fun r hr => (h.mem r).2 hr))
theorem Like.filter (h : Like R L) (p : List Nat → Bool) : Like (R.filter p) (L.filter p) :=
  ⟨fun r => by rw [List.mem_filter, List.mem_filter, h.mem], h.srt.sublist List.filter_sublist, h.nd.sublist (List.filter_sublist.map _)⟩
/-- two that rise and have the same entries -/
theorem srt_ext : ∀ {L M : List (List Nat)}, Srt L → Srt M → (∀ r, r ∈ L ↔ r ∈ M) → L = M
  | [], [], _, _, _ => rfl
  | [], m :: M, _, _, h => by have := (h m).2 List.mem_cons_self; cases this
  | l :: L, [], _, _, h => by have := (h l).1 List.mem_cons_self; cases this
  | l :: L, m :: M, hL, hM, h => by
    have tL := hL.tail
    have tM := hM.tail
    have e : l = m := by
      rcases List.mem_cons.1 ((h l).1 List.mem_cons_self) with e | e
      · exact e
      · rcases List.mem_cons.1 ((h m).2 List.mem_cons_self) with e' | e'
        · exact e'.symm
        · exact absurd (tM.1 l e) (klt_asym (tL.1 m e'))
    subst e
    rw [srt_ext tL.2 tM.2 (fun r => ?_)]
    constructor
    · intro hr
      rcases List.mem_cons.1 ((h r).1 (List.mem_cons_of_mem _ hr)) with e | e
      · subst e; exact absurd (tL.1 r hr) (klt_irr _)
      · exact e
    · intro hr
      rcases List.mem_cons.1 ((h r).2 (List.mem_cons_of_mem _ hr)) with e | e
      · subst e; exact absurd (tM.1 r hr) (klt_irr _)
      · exact e
theorem Like.eq (h : Like R L) (h' : Like R M) : L = M := srt_ext h.srt h'.srt (fun r => (h.mem r).symm.trans (h'.mem r))
end
/-! ## the document's cursor -/
/-- what is asked of an entry -/
def cand (fr be la : List Nat) (told : Bool) (r : List Nat) : Bool := (!decide (klt (keyOf r) fr)) && (decide (klt (keyOf r) be) && (!told || decide (klt la (keyOf r))))
/-- the best of the first i -/
def BestAt (R : List (List Nat)) (p : List Nat → Bool) (i : Nat) (b : Int) : Prop :=
  (b = -1 ∧ ∀ t r, t < i → R[t]? = some r → p r = false) ∨ ∃ (j : Nat) (r : List Nat), b = (j : Int) ∧ j < i ∧ R[j]? = some r ∧ p r = true ∧ ∀ t q, t < i → R[t]? = some q → p q = true → ¬ klt (keyOf q) (keyOf r)
section
variable {R L : List (List Nat)} {p : List Nat → Bool} {i : Nat} {b : Int} {r q : List Nat}
theorem best_start : BestAt R p 0 (-1) := .inl ⟨rfl, fun t r h => by omega⟩
theorem best_skip (h : BestAt R p i b) (hr : R[i]? = some r) (hp : p r = false) : BestAt R p (i + 1) b := by
  rcases h with ⟨h1, h2⟩ | ⟨j, x, h1, h2, h3, h4, h5⟩
  · refine .inl ⟨h1, fun t y ht hy => ?_⟩
    rcases Nat.lt_or_ge t i with h | h
    · exact h2 t y h hy
    · obtain rfl : t = i := by omega
      rw [hr] at hy; injection hy with hy; subst hy; exact hp
  · refine .inr ⟨j, x, h1, by omega, h3, h4, fun t y ht hy hpy => ?_⟩
    rcases Nat.lt_or_ge t i with h | h
    · exact h5 t y h hy hpy
    · obtain rfl : t = i := by omega
      rw [hr] at hy; injection hy with hy; subst hy
      rw [hp] at hpy; cases hpy
theorem best_keep {j : Nat} (h : BestAt R p i j) (hr : R[i]? = some r) (hq : R[j]? = some q) (hk : ¬ klt (keyOf r) (keyOf q)) : BestAt R p (i + 1) j := by
  rcases h with ⟨h1, h2⟩ | ⟨j', x, h1, h2, h3, h4, h5⟩
  · omega
  · obtain rfl : j = j' := by omega
    rw [hq] at h3; injection h3 with h3; subst h3
    refine .inr ⟨j, q, rfl, by omega, hq, h4, fun t y ht hy hpy => ?_⟩
    rcases Nat.lt_or_ge t i with h | h
    · exact h5 t y h hy hpy
    · obtain rfl : t = i := by omega
      rw [hr] at hy; injection hy with hy; subst hy; exact hk
theorem best_first (h : BestAt R p i (-1)) (hr : R[i]? = some r) (hp : p r = true) : BestAt R p (i + 1) i := by
  rcases h with ⟨h1, h2⟩ | ⟨j', x, h1, h2, h3, h4, h5⟩
  · refine .inr ⟨i, r, rfl, by omega, hr, hp, fun t y ht hy hpy => ?_⟩
    rcases Nat.lt_or_ge t i with h | h
    · rw [h2 t y h hy] at hpy; cases hpy
    · obtain rfl : t = i := by omega
      rw [hr] at hy; injection hy with hy; subst hy; exact klt_irr _
  · omega
theorem best_better {j : Nat} (h : BestAt R p i j) (hr : R[i]? = some r) (hp : p r = true) (hq : R[j]? = some q) (hk : klt (keyOf r) (keyOf q)) : BestAt R p (i + 1) i := by
  rcases h with ⟨h1, h2⟩ | ⟨j', x, h1, h2, h3, h4, h5⟩
  · omega
  · obtain rfl : j = j' := by omega
    rw [hq] at h3; injection h3 with h3; subst h3
    refine .inr ⟨i, r, rfl, by omega, hr, hp, fun t y ht hy hpy => ?_⟩
    rcases Nat.lt_or_ge t i with h | h
    · exact fun hc => h5 t y h hy hpy (klt_trans hc hk)
    · obtain rfl : t = i := by omega
      rw [hr] at hy; injection hy with hy; subst hy; exact klt_irr _
theorem best_cases (h : BestAt R p i b) : b = -1 ∨ ∃ (j : Nat) (q : List Nat), b = (j : Int) ∧ j < i ∧ R[j]? = some q := by
  rcases h with ⟨h1, _⟩ | ⟨j, x, h1, h2, h3, _⟩
  · exact .inl h1
  · exact .inr ⟨j, x, h1, h2, h3⟩
theorem best_end (hl : Like R L) (h : BestAt R p R.length b) : (b = -1 ∧ (L.filter p).head? = none) ∨ ∃ (j : Nat) (r : List Nat), b = (j : Int) ∧ R[j]? = some r ∧ (L.filter p).head? = some r := by
  rcases h with ⟨h1, h2⟩ | ⟨j, x, h1, h2, h3, h4, h5⟩
  · refine .inl ⟨h1, ?_⟩
    rw [List.head?_eq_none_iff, List.filter_eq_nil_iff]
    intro r hr
    obtain ⟨t, ht, rfl⟩ := List.getElem_of_mem ((hl.mem r).2 hr)
    rw [h2 t _ ht (List.getElem?_eq_getElem ht)]; simp
  · refine .inr ⟨j, x, h1, h3, ?_⟩
    have hx : x ∈ L.filter p := List.mem_filter.2 ⟨(hl.mem x).1 (List.mem_of_getElem? h3), h4⟩
    have hs : Srt (L.filter p) := hl.srt.sublist List.filter_sublist
    cases hf : L.filter p with
    | nil => rw [hf] at hx; cases hx
    | cons y Y =>
      rw [hf] at hx hs
      rcases List.mem_cons.1 hx with e | e
      · rw [e]; rfl
      · have hy : y ∈ L.filter p := by rw [hf]; exact List.mem_cons_self
        obtain ⟨hy1, hy2⟩ := List.mem_filter.1 hy
        obtain ⟨t, ht, he⟩ := List.getElem_of_mem ((hl.mem y).2 hy1)
        exact absurd (hs.tail.1 x e) (h5 t y ht (by rw [List.getElem?_eq_getElem ht, he]) hy2)
end
/-! ## the cursor -/
/-- what a cursor tells next -/
def nxt (L : List (List Nat)) (at_ : List Nat) (wi : Bool) (be : List Nat) : Option (List Nat) := (aft L at_ wi).filter (fun r => decide (klt (keyOf r) be))
/-- the two cursors' states -/
def CurOk (fr at_ la : List Nat) (wi told : Bool) : Prop := (told = false → at_ = fr ∧ wi = true) ∧ (told = true → at_ = la ∧ wi = false ∧ ¬ klt la fr)
section
variable {L : List (List Nat)} {fr at_ la be k r : List Nat} {wi told : Bool}
/-- a test that fails for all behind one for which it fails -/
theorem head_filter {q s : List Nat → Bool} (hs : Srt L) (hd : ∀ a b, klt (keyOf a) (keyOf b) → s a = false → s b = false) : (L.filter (fun r => q r && s r)).head? = ((L.filter q).head?).filter s := by
  have e : L.filter (fun r => q r && s r) = (L.filter q).filter s := by rw [List.filter_filter]; congr 1; funext r; exact Bool.and_comm _ _
  rw [e]
  have hs' : Srt (L.filter q) := hs.sublist List.filter_sublist
  cases hf : L.filter q with
  | nil => rfl
  | cons y Y =>
    rw [hf] at hs'
    cases hy : s y with
    | true => rw [List.filter_cons_of_pos hy]; simp [Option.filter, hy]
    | false =>
      rw [List.filter_cons_of_neg (by rw [hy]; simp), List.filter_eq_nil_iff.2 (fun z hz => by rw [hd y z (hs'.tail.1 z hz) hy]; simp)]
      simp [Option.filter, hy]
theorem cur_next (hs : Srt L) (h : CurOk fr at_ la wi told) : (L.filter (cand fr be la told)).head? = nxt L at_ wi be := by
  unfold nxt aft
  rw [← head_filter hs (fun a b hab ha => by
    have ha' : ¬ klt (keyOf a) be := of_decide_eq_false ha
    exact decide_eq_false (fun hb => ha' (klt_trans hab hb)))]
  congr 2
  funext r
  unfold cand
  cases told with
  | false =>
    obtain ⟨rfl, rfl⟩ := h.1 rfl
    have : (!decide (klt (keyOf r) at_)) = (decide (klt at_ (keyOf r)) || (true && decide (keyOf r = at_))) := by
      by_cases h1 : klt (keyOf r) at_
      · have h2 := klt_asym h1
        have h3 : keyOf r ≠ at_ := klt_ne.2 (.inl h1)
        simp [h1, h2, h3]
      · by_cases h2 : klt at_ (keyOf r)
        · simp [h1, h2]
        · simp [klt_eq h1 h2, klt_irr]
    rw [this]; simp
  | true =>
    obtain ⟨rfl, rfl, h3⟩ := h.2 rfl
    by_cases h1 : klt at_ (keyOf r)
    · have h2 : ¬ klt (keyOf r) fr := fun e => h3 (klt_trans h1 e)
      simp [h1, h2]
    · simp [h1]
theorem nxt_some (h : nxt L at_ wi be = some r) : aft L at_ wi = some r ∧ klt (keyOf r) be := by
  unfold nxt at h
  cases ha : aft L at_ wi with
  | none => rw [ha] at h; cases h
  | some x =>
    rw [ha] at h
    simp only [Option.filter] at h
    by_cases hx : klt (keyOf x) be
    · rw [if_pos (decide_eq_true hx)] at h; injection h with h; subst h; exact ⟨rfl, hx⟩
    · rw [if_neg (by simpa using hx)] at h; cases h
theorem nxt_of (h : aft L at_ wi = some r) (hk : klt (keyOf r) be) : nxt L at_ wi be = some r := by unfold nxt; rw [h]; simp [Option.filter, hk]
theorem nxt_past (h : aft L at_ wi = some r) (hk : ¬ klt (keyOf r) be) : nxt L at_ wi be = none := by unfold nxt; rw [h]; simp [Option.filter, hk]
theorem nxt_none (h : aft L at_ wi = none) : nxt L at_ wi be = none := by unfold nxt; rw [h]; rfl
theorem aft_ge {wi : Bool} (h : aft L at_ wi = some r) : ¬ klt (keyOf r) at_ := by
  unfold aft at h
  have := (List.mem_filter.1 (List.mem_of_mem_head? h)).2
  simp only [Bool.or_eq_true, Bool.and_eq_true, decide_eq_true_eq] at this
  rcases this with h | ⟨_, h⟩
  · exact klt_asym h
  · rw [h]; exact klt_irr _
theorem cur_start : CurOk fr fr la true false := ⟨fun _ => ⟨rfl, rfl⟩, fun h => by cases h⟩
theorem cur_told (h : CurOk fr at_ la wi told) (hr : aft L at_ wi = some r) : CurOk fr (keyOf r) (keyOf r) false true := by
  refine ⟨fun h => by (cases h), fun _ => ⟨rfl, rfl, fun hc => ?_⟩⟩
  have h1 := aft_ge hr
  cases told with
  | false => rw [(h.1 rfl).1] at h1; exact h1 hc
  | true =>
    obtain ⟨e, _, h3⟩ := h.2 rfl
    rw [e] at h1
    exact h3 (klt_of_le h1 hc)
end
/-! ## all entries, one behind the other -/
theorem klt_zero : ∀ (n : Nat) (k : List Nat), k.length = n → ¬ klt k (List.replicate n 0)
  | 0, [], _ => klt_irr _
  | n + 1, x :: k, h => by
    unfold klt
    rw [List.replicate_succ, lexc_cons, if_neg (by omega)]
    by_cases hx : 0 < x
    · rw [if_pos hx]; omega
    · rw [if_neg hx]; exact klt_zero n k (by simpa using h)
section
variable {L : List (List Nat)} {k r : List Nat} {i : Nat}
theorem aft_first (hr : Rows 80 L) : aft L (List.replicate 40 0) true = L[0]? := by
  have h0 : ∀ r ∈ L, ¬ klt (keyOf r) (List.replicate 40 0) := fun r h => klt_zero 40 (keyOf r) (by unfold keyOf; rw [List.length_take, (hr r h).1]; rfl)
  generalize List.replicate 40 0 = zz at *
  have : L.filter (fun r => decide (klt zz (keyOf r)) || (true && decide (keyOf r = zz))) = L := List.filter_eq_self.2 (fun r h => by
    have h1 := h0 r h
    by_cases h2 : klt zz (keyOf r)
    · simp [h2]
    · simp [klt_eq h1 h2])
  unfold aft
  rw [this, List.head?_eq_getElem?]
theorem srt_get (hs : Srt L) {i j : Nat} {a b : List Nat} (hi : L[i]? = some a) (hj : L[j]? = some b) (h : i < j) : klt (keyOf a) (keyOf b) := by
  obtain ⟨h1, rfl⟩ := List.getElem?_eq_some_iff.1 hi
  obtain ⟨h2, rfl⟩ := List.getElem?_eq_some_iff.1 hj
  exact List.pairwise_iff_getElem.1 hs i j h1 h2 h
theorem aft_step (hs : Srt L) (hi : L[i]? = some r) : aft L (keyOf r) false = L[i + 1]? := by
  obtain ⟨h1, rfl⟩ := List.getElem?_eq_some_iff.1 hi
  have e : L = L.take (i + 1) ++ L.drop (i + 1) := (List.take_append_drop _ _).symm
  have ha : (L.take (i + 1)).filter (fun r => decide (klt (keyOf L[i]) (keyOf r)) || (false && decide (keyOf r = keyOf L[i]))) = [] := List.filter_eq_nil_iff.2 (fun r hr => by
    obtain ⟨t, ht, rfl⟩ := List.getElem_of_mem hr
    have ht' : t < i + 1 := by rw [List.length_take] at ht; omega
    rw [List.getElem_take]
    have : ¬ klt (keyOf L[i]) (keyOf (L[t]'(by omega))) := by
      rcases Nat.lt_or_ge t i with h | h
      · exact klt_asym (List.pairwise_iff_getElem.1 hs t i (by omega) h1 h)
      · obtain rfl : t = i := by omega
        exact klt_irr _
    simp [this])
  have hb : (L.drop (i + 1)).filter (fun r => decide (klt (keyOf L[i]) (keyOf r)) || (false && decide (keyOf r = keyOf L[i]))) = L.drop (i + 1) := List.filter_eq_self.2 (fun r hr => by
    obtain ⟨t, ht, rfl⟩ := List.getElem_of_mem hr
    rw [List.getElem_drop]
    have ht' : i + 1 + t < L.length := by rw [List.length_drop] at ht; omega
    have : klt (keyOf L[i]) (keyOf (L[i + 1 + t]'ht')) := List.pairwise_iff_getElem.1 hs i (i + 1 + t) h1 ht' (by omega)
    simp [this])
  unfold aft
  conv => lhs; arg 1; arg 2; rw [e]
  rw [List.filter_append, ha, hb, List.nil_append, List.head?_drop]
/-- what is between two keys -/
def seg (L : List (List Nat)) (a b : List Nat) : List (List Nat) := L.filter (fun r => (!decide (klt (keyOf r) a)) && decide (klt (keyOf r) b))
theorem srt_seg (hs : Srt L) (a b : List Nat) : Srt (seg L a b) := hs.sublist List.filter_sublist
theorem mem_seg {a b : List Nat} : r ∈ seg L a b ↔ r ∈ L ∧ ¬ klt (keyOf r) a ∧ klt (keyOf r) b := by simp [seg]
theorem seg_len (a b : List Nat) : (seg L a b).length ≤ L.length := List.length_filter_le ..
theorem seg_two (hs : Srt L) {a b c : List Nat} (hab : ¬ klt b a) (hbc : ¬ klt c b) : seg L a b ++ seg L b c = seg L a c := by
  refine srt_ext (List.pairwise_append.2 ⟨srt_seg hs _ _, srt_seg hs _ _, fun x hx y hy => ?_⟩) (srt_seg hs _ _) (fun r => ?_)
  · exact klt_of_lt_le (mem_seg.1 hx).2.2 (mem_seg.1 hy).2.1
  · rw [List.mem_append, mem_seg, mem_seg, mem_seg]
    constructor
    · rintro (⟨h1, h2, h3⟩ | ⟨h1, h2, h3⟩)
      · exact ⟨h1, h2, klt_of_lt_le h3 hbc⟩
      · exact ⟨h1, kle_trans hab h2, h3⟩
    · rintro ⟨h1, h2, h3⟩
      by_cases h : klt (keyOf r) b
      · exact .inl ⟨h1, h2, h⟩
      · exact .inr ⟨h1, h, h3⟩
/-- a walk's first, and the next ones -/
theorem seg_first (hs : Srt L) {a b : List Nat} : nxt L a true b = (seg L a b)[0]? := by
  rw [← cur_next (fr := a) (la := a) hs cur_start, ← List.head?_eq_getElem?]
  unfold seg cand
  simp
theorem seg_step (hs : Srt L) {a b : List Nat} (hi : (seg L a b)[i]? = some r) : nxt L (keyOf r) false b = (seg L a b)[i + 1]? := by
  have hr := mem_seg.1 (List.mem_of_getElem? hi)
  rw [← aft_step (srt_seg hs a b) hi, ← cur_next (fr := a) (la := keyOf r) (told := true) hs ⟨fun h => by (cases h), fun _ => ⟨rfl, rfl, hr.2.1⟩⟩]
  unfold aft seg
  rw [List.filter_filter]
  congr 2
  funext x
  unfold cand
  by_cases h1 : klt (keyOf r) (keyOf x)
  · simp [h1]
  · simp [h1]
end
/-- the document's: rows put in order, one by one -/
def ordR (R : List (List Nat)) : List (List Nat) := R.foldl ins []
theorem ordR_take {R : List (List Nat)} {i : Nat} {r : List Nat} (h : R[i]? = some r) : ordR (R.take (i + 1)) = ins (ordR (R.take i)) r := by
  obtain ⟨h1, rfl⟩ := List.getElem?_eq_some_iff.1 h
  unfold ordR
  rw [List.take_succ_eq_append_getElem h1, List.foldl_append]; rfl
theorem ord_srt (R : List (List Nat)) : Srt (ordR R) := by
  suffices ∀ L, Srt L → Srt (R.foldl ins L) from this [] List.Pairwise.nil
  induction R with
  | nil => exact fun L h => h
  | cons r R ih => exact fun L h => ih _ (srt_ins h r)
theorem ord_mem {R : List (List Nat)} (h : (R.map keyOf).Nodup) : ∀ i, i ≤ R.length → ∀ r, r ∈ ordR (R.take i) ↔ r ∈ R.take i := by
  intro i
  induction i with
  | zero => intro _ r; simp [ordR]
  | succ i ih =>
    intro hi r
    have h1 : i < R.length := hi
    have hg := List.getElem?_eq_getElem h1
    rw [ordR_take hg, mem_ins_iff, ih (by omega), List.take_succ_eq_append_getElem h1, List.mem_append, List.mem_singleton]
    constructor
    · rintro (h | h)
      · exact .inl h.1
      · exact .inr h
    · rintro (h' | h')
      · refine .inl ⟨h', fun e => ?_⟩
        obtain ⟨t, ht, rfl⟩ := List.getElem_of_mem h'
        have ht' : t < i := by rw [List.length_take] at ht; omega
        rw [List.getElem_take] at e
        have := List.pairwise_iff_getElem.1 (List.pairwise_map.1 h) t i (by omega) h1 ht'
        exact this e
      · exact .inr h'
theorem Like.ord {R L : List (List Nat)} (h : Like R L) : ordR R = L :=
  srt_ext (ord_srt R) h.srt (fun r => by
    have := ord_mem h.nd R.length (Nat.le_refl _) r
    rw [List.take_length] at this
    rw [this, h.mem])
end Go.Proofs.Ytkcpmkeckcnobaa
