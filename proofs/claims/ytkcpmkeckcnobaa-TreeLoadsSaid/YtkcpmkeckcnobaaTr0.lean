/- Trees in plain words: entries in order; what is set, deleted, found. No program is named. -/
import Derived.Test.YtkcpmkeckcnobaaNdA
namespace Go.Proofs.Ytkcpmkeckcnobaa

/-! ## the order -/
theorem lexc_three : ∀ (a b : List Nat), lexc a b = -1 ∨ lexc a b = 0 ∨ lexc a b = 1
  | [], [] => .inr (.inl rfl)
  | [], _ :: _ => .inl rfl
  | _ :: _, [] => .inr (.inr rfl)
  | a :: l, b :: k => by
    rw [lexc_cons]
    split
    · exact .inl rfl
    · split
      · exact .inr (.inr rfl)
      · exact lexc_three l k
theorem lexc_neg : ∀ (a b : List Nat), lexc a b = - lexc b a
  | [], [] => rfl
  | [], _ :: _ => rfl
  | _ :: _, [] => rfl
  | a :: l, b :: k => by
    rw [lexc_cons, lexc_cons, lexc_neg l k]
    by_cases h : a < b
    · rw [if_pos h, if_neg (by omega), if_pos h]
    · by_cases h' : b < a
      · rw [if_neg h, if_pos h', if_pos h']; rfl
      · rw [if_neg h, if_neg h', if_neg h', if_neg h]
/-- a stands ahead of b -/
def klt (a b : List Nat) : Prop := lexc a b < 0
instance (a b : List Nat) : Decidable (klt a b) := by unfold klt; infer_instance
theorem klt_irr (a : List Nat) : ¬ klt a a := by unfold klt; rw [lexc_self]; omega
theorem klt_asym {a b : List Nat} (h : klt a b) : ¬ klt b a := by unfold klt at *; rw [lexc_neg] at h; omega
theorem klt_eq {a b : List Nat} (h : ¬ klt a b) (h' : ¬ klt b a) : a = b := by
  unfold klt at *
  have := lexc_neg a b
  exact lexc_zero (by omega)
theorem klt_trans : ∀ {a b c : List Nat}, klt a b → klt b c → klt a c
  | [], b, [], h, h' => by cases b <;> simp [klt, lexc] at h h'
  | [], _, _ :: _, _, _ => by show lexc [] (_ :: _) < 0; simp [lexc]
  | _ :: _, [], _, h, _ => by simp [klt, lexc] at h
  | _ :: _, _ :: _, [], _, h' => by simp [klt, lexc] at h'
  | x :: a, y :: b, z :: c, h, h' => by
    unfold klt at *
    rw [lexc_cons] at h h' ⊢
    by_cases h1 : x < y
    · by_cases h2 : y < z
      · rw [if_pos (by omega)]; omega
      · rw [if_neg h2] at h'
        by_cases h3 : z < y
        · rw [if_pos h3] at h'; omega
        · rw [if_pos (by omega)]; omega
    · rw [if_neg h1] at h
      by_cases h2 : y < x
      · rw [if_pos h2] at h; omega
      · rw [if_neg h2] at h
        by_cases h3 : y < z
        · rw [if_pos (by omega)]; omega
        · rw [if_neg h3] at h'
          by_cases h4 : z < y
          · rw [if_pos h4] at h'; omega
          · rw [if_neg h4] at h'
            rw [if_neg (by omega), if_neg (by omega)]
            exact klt_trans (a := a) (b := b) (c := c) h h'
/-- not behind, then ahead -/
theorem klt_of_le {a b c : List Nat} (h : ¬ klt b a) (h' : klt b c) : klt a c := by
  by_cases hab : klt a b
  · exact klt_trans hab h'
  · rw [klt_eq hab h]; exact h'
theorem klt_of_lt_le {a b c : List Nat} (h : klt a b) (h' : ¬ klt c b) : klt a c := by
  by_cases hbc : klt b c
  · exact klt_trans h hbc
  · rw [← klt_eq hbc h']; exact h
theorem kle_trans {a b c : List Nat} (h : ¬ klt b a) (h' : ¬ klt c b) : ¬ klt c a := fun e => h' (klt_of_lt_le e h)

/-- entries rise -/
def Srt (L : List (List Nat)) : Prop := L.Pairwise (fun a b => klt (keyOf a) (keyOf b))
def lows (L : List (List Nat)) (k : List Nat) : List (List Nat) := L.filter (fun r => decide (klt (keyOf r) k))
def highs (L : List (List Nat)) (k : List Nat) : List (List Nat) := L.filter (fun r => decide (klt k (keyOf r)))
/-- an entry is set, deleted -/
def ins (L : List (List Nat)) (e : List Nat) : List (List Nat) := lows L (keyOf e) ++ e :: highs L (keyOf e)
def dele (L : List (List Nat)) (k : List Nat) : List (List Nat) := lows L k ++ highs L k
def has (L : List (List Nat)) (k : List Nat) : Bool := L.any (fun r => decide (keyOf r = k))
/-- the first behind a key (with it, or not) -/
def aft (L : List (List Nat)) (k : List Nat) (w : Bool) : Option (List Nat) := (L.filter (fun r => decide (klt k (keyOf r)) || (w && decide (keyOf r = k)))).head?
theorem lows_append (A B : List (List Nat)) (k : List Nat) : lows (A ++ B) k = lows A k ++ lows B k := List.filter_append ..
theorem highs_append (A B : List (List Nat)) (k : List Nat) : highs (A ++ B) k = highs A k ++ highs B k := List.filter_append ..
/-- all ahead of k; all behind k -/
def Ahead (L : List (List Nat)) (k : List Nat) : Prop := ∀ r ∈ L, klt (keyOf r) k
def Behind (L : List (List Nat)) (k : List Nat) : Prop := ∀ r ∈ L, klt k (keyOf r)
theorem lows_ahead {L : List (List Nat)} {k : List Nat} (h : Ahead L k) : lows L k = L := List.filter_eq_self.2 (fun r hr => decide_eq_true (h r hr))
theorem lows_behind {L : List (List Nat)} {k : List Nat} (h : Behind L k) : lows L k = [] := List.filter_eq_nil_iff.2 (fun r hr e => klt_asym (h r hr) (of_decide_eq_true e))
theorem highs_ahead {L : List (List Nat)} {k : List Nat} (h : Ahead L k) : highs L k = [] := List.filter_eq_nil_iff.2 (fun r hr e => klt_asym (h r hr) (of_decide_eq_true e))
theorem highs_behind {L : List (List Nat)} {k : List Nat} (h : Behind L k) : highs L k = L := List.filter_eq_self.2 (fun r hr => decide_eq_true (h r hr))
theorem has_ahead {L : List (List Nat)} {k : List Nat} (h : Ahead L k) : has L k = false := List.any_eq_false.2 (fun r hr e => by have := h r hr; rw [of_decide_eq_true e] at this; exact klt_irr _ this)
theorem has_behind {L : List (List Nat)} {k : List Nat} (h : Behind L k) : has L k = false := List.any_eq_false.2 (fun r hr e => by have := h r hr; rw [of_decide_eq_true e] at this; exact klt_irr _ this)
theorem has_append (A B : List (List Nat)) (k : List Nat) : has (A ++ B) k = (has A k || has B k) := List.any_append
/-- in the midst of what stands ahead and behind -/
theorem ins_mid {A M B : List (List Nat)} {e : List Nat} (hA : Ahead A (keyOf e)) (hB : Behind B (keyOf e)) : ins (A ++ (M ++ B)) e = A ++ (ins M e ++ B) := by
  unfold ins
  rw [lows_append, lows_append, highs_append, highs_append, lows_ahead hA, lows_behind hB, highs_ahead hA, highs_behind hB]
  simp
theorem dele_mid {A M B : List (List Nat)} {k : List Nat} (hA : Ahead A k) (hB : Behind B k) : dele (A ++ (M ++ B)) k = A ++ (dele M k ++ B) := by
  unfold dele
  rw [lows_append, lows_append, highs_append, highs_append, lows_ahead hA, lows_behind hB, highs_ahead hA, highs_behind hB]
  simp
theorem has_mid {A M B : List (List Nat)} {k : List Nat} (hA : Ahead A k) (hB : Behind B k) : has (A ++ (M ++ B)) k = has M k := by
  rw [has_append, has_append, has_ahead hA, has_behind hB]; simp
theorem aft_append (A B : List (List Nat)) (k : List Nat) (w : Bool) : aft (A ++ B) k w = (aft A k w).or (aft B k w) := by
  unfold aft
  rw [List.filter_append]
  cases A.filter (fun r => decide (klt k (keyOf r)) || (w && decide (keyOf r = k))) <;> simp
theorem aft_ahead {L : List (List Nat)} {k : List Nat} (h : Ahead L k) (w : Bool) : aft L k w = none := by
  unfold aft
  rw [List.filter_eq_nil_iff.2]
  · rfl
  · intro r hr e
    simp only [Bool.or_eq_true, Bool.and_eq_true, decide_eq_true_eq] at e
    rcases e with e | ⟨_, e⟩
    · exact klt_asym (h r hr) e
    · have := h r hr; rw [e] at this; exact klt_irr _ this
theorem aft_cons {r : List Nat} {L : List (List Nat)} {k : List Nat} {w : Bool} (h : klt k (keyOf r) ∨ (w = true ∧ keyOf r = k)) : aft (r :: L) k w = some r := by
  unfold aft
  rw [List.filter_cons_of_pos]
  · rfl
  · simp only [Bool.or_eq_true, Bool.and_eq_true, decide_eq_true_eq]; exact h
theorem aft_skip {r : List Nat} {L : List (List Nat)} {k : List Nat} (h : keyOf r = k) : aft (r :: L) k false = aft L k false := by
  unfold aft
  rw [List.filter_cons_of_neg]
  simp only [Bool.false_and, Bool.or_false, decide_eq_true_eq]
  rw [h]; exact klt_irr k
/-! ## a sorted list, cut where a key stands -/
theorem Srt.parts {A B : List (List Nat)} (h : Srt (A ++ B)) : Srt A ∧ Srt B ∧ ∀ a ∈ A, ∀ b ∈ B, klt (keyOf a) (keyOf b) := List.pairwise_append.1 h
theorem Srt.tail {r : List Nat} {L : List (List Nat)} (h : Srt (r :: L)) : Behind L (keyOf r) ∧ Srt L := List.pairwise_cons.1 h
/-- the place of k: what stands ahead, and what does not -/
structure Cut (L : List (List Nat)) (k : List Nat) (X Y : List (List Nat)) : Prop where
  eq : L = X ++ Y
  lo : Ahead X k
  hi : ∀ r ∈ Y, ¬ klt (keyOf r) k
theorem Cut.there {L X Y : List (List Nat)} {k r : List Nat} (h : Cut L k X (r :: Y)) (hs : Srt L) (hr : keyOf r = k) : lows L k = X ∧ highs L k = Y ∧ has L k = true ∧ aft L k true = some r ∧ aft L k false = Y.head? ∧ Behind Y k := by
  have hs' := (h.eq ▸ hs : Srt (X ++ (r :: Y))).parts
  have hY : Behind Y k := by rw [← hr]; exact hs'.2.1.tail.1
  have hl : lows [r] k = [] := by simp [lows, hr, klt_irr]
  have hh : highs [r] k = [] := by simp [highs, hr, klt_irr]
  have e : L = X ++ ([r] ++ Y) := h.eq
  refine ⟨?_, ?_, ?_, ?_, ?_, hY⟩
  · rw [e, lows_append, lows_append, lows_ahead h.lo, hl, lows_behind hY]; simp
  · rw [e, highs_append, highs_append, highs_ahead h.lo, hh, highs_behind hY]; simp
  · rw [e, has_append, has_append]; simp [has, hr]
  · rw [h.eq, aft_append, aft_ahead h.lo, aft_cons (.inr ⟨rfl, hr⟩)]; rfl
  · rw [h.eq, aft_append, aft_ahead h.lo, aft_skip hr]
    cases Y with
    | nil => rfl
    | cons y Y => rw [aft_cons (.inl (hY y List.mem_cons_self))]; rfl
theorem Cut.not_there {L X Y : List (List Nat)} {k : List Nat} (h : Cut L k X Y) (hs : Srt L) (hn : ∀ r, Y.head? = some r → keyOf r ≠ k) : lows L k = X ∧ highs L k = Y ∧ has L k = false ∧ (∀ w, aft L k w = Y.head?) ∧ Behind Y k := by
  have hs' := (h.eq ▸ hs : Srt (X ++ Y)).parts
  have hY : Behind Y k := by
    cases Y with
    | nil => intro r hr; cases hr
    | cons y Y =>
      have hy : klt k (keyOf y) := by
        refine Classical.byContradiction fun hc => hn y rfl (klt_eq (h.hi y List.mem_cons_self) hc)
      intro r hr
      rcases List.mem_cons.1 hr with rfl | hr
      · exact hy
      · exact klt_trans hy (hs'.2.1.tail.1 r hr)
  refine ⟨?_, ?_, ?_, fun w => ?_, hY⟩
  · rw [h.eq, lows_append, lows_ahead h.lo, lows_behind hY]; simp
  · rw [h.eq, highs_append, highs_ahead h.lo, highs_behind hY]; simp
  · rw [h.eq, has_append, has_ahead h.lo, has_behind hY]; rfl
  · rw [h.eq, aft_append, aft_ahead h.lo]
    cases Y with
    | nil => rfl
    | cons y Y => rw [aft_cons (.inl (hY y List.mem_cons_self))]; rfl
/-! ## what is set and deleted is in order still -/
theorem srt_lows {L : List (List Nat)} (h : Srt L) (k : List Nat) : Srt (lows L k) := h.sublist List.filter_sublist
theorem srt_highs {L : List (List Nat)} (h : Srt L) (k : List Nat) : Srt (highs L k) := h.sublist List.filter_sublist
theorem mem_lows {L : List (List Nat)} {k r : List Nat} : r ∈ lows L k ↔ r ∈ L ∧ klt (keyOf r) k := by simp [lows]
theorem mem_highs {L : List (List Nat)} {k r : List Nat} : r ∈ highs L k ↔ r ∈ L ∧ klt k (keyOf r) := by simp [highs]
theorem srt_ins {L : List (List Nat)} (h : Srt L) (e : List Nat) : Srt (ins L e) := by
  refine List.pairwise_append.2 ⟨srt_lows h _, List.pairwise_cons.2 ⟨fun r hr => (mem_highs.1 hr).2, srt_highs h _⟩, fun a ha b hb => ?_⟩
  have h1 := (mem_lows.1 ha).2
  rcases List.mem_cons.1 hb with rfl | hb
  · exact h1
  · exact klt_trans h1 (mem_highs.1 hb).2
theorem srt_dele {L : List (List Nat)} (h : Srt L) (k : List Nat) : Srt (dele L k) :=
  List.pairwise_append.2 ⟨srt_lows h _, srt_highs h _, fun a ha b hb => klt_trans (mem_lows.1 ha).2 (mem_highs.1 hb).2⟩
theorem mem_ins {L : List (List Nat)} {e r : List Nat} (h : r ∈ ins L e) : r ∈ L ∨ r = e := by
  rcases List.mem_append.1 h with h | h
  · exact .inl (mem_lows.1 h).1
  · rcases List.mem_cons.1 h with h | h
    · exact .inr h
    · exact .inl (mem_highs.1 h).1
theorem mem_dele {L : List (List Nat)} {k r : List Nat} (h : r ∈ dele L k) : r ∈ L := by
  rcases List.mem_append.1 h with h | h
  · exact (mem_lows.1 h).1
  · exact (mem_highs.1 h).1
theorem rows_ins {L : List (List Nat)} {e : List Nat} (h : Rows 80 L) (he : e.length = 80 ∧ ∀ z ∈ e, z < 256) : Rows 80 (ins L e) := fun r hr => by
  rcases mem_ins hr with h' | rfl
  · exact h r h'
  · exact he
theorem rows_dele {L : List (List Nat)} {k : List Nat} (h : Rows 80 L) : Rows 80 (dele L k) := fun r hr => h r (mem_dele hr)
theorem len_split {L : List (List Nat)} {k : List Nat} (h : Srt L) : (lows L k).length + (highs L k).length + (if has L k then 1 else 0) = L.length := by
  induction L with
  | nil => rfl
  | cons r L ih =>
    have ht := h.tail
    have ih := ih ht.2
    by_cases h1 : klt (keyOf r) k
    · have h2 : ¬ klt k (keyOf r) := klt_asym h1
      have h3 : ¬ keyOf r = k := fun e => by rw [e] at h1; exact klt_irr _ h1
      simp only [lows, highs, has, List.filter_cons, h1, h2, h3, decide_true, decide_false, if_true, List.any_cons, Bool.false_or, List.length_cons] at *
      simp at *
      omega
    · by_cases h2 : klt k (keyOf r)
      · have h3 : ¬ keyOf r = k := fun e => by rw [e] at h2; exact klt_irr _ h2
        simp only [lows, highs, has, List.filter_cons, h1, h2, h3, decide_true, decide_false, if_true, List.any_cons, Bool.false_or, List.length_cons] at *
        simp at *
        omega
      · have h3 : keyOf r = k := klt_eq h1 h2
        have hb : Behind L k := by rw [← h3]; exact ht.1
        have e1 : lows L k = [] := lows_behind hb
        have e2 : highs L k = L := highs_behind hb
        have e3 : has (r :: L) k = true := by simp [has, h3]
        have e4 : lows (r :: L) k = [] := by show lows ([r] ++ L) k = []; rw [lows_append, e1]; simp [lows, h1]
        have e5 : highs (r :: L) k = L := by show highs ([r] ++ L) k = L; rw [highs_append, e2]; simp [highs, h2]
        rw [e3, e4, e5]; simp
theorem len_ins {L : List (List Nat)} {e : List Nat} (h : Srt L) : (ins L e).length = L.length + (if has L (keyOf e) then 0 else 1) := by
  have := len_split (k := keyOf e) h
  unfold ins
  rw [List.length_append, List.length_cons]
  split <;> simp_all <;> omega
theorem len_dele {L : List (List Nat)} {k : List Nat} (h : Srt L) : (dele L k).length = L.length - (if has L k then 1 else 0) := by
  have := len_split (k := k) h
  unfold dele
  rw [List.length_append]
  split <;> simp_all <;> omega
end Go.Proofs.Ytkcpmkeckcnobaa
