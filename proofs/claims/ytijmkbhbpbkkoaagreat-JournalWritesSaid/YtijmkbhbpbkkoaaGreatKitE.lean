/- Own lemmas of several kinds, put together: Kit25, Kit26, Kit28, Kit29, Kit30. -/
import Derived.Test.YtijmkbhbpbkkoaaGreatKitB
import Derived.Test.YtijmkbhbpbkkoaaGreatKitD
import Derived.Lib.AppendZerosOnto
import Derived.Lib.Overlaps
import Derived.Laws.Cover3
/- A region that draws its order, by an invariant: whatever the order, each operation's value has what is said of it. Kept apart by the block that each value owns. No program is named. -/
namespace Go.Proofs.YtijmkbhbpbkkoaaGreat
open Go.RowKit

/-- the block that a value leads to -/
def _root_.Go.Value.vBlk : Value → Option Nat
  | .slice (some a) _ _ => some a.block
  | .pointer (some a) => some a.block
  | _ => none
section
variable {P : Program} {ops : Array Oper} {Q : Exit → Act → World → Prop} {md : Region.Mode}
def dstOf (ops : Array Oper) (k : Nat) : Option Tmp := (ops[k]?).bind (·.dst)
/-- what an act holds for operation k -/
def opVal (ops : Array Oper) (a : Act) (k : Nat) : Value := match dstOf ops k with | some d => a.tmps.getD d undef | none => undef
/-- what is said: R k of operation k's value; k eats j: it may change what j's value owns -/
structure Said where
  R : Nat → Value → World → Prop
  eats : Nat → Option Nat
  owner : Nat → Bool
/-- the region's form: every operation has a slot of its own and no guard, waits for what stands ahead of it, and for each that it reads, which no other eats -/
def formB (md : Region.Mode) (ops : Array Oper) (m : Nat) (eats : Nat → Option Nat) (owner : Nat → Bool) : Bool :=
  decide (m ≤ ops.size) && ((List.range ops.size).all fun i => decide (i < m) || (List.range m).all (fun k => waits md ops k ops.size i)) && (List.range m).all fun k => match ops[k]? with
    | none => false
    | some o => o.guard.isNone && o.dst.isSome && o.after.all (fun e => decide (e.on < k)) &&
      (List.range m).all (fun j => j == k || dstOf ops j != o.dst) &&
      (List.range m).all (fun j => match dstOf ops j with
        | none => true
        | some t => !((o.looksAt ops).contains t) || (o.after.any (fun e => Region.binds md e && e.on == j) && (List.range m).all (fun k' => k' == k || eats k' != some j))) &&
      (match eats k with
        | none => true
        | some j => owner j && decide (j < m) && o.after.any (fun e => Region.binds md e && e.on == j) && (List.range m).all (fun k' => k' == k || eats k' != some j))
structure Inv (md : Region.Mode) (ops : Array Oper) (m : Nat) (D : Said) (a0 : Act) (w0 : World) (L : Array Bool) (a : Act) (w : World) : Prop where
  defers : a.defers = a0.defers
  size : a.tmps.size = a0.tmps.size
  rest : ∀ t, (∀ k, L.getD k false = true → dstOf ops k ≠ some t) → a.tmps[t]? = a0.tmps[t]?
  live : ∀ k, L.getD k false = true → (∀ k', L.getD k' false = true → D.eats k' ≠ some k) → D.R k (opVal ops a k) w
  apart : ∀ k k', k ≠ k' → L.getD k false = true → L.getD k' false = true → (∀ i, L.getD i false = true → D.eats i ≠ some k) → (∀ i, L.getD i false = true → D.eats i ≠ some k') → D.owner k = true → D.owner k' = true →
    ∀ g, (opVal ops a k).vBlk = some g → (opVal ops a k').vBlk ≠ some g
  fresh : ∀ k, L.getD k false = true → (∀ i, L.getD i false = true → D.eats i ≠ some k) → D.owner k = true → ∀ g, (opVal ops a k).vBlk = some g → w0.heap.size ≤ g ∧ g < w.heap.size
  mod : Mod Nn w0 w
  done : ∀ k, L.getD k false = true → k < m
  closed : Closed md ops L
/-- what operation o may lean on -/
structure Env (ops : Array Oper) (m : Nat) (D : Said) (a0 : Act) (w0 : World) (o : Oper) (a : Act) (w : World) : Prop where
  old : ∀ t, t ∈ o.looksAt ops → (∀ j, dstOf ops j ≠ some t) → a.eval (.tmp t) = a0.eval (.tmp t)
  got : ∀ j t, j < m → t ∈ o.looksAt ops → dstOf ops j = some t → D.R j (a.eval (.tmp t)) w
  mod : Mod Nn w0 w
  fresh : ∀ j t, j < m → t ∈ o.looksAt ops → dstOf ops j = some t → D.owner j = true → ∀ g, (a.eval (.tmp t)).vBlk = some g → w0.heap.size ≤ g ∧ g < w.heap.size
/-- the acts that the values make -/
def fillA (ops : Array Oper) (vs : Nat → Value) (a0 : Act) : List Nat → Act
  | [] => a0
  | k :: l => (fillA ops vs a0 l).put (dstOf ops k) (vs k)
theorem fillA_defers (vs : Nat → Value) (a0 : Act) : ∀ l, (fillA ops vs a0 l).defers = a0.defers
  | [] => rfl
  | k :: l => by
    have ih := fillA_defers vs a0 l
    show (Act.put (fillA ops vs a0 l) (dstOf ops k) (vs k)).defers = _
    unfold Act.put
    split <;> exact ih
theorem fillA_size (vs : Nat → Value) (a0 : Act) : ∀ l, (fillA ops vs a0 l).tmps.size = a0.tmps.size
  | [] => rfl
  | k :: l => by
    have ih := fillA_size vs a0 l
    show (Act.put (fillA ops vs a0 l) (dstOf ops k) (vs k)).tmps.size = _
    unfold Act.put
    split
    · simpa using ih
    · exact ih
theorem fillA_at (vs : Nat → Value) (a0 : Act) : ∀ (l : List Nat), (∀ i ∈ l, ∀ j ∈ l, i ≠ j → dstOf ops i ≠ none → dstOf ops i ≠ dstOf ops j) → l.Nodup → ∀ t, t < a0.tmps.size →
    (∀ k ∈ l, dstOf ops k = some t → (fillA ops vs a0 l).tmps[t]? = some (vs k)) ∧ ((∀ k ∈ l, dstOf ops k ≠ some t) → (fillA ops vs a0 l).tmps[t]? = a0.tmps[t]?)
  | [], _, _, t, _ => ⟨(fun k hk => by cases hk), (fun _ => rfl)⟩
  | k :: l, hd, hn, t, ht => by
    have ih := fillA_at vs a0 l (fun i hi j hj => hd i (List.mem_cons_of_mem _ hi) j (List.mem_cons_of_mem _ hj)) (List.nodup_cons.1 hn).2 t ht
    have hk : ∀ d, dstOf ops k = some d → (fillA ops vs a0 (k :: l)).tmps = (fillA ops vs a0 l).tmps.setIfInBounds d (vs k) := fun d h => by
      show (Act.put _ (dstOf ops k) (vs k)).tmps = _
      rw [h]; rfl
    have hk0 : dstOf ops k = none → (fillA ops vs a0 (k :: l)).tmps = (fillA ops vs a0 l).tmps := fun h => by
      show (Act.put _ (dstOf ops k) (vs k)).tmps = _
      rw [h]; rfl
    refine ⟨fun i hi h => ?_, fun h => ?_⟩
    · rcases List.mem_cons.1 hi with rfl | hi
      · rw [hk t h, Array.getElem?_setIfInBounds_self_of_lt (by rw [fillA_size]; exact ht)]
      · have hne : k ≠ i := fun e => (List.nodup_cons.1 hn).1 (e ▸ hi)
        cases hdk : dstOf ops k with
        | none => rw [hk0 hdk]; exact ih.1 i hi h
        | some d =>
          have : d ≠ t := fun e => hd k List.mem_cons_self i (List.mem_cons_of_mem _ hi) hne (by rw [hdk]; simp) (by rw [hdk, h, e])
          rw [hk d hdk, Array.getElem?_setIfInBounds_ne this]; exact ih.1 i hi h
    · have ih2 := ih.2 (fun i hi => h i (List.mem_cons_of_mem _ hi))
      cases hdk : dstOf ops k with
      | none => rw [hk0 hdk]; exact ih2
      | some d =>
        have : d ≠ t := fun e => h k List.mem_cons_self (by rw [hdk, e])
        rw [hk d hdk, Array.getElem?_setIfInBounds_ne this]; exact ih2

theorem put_tmps (a : Act) (o : Oper) {d : Tmp} (h : o.dst = some d) (v : Value) : (a.put o.dst v).tmps = a.tmps.setIfInBounds d v := by rw [h]; rfl
theorem opVal_put {a : Act} {o : Oper} {i k : Nat} {d : Tmp} (hi : dstOf ops i = some d) (ho : o.dst = some d) (v : Value) (hd : i ≠ k → dstOf ops k ≠ some d) (hb : d < a.tmps.size) :
    opVal ops (a.put o.dst v) k = if k = i then v else opVal ops a k := by
  unfold opVal
  rw [put_tmps a o ho]
  by_cases hk : k = i
  · subst hk
    rw [if_pos rfl, hi]
    simp [hb]
  · rw [if_neg hk]
    cases hk' : dstOf ops k with
    | none => rfl
    | some t =>
      have : d ≠ t := fun e => hd (fun e => hk e.symm) (by rw [hk', e])
      simp [Array.getD_eq_getD_getElem?, Array.getElem?_setIfInBounds_ne this]
theorem getD_false_set {L : Array Bool} {i k : Nat} (h : (L.setIfInBounds i true).getD k false = true) : k = i ∨ L.getD k false = true := by
  by_cases hk : i = k
  · exact .inl hk.symm
  · rw [getD_set_ne false hk] at h; exact .inr h
end

section
variable {P : Program} {ops : Array Oper} {Q : Exit → Act → World → Prop} {md : Region.Mode} {D : Said} {a0 : Act} {w0 : World} {m : Nat}
theorem form_at {eats : Nat → Option Nat} {owner : Nat → Bool} (hB : formB md ops m eats owner = true) {k : Nat} (hkm : k < m) {o : Oper} (hk : ops[k]? = some o) :
    o.guard = none ∧ (∃ d, o.dst = some d) ∧ (∀ e ∈ o.after, e.on < k) ∧ (∀ j, j < m → j ≠ k → dstOf ops j ≠ o.dst) ∧
    (∀ j t, j < m → dstOf ops j = some t → t ∈ o.looksAt ops → (∃ e ∈ o.after, Region.binds md e = true ∧ e.on = j) ∧ (∀ k', k' < m → k' ≠ k → eats k' ≠ some j)) ∧
    (∀ j, eats k = some j → owner j = true ∧ j < m ∧ (∃ e ∈ o.after, Region.binds md e = true ∧ e.on = j) ∧ (∀ k', k' < m → k' ≠ k → eats k' ≠ some j)) := by
  unfold formB at hB
  simp only [Bool.and_eq_true] at hB
  have h := List.all_eq_true.1 hB.2 k (List.mem_range.2 hkm)
  rw [hk] at h
  simp only [Bool.and_eq_true] at h
  obtain ⟨⟨⟨⟨⟨h1, h2⟩, h3⟩, h4⟩, h5⟩, h6⟩ := h
  refine ⟨Option.isNone_iff_eq_none.1 h1, Option.isSome_iff_exists.1 h2, fun e he => by simpa using (Array.all_eq_true'.1 h3) e he, fun j hj hne => ?_, fun j t hj hd ht => ?_, fun j hj => ?_⟩
  · have := List.all_eq_true.1 h4 j (List.mem_range.2 hj)
    simp only [Bool.or_eq_true, beq_iff_eq, bne_iff_ne] at this
    exact this.resolve_left hne
  · have := List.all_eq_true.1 h5 j (List.mem_range.2 hj)
    rw [hd] at this
    simp only [Bool.or_eq_true, Bool.not_eq_true', List.contains_eq_mem, decide_eq_false_iff_not, Bool.and_eq_true] at this
    have := this.resolve_left (fun h => h ht)
    obtain ⟨h7, h8⟩ := this
    simp only [Array.any_eq_true', Bool.and_eq_true, beq_iff_eq] at h7
    refine ⟨h7, fun k' hk' hne => ?_⟩
    have := List.all_eq_true.1 h8 k' (List.mem_range.2 hk')
    simp only [Bool.or_eq_true, beq_iff_eq, bne_iff_ne] at this
    exact this.resolve_left hne
  · rw [hj] at h6
    simp only [Bool.and_eq_true, decide_eq_true_eq] at h6
    obtain ⟨⟨⟨h7, h8⟩, h9⟩, h10⟩ := h6
    simp only [Array.any_eq_true', Bool.and_eq_true, beq_iff_eq] at h9
    refine ⟨h7, h8, h9, fun k' hk' hne => ?_⟩
    have := List.all_eq_true.1 h10 k' (List.mem_range.2 hk')
    simp only [Bool.or_eq_true, beq_iff_eq, bne_iff_ne] at this
    exact this.resolve_left hne

def undone (ops : Array Oper) (L : Array Bool) : Nat := (List.range ops.size).countP (fun k => !(L.getD k true))
theorem undone_set {L : Array Bool} {i : Nat} (hi : i < ops.size) (hL : L.getD i true = false) : undone ops (L.setIfInBounds i true) + 1 = undone ops L := by
  unfold undone
  have hiL : i < L.size := by
    rcases Nat.lt_or_ge i L.size with h | h
    · exact h
    · simp [Array.getElem?_eq_none h] at hL
  have key : ∀ n, i < n → (List.range n).countP (fun k => !((L.setIfInBounds i true).getD k true)) + 1 = (List.range n).countP (fun k => !(L.getD k true)) := by
    intro n
    have below : ∀ n, n ≤ i → (List.range n).countP (fun k => !((L.setIfInBounds i true).getD k true)) = (List.range n).countP (fun k => !(L.getD k true)) := fun n hn => by
      refine List.countP_congr fun k hk => ?_
      have : k < n := List.mem_range.1 hk
      rw [getD_set_ne true (by omega)]
    induction n with
    | zero => intro h; omega
    | succ n ih =>
      intro h
      rw [List.range_succ, List.countP_append, List.countP_append]
      by_cases hn : i < n
      · have := ih hn
        rw [List.countP_singleton, List.countP_singleton, getD_set_ne true (by omega)]
        omega
      · obtain rfl : i = n := by omega
        rw [below i (Nat.le_refl _), List.countP_singleton, List.countP_singleton, hL]
        simp [hiL]
  exact key _ hi
/-- the first m done -/
def doneL (n m : Nat) : Array Bool := ((List.range n).map (fun k => decide (k < m))).toArray
theorem ready_some {L : Array Bool} (hs : L.size = ops.size) (hm : m ≤ ops.size) (hB : ∀ (k : Nat) (o : Oper), k < m → ops[k]? = some o → ∀ e ∈ o.after, e.on < k) (hr : ∀ i ∈ Region.ready md ops L, m ≤ i) : ∀ k, k < m → L.getD k false = true := by
  intro k
  induction k using Nat.strongRecOn with
  | ind k ih =>
    intro hk
    refine Classical.byContradiction fun hn => ?_
    have hk' : k < L.size := by omega
    have hk2 : k < ops.size := by omega
    have h0 : L.getD k true = false := by
      simp only [Array.getD_eq_getD_getElem?, Array.getElem?_eq_getElem hk', Option.getD_some, Bool.not_eq_true] at hn ⊢; exact hn
    have : k ∈ Region.ready md ops L := by
      unfold Region.ready
      rw [List.mem_filter]
      refine ⟨List.mem_range.2 hk2, ?_⟩
      rw [h0, Array.getElem?_eq_getElem hk2]
      simp only [Bool.not_false, Bool.true_and, Option.map_some, Option.getD_some]
      rw [Array.all_eq_true']
      intro e he
      have := hB k _ hk (Array.getElem?_eq_getElem hk2) e he
      rw [ih e.on this (by omega)]; simp
    have := hr k this
    omega
theorem doneL_eq {L : Array Bool} (hs : L.size = ops.size) (h1 : ∀ k, k < m → L.getD k false = true) (h2 : ∀ k, L.getD k false = true → k < m) : L = doneL ops.size m := by
  apply Array.ext_getElem?
  intro k
  unfold doneL
  by_cases hk : k < ops.size
  · have hk' : k < L.size := by omega
    have e : L.getD k false = L[k] := by simp [hk']
    have : L[k] = decide (k < m) := by
      rw [← e]
      by_cases hm : k < m
      · rw [h1 k hm, decide_eq_true hm]
      · rw [decide_eq_false hm]
        cases h : L.getD k false with
        | false => rfl
        | true => exact absurd (h2 k h) hm
    rw [Array.getElem?_eq_getElem hk', this]
    simp [hk]
  · rw [Array.getElem?_eq_none (by omega), Array.getElem?_eq_none (by simp; omega)]
theorem undone_doneL (hm : m ≤ ops.size) : undone ops (doneL ops.size m) = ops.size - m := by
  unfold undone
  have : ∀ n, n ≤ ops.size → (List.range n).countP (fun k => !((doneL ops.size m).getD k true)) = n - m := by
    intro n
    induction n with
    | zero => intro _; simp
    | succ n ih =>
      intro hn
      rw [List.range_succ, List.countP_append, ih (by omega), List.countP_singleton]
      have : (doneL ops.size m).getD n true = decide (n < m) := by unfold doneL; simp [show n < ops.size by omega]
      rw [this]
      by_cases h : n < m
      · simp [h]; omega
      · simp [h]; omega
  exact this _ (Nat.le_refl _)

theorem wpAny_inv (hB : formB md ops m D.eats D.owner = true) (hsz : ∀ k d, k < m → dstOf ops k = some d → d < a0.tmps.size)
    (hown : ∀ k v S w w', D.owner k = true → D.R k v w → Mod S w w' → (∀ g, v.vBlk = some g → ¬ S g) → D.R k v w')
    (hnon : ∀ k v w w', D.owner k = false → D.R k v w → Mod (fun g => w0.heap.size ≤ g) w w' → D.R k v w')
    (hstep : ∀ k o, k < m → ops[k]? = some o → ∀ a w, Env ops m D a0 w0 o a w → o.wp P a w (fun a' w' => ∃ v, a' = a.put o.dst v ∧ D.R k v w' ∧
      Mod (fun g => ∃ j t, D.eats k = some j ∧ dstOf ops j = some t ∧ (a.eval (.tmp t)).vBlk = some g) w w' ∧
      (D.owner k = true → ∀ g, v.vBlk = some g → g < w'.heap.size ∧ (w.heap.size ≤ g ∨ ∃ j t, D.eats k = some j ∧ dstOf ops j = some t ∧ (a.eval (.tmp t)).vBlk = some g))) Q)
    (hend : ∀ vs w, Mod Nn w0 w → (∀ k, k < m → (∀ i, i < m → D.eats i ≠ some k) → D.R k (vs k) w) → wpAny P md ops Q (ops.size - m) (doneL ops.size m) (fillA ops vs a0 (List.range m).reverse) w) :
    ∀ (n : Nat) (L : Array Bool) (a : Act) (w : World), L.size = ops.size → undone ops L = n → Inv md ops m D a0 w0 L a w → wpAny P md ops Q n L a w := by
  have hB0 := hB
  unfold formB at hB0
  simp only [Bool.and_eq_true, decide_eq_true_eq] at hB0
  obtain ⟨⟨hmo, hwait⟩, -⟩ := hB0
  have opAt : ∀ k, k < m → ∃ o, ops[k]? = some o := fun k hk => ⟨_, Array.getElem?_eq_getElem (by omega)⟩
  have hdd : ∀ i j, i < m → j < m → j ≠ i → dstOf ops j ≠ dstOf ops i := fun i j hi hj hne => by
    obtain ⟨o, ho⟩ := opAt i hi
    have e : dstOf ops i = o.dst := by unfold dstOf; rw [ho]; rfl
    rw [e]
    exact (form_at hB hi ho).2.2.2.1 j hj hne
  have fin : ∀ (n : Nat) (L : Array Bool) (a : Act) (w : World), L.size = ops.size → undone ops L = n → Inv md ops m D a0 w0 L a w → (∀ k, k < m → L.getD k false = true) → wpAny P md ops Q n L a w := by
    intro n L a w hs hu hI hall
    have hL := doneL_eq (ops := ops) hs hall hI.done
    have hQ := hend (opVal ops a) w hI.mod (fun k hk he => hI.live k (hall k hk) (fun k' hk' => he k' (hI.done k' hk')))
    have hat := fillA_at (ops := ops) (opVal ops a) a0 (List.range m).reverse (fun i hi j hj hne hd => by
      have hi := List.mem_range.1 (List.mem_reverse.1 hi)
      have hj := List.mem_range.1 (List.mem_reverse.1 hj)
      exact hdd j i hj hi hne) ((List.reverse_perm _).nodup_iff.2 List.nodup_range)
    have : fillA ops (opVal ops a) a0 (List.range m).reverse = a := by
      have e1 := fillA_defers (ops := ops) (opVal ops a) a0 (List.range m).reverse
      have e2 : (fillA ops (opVal ops a) a0 (List.range m).reverse).tmps = a.tmps := by
        apply Array.ext_getElem?
        intro t
        by_cases ht : t < a0.tmps.size
        · obtain ⟨h1, h2⟩ := hat t ht
          by_cases hk : ∃ k, k < m ∧ dstOf ops k = some t
          · obtain ⟨k, hk, hd⟩ := hk
            rw [h1 k (List.mem_reverse.2 (List.mem_range.2 hk)) hd]
            unfold opVal
            rw [hd]
            have : t < a.tmps.size := by rw [hI.size]; exact ht
            simp [Array.getElem?_eq_getElem this]
          · rw [h2 (fun k hk' hd => hk ⟨k, List.mem_range.1 (List.mem_reverse.1 hk'), hd⟩)]
            exact (hI.rest t (fun k hk' hd => hk ⟨k, hI.done k hk', hd⟩)).symm
        · rw [Array.getElem?_eq_none (by rw [fillA_size]; omega), Array.getElem?_eq_none (by rw [hI.size]; omega)]
      generalize fillA ops (opVal ops a) a0 (List.range m).reverse = b at *
      obtain ⟨bt, bd⟩ := b
      obtain ⟨at', ad⟩ := a
      have e3 := hI.defers
      simp only at e1 e2 e3
      rw [e2, e1, ← e3]
    rw [this, ← hL] at hQ
    have hn : n = ops.size - m := by rw [← hu, hL]; exact undone_doneL hmo
    rw [hn]; exact hQ
  have step : ∀ (n : Nat) (L : Array Bool) (a : Act) (w : World), L.size = ops.size → undone ops L = n + 1 → Inv md ops m D a0 w0 L a w →
      (∀ (L : Array Bool) (a : Act) (w : World), L.size = ops.size → undone ops L = n → Inv md ops m D a0 w0 L a w → wpAny P md ops Q n L a w) →
      ∀ i ∈ Region.ready md ops L, i < m → wpOp P ops Q i (wpAny P md ops Q n (L.setIfInBounds i true)) a w := by
    intro n L a w hs hu hI ih i hi him
    obtain ⟨hiun, o, ho, hall⟩ := mem_ready.1 hi
    have hil : i < ops.size := (Array.getElem?_eq_some_iff.1 ho).1
    obtain ⟨hgd, ⟨d, hd⟩, hlt, hdist, hreads, heats⟩ := form_at hB him ho
    have hdi : dstOf ops i = some d := by unfold dstOf; rw [ho]; exact hd
    have hdb : d < a.tmps.size := by rw [hI.size]; exact hsz i d him hdi
    have hnotL : L.getD i false = false := getD_two hiun
    have evalOf : ∀ j t, dstOf ops j = some t → a.eval (.tmp t) = opVal ops a j := fun j t hj => by unfold opVal; rw [hj]; rfl
    have doneOf : ∀ j, (∃ e ∈ o.after, Region.binds md e = true ∧ e.on = j) → L.getD j false = true := fun j ⟨e, he, hb, hon⟩ => by rw [← hon]; exact hall e he hb
    have liveOf : ∀ j, L.getD j false = true → (∀ k', k' < m → k' ≠ i → D.eats k' ≠ some j) → ∀ k', L.getD k' false = true → D.eats k' ≠ some j := fun j hj h k' hk' => h k' (hI.done k' hk') (fun e => by rw [e, hnotL] at hk'; cases hk')
    have env : Env ops m D a0 w0 o a w := by
      refine ⟨fun t ht hno => ?_, fun j t hjl ht hj => ?_, hI.mod, fun j t hjl ht hj hoj g hg => ?_⟩
      · have := hI.rest t (fun k _ => hno k)
        show a.tmps.getD t undef = a0.tmps.getD t undef
        simp [Array.getD_eq_getD_getElem?, this]
      · obtain ⟨h1, h2⟩ := hreads j t hjl hj ht
        rw [evalOf j t hj]
        exact hI.live j (doneOf j h1) (liveOf j (doneOf j h1) h2)
      · obtain ⟨h1, h2⟩ := hreads j t hjl hj ht
        rw [evalOf j t hj] at hg
        exact hI.fresh j (doneOf j h1) (liveOf j (doneOf j h1) h2) hoj g hg
    have hw := hstep i o him ho a w env
    unfold wpOp
    rw [ho]
    simp only [show Region.wanted o (yielded ops a.tmps) = true from by unfold Region.wanted; rw [hgd], if_true]
    refine .inl (Oper.wp_mono (fun a' w' hp => ?_) hw)
    obtain ⟨v, rfl, hRv, hm, hov⟩ := hp
    refine ih _ _ _ (by simp [hs]) (by have := undone_set (ops := ops) hil hiun; omega) ?_
    have hval : ∀ k, k < m → opVal ops (a.put o.dst v) k = if k = i then v else opVal ops a k := fun k hk => opVal_put hdi hd v (fun hne => by have := hdist k hk (Ne.symm hne); rwa [hd] at this) hdb
    have hseti : (L.setIfInBounds i true).getD i false = true := by
      have : i < L.size := by omega
      simp [this]
    have upL : ∀ y, L.getD y false = true → (L.setIfInBounds i true).getD y false = true := fun y hy => by
      by_cases e : i = y
      · rw [← e]; exact hseti
      · rw [getD_set_ne false e]; exact hy
    have hdone' : ∀ k, (L.setIfInBounds i true).getD k false = true → k < m := fun k hk => by
      rcases getD_false_set hk with rfl | h
      · exact him
      · exact hI.done k h
    have up : ∀ x, (∀ y, (L.setIfInBounds i true).getD y false = true → D.eats y ≠ some x) → ∀ y, L.getD y false = true → D.eats y ≠ some x := fun x h y hy => h y (upL y hy)
    -- what is changed is owned by the one that is eaten
    have hS : ∀ g, (∃ j t, D.eats i = some j ∧ dstOf ops j = some t ∧ (a.eval (.tmp t)).vBlk = some g) → ∃ j, D.eats i = some j ∧ D.owner j = true ∧ L.getD j false = true ∧ (∀ k', L.getD k' false = true → D.eats k' ≠ some j) ∧ (opVal ops a j).vBlk = some g := fun g ⟨j, t, h1, h2, h3⟩ => by
      obtain ⟨h4, h5, h6, h7⟩ := heats j h1
      rw [evalOf j t h2] at h3
      exact ⟨j, h1, h4, doneOf j h6, liveOf j (doneOf j h6) h7, h3⟩
    have hm0 : Mod (fun g => w0.heap.size ≤ g) w w' := hm.mono (fun g _ h => by
      obtain ⟨j, _, h2, h3, h4, h5⟩ := hS g h
      exact (hI.fresh j h3 h4 h2 g h5).1)
    refine ⟨?_, ?_, ?_, ?_, ?_, ?_, ?_, hdone', hI.closed.set hi⟩
    · rw [← hI.defers]; rw [hd]; rfl
    · rw [put_tmps a o hd]; simpa using hI.size
    · intro t ht
      have hne : d ≠ t := fun e => ht i hseti (by rw [hdi, e])
      rw [put_tmps a o hd, Array.getElem?_setIfInBounds_ne hne]
      exact hI.rest t (fun k hk => ht k (upL k hk))
    · intro k hk hne
      rw [hval k (hdone' k hk)]
      by_cases hki : k = i
      · rw [if_pos hki, hki]; exact hRv
      · rw [if_neg hki]
        have hkL := (getD_false_set hk).resolve_left hki
        have hliv := up k hne
        have hR := hI.live k hkL hliv
        cases hok : D.owner k with
        | false => exact hnon k _ w w' hok hR hm0
        | true =>
          refine hown k _ _ w w' hok hR hm (fun g hg h => ?_)
          obtain ⟨j, h1, h2, h3, h4, h5⟩ := hS g h
          have hjk : k ≠ j := fun e => hne i hseti (by rw [h1, e])
          exact hI.apart k j hjk hkL h3 hliv h4 hok h2 g hg h5
    · intro k k' hkk hk hk' hek hek' hok hok' g hg hg'
      rw [hval k (hdone' k hk)] at hg
      rw [hval k' (hdone' k' hk')] at hg'
      have both : ∀ x, x ≠ i → L.getD x false = true → (∀ y, (L.setIfInBounds i true).getD y false = true → D.eats y ≠ some x) → D.owner x = true → (D.owner i = true) → v.vBlk = some g → (opVal ops a x).vBlk = some g → False := fun x hxi hxL hex hox hoi hgv hgx => by
        rcases (hov hoi g hgv).2 with h | h
        · have := (hI.fresh x hxL (up x hex) hox g hgx).2; omega
        · obtain ⟨j, h1, h2, h3, h4, h5⟩ := hS g h
          have hxj : x ≠ j := fun e => hex i hseti (by rw [h1, e])
          exact hI.apart x j hxj hxL h3 (up x hex) h4 hox h2 g hgx h5
      by_cases h1 : k = i
      · have h2 : k' ≠ i := fun e => hkk (by rw [h1, e])
        rw [if_pos h1] at hg
        rw [if_neg h2] at hg'
        exact both k' h2 ((getD_false_set hk').resolve_left h2) hek' hok' (h1 ▸ hok) hg hg'
      · rw [if_neg h1] at hg
        by_cases h2 : k' = i
        · rw [if_pos h2] at hg'
          exact both k h1 ((getD_false_set hk).resolve_left h1) hek hok (h2 ▸ hok') hg' hg
        · rw [if_neg h2] at hg'
          exact hI.apart k k' hkk ((getD_false_set hk).resolve_left h1) ((getD_false_set hk').resolve_left h2) (up k hek) (up k' hek') hok hok' g hg hg'
    · intro k hk hek hok g hg
      rw [hval k (hdone' k hk)] at hg
      by_cases h1 : k = i
      · rw [if_pos h1] at hg
        obtain ⟨h2, h3⟩ := hov (h1 ▸ hok) g hg
        refine ⟨?_, h2⟩
        rcases h3 with h3 | h3
        · have := hI.mod.size; omega
        · obtain ⟨j, _, h5, h6, h7, h8⟩ := hS g h3
          exact (hI.fresh j h6 h7 h5 g h8).1
      · rw [if_neg h1] at hg
        have := hI.fresh k ((getD_false_set hk).resolve_left h1) (up k hek) hok g hg
        exact ⟨this.1, by have := this.2; have := hm.size; omega⟩
    · exact hI.mod.then_ hm0 (fun g hg h => by omega)
  intro n
  induction n with
  | zero =>
    intro L a w hs hu hI
    refine fin 0 L a w hs hu hI (ready_some (md := md) hs hmo (fun k o hk ho => (form_at hB hk ho).2.2.1) (fun i hi => ?_))
    obtain ⟨hiun, o, ho, _⟩ := mem_ready.1 hi
    have := undone_set (ops := ops) (Array.getElem?_eq_some_iff.1 ho).1 hiun
    omega
  | succ n ih =>
    intro L a w hs hu hI
    by_cases hall : ∀ k, k < m → L.getD k false = true
    · exact fin (n + 1) L a w hs hu hI hall
    · have hlow : ∀ i ∈ Region.ready md ops L, i < m := fun i hi => by
        refine Classical.byContradiction fun him => hall fun k hk => ?_
        obtain ⟨hiun, o, ho, hedges⟩ := mem_ready.1 hi
        have hil := (Array.getElem?_eq_some_iff.1 ho).1
        have h1 := List.all_eq_true.1 hwait i (List.mem_range.2 hil)
        simp only [Bool.or_eq_true, decide_eq_true_eq] at h1
        have h2 := List.all_eq_true.1 (h1.resolve_left him) k (List.mem_range.2 hk)
        -- i is ready: what it waits for is done
        have hC := hI.closed.set hi
        have hii : (L.setIfInBounds i true).getD i false = true := by
          have : i < L.size := by omega
          simp [this]
        have := waits_spec hC ops.size i h2 hii
        rcases getD_false_set this with e | e
        · omega
        · exact e
      refine ⟨fun hr => ?_, fun i hi => step n L a w hs hu hI ih i hi (hlow i hi)⟩
      exact absurd (ready_some (md := md) hs hmo (fun k o hk ho => (form_at hB hk ho).2.2.1) (fun i hi => by rw [hr] at hi; cases hi)) hall
end

section
variable {P : Program} {Q : Exit → Act → World → Prop} {a : Act} {w : World}
/-- a region that draws its order: the first m operations, in whatever order, by what is said of each one's value; the rest by a plan -/
theorem wp_region_inv {id : Nat} {l : List Oper} (D : Said) (m : Nat) (ps : List (Nat × Bool)) (hm : P.follows .mixedOrders = true) (hB : formB .any l.toArray m D.eats D.owner = true) (hsz : ((List.range m).all fun k => match dstOf l.toArray k with | some d => decide (d < a.tmps.size) | none => true) = true)
    (hp : (Region.noSelect l.toArray && planC .any l.toArray ps (doneL l.length m) && (ps.length == l.length - m)) = true)
    (hown : ∀ k v S w1 w2, D.owner k = true → D.R k v w1 → Mod S w1 w2 → (∀ g, v.vBlk = some g → ¬ S g) → D.R k v w2)
    (hnon : ∀ k v w1 w2, D.owner k = false → D.R k v w1 → Mod (fun g => w.heap.size ≤ g) w1 w2 → D.R k v w2)
    (hstep : ∀ k o, k < m → l[k]? = some o → ∀ b w1, Env l.toArray m D a w o b w1 → o.wp P b w1 (fun a' w' => ∃ v, a' = b.put o.dst v ∧ D.R k v w' ∧
      Mod (fun g => ∃ j t, D.eats k = some j ∧ dstOf l.toArray j = some t ∧ (b.eval (.tmp t)).vBlk = some g) w1 w' ∧
      (D.owner k = true → ∀ g, v.vBlk = some g → g < w'.heap.size ∧ (w1.heap.size ≤ g ∨ ∃ j t, D.eats k = some j ∧ dstOf l.toArray j = some t ∧ (b.eval (.tmp t)).vBlk = some g))) (NoP Q))
    (hend : ∀ vs w', Mod Nn w w' → (∀ k, k < m → (∀ i, i < m → D.eats i ≠ some k) → D.R k (vs k) w') → wpPlC P l.toArray (NoP Q) (fun _ => True) ps (fillA l.toArray vs a (List.range m).reverse) w') :
    (Code.region id l.toArray true).wp P Q a w := by
  simp only [Bool.and_eq_true, beq_iff_eq] at hp
  refine Code.wp_mono NoP.imp (wp_region_any hm ?_)
  have hs : l.toArray.size = l.length := by simp
  refine wpAny_inv (md := .any) (m := m) (D := D) (a0 := a) (w0 := w.drew) hB ?_ hown hnon (fun k o hk ho => fun b w1 E => hstep k o hk (by simpa using ho) b w1 ⟨E.old, E.got, E.mod.of_drew, E.fresh⟩) (fun vs w' hm' h => ?_) _ _ _ _ (by simp) ?_ ?_
  · intro k d hk hd
    have := List.all_eq_true.1 hsz k (List.mem_range.2 hk)
    rw [hd] at this
    simpa using this
  · have := wpAnyH_planC (md := .any) (Q := NoP Q) (S := fun _ => True) hp.1.1 (fun _ _ _ _ _ h => h) ps _ _ w' trivial hp.1.2 (hend vs w' hm'.of_drew h)
    rw [hp.2] at this
    rw [hs]
    exact wpAny_of_held _ _ _ _ this
  · unfold undone
    rw [List.countP_eq_length.2]
    · simp
    · intro k hk
      have := List.mem_range.1 hk
      rw [Array.getD_eq_getD_getElem?, Array.getElem?_replicate, if_pos this]; rfl
  · have none_ : ∀ k, (Array.replicate l.toArray.size false).getD k false = false := fun k => by
      rw [Array.getD_eq_getD_getElem?, Array.getElem?_replicate]
      split <;> rfl
    refine ⟨rfl, rfl, fun _ _ => rfl, fun k hk => ?_, fun k k' _ hk => ?_, fun k hk => ?_, Mod.refl Nn _, fun k hk => ?_, Closed.start _⟩ <;> (rw [none_] at hk; cases hk)
end
end Go.Proofs.YtijmkbhbpbkkoaaGreat

/- Steps for Kit25's law: operations by an equation or a contract, over an act that is known by what its operands hold. No program is named. -/
namespace Go.Proofs.YtijmkbhbpbkkoaaGreat
open Go.RowKit

section
variable {P : Program} {Q : Exit → Act → World → Prop} {D : Said} {a b : Act} {w w1 : World} {o : Oper} {k m : Nat} {ops : Array Oper}
theorem Env.new {t : Tmp} {j : Nat} (E : Env ops m D a w o b w1) (hj : j < m) (hl : (o.looksAt ops).contains t = true) (hd : dstOf ops j = some t) : D.R j (b.eval (.tmp t)) w1 :=
  E.got j t hj (by simpa using hl) hd
theorem Env.kept {t : Tmp} (E : Env ops m D a w o b w1) (hl : (o.looksAt ops).contains t = true) (hd : (List.range ops.size).all (fun j => dstOf ops j != some t) = true) : b.eval (.tmp t) = a.eval (.tmp t) :=
  E.old t (by simpa using hl) (fun j h => by
    by_cases hj : j < ops.size
    · have := List.all_eq_true.1 hd j (List.mem_range.2 hj)
      rw [h] at this; simp at this
    · unfold dstOf at h
      rw [Array.getElem?_eq_none (by omega)] at h; cases h)
theorem Env.lt {t : Tmp} {j : Nat} (E : Env ops m D a w o b w1) (hj : j < m) (hl : (o.looksAt ops).contains t = true) (hd : dstOf ops j = some t) (ho : D.owner j = true) : ∀ g, (b.eval (.tmp t)).vBlk = some g → w.heap.size ≤ g ∧ g < w1.heap.size :=
  E.fresh j t hj (by simpa using hl) hd ho
/-- what a step tells -/
def StepP (D : Said) (ops : Array Oper) (k : Nat) (o : Oper) (b : Act) (w1 : World) (a' : Act) (w' : World) : Prop :=
  ∃ v, a' = b.put o.dst v ∧ D.R k v w' ∧ Mod (fun g => ∃ j t, D.eats k = some j ∧ dstOf ops j = some t ∧ (b.eval (.tmp t)).vBlk = some g) w1 w' ∧
    (D.owner k = true → ∀ g, v.vBlk = some g → g < w'.heap.size ∧ (w1.heap.size ≤ g ∨ ∃ j t, D.eats k = some j ∧ dstOf ops j = some t ∧ (b.eval (.tmp t)).vBlk = some g))
/-- it reads, or makes what it hands out -/
theorem inv_val {v : Value} {w' : World} (hrun : (execOp b.eval o).run P w1 = .ok (.value v) w') (hR : D.R k v w') (hm : Mod Nn w1 w') (ho : D.owner k = true → ∀ g, v.vBlk = some g → g < w'.heap.size ∧ w1.heap.size ≤ g) :
    o.wp P b w1 (StepP D ops k o b w1) Q := by
  unfold Oper.wp
  rw [hrun]
  exact ⟨v, rfl, hR, hm.nn, fun h g hg => ⟨(ho h g hg).1, .inl (ho h g hg).2⟩⟩
/-- it changes what it eats -/
theorem inv_eat {v : Value} {w' : World} {j : Nat} {t : Tmp} (he : D.eats k = some j) (hd : dstOf ops j = some t) (hrun : (execOp b.eval o).run P w1 = .ok (.value v) w') (hR : D.R k v w') (hm : Mod (fun g => (b.eval (.tmp t)).vBlk = some g) w1 w')
    (ho : ∀ g, v.vBlk = some g → g < w'.heap.size ∧ (w1.heap.size ≤ g ∨ (b.eval (.tmp t)).vBlk = some g)) :
    o.wp P b w1 (StepP D ops k o b w1) Q := by
  unfold Oper.wp
  rw [hrun]
  exact ⟨v, rfl, hR, hm.mono (fun g _ h => ⟨j, t, he, hd, h⟩), fun _ g hg => ⟨(ho g hg).1, (ho g hg).2.imp id (fun h => ⟨j, t, he, hd, h⟩)⟩⟩
theorem inv_call {f : FuncId} {args : Array Value} (hrun : (execOp b.eval o).run P w1 = .ok (.enter f args) w1)
    (hc : Calls P f args w1 fun e w' => ∃ v, e = .returned v ∧ D.R k v w' ∧ Mod Nn w1 w' ∧ (D.owner k = true → ∀ g, v.vBlk = some g → g < w'.heap.size ∧ w1.heap.size ≤ g)) :
    o.wp P b w1 (StepP D ops k o b w1) Q := by
  unfold Oper.wp
  rw [hrun]
  exact hc.mono fun e w' ⟨v, he, hR, hm, ho⟩ => by
    subst he
    exact ⟨v, rfl, hR, hm.nn, fun h g hg => ⟨(ho h g hg).1, .inl (ho h g hg).2⟩⟩
theorem exec_move (x : Operand) (ho : o.op = .move x) {v : Value} (hx : b.eval x = v) : (execOp b.eval o).run P w = .ok (.value v) w := by
  subst hx
  simp [execOp, ho, Result.andThen]
theorem exec_enter {f : FuncId} {xs : Array Operand} {ts : Array TypeId} (ho : o.op = .call { callee := .value (.func f), args := xs, argTypes := ts }) {vs : Array Value} (hx : xs.map b.eval = vs) {fn : Func} (hf : P.funcs[f]? = some fn) (hn : (fn.name == "runtime.NumGoroutine") = false) (hb : fn.body.isNone = false) :
    (execOp b.eval o).run P w = .ok (.enter f vs) w := by
  subst hx
  have hc : ∀ args w, (callFunc f args).run P w = .ok (.enter f args) w := fun args w => by
    have hn' : ¬ fn.name = "runtime.NumGoroutine" := by simpa using hn
    have hb' : ¬ fn.body = none := by intro h; rw [h] at hb; cases hb
    simp [callFunc, hf, hn', hb']
  simp [execOp, ho, resolve, invoke, Act.eval, Deferred.ofValue, hc, Result.andThen]
theorem exec_elem (t : TypeId) (x i : Operand) (ho : o.op = .indexAddr t x i) (e : TypeId) (size : Nat) (ht : P.underlying t = some (.slice e)) (hi : (P.info? e).map (·.size) = some size)
    {g off n c q : Nat} (hx : b.eval x = .slice (some ⟨g, off, none⟩) n c) (hq : b.eval i = .int .i64 (q : Int)) (hlt : q < n) :
    (execOp b.eval o).run P w = .ok (.value (.pointer (some ⟨g, off + q * size, none⟩))) w := by
  have he : P.elem t = e := by simp [Program.elem, ht]
  have ht' : P.underlying t = some (.slice (P.elem t)) := by rw [he]; exact ht
  obtain ⟨ie, hie, hs⟩ := Option.map_eq_some_iff.1 hi
  have hadd : (⟨g, off, none⟩ : Addr).add (q * size) = ⟨g, off + q * size, none⟩ := by unfold Addr.add; split <;> simp_all
  have h0 : (0 : Int) ≤ q ∧ (q : Int) < n := by omega
  simp only [execOp, ho, hx, hq]
  simp [run_indexAt_slice w t _ n c .i64 (q : Int) ht', h0.1, h0.2, he, sizeOf, typeInfo, hie, hs, hadd, Result.andThen, hlt]
end
end Go.Proofs.YtijmkbhbpbkkoaaGreat

/- Rows whose block may be longer than the slice's room (a slice cut by three indexes): what they read as; append, copy, clear, cuts. No program is named. -/
namespace Go.Proofs.YtijmkbhbpbkkoaaGreat
open Go.RowKit

/-- the slice '.slice A n c' of elements of s cells lies at the beginning of a block of its own, and reads as xs -/
def Hold (w : World) (e : TypeId) (s : Nat) (A : Option Addr) (n c : Nat) (xs : List Value) : Prop :=
  xs.length = n * s ∧ ((A = none ∧ n = 0 ∧ c = 0) ∨ ∃ g cur, A = some ⟨g, 0, none⟩ ∧ Blk w g e cur ∧ n ≤ c ∧ c ≤ maxLen ∧ c * s ≤ cur.size ∧ cur.toList.take (n * s) = xs)
section
variable {P : Program} {w w' : World} {e : TypeId} {s n c : Nat} {A : Option Addr} {xs : List Value} {S : Nat → Prop}
theorem Hold.mod (h : Hold w e s A n c xs) (hm : Mod S w w') (hS : ∀ g, Of A g → ¬ S g) : Hold w' e s A n c xs := by
  refine ⟨h.1, ?_⟩
  rcases h.2 with h0 | ⟨g, cur, rfl, hb, rest⟩
  · exact .inl h0
  · exact .inr ⟨g, cur, rfl, hb.mod hm (hS g ⟨_, rfl, rfl⟩), rest⟩
theorem Hold.nn (h : Hold w e s A n c xs) (hm : Mod Nn w w') : Hold w' e s A n c xs := h.mod hm (fun _ _ f => f)
theorem Hold.nil (w : World) (e : TypeId) (s : Nat) : Hold w e s none 0 0 [] := ⟨by simp, .inl ⟨rfl, rfl, rfl⟩⟩
theorem Hold.rd (h : Hold w e s A n c xs) : RdC w A n s xs := by
  refine ⟨h.1, fun hn => ?_⟩
  rcases h.2 with ⟨_, h0, _⟩ | ⟨g, cur, rfl, hb, _, _, _, ht⟩
  · omega
  · refine ⟨g, 0, rfl, fun j v hj => ?_⟩
    rw [Nat.zero_add, hb.cell j]
    rw [← ht, List.getElem?_take] at hj
    split at hj
    · simpa using hj
    · cases hj
theorem Hold.lt (h : Hold w e s A n c xs) {g : Nat} (hg : Of A g) : g < w.heap.size := by
  obtain ⟨a, ha, rfl⟩ := hg
  rcases h.2 with ⟨h0, _⟩ | ⟨g, cur, rfl, hb, _⟩
  · rw [h0] at ha; cases ha
  · injection ha with ha; subst ha; exact hb.lt
theorem Hold.le (h : Hold w e s A n c xs) : n ≤ c ∧ c ≤ maxLen := by
  rcases h.2 with ⟨_, h1, h2⟩ | ⟨g, cur, _, _, h1, h2, _⟩
  · omega
  · exact ⟨h1, h2⟩
theorem Hold.of_own {base : Nat} (h : w.ownsRow base e s (.slice A n c) n xs) : Hold w e s A n c xs := by
  refine ⟨h.1, ?_⟩
  rcases h.2 with ⟨h0, h1⟩ | ⟨g, cap, cur, hv, _, hb, h1, h2, h3, h4⟩
  · injection h0 with a b d; exact .inl ⟨a, h1, d⟩
  · injection hv with a b d
    subst a; subst d
    exact .inr ⟨g, cur, rfl, hb, h1, h2, by omega, h4⟩
theorem Hold.of_ (h : Hold w e s A n c xs) (hn : 0 < n) : ∃ g, A = some ⟨g, 0, none⟩ := by
  rcases h.2 with ⟨_, h0, _⟩ | ⟨g, cur, rfl, _⟩
  · omega
  · exact ⟨g, rfl⟩
/-- cut by three indexes -/
theorem Hold.cut (h : Hold w e s A n c xs) {k : Nat} (hk : k ≤ n) (hA : ∃ g, A = some ⟨g, 0, none⟩) : Hold w e s A k k (xs.take (k * s)) := by
  obtain ⟨g, rfl⟩ := hA
  have hks : k * s ≤ n * s := Nat.mul_le_mul_right _ hk
  refine ⟨by rw [List.length_take, h.1]; omega, ?_⟩
  rcases h.2 with ⟨h0, _⟩ | ⟨g', cur, hA, hb, h1, h2, h3, h4⟩
  · cases h0
  · injection hA with hA; injection hA with hA; subst hA
    have := Nat.mul_le_mul_right s h1
    exact .inr ⟨g, cur, rfl, hb, Nat.le_refl _, by omega, by omega, by rw [← h4, List.take_take, Nat.min_eq_left hks]⟩
/-- the first k elements, with all the room -/
theorem Hold.pre (h : Hold w e s A n c xs) {k : Nat} (hk : k ≤ n) (hA : ∃ g, A = some ⟨g, 0, none⟩) : Hold w e s A k c (xs.take (k * s)) := by
  obtain ⟨g, rfl⟩ := hA
  have hks : k * s ≤ n * s := Nat.mul_le_mul_right _ hk
  refine ⟨by rw [List.length_take, h.1]; omega, ?_⟩
  rcases h.2 with ⟨h0, _⟩ | ⟨g', cur, hA, hb, h1, h2, h3, h4⟩
  · cases h0
  · injection hA with hA; injection hA with hA; subst hA
    exact .inr ⟨g, cur, rfl, hb, by omega, h2, h3, by rw [← h4, List.take_take, Nat.min_eq_left hks]⟩
/-- a part that is only read -/
theorem RdC.sub (h : RdC w A n s xs) (hs : 0 < s) (l k : Nat) (hk : l + k ≤ n) (hc : n ≤ c) : RdC w (subA A c l s) k s ((xs.drop (l * s)).take (k * s)) := by
  have hm : (l + k) * s ≤ n * s := Nat.mul_le_mul_right _ hk
  rw [Nat.add_mul] at hm
  refine ⟨by rw [List.length_take, List.length_drop, h.1]; omega, fun hp => ?_⟩
  obtain ⟨g, off, rfl, hcl⟩ := h.2 (by omega)
  refine ⟨g, off + l * s, ?_, fun j v hv => ?_⟩
  · unfold subA
    rw [if_neg (by omega)]
    simp [Addr.add]
  · rw [List.getElem?_take] at hv
    split at hv
    · rw [List.getElem?_drop] at hv
      rw [Nat.add_assoc]
      exact hcl (l * s + j) v hv
    · cases hv
theorem RdC.md (h : RdC w A n s xs) (hs : 0 < s) (hm : Mod S w w') (hS : ∀ g, Of A g → ¬ S g) : RdC w' A n s xs := by
  refine ⟨h.1, fun hn => ?_⟩
  obtain ⟨g, off, rfl, hc⟩ := h.2 hn
  have h0 : 0 < xs.length := by rw [h.1]; exact Nat.mul_pos hn hs
  have hlt := World.block_lt_of_cell? w _ (hc 0 xs[0] (List.getElem?_eq_getElem h0))
  exact ⟨g, off, rfl, fun j v hv => (hm.cell (p := ⟨g, off + j, none⟩) hlt (hS g ⟨_, rfl, rfl⟩)).trans (hc j v hv)⟩

/-! ## append -/
theorem run_append_hold (t ty : TypeId) (z : Value) (bytes : Nat) (ht : P.underlying t = some (.slice e))
    (hi : (P.info? e).map (fun i => (i.zero, i.size, i.bytes)) = some (some z, s, bytes)) (hzs : z.cells.size = s) (hs0 : 0 < s)
    (h : Hold w e s A n c xs) {B : Option Addr} {m d : Nat} {news : List Value} (hr : RdC w B m s news) (h1 : ∀ u ∈ news, u.oneCell' = true)
    (hbytes : (n + m) * bytes ≤ 140737488355328) (h63 : n + m ≤ 140737488355328) :
    ∃ A' c' w', (Builtin.append_ #[t, t] ty #[.slice A n c, .slice B m d]).run P w = .ok (.slice A' (n + m) c') w' ∧ Hold w' e s A' (n + m) c' (xs ++ news) ∧ Mod (Of A) w w' ∧ (∀ g, Of A' g → Of A g ∨ w.heap.size ≤ g) := by
  obtain ⟨i, hii, hz, hss, hby⟩ := info_parts hi
  have hlen : (xs ++ news).length = (n + m) * s := by rw [List.length_append, h.1, hr.1, Nat.add_mul]
  rcases h.2 with ⟨rfl, rfl, rfl⟩ | ⟨g, cur, rfl, hb, hnc, hcm, hcs, htk⟩
  · -- nil
    have hx : xs = [] := List.eq_nil_of_length_eq_zero (by have := h.1; omega)
    subst hx
    obtain ⟨v', w', r1, r2, r3, r4⟩ := run_append_rd (P := P) w w.heap.size t ty e z s bytes ht hi hzs hs0 (.slice none 0 0) 0 [] (World.ownsRow_nil w w.heap.size e s) B m d news hr h1 hbytes h63 (Nat.le_refl _)
    obtain ⟨A', c', rfl, -, hA⟩ := own_form r2
    exact ⟨A', c', w', r1, Hold.of_own r2, (Mod.refl _ _).grown r3 (fun g hg => by cases hg), fun g hg => .inr (hA g hg).1⟩
  · rcases Nat.eq_zero_or_pos m with rfl | hm0
    · have hn : news = [] := List.eq_nil_of_length_eq_zero (by have := hr.1; omega)
      subst hn
      refine ⟨_, c, w, ?_, by simpa using h, Mod.refl _ _, fun g hg => .inl hg⟩
      have hf : (Builtin.firstCells i.size 0 (.slice B 0 d)).run P w = .ok #[] w := by
        cases B with
        | none => exact run_firstCells_none _ _ _ _ _
        | some b => simpa using run_firstCells_some (P := P) w i.size 0 b 0 d [] (by simp) (fun j v hj => by simp at hj)
      simp [Builtin.append_, run_underlying ht, sizeOf, typeInfo, hii, Builtin.lenOf, hf, hnc, storeCells]
    · obtain ⟨gb, off, rfl, hcb⟩ := hr.2 hm0
      have hcells : ∀ j u, news[j]? = some u → w.cell? ((⟨gb, off, none⟩ : Addr).add j) = some u := fun j u hu => by
        have hadd : (⟨gb, off, none⟩ : Addr).add j = ⟨gb, off + j, none⟩ := by unfold Addr.add; split <;> simp_all
        rw [hadd]; exact hcb j u hu
      by_cases hroom : n + m ≤ c
      · have hfit : n * i.size + news.length ≤ cur.size := by
          rw [hss, hr.1, ← Nat.add_mul]
          exact Nat.le_trans (Nat.mul_le_mul_right _ hroom) hcs
        have hr' := run_append_room (P := P) w t ty e i ht hii g n c cur hb ⟨gb, off, none⟩ m d news (by rw [hr.1, hss]) hcells h1 hroom hfit
        refine ⟨_, _, _, hr', ⟨hlen, .inr ⟨g, _, rfl, hb.setRow_ _, hroom, hcm, ?_, ?_⟩⟩, (Mod.refl _ w).setRow (.inr ⟨_, rfl, rfl⟩) _, fun g' hg' => .inl hg'⟩
        · simp only [List.size_toArray, List.length_append, List.length_take, List.length_drop, Array.length_toList]
          omega
        · rw [hss, htk, ← hlen]
          simp only [List.append_assoc]
          rw [← List.append_assoc]
          exact List.take_left
      · have holds : ∀ j u, xs[j]? = some u → w.cell? ((⟨g, 0, none⟩ : Addr).add j) = some u := fun j u hu => by
          have hadd : (⟨g, 0, none⟩ : Addr).add j = ⟨g, j, none⟩ := by unfold Addr.add; split <;> simp_all
          rw [hadd, hb.cell j]
          rw [← htk, List.getElem?_take] at hu
          split at hu
          · simpa using hu
          · cases hu
        subst hss; subst hby
        have h63' : n + m ≤ maxLen := by simp only [maxLen]; omega
        have hr' := run_append_grow (P := P) w t ty e i z ht hii hz ⟨g, 0, none⟩ n c xs h.1 holds ⟨gb, off, none⟩ m d news hr.1 hcells (by omega) (by omega) (growslice_fits (by omega) hbytes)
        have hge := grownCap_ge w (n + m) c e
        refine ⟨_, _, _, hr', ⟨hlen, .inr ⟨w.heap.size, _, rfl, heap_alloc_new w.drew _, hge, grownCap_le_maxLen w (n + m) c e h63', ?_, ?_⟩⟩, ((Mod.refl _ w).drew).alloc _, fun g' hg' => .inr ?_⟩
        · simp only [Array.size_append, List.size_toArray, size_zeroCells, hzs, h.1, hr.1, ← Nat.add_mul]
          exact Nat.le_of_eq (by congr 1; omega)
        · simp only [Array.toList_append, List.append_assoc]
          rw [← List.append_assoc, ← hlen]
          exact List.take_left
        · obtain ⟨a, ha, rfl⟩ := hg'
          injection ha with ha; subst ha; exact Nat.le_refl _
/-! ## copy: into a block -/
/-- cells laid over a block's, from a place on -/
def splice (cur : Array Value) (off : Nat) (cs : List Value) : Array Value := (cur.toList.take off ++ cs ++ cur.toList.drop (off + cs.length)).toArray
theorem splice_size {cur : Array Value} {off : Nat} {cs : List Value} (h : off + cs.length ≤ cur.size) : (splice cur off cs).size = cur.size := by
  unfold splice
  simp only [List.size_toArray, List.length_append, List.length_take, List.length_drop, Array.length_toList]
  omega
theorem splice_at {cur : Array Value} {off : Nat} {cs : List Value} (h : off + cs.length ≤ cur.size) (k : Nat) : (splice cur off cs).toList[k]? = if off ≤ k ∧ k < off + cs.length then cs[k - off]? else cur.toList[k]? := by
  unfold splice
  rw [List.toList_toArray]
  have hl : (cur.toList.take off).length = off := by rw [List.length_take, Array.length_toList]; omega
  by_cases h1 : k < off
  · rw [if_neg (by omega), List.append_assoc, List.getElem?_append_left (by omega), List.getElem?_take_of_lt h1]
  · by_cases h2 : k < off + cs.length
    · rw [if_pos ⟨by omega, h2⟩, List.append_assoc, List.getElem?_append_right (by omega), hl, List.getElem?_append_left (by omega)]
    · rw [if_neg (by omega), List.getElem?_append_right (by rw [List.length_append, hl]; omega), List.length_append, hl, List.getElem?_drop]
      congr 1; omega
theorem run_copy_blk (dT sT ty : TypeId) (hu : P.underlying dT = some (.slice e)) (hs : (P.info? e).map (·.size) = some s) {g off dn dc sn sc q : Nat} {cur : Array Value} (hb : Blk w g e cur) (hq : q = Nat.min sn dn)
    {B : Option Addr} {cs : List Value} (hr : RdC w B q s cs) (hfit : off + q * s ≤ cur.size) (h1 : ∀ v ∈ cs, v.oneCell' = true) :
    (Builtin.copy_ #[dT, sT] ty #[.slice (some ⟨g, off, none⟩) dn dc, .slice B sn sc]).run P w = .ok (goInt q) (w.setRow g (splice cur off cs)) := by
  obtain ⟨i, hii, hss⟩ := Option.map_eq_some_iff.1 hs
  have hst := run_storeCells_at P g off e cs 0 cur w hb (by rw [hr.1]; omega) h1
  simp only [Nat.add_zero] at hst
  have hf : (Builtin.firstCells i.size q (.slice B sn sc)).run P w = .ok cs.toArray w := by
    rcases Nat.eq_zero_or_pos q with h0 | h0
    · have : cs = [] := List.eq_nil_of_length_eq_zero (by rw [hr.1, h0, Nat.zero_mul])
      subst this
      cases B with
      | none => exact run_firstCells_none _ _ _ _ _
      | some b => exact run_firstCells_some (P := P) w i.size q b sn sc [] (by rw [h0]; simp) (fun j v hj => by simp at hj)
    · obtain ⟨gb, ob, rfl, hcb⟩ := hr.2 h0
      refine run_firstCells_some (P := P) w i.size q _ sn sc cs (by rw [hr.1, hss]) (fun j u hu => ?_)
      have hadd : (⟨gb, ob, none⟩ : Addr).add j = ⟨gb, ob + j, none⟩ := by unfold Addr.add; split <;> simp_all
      rw [hadd]; exact hcb j u hu
  subst hq
  simp [Builtin.copy_, run_underlying hu, sizeOf, typeInfo, hii, Builtin.lenOf, hf, hst, splice]
/-! ## append of noughts, where there is no room -/
theorem run_append_noughts (t tn ty : TypeId) (z : Value) (bytes : Nat) (ht : P.underlying t = some (.slice e)) (htn : P.underlying tn = some (.int .i64))
    (hi : (P.info? e).map (fun i => (i.zero, i.size, i.bytes)) = some (some z, s, bytes)) (hzs : z.cells.size = s) (hs0 : 0 < s)
    (h : Hold w e s A n c xs) {k : Nat} (hk : 0 < k) (hroom : c < n + k) (hbytes : (n + k) * bytes ≤ 140737488355328) (h63 : n + k ≤ 140737488355328) :
    ∃ c' cur w', (Builtin.append_ #[t, tn] ty #[.slice A n c, .int .i64 (k : Int)]).run P w = .ok (.slice (some ⟨w.heap.size, 0, none⟩) (n + k) c') w' ∧ Blk w' w.heap.size e cur ∧ n + k ≤ c' ∧ c' ≤ maxLen ∧ c' * s ≤ cur.size ∧ cur.toList.take (n * s) = xs ∧ Mod Nn w w' := by
  obtain ⟨i, hii, hz, hss, hby⟩ := info_parts hi
  subst hss; subst hby
  have h63' : n + k ≤ maxLen := by simp only [maxLen]; omega
  have hold : (Builtin.firstCells i.size n (.slice A n c)).run P w.drew = .ok xs.toArray w.drew := by
    rcases h.2 with ⟨rfl, rfl, rfl⟩ | ⟨g, cur, rfl, hb, _, _, _, htk⟩
    · have hx : xs = [] := List.eq_nil_of_length_eq_zero (by have := h.1; omega)
      subst hx
      exact run_firstCells_none _ _ _ _ _
    · refine run_firstCells_some (P := P) w.drew i.size n _ n c xs h.1 (fun j u hu => ?_)
      have hadd : (⟨g, 0, none⟩ : Addr).add j = ⟨g, j, none⟩ := by unfold Addr.add; split <;> simp_all
      rw [hadd, hb.drew.cell j]
      rw [← htk, List.getElem?_take] at hu
      split at hu
      · simpa using hu
      · cases hu
  have hkb : k * i.bytes ≤ (n + k) * i.bytes := Nat.mul_le_mul_right _ (by omega)
  have hr' := Go.Lib.run_append_grow_zeros (P := P) w t tn ty e i z .i64 .i64 ht htn hii hz A n c xs hold k hk hs0 hroom (by omega) (by omega) (growslice_fits (by omega) hbytes)
  have hge := grownCap_ge w (n + k) c e
  refine ⟨_, _, _, hr', heap_alloc_new w.drew _, hge, grownCap_le_maxLen w (n + k) c e h63', ?_, ?_, ((Mod.refl _ w).drew).alloc _⟩
  · simp only [Array.size_append, List.size_toArray, size_zeroCells, hzs, h.1, ← Nat.add_mul]
    exact Nat.le_of_eq (by congr 1; omega)
  · simp only [Array.toList_append, List.append_assoc]
    rw [← h.1]
    exact List.take_left
/-! ## clear -/
theorem run_clear_blk (t ty : TypeId) (z : Value) (ht : P.underlying t = some (.slice e)) (hi : (P.info? e).map (fun i => (i.zero, i.size)) = some (some z, s)) (hzs : z.cells.size = s) (hz1 : z.cells.all (·.oneCell') = true)
    {g off m d : Nat} {cur : Array Value} (hb : Blk w g e cur) (hm : 0 < m) (hfit : off + m * s ≤ cur.size) :
    ∃ cur', (Builtin.clear_ #[t] ty #[.slice (some ⟨g, off, none⟩) m d]).run P w = .ok (.tuple #[]) (w.setRow g cur') ∧ cur'.size = cur.size ∧ cur'.toList.take off = cur.toList.take off := by
  obtain ⟨i, hii, h⟩ := Option.map_eq_some_iff.1 hi
  simp only [Prod.mk.injEq] at h
  obtain ⟨hz, hss⟩ := h
  have hlen : (Builtin.zeroCells z.cells m).toList.length = m * s := by rw [Array.length_toList, size_zeroCells, hzs]
  have hone : ∀ v ∈ (Builtin.zeroCells z.cells m).toList, v.oneCell' = true := fun v hv => by
    obtain ⟨k, hk, rfl⟩ := List.getElem_of_mem hv
    have hk' : k < m * z.cells.size := by rw [hzs]; rw [hlen] at hk; exact hk
    have hs0 : 0 < z.cells.size := by
      rcases Nat.eq_zero_or_pos z.cells.size with h0 | h0
      · rw [h0, Nat.mul_zero] at hk'; omega
      · exact h0
    have hmod : k % z.cells.size < z.cells.size := Nat.mod_lt _ hs0
    simp only [Builtin.zeroCells, Array.getElem_toList, Array.getElem_map, Array.getElem_range]
    rw [getElem!_pos z.cells (k % z.cells.size) hmod]
    exact (Array.all_eq_true.1 hz1) _ hmod
  have hst := run_storeCells_at P g off e (Builtin.zeroCells z.cells m).toList 0 cur w hb (by rw [hlen]; omega) hone
  simp only [Nat.add_zero] at hst
  refine ⟨(cur.toList.take off ++ (Builtin.zeroCells z.cells m).toList ++ cur.toList.drop (off + (Builtin.zeroCells z.cells m).toList.length)).toArray, ?_, ?_, ?_⟩
  · have hm' : m ≠ 0 := by omega
    obtain ⟨m', rfl⟩ : ∃ m', m = m' + 1 := ⟨m - 1, by omega⟩
    simp [Builtin.clear_, run_underlying ht, zeroValue, typeInfo, hii, hz, hst]
  · simp only [List.size_toArray, List.length_append, List.length_take, List.length_drop, Array.length_toList, hlen]
    have : (Builtin.zeroCells z.cells m).size = m * s := by rw [size_zeroCells, hzs]
    omega
  · rw [List.toList_toArray, List.append_assoc, List.take_append_of_le_length (by rw [List.length_take, Array.length_toList]; omega), List.take_take, Nat.min_self]
end
end Go.Proofs.YtijmkbhbpbkkoaaGreat

/- Kit28's laws at the operation; what an insertion leaves. No program is named. -/
namespace Go.Proofs.YtijmkbhbpbkkoaaGreat
open Go.RowKit

theorem subA_some {g o c l s : Nat} (h : c ≠ l) : subA (some ⟨g, o, none⟩) c l s = some ⟨g, o + l * s, none⟩ := by
  unfold subA
  rw [if_neg h]
  simp [Addr.add]
section
variable {n s i : Nat} {xs ys : List Value} {cur : Array Value}
/-- first what is put in, then what stands behind it -/
theorem ins_a (hx : xs.length = n * s) (hy : ys.length = s) (hi : i ≤ n) (hc : (n + 1) * s ≤ cur.size) (ht : cur.toList.take (i * s) = xs.take (i * s)) :
    (splice (splice cur (i * s) ys) ((i + 1) * s) (xs.drop (i * s))).size = cur.size ∧ (splice (splice cur (i * s) ys) ((i + 1) * s) (xs.drop (i * s))).toList.take ((n + 1) * s) = xs.take (i * s) ++ ys ++ xs.drop (i * s) := by
  have hin : i * s ≤ n * s := Nat.mul_le_mul_right _ hi
  rw [Nat.add_mul, Nat.one_mul] at hc ⊢
  rw [Nat.add_mul, Nat.one_mul]
  have h1 : i * s + ys.length ≤ cur.size := by omega
  have s1 := splice_size h1
  have hd : (xs.drop (i * s)).length = n * s - i * s := by rw [List.length_drop, hx]
  have h2 : i * s + s + (xs.drop (i * s)).length ≤ (splice cur (i * s) ys).size := by rw [s1, hd]; omega
  refine ⟨(splice_size h2).trans s1, ?_⟩
  apply List.ext_getElem?
  intro k
  have htk : (xs.take (i * s)).length = i * s := by rw [List.length_take, hx]; omega
  by_cases hk : k < n * s + s
  · rw [List.getElem?_take_of_lt hk, splice_at h2, splice_at h1]
    by_cases k1 : k < i * s
    · rw [if_neg (by omega), if_neg (by omega), List.append_assoc, List.getElem?_append_left (by omega), ← ht, List.getElem?_take_of_lt k1]
    · by_cases k2 : k < i * s + s
      · rw [if_neg (by omega), if_pos ⟨by omega, by omega⟩, List.append_assoc, List.getElem?_append_right (by omega), htk, List.getElem?_append_left (by omega)]
      · rw [if_pos ⟨by omega, by omega⟩, List.getElem?_append_right (by rw [List.length_append, htk]; omega), List.length_append, htk, hy]
  · rw [List.getElem?_eq_none (by rw [List.length_take]; omega), List.getElem?_eq_none (by rw [List.length_append, List.length_append, htk, hd]; omega)]
/-- first what stands behind, then what is put in -/
theorem ins_b (hx : xs.length = n * s) (hy : ys.length = s) (hi : i ≤ n) (hc : (n + 1) * s ≤ cur.size) (ht : cur.toList.take (i * s) = xs.take (i * s)) :
    (splice (splice cur ((i + 1) * s) (xs.drop (i * s))) (i * s) ys).size = cur.size ∧ (splice (splice cur ((i + 1) * s) (xs.drop (i * s))) (i * s) ys).toList.take ((n + 1) * s) = xs.take (i * s) ++ ys ++ xs.drop (i * s) := by
  have hin : i * s ≤ n * s := Nat.mul_le_mul_right _ hi
  rw [Nat.add_mul, Nat.one_mul] at hc ⊢
  rw [Nat.add_mul, Nat.one_mul]
  have hd : (xs.drop (i * s)).length = n * s - i * s := by rw [List.length_drop, hx]
  have h1 : i * s + s + (xs.drop (i * s)).length ≤ cur.size := by omega
  have s1 := splice_size h1
  have h2 : i * s + ys.length ≤ (splice cur (i * s + s) (xs.drop (i * s))).size := by rw [s1]; omega
  refine ⟨(splice_size h2).trans s1, ?_⟩
  apply List.ext_getElem?
  intro k
  have htk : (xs.take (i * s)).length = i * s := by rw [List.length_take, hx]; omega
  by_cases hk : k < n * s + s
  · rw [List.getElem?_take_of_lt hk, splice_at h2, splice_at h1]
    by_cases k1 : k < i * s
    · rw [if_neg (by omega), if_neg (by omega), List.append_assoc, List.getElem?_append_left (by omega), ← ht, List.getElem?_take_of_lt k1]
    · by_cases k2 : k < i * s + s
      · rw [if_pos ⟨by omega, by omega⟩, List.append_assoc, List.getElem?_append_right (by omega), htk, List.getElem?_append_left (by omega)]
      · rw [if_neg (by omega), if_pos ⟨by omega, by omega⟩, List.getElem?_append_right (by rw [List.length_append, htk]; omega), List.length_append, htk, hy]
  · rw [List.getElem?_eq_none (by rw [List.length_take]; omega), List.getElem?_eq_none (by rw [List.length_append, List.length_append, htk, hd]; omega)]
end
section
variable {P : Program} {w w' : World} {e : TypeId} {n c : Nat} {A : Option Addr} {xs : List Value} {o : Oper} {a : Act} {k : Nat}
theorem exec_append_hold (s : Nat) (t : TypeId) (sl x : Operand) (ho : o.op = .call { callee := .builtin .append, args := #[sl, x], argTypes := #[t, t] }) (z : Value) (bytes : Nat) (ht : P.underlying t = some (.slice e))
    (hi : (P.info? e).map (fun i => (i.zero, i.size, i.bytes)) = some (some z, s, bytes)) (hzs : z.cells.size = s) (hs0 : 0 < s)
    (hsl : a.eval sl = .slice A n c) (h : Hold w e s A n c xs) {B : Option Addr} {m d : Nat} {news : List Value} (hx : a.eval x = .slice B m d) (hr : RdC w B m s news) (h1 : ∀ u ∈ news, u.oneCell' = true)
    (hbytes : (n + m) * bytes ≤ 140737488355328) (h63 : n + m ≤ 140737488355328) :
    ∃ A' c' w', (execOp a.eval o).run P w = .ok (.value (.slice A' (n + m) c')) w' ∧ Hold w' e s A' (n + m) c' (xs ++ news) ∧ Mod (Of A) w w' ∧ (∀ g, Of A' g → Of A g ∨ w.heap.size ≤ g) := by
  obtain ⟨A', c', w', r, r1, r2, r3⟩ := run_append_hold (P := P) t o.type z bytes ht hi hzs hs0 h (d := d) hr h1 hbytes h63
  exact ⟨A', c', w', by simp [execOp, ho, resolve, invoke, builtin, hsl, hx, r, Result.andThen], r1, r2, r3⟩
theorem exec_copy_blk (s : Nat) (t u : TypeId) (x y : Operand) (ho : o.op = .call { callee := .builtin .copy, args := #[x, y], argTypes := #[t, u] }) (hu : P.underlying t = some (.slice e)) (hs : (P.info? e).map (·.size) = some s)
    {g off dn dc sn sc : Nat} (q : Nat) {cur : Array Value} {B : Option Addr} {cs : List Value} (hx : a.eval x = .slice (some ⟨g, off, none⟩) dn dc) (hy : a.eval y = .slice B sn sc) (hb : Blk w g e cur) (hq : q = Nat.min sn dn)
    (hr : RdC w B q s cs) (hfit : off + q * s ≤ cur.size) (h1 : ∀ v ∈ cs, v.oneCell' = true) :
    (execOp a.eval o).run P w = .ok (.value (.int .i64 q)) (w.setRow g (splice cur off cs)) := by
  have r := run_copy_blk (P := P) t u o.type hu hs (dc := dc) (sc := sc) hb hq hr hfit h1
  simp [execOp, ho, resolve, invoke, builtin, hx, hy, r, Result.andThen, goInt]
theorem exec_append_noughts (s : Nat) (t tn : TypeId) (sl x : Operand) (ho : o.op = .call { callee := .builtin .append, args := #[sl, x], argTypes := #[t, tn] }) (z : Value) (bytes : Nat) (ht : P.underlying t = some (.slice e)) (htn : P.underlying tn = some (.int .i64))
    (hi : (P.info? e).map (fun i => (i.zero, i.size, i.bytes)) = some (some z, s, bytes)) (hzs : z.cells.size = s) (hs0 : 0 < s)
    (hsl : a.eval sl = .slice A n c) (h : Hold w e s A n c xs) (k : Nat) (hx : a.eval x = .int .i64 (k : Int)) (hk : 0 < k) (hroom : c < n + k) (hbytes : (n + k) * bytes ≤ 140737488355328) (h63 : n + k ≤ 140737488355328) :
    ∃ c' cur w', (execOp a.eval o).run P w = .ok (.value (.slice (some ⟨w.heap.size, 0, none⟩) (n + k) c')) w' ∧ Blk w' w.heap.size e cur ∧ n + k ≤ c' ∧ c' ≤ maxLen ∧ c' * s ≤ cur.size ∧ cur.toList.take (n * s) = xs ∧ Mod Nn w w' := by
  obtain ⟨c', cur, w', r, r1⟩ := run_append_noughts (P := P) t tn o.type z bytes ht htn hi hzs hs0 h hk hroom hbytes h63
  exact ⟨c', cur, w', by simp [execOp, ho, resolve, invoke, builtin, hsl, hx, r, Result.andThen], r1⟩
theorem exec_clear_blk (s : Nat) (t : TypeId) (x : Operand) (ho : o.op = .call { callee := .builtin .clear, args := #[x], argTypes := #[t] }) (z : Value) (ht : P.underlying t = some (.slice e)) (hi : (P.info? e).map (fun i => (i.zero, i.size)) = some (some z, s)) (hzs : z.cells.size = s) (hz1 : z.cells.all (·.oneCell') = true)
    {g off m d : Nat} {cur : Array Value} (hx : a.eval x = .slice (some ⟨g, off, none⟩) m d) (hb : Blk w g e cur) (hm : 0 < m) (hfit : off + m * s ≤ cur.size) :
    ∃ cur', (execOp a.eval o).run P w = .ok (.value (.tuple #[])) (w.setRow g cur') ∧ cur'.size = cur.size ∧ cur'.toList.take off = cur.toList.take off := by
  obtain ⟨cur', r, r1⟩ := run_clear_blk (P := P) t o.type z ht hi hzs hz1 (d := d) hb hm hfit
  exact ⟨cur', by simp [execOp, ho, resolve, invoke, builtin, hx, r, Result.andThen], r1⟩
/-- a slice cut by three indexes, from the beginning -/
theorem exec_sub_hm (s : Nat) (t : TypeId) (x hi mx : Operand) (ho : o.op = .slice t x none (some hi) (some mx)) (ht : P.underlying t = some (.slice e)) (hi' : (P.info? e).map (·.size) = some s)
    (hx : a.eval x = .slice A n c) (hh : a.eval hi = .int .i64 (k : Int)) (hm : a.eval mx = .int .i64 (k : Int)) (h2 : k ≤ c) :
    (execOp a.eval o).run P w = .ok (.value (.slice A k k)) w := by
  have he : P.elem t = e := by simp [Program.elem, ht]
  have ht' : P.underlying t = some (.slice (P.elem t)) := by rw [he]; exact ht
  obtain ⟨i, hii, hs⟩ := Option.map_eq_some_iff.1 hi'
  have h0 : A.map (fun x => x.add 0) = A := by
    cases A with
    | none => rfl
    | some a => simp [Addr.add]
  simp only [execOp, ho, Option.map, hx, hh, hm]
  simp [run_sliceAt_slice w t _ _ _ _ ht', run_slice_hm w t A n c ht' .i64 .i64 (k : Int) (k : Int) (by omega) (by omega) (by omega), he, sizeOf, typeInfo, hii, hs, Result.andThen, sliced, h0]
end
end Go.Proofs.YtijmkbhbpbkkoaaGreat

/- Kit29's laws in the walk. No program is named. -/
namespace Go.Proofs.YtijmkbhbpbkkoaaGreat
open Go.RowKit

section
variable {P : Program} {w w' : World} {e : TypeId} {n c : Nat} {A : Option Addr} {xs : List Value} {o : Oper} {a : Act} {k : Nat} {ops : Array Oper} {rest : List Oper} {Q : Exit → Act → World → Prop}
theorem wpList_append_hold (s : Nat) (t : TypeId) (sl x : Operand) (hg : Region.wanted o (yielded ops a.tmps) = true) (ho : o.op = .call { callee := .builtin .append, args := #[sl, x], argTypes := #[t, t] }) (z : Value) (bytes : Nat) (ht : P.underlying t = some (.slice e))
    (hi : (P.info? e).map (fun i => (i.zero, i.size, i.bytes)) = some (some z, s, bytes)) (hzs : z.cells.size = s) (hs0 : 0 < s)
    (hsl : a.eval sl = .slice A n c) (h : Hold w e s A n c xs) {B : Option Addr} {m d : Nat} {news : List Value} (hx : a.eval x = .slice B m d) (hr : RdC w B m s news) (h1 : ∀ u ∈ news, u.oneCell' = true)
    (hbytes : (n + m) * bytes ≤ 140737488355328) (h63 : n + m ≤ 140737488355328)
    (hK : ∀ A' c' w', Hold w' e s A' (n + m) c' (xs ++ news) → Mod (Of A) w w' → (∀ g, Of A' g → Of A g ∨ w.heap.size ≤ g) → wpList P ops Q rest (a.put o.dst (.slice A' (n + m) c')) w') : wpList P ops Q (o :: rest) a w := by
  obtain ⟨A', c', w', r, r1, r2, r3⟩ := exec_append_hold (P := P) s t sl x ho z bytes ht hi hzs hs0 hsl h hx hr h1 hbytes h63
  exact wpList_val hg r (hK A' c' w' r1 r2 r3)
theorem wpList_append_noughts (s : Nat) (t tn : TypeId) (sl x : Operand) (hg : Region.wanted o (yielded ops a.tmps) = true) (ho : o.op = .call { callee := .builtin .append, args := #[sl, x], argTypes := #[t, tn] }) (z : Value) (bytes : Nat) (ht : P.underlying t = some (.slice e)) (htn : P.underlying tn = some (.int .i64))
    (hi : (P.info? e).map (fun i => (i.zero, i.size, i.bytes)) = some (some z, s, bytes)) (hzs : z.cells.size = s) (hs0 : 0 < s)
    (hsl : a.eval sl = .slice A n c) (h : Hold w e s A n c xs) (k : Nat) (hx : a.eval x = .int .i64 (k : Int)) (hk : 0 < k) (hroom : c < n + k) (hbytes : (n + k) * bytes ≤ 140737488355328) (h63 : n + k ≤ 140737488355328)
    (hK : ∀ c' cur w', Blk w' w.heap.size e cur → n + k ≤ c' → c' ≤ maxLen → c' * s ≤ cur.size → cur.toList.take (n * s) = xs → Mod Nn w w' → wpList P ops Q rest (a.put o.dst (.slice (some ⟨w.heap.size, 0, none⟩) (n + k) c')) w') : wpList P ops Q (o :: rest) a w := by
  obtain ⟨c', cur, w', r, r1, r2, r3, r4, r5, r6⟩ := exec_append_noughts (P := P) s t tn sl x ho z bytes ht htn hi hzs hs0 hsl h k hx hk hroom hbytes h63
  exact wpList_val hg r (hK c' cur w' r1 r2 r3 r4 r5 r6)
theorem exec_bslice0 (t e : TypeId) {s : Nat} (ho : o.op = .buildSlice t 0 #[]) (hu : P.underlying t = some (.slice e)) (hi : (P.info? e).map (·.size) = some s) :
    (execOp a.eval o).run P w = .ok (.value (.slice (some ⟨w.heap.size, 0, none⟩) 0 0)) (w.alloc (.cells #[] e)) := by
  obtain ⟨i, hii, hs⟩ := Option.map_eq_some_iff.1 hi
  have hr : Array.range 0 = #[] := by decide
  simp [execOp, ho, Instr.buildSlice, run_underlying hu, sizeOf, typeInfo, hii, Instr.fill, newRow, Result.andThen, hr]
/-- append where there is room: in place -/
theorem exec_append_room (s : Nat) (t : TypeId) (sl x : Operand) (ho : o.op = .call { callee := .builtin .append, args := #[sl, x], argTypes := #[t, t] }) (ht : P.underlying t = some (.slice e)) (hi : (P.info? e).map (·.size) = some s)
    (hsl : a.eval sl = .slice A n c) (h : Hold w e s A n c xs) {B : Option Addr} {m d : Nat} {news : List Value} (hx : a.eval x = .slice B m d) (hr : RdC w B m s news) (h1 : ∀ u ∈ news, u.oneCell' = true) (hroom : n + m ≤ c) (hA : ∃ g, A = some ⟨g, 0, none⟩) :
    ∃ w', (execOp a.eval o).run P w = .ok (.value (.slice A (n + m) c)) w' ∧ Hold w' e s A (n + m) c (xs ++ news) ∧ Mod (Of A) w w' := by
  obtain ⟨g, rfl⟩ := hA
  obtain ⟨i, hii, hss⟩ := Option.map_eq_some_iff.1 hi
  obtain ⟨cur, hb, hnc, hcm, hcs, htk⟩ : ∃ cur, Blk w g e cur ∧ n ≤ c ∧ c ≤ maxLen ∧ c * s ≤ cur.size ∧ cur.toList.take (n * s) = xs := by
    rcases h.2 with ⟨h0, _⟩ | ⟨g', cur, e', hb', r1, r2, r3, r4⟩
    · cases h0
    · injection e' with e'; injection e' with e'; subst e'; exact ⟨cur, hb', r1, r2, r3, r4⟩
  have hlen : (xs ++ news).length = (n + m) * s := by rw [List.length_append, h.1, hr.1, Nat.add_mul]
  rcases Nat.eq_zero_or_pos m with rfl | hm0
  · have hn : news = [] := List.eq_nil_of_length_eq_zero (by have := hr.1; omega)
    subst hn
    refine ⟨w, ?_, by simpa using h, Mod.refl _ _⟩
    have hf : (Builtin.firstCells i.size 0 (.slice B 0 d)).run P w = .ok #[] w := by
      cases B with
      | none => exact run_firstCells_none _ _ _ _ _
      | some b => simpa using run_firstCells_some (P := P) w i.size 0 b 0 d [] (by simp) (fun j v hj => by simp at hj)
    simp [execOp, ho, resolve, invoke, builtin, hsl, hx, Builtin.append_, run_underlying ht, sizeOf, typeInfo, hii, Builtin.lenOf, hf, hnc, storeCells, Result.andThen]
  · obtain ⟨gb, off, rfl, hcb⟩ := hr.2 hm0
    have hcells : ∀ j u, news[j]? = some u → w.cell? ((⟨gb, off, none⟩ : Addr).add j) = some u := fun j u hu => by
      have hadd : (⟨gb, off, none⟩ : Addr).add j = ⟨gb, off + j, none⟩ := by unfold Addr.add; split <;> simp_all
      rw [hadd]; exact hcb j u hu
    have hfit : n * i.size + news.length ≤ cur.size := by
      rw [hss, hr.1, ← Nat.add_mul]
      exact Nat.le_trans (Nat.mul_le_mul_right _ hroom) hcs
    have hr' := run_append_room (P := P) w t o.type e i ht hii g n c cur hb ⟨gb, off, none⟩ m d news (by rw [hr.1, hss]) hcells h1 hroom hfit
    refine ⟨_, by simp [execOp, ho, resolve, invoke, builtin, hsl, hx, hr', Result.andThen]; rfl, ⟨hlen, .inr ⟨g, _, rfl, hb.setRow_ _, hroom, hcm, ?_, ?_⟩⟩, (Mod.refl _ w).setRow (.inr ⟨_, rfl, rfl⟩) _⟩
    · simp only [List.size_toArray, List.length_append, List.length_take, List.length_drop, Array.length_toList]
      omega
    · rw [hss, htk, ← hlen]
      simp only [List.append_assoc]
      rw [← List.append_assoc]
      exact List.take_left
theorem exec_sub_lhm (s : Nat) (t : TypeId) (x lo hi mx : Operand) (ho : o.op = .slice t x (some lo) (some hi) (some mx)) (ht : P.underlying t = some (.slice e)) (hi' : (P.info? e).map (·.size) = some s)
    {l k m : Nat} (hx : a.eval x = .slice A n c) (hl : a.eval lo = .int .i64 (l : Int)) (hh : a.eval hi = .int .i64 (k : Int)) (hm : a.eval mx = .int .i64 (m : Int)) (h1 : l ≤ k) (h2 : k ≤ m) (h3 : m ≤ c) :
    (execOp a.eval o).run P w = .ok (.value (.slice (subA A m l s) (k - l) (m - l))) w := by
  have he : P.elem t = e := by simp [Program.elem, ht]
  have ht' : P.underlying t = some (.slice (P.elem t)) := by rw [he]; exact ht
  obtain ⟨i, hii, hs⟩ := Option.map_eq_some_iff.1 hi'
  simp only [execOp, ho, Option.map, hx, hl, hh, hm]
  simp [run_sliceAt_slice w t _ _ _ _ ht', run_slice_lhm w t A n c ht' .i64 .i64 .i64 (l : Int) (k : Int) (m : Int) (by omega) (by omega) (by omega) (by omega), he, sizeOf, typeInfo, hii, hs, Result.andThen, sliced, subA]
theorem exec_sub_hA (s : Nat) (t : TypeId) (x hi : Operand) (ho : o.op = .slice t x none (some hi) none) (ht : P.underlying t = some (.slice e)) (hi' : (P.info? e).map (·.size) = some s)
    (hx : a.eval x = .slice A n c) (hh : a.eval hi = .int .i64 (k : Int)) (h2 : k ≤ c) : (execOp a.eval o).run P w = .ok (.value (.slice A k c)) w := by
  have := exec_sub_h (P := P) (w := w) t x hi ho e s ht hi' hx hh h2
  rwa [subA_zero] at this
theorem exec_sub_lA (s : Nat) (t : TypeId) (x lo : Operand) (ho : o.op = .slice t x (some lo) none none) (ht : P.underlying t = some (.slice e)) (hi' : (P.info? e).map (·.size) = some s) {g off : Nat}
    (hx : a.eval x = .slice (some ⟨g, off, none⟩) n c) (hl : a.eval lo = .int .i64 (k : Int)) (h1 : k ≤ n) (hne : c ≠ k) : (execOp a.eval o).run P w = .ok (.value (.slice (some ⟨g, off + k * s, none⟩) (n - k) (c - k))) w := by
  have := exec_sub_l (P := P) (w := w) t x lo ho e s ht hi' hx hl h1
  rwa [subA_some hne] at this
theorem subA_at {g c l s : Nat} (h : c ≠ l) : subA (some ⟨g, 0, none⟩) c l s = some ⟨g, l * s, none⟩ := by rw [subA_some h, Nat.zero_add]
theorem exec_sub_lZ (s : Nat) (t : TypeId) (x lo : Operand) (ho : o.op = .slice t x (some lo) none none) (ht : P.underlying t = some (.slice e)) (hi' : (P.info? e).map (·.size) = some s) {g q d : Nat}
    (hx : a.eval x = .slice (some ⟨g, 0, none⟩) n c) (hl : a.eval lo = .int .i64 (k : Int)) (h1 : k ≤ n) (hne : c ≠ k) (hq : n - k = q) (hd : c - k = d) : (execOp a.eval o).run P w = .ok (.value (.slice (some ⟨g, k * s, none⟩) q d)) w := by
  have := exec_sub_l (P := P) (w := w) t x lo ho e s ht hi' hx hl h1
  rwa [subA_at hne, hq, hd] at this
theorem run_eql_nil (w : World) (t : TypeId) (A : Option Addr) (n c : Nat) (ht : P.underlying t = some (.slice e)) : (binOp .eql t (.slice A n c) (.slice none 0 0)).run P w = .ok (.bool A.isNone) w := by
  simp only [binOp]
  simp [run_equal_slice_nil (P := P) w t e A n c ht]
theorem pc_append_room {S : World → Prop} {ps : List (Nat × Bool)} {j : Nat} (s : Nat) (t : TypeId) (sl x : Operand) (hj : ops[j]? = some o) (hg : Region.wanted o (yielded ops a.tmps) = true) (ho : o.op = .call { callee := .builtin .append, args := #[sl, x], argTypes := #[t, t] }) (ht : P.underlying t = some (.slice e)) (hi : (P.info? e).map (·.size) = some s)
    (hsl : a.eval sl = .slice A n c) (h : Hold w e s A n c xs) {B : Option Addr} {m d : Nat} {news : List Value} (hx : a.eval x = .slice B m d) (hr : RdC w B m s news) (h1 : ∀ u ∈ news, u.oneCell' = true) (hroom : n + m ≤ c) (hA : ∃ g, A = some ⟨g, 0, none⟩)
    (hK : ∀ w', Hold w' e s A (n + m) c (xs ++ news) → Mod (Of A) w w' → S w' ∧ ∀ K : Act → Prop, (∀ a', wpPlC P ops Q S ps a' w' → K a') → K (a.put o.dst (.slice A (n + m) c))) : wpPlC P ops Q S ((j, false) :: ps) a w := by
  obtain ⟨w', r, r1, r2⟩ := exec_append_room (P := P) s t sl x ho ht hi hsl h hx hr h1 hroom hA
  obtain ⟨h3, h4⟩ := hK w' r1 r2
  exact ⟨o, hj, .inl ⟨hg, by unfold Oper.wp; rw [r]; exact ⟨h3, h4 (fun a' => wpPlC P ops Q S ps a' w') (fun _ h => h)⟩⟩⟩
theorem wpList_clear_blk (s : Nat) (t : TypeId) (x : Operand) (hgd : Region.wanted o (yielded ops a.tmps) = true) (ho : o.op = .call { callee := .builtin .clear, args := #[x], argTypes := #[t] }) (z : Value) (ht : P.underlying t = some (.slice e)) (hi : (P.info? e).map (fun i => (i.zero, i.size)) = some (some z, s)) (hzs : z.cells.size = s) (hz1 : z.cells.all (·.oneCell') = true)
    {g off m d : Nat} {cur : Array Value} (hx : a.eval x = .slice (some ⟨g, off, none⟩) m d) (hb : Blk w g e cur) (hm : 0 < m) (hfit : off + m * s ≤ cur.size)
    (hK : ∀ cur', cur'.size = cur.size → cur'.toList.take off = cur.toList.take off → wpList P ops Q rest (a.put o.dst (.tuple #[])) (w.setRow g cur')) : wpList P ops Q (o :: rest) a w := by
  obtain ⟨cur', r, r1, r2⟩ := exec_clear_blk (P := P) s t x ho z ht hi hzs hz1 hx hb hm hfit
  exact wpList_val hgd r (hK cur' r1 r2)
theorem sizeOf_run {s : Nat} (h : (P.info? e).map (·.size) = some s) (w : World) : (sizeOf e).run P w = .ok s w := by
  obtain ⟨i, hii, hs⟩ := Option.map_eq_some_iff.1 h
  simp [sizeOf, typeInfo, hii, hs]
theorem shape_blk {g : Nat} {cs : Array Value} (h : Blk w g e cs) : w.shape? g = some (e, cs.size) := by
  unfold Blk at h
  simp [World.shape?, h]
end
end Go.Proofs.YtijmkbhbpbkkoaaGreat
