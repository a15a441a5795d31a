/- A region that draws its order, by an invariant: whatever the order, each operation's value has what is said of it. Kept apart by the block that each value owns. No program is named. -/
import Derived.Test.YtodnhbiomooknaaGreatKitB
namespace Go.Proofs.YtodnhbiomooknaaGreat
open Go.RowKit

/-- the block that a value leads to -/
def _root_.Go.Value.vBlk : Value → Option Nat
  | .slice (some a) _ _ => some a.block
  | .pointer (some a) => some a.block
  | _ => none
section
variable {P : Program} {ops : Array Oper} {Q : Exit → Act → World → Prop} {md : Region.Mode}
def dstOf (ops : Array Oper) (k : Nat) : Option Tmp := (ops[k]?).bind (·.dst)
/-- what an act holds for operation k -/
def opVal (ops : Array Oper) (a : Act) (k : Nat) : Value := match dstOf ops k with | some d => a.tmps.getD d undef | none => undef
/-- what is said: R k of operation k's value; k eats j: it may change what j's value owns -/
structure Said where
  R : Nat → Value → World → Prop
  eats : Nat → Option Nat
  owner : Nat → Bool
/-- the region's form: every operation has a slot of its own and no guard, waits for what stands ahead of it, and for each that it reads, which no other eats -/
def formB (md : Region.Mode) (ops : Array Oper) (m : Nat) (eats : Nat → Option Nat) (owner : Nat → Bool) : Bool :=
  decide (m ≤ ops.size) && ((List.range ops.size).all fun i => decide (i < m) || (List.range m).all (fun k => waits md ops k ops.size i)) && (List.range m).all fun k => match ops[k]? with
    | none => false
    | some o => o.guard.isNone && o.dst.isSome && o.after.all (fun e => decide (e.on < k)) &&
      (List.range m).all (fun j => j == k || dstOf ops j != o.dst) &&
      (List.range m).all (fun j => match dstOf ops j with
        | none => true
        | some t => !((o.looksAt ops).contains t) || (o.after.any (fun e => Region.binds md e && e.on == j) && (List.range m).all (fun k' => k' == k || eats k' != some j))) &&
      (match eats k with
        | none => true
        | some j => owner j && decide (j < m) && o.after.any (fun e => Region.binds md e && e.on == j) && (List.range m).all (fun k' => k' == k || eats k' != some j))
structure Inv (md : Region.Mode) (ops : Array Oper) (m : Nat) (D : Said) (a0 : Act) (w0 : World) (L : Array Bool) (a : Act) (w : World) : Prop where
  defers : a.defers = a0.defers
  size : a.tmps.size = a0.tmps.size
  rest : ∀ t, (∀ k, L.getD k false = true → dstOf ops k ≠ some t) → a.tmps[t]? = a0.tmps[t]?
  live : ∀ k, L.getD k false = true → (∀ k', L.getD k' false = true → D.eats k' ≠ some k) → D.R k (opVal ops a k) w
  apart : ∀ k k', k ≠ k' → L.getD k false = true → L.getD k' false = true → (∀ i, L.getD i false = true → D.eats i ≠ some k) → (∀ i, L.getD i false = true → D.eats i ≠ some k') → D.owner k = true → D.owner k' = true →
    ∀ g, (opVal ops a k).vBlk = some g → (opVal ops a k').vBlk ≠ some g
  fresh : ∀ k, L.getD k false = true → (∀ i, L.getD i false = true → D.eats i ≠ some k) → D.owner k = true → ∀ g, (opVal ops a k).vBlk = some g → w0.heap.size ≤ g ∧ g < w.heap.size
  mod : Mod Nn w0 w
  done : ∀ k, L.getD k false = true → k < m
  closed : Closed md ops L
/-- what operation o may lean on -/
structure Env (ops : Array Oper) (m : Nat) (D : Said) (a0 : Act) (w0 : World) (o : Oper) (a : Act) (w : World) : Prop where
  old : ∀ t, t ∈ o.looksAt ops → (∀ j, dstOf ops j ≠ some t) → a.eval (.tmp t) = a0.eval (.tmp t)
  got : ∀ j t, j < m → t ∈ o.looksAt ops → dstOf ops j = some t → D.R j (a.eval (.tmp t)) w
  mod : Mod Nn w0 w
  fresh : ∀ j t, j < m → t ∈ o.looksAt ops → dstOf ops j = some t → D.owner j = true → ∀ g, (a.eval (.tmp t)).vBlk = some g → w0.heap.size ≤ g ∧ g < w.heap.size
/-- the acts that the values make -/
def fillA (ops : Array Oper) (vs : Nat → Value) (a0 : Act) : List Nat → Act
  | [] => a0
  | k :: l => (fillA ops vs a0 l).put (dstOf ops k) (vs k)
theorem fillA_defers (vs : Nat → Value) (a0 : Act) : ∀ l, (fillA ops vs a0 l).defers = a0.defers
  | [] => rfl
  | k :: l => by
    have ih := fillA_defers vs a0 l
    show (Act.put (fillA ops vs a0 l) (dstOf ops k) (vs k)).defers = _
    unfold Act.put
    split <;> exact ih
theorem fillA_size (vs : Nat → Value) (a0 : Act) : ∀ l, (fillA ops vs a0 l).tmps.size = a0.tmps.size
  | [] => rfl
  | k :: l => by
    have ih := fillA_size vs a0 l
    show (Act.put (fillA ops vs a0 l) (dstOf ops k) (vs k)).tmps.size = _
    unfold Act.put
    split
    · simpa using ih
    · exact ih
theorem fillA_at (vs : Nat → Value) (a0 : Act) : ∀ (l : List Nat), (∀ i ∈ l, ∀ j ∈ l, i ≠ j → dstOf ops i ≠ none → dstOf ops i ≠ dstOf ops j) → l.Nodup → ∀ t, t < a0.tmps.size →
    (∀ k ∈ l, dstOf ops k = some t → (fillA ops vs a0 l).tmps[t]? = some (vs k)) ∧ ((∀ k ∈ l, dstOf ops k ≠ some t) → (fillA ops vs a0 l).tmps[t]? = a0.tmps[t]?)
  | [], _, _, t, _ => ⟨(fun k hk => by cases hk), (fun _ => rfl)⟩
  | k :: l, hd, hn, t, ht => by
    have ih := fillA_at vs a0 l (fun i hi j hj => hd i (List.mem_cons_of_mem _ hi) j (List.mem_cons_of_mem _ hj)) (List.nodup_cons.1 hn).2 t ht
    have hk : ∀ d, dstOf ops k = some d → (fillA ops vs a0 (k :: l)).tmps = (fillA ops vs a0 l).tmps.setIfInBounds d (vs k) := fun d h => by
      show (Act.put _ (dstOf ops k) (vs k)).tmps = _
      rw [h]; rfl
    have hk0 : dstOf ops k = none → (fillA ops vs a0 (k :: l)).tmps = (fillA ops vs a0 l).tmps := fun h => by
      show (Act.put _ (dstOf ops k) (vs k)).tmps = _
      rw [h]; rfl
    refine ⟨fun i hi h => ?_, fun h => ?_⟩
    · rcases List.mem_cons.1 hi with rfl | hi
      · rw [hk t h, Array.getElem?_setIfInBounds_self_of_lt (by rw [fillA_size]; exact ht)]
      · have hne : k ≠ i := fun e => (List.nodup_cons.1 hn).1 (e ▸ hi)
        cases hdk : dstOf ops k with
        | none => rw [hk0 hdk]; exact ih.1 i hi h
        | some d =>
          have : d ≠ t := fun e => hd k List.mem_cons_self i (List.mem_cons_of_mem _ hi) hne (by rw [hdk]; simp) (by rw [hdk, h, e])
          rw [hk d hdk, Array.getElem?_setIfInBounds_ne this]; exact ih.1 i hi h
    · have ih2 := ih.2 (fun i hi => h i (List.mem_cons_of_mem _ hi))
      cases hdk : dstOf ops k with
      | none => rw [hk0 hdk]; exact ih2
      | some d =>
        have : d ≠ t := fun e => h k List.mem_cons_self (by rw [hdk, e])
        rw [hk d hdk, Array.getElem?_setIfInBounds_ne this]; exact ih2

theorem put_tmps (a : Act) (o : Oper) {d : Tmp} (h : o.dst = some d) (v : Value) : (a.put o.dst v).tmps = a.tmps.setIfInBounds d v := by rw [h]; rfl
theorem opVal_put {a : Act} {o : Oper} {i k : Nat} {d : Tmp} (hi : dstOf ops i = some d) (ho : o.dst = some d) (v : Value) (hd : i ≠ k → dstOf ops k ≠ some d) (hb : d < a.tmps.size) :
    opVal ops (a.put o.dst v) k = if k = i then v else opVal ops a k := by
  unfold opVal
  rw [put_tmps a o ho]
  by_cases hk : k = i
  · subst hk
    rw [if_pos rfl, hi]
    simp [hb]
  · rw [if_neg hk]
    cases hk' : dstOf ops k with
    | none => rfl
    | some t =>
      have : d ≠ t := fun e => hd (fun e => hk e.symm) (by rw [hk', e])
      simp [Array.getD_eq_getD_getElem?, Array.getElem?_setIfInBounds_ne this]
theorem getD_false_set {L : Array Bool} {i k : Nat} (h : (L.setIfInBounds i true).getD k false = true) : k = i ∨ L.getD k false = true := by
  by_cases hk : i = k
  · exact .inl hk.symm
  · rw [getD_set_ne false hk] at h; exact .inr h
end

section
variable {P : Program} {ops : Array Oper} {Q : Exit → Act → World → Prop} {md : Region.Mode} {D : Said} {a0 : Act} {w0 : World} {m : Nat}
theorem form_at {eats : Nat → Option Nat} {owner : Nat → Bool} (hB : formB md ops m eats owner = true) {k : Nat} (hkm : k < m) {o : Oper} (hk : ops[k]? = some o) :
    o.guard = none ∧ (∃ d, o.dst = some d) ∧ (∀ e ∈ o.after, e.on < k) ∧ (∀ j, j < m → j ≠ k → dstOf ops j ≠ o.dst) ∧
    (∀ j t, j < m → dstOf ops j = some t → t ∈ o.looksAt ops → (∃ e ∈ o.after, Region.binds md e = true ∧ e.on = j) ∧ (∀ k', k' < m → k' ≠ k → eats k' ≠ some j)) ∧
    (∀ j, eats k = some j → owner j = true ∧ j < m ∧ (∃ e ∈ o.after, Region.binds md e = true ∧ e.on = j) ∧ (∀ k', k' < m → k' ≠ k → eats k' ≠ some j)) := by
  unfold formB at hB
  simp only [Bool.and_eq_true] at hB
  have h := List.all_eq_true.1 hB.2 k (List.mem_range.2 hkm)
  rw [hk] at h
  simp only [Bool.and_eq_true] at h
  obtain ⟨⟨⟨⟨⟨h1, h2⟩, h3⟩, h4⟩, h5⟩, h6⟩ := h
  refine ⟨Option.isNone_iff_eq_none.1 h1, Option.isSome_iff_exists.1 h2, fun e he => by simpa using (Array.all_eq_true'.1 h3) e he, fun j hj hne => ?_, fun j t hj hd ht => ?_, fun j hj => ?_⟩
  · have := List.all_eq_true.1 h4 j (List.mem_range.2 hj)
    simp only [Bool.or_eq_true, beq_iff_eq, bne_iff_ne] at this
    exact this.resolve_left hne
  · have := List.all_eq_true.1 h5 j (List.mem_range.2 hj)
    rw [hd] at this
    simp only [Bool.or_eq_true, Bool.not_eq_true', List.contains_eq_mem, decide_eq_false_iff_not, Bool.and_eq_true] at this
    have := this.resolve_left (fun h => h ht)
    obtain ⟨h7, h8⟩ := this
    simp only [Array.any_eq_true', Bool.and_eq_true, beq_iff_eq] at h7
    refine ⟨h7, fun k' hk' hne => ?_⟩
    have := List.all_eq_true.1 h8 k' (List.mem_range.2 hk')
    simp only [Bool.or_eq_true, beq_iff_eq, bne_iff_ne] at this
    exact this.resolve_left hne
  · rw [hj] at h6
    simp only [Bool.and_eq_true, decide_eq_true_eq] at h6
    obtain ⟨⟨⟨h7, h8⟩, h9⟩, h10⟩ := h6
    simp only [Array.any_eq_true', Bool.and_eq_true, beq_iff_eq] at h9
    refine ⟨h7, h8, h9, fun k' hk' hne => ?_⟩
    have := List.all_eq_true.1 h10 k' (List.mem_range.2 hk')
    simp only [Bool.or_eq_true, beq_iff_eq, bne_iff_ne] at this
    exact this.resolve_left hne

def undone (ops : Array Oper) (L : Array Bool) : Nat := (List.range ops.size).countP (fun k => !(L.getD k true))
theorem undone_set {L : Array Bool} {i : Nat} (hi : i < ops.size) (hL : L.getD i true = false) : undone ops (L.setIfInBounds i true) + 1 = undone ops L := by
  unfold undone
  have hiL : i < L.size := by
    rcases Nat.lt_or_ge i L.size with h | h
    · exact h
    · simp [Array.getElem?_eq_none h] at hL
  have key : ∀ n, i < n → (List.range n).countP (fun k => !((L.setIfInBounds i true).getD k true)) + 1 = (List.range n).countP (fun k => !(L.getD k true)) := by
    intro n
    have below : ∀ n, n ≤ i → (List.range n).countP (fun k => !((L.setIfInBounds i true).getD k true)) = (List.range n).countP (fun k => !(L.getD k true)) := fun n hn => by
      refine List.countP_congr fun k hk => ?_
      have : k < n := List.mem_range.1 hk
      rw [getD_set_ne true (by omega)]
    induction n with
    | zero => intro h; omega
    | succ n ih =>
      intro h
      rw [List.range_succ, List.countP_append, List.countP_append]
      by_cases hn : i < n
      · have := ih hn
        rw [List.countP_singleton, List.countP_singleton, getD_set_ne true (by omega)]
        omega
      · obtain rfl : i = n := by omega
        rw [below i (Nat.le_refl _), List.countP_singleton, List.countP_singleton, hL]
        simp [hiL]
  exact key _ hi
/-- the first m done -/
def doneL (n m : Nat) : Array Bool := ((List.range n).map (fun k => decide (k < m))).toArray
theorem ready_some {L : Array Bool} (hs : L.size = ops.size) (hm : m ≤ ops.size) (hB : ∀ (k : Nat) (o : Oper), k < m → ops[k]? = some o → ∀ e ∈ o.after, e.on < k) (hr : ∀ i ∈ Region.ready md ops L, m ≤ i) : ∀ k, k < m → L.getD k false = true := by
  intro k
  induction k using Nat.strongRecOn with
  | ind k ih =>
    intro hk
    refine Classical.byContradiction fun hn => ?_
    have hk' : k < L.size := by omega
    have hk2 : k < ops.size := by omega
    have h0 : L.getD k true = false := by
      simp only [Array.getD_eq_getD_getElem?, Array.getElem?_eq_getElem hk', Option.getD_some, Bool.not_eq_true] at hn ⊢; exact hn
    have : k ∈ Region.ready md ops L := by
      unfold Region.ready
      rw [List.mem_filter]
      refine ⟨List.mem_range.2 hk2, ?_⟩
      rw [h0, Array.getElem?_eq_getElem hk2]
      simp only [Bool.not_false, Bool.true_and, Option.map_some, Option.getD_some]
      rw [Array.all_eq_true']
      intro e he
      have := hB k _ hk (Array.getElem?_eq_getElem hk2) e he
      rw [ih e.on this (by omega)]; simp
    have := hr k this
    omega
theorem doneL_eq {L : Array Bool} (hs : L.size = ops.size) (h1 : ∀ k, k < m → L.getD k false = true) (h2 : ∀ k, L.getD k false = true → k < m) : L = doneL ops.size m := by
  apply Array.ext_getElem?
  intro k
  unfold doneL
  by_cases hk : k < ops.size
  · have hk' : k < L.size := by omega
    have e : L.getD k false = L[k] := by simp [hk']
    have : L[k] = decide (k < m) := by
      rw [← e]
      by_cases hm : k < m
      · rw [h1 k hm, decide_eq_true hm]
      · rw [decide_eq_false hm]
        cases h : L.getD k false with
        | false => rfl
        | true => exact absurd (h2 k h) hm
    rw [Array.getElem?_eq_getElem hk', this]
    simp [hk]
  · rw [Array.getElem?_eq_none (by omega), Array.getElem?_eq_none (by simp; omega)]
theorem undone_doneL (hm : m ≤ ops.size) : undone ops (doneL ops.size m) = ops.size - m := by
  unfold undone
  have : ∀ n, n ≤ ops.size → (List.range n).countP (fun k => !((doneL ops.size m).getD k true)) = n - m := by
    intro n
    induction n with
    | zero => intro _; simp
    | succ n ih =>
      intro hn
      rw [List.range_succ, List.countP_append, ih (by omega), List.countP_singleton]
      have : (doneL ops.size m).getD n true = decide (n < m) := by unfold doneL; simp [show n < ops.size by omega]
      rw [this]
      by_cases h : n < m
      · simp [h]; omega
      · simp [h]; omega
  exact this _ (Nat.le_refl _)

theorem wpAny_inv (hB : formB md ops m D.eats D.owner = true) (hsz : ∀ k d, k < m → dstOf ops k = some d → d < a0.tmps.size)
    (hown : ∀ k v S w w', D.owner k = true → D.R k v w → Mod S w w' → (∀ g, v.vBlk = some g → ¬ S g) → D.R k v w')
    (hnon : ∀ k v w w', D.owner k = false → D.R k v w → Mod (fun g => w0.heap.size ≤ g) w w' → D.R k v w')
    (hstep : ∀ k o, k < m → ops[k]? = some o → ∀ a w, Env ops m D a0 w0 o a w → o.wp P a w (fun a' w' => ∃ v, a' = a.put o.dst v ∧ D.R k v w' ∧
      Mod (fun g => ∃ j t, D.eats k = some j ∧ dstOf ops j = some t ∧ (a.eval (.tmp t)).vBlk = some g) w w' ∧
      (D.owner k = true → ∀ g, v.vBlk = some g → g < w'.heap.size ∧ (w.heap.size ≤ g ∨ ∃ j t, D.eats k = some j ∧ dstOf ops j = some t ∧ (a.eval (.tmp t)).vBlk = some g))) Q)
    (hend : ∀ vs w, Mod Nn w0 w → (∀ k, k < m → (∀ i, i < m → D.eats i ≠ some k) → D.R k (vs k) w) → wpAny P md ops Q (ops.size - m) (doneL ops.size m) (fillA ops vs a0 (List.range m).reverse) w) :
    ∀ (n : Nat) (L : Array Bool) (a : Act) (w : World), L.size = ops.size → undone ops L = n → Inv md ops m D a0 w0 L a w → wpAny P md ops Q n L a w := by
  have hB0 := hB
  unfold formB at hB0
  simp only [Bool.and_eq_true, decide_eq_true_eq] at hB0
  obtain ⟨⟨hmo, hwait⟩, -⟩ := hB0
  have opAt : ∀ k, k < m → ∃ o, ops[k]? = some o := fun k hk => ⟨_, Array.getElem?_eq_getElem (by omega)⟩
  have hdd : ∀ i j, i < m → j < m → j ≠ i → dstOf ops j ≠ dstOf ops i := fun i j hi hj hne => by
    obtain ⟨o, ho⟩ := opAt i hi
    have e : dstOf ops i = o.dst := by unfold dstOf; rw [ho]; rfl
    rw [e]
    exact (form_at hB hi ho).2.2.2.1 j hj hne
  have fin : ∀ (n : Nat) (L : Array Bool) (a : Act) (w : World), L.size = ops.size → undone ops L = n → Inv md ops m D a0 w0 L a w → (∀ k, k < m → L.getD k false = true) → wpAny P md ops Q n L a w := by
    intro n L a w hs hu hI hall
    have hL := doneL_eq (ops := ops) hs hall hI.done
    have hQ := hend (opVal ops a) w hI.mod (fun k hk he => hI.live k (hall k hk) (fun k' hk' => he k' (hI.done k' hk')))
    have hat := fillA_at (ops := ops) (opVal ops a) a0 (List.range m).reverse (fun i hi j hj hne hd => by
      have hi := List.mem_range.1 (List.mem_reverse.1 hi)
      have hj := List.mem_range.1 (List.mem_reverse.1 hj)
      exact hdd j i hj hi hne) ((List.reverse_perm _).nodup_iff.2 List.nodup_range)
    have : fillA ops (opVal ops a) a0 (List.range m).reverse = a := by
      have e1 := fillA_defers (ops := ops) (opVal ops a) a0 (List.range m).reverse
      have e2 : (fillA ops (opVal ops a) a0 (List.range m).reverse).tmps = a.tmps := by
        apply Array.ext_getElem?
        intro t
        by_cases ht : t < a0.tmps.size
        · obtain ⟨h1, h2⟩ := hat t ht
          by_cases hk : ∃ k, k < m ∧ dstOf ops k = some t
          · obtain ⟨k, hk, hd⟩ := hk
            rw [h1 k (List.mem_reverse.2 (List.mem_range.2 hk)) hd]
            unfold opVal
            rw [hd]
            have : t < a.tmps.size := by rw [hI.size]; exact ht
            simp [Array.getElem?_eq_getElem this]
          · rw [h2 (fun k hk' hd => hk ⟨k, List.mem_range.1 (List.mem_reverse.1 hk'), hd⟩)]
            exact (hI.rest t (fun k hk' hd => hk ⟨k, hI.done k hk', hd⟩)).symm
        · rw [Array.getElem?_eq_none (by rw [fillA_size]; omega), Array.getElem?_eq_none (by rw [hI.size]; omega)]
      generalize fillA ops (opVal ops a) a0 (List.range m).reverse = b at *
      obtain ⟨bt, bd⟩ := b
      obtain ⟨at', ad⟩ := a
      have e3 := hI.defers
      simp only at e1 e2 e3
      rw [e2, e1, ← e3]
    rw [this, ← hL] at hQ
    have hn : n = ops.size - m := by rw [← hu, hL]; exact undone_doneL hmo
    rw [hn]; exact hQ
  have step : ∀ (n : Nat) (L : Array Bool) (a : Act) (w : World), L.size = ops.size → undone ops L = n + 1 → Inv md ops m D a0 w0 L a w →
      (∀ (L : Array Bool) (a : Act) (w : World), L.size = ops.size → undone ops L = n → Inv md ops m D a0 w0 L a w → wpAny P md ops Q n L a w) →
      ∀ i ∈ Region.ready md ops L, i < m → wpOp P ops Q i (wpAny P md ops Q n (L.setIfInBounds i true)) a w := by
    intro n L a w hs hu hI ih i hi him
    obtain ⟨hiun, o, ho, hall⟩ := mem_ready.1 hi
    have hil : i < ops.size := (Array.getElem?_eq_some_iff.1 ho).1
    obtain ⟨hgd, ⟨d, hd⟩, hlt, hdist, hreads, heats⟩ := form_at hB him ho
    have hdi : dstOf ops i = some d := by unfold dstOf; rw [ho]; exact hd
    have hdb : d < a.tmps.size := by rw [hI.size]; exact hsz i d him hdi
    have hnotL : L.getD i false = false := getD_two hiun
    have evalOf : ∀ j t, dstOf ops j = some t → a.eval (.tmp t) = opVal ops a j := fun j t hj => by unfold opVal; rw [hj]; rfl
    have doneOf : ∀ j, (∃ e ∈ o.after, Region.binds md e = true ∧ e.on = j) → L.getD j false = true := fun j ⟨e, he, hb, hon⟩ => by rw [← hon]; exact hall e he hb
    have liveOf : ∀ j, L.getD j false = true → (∀ k', k' < m → k' ≠ i → D.eats k' ≠ some j) → ∀ k', L.getD k' false = true → D.eats k' ≠ some j := fun j hj h k' hk' => h k' (hI.done k' hk') (fun e => by rw [e, hnotL] at hk'; cases hk')
    have env : Env ops m D a0 w0 o a w := by
      refine ⟨fun t ht hno => ?_, fun j t hjl ht hj => ?_, hI.mod, fun j t hjl ht hj hoj g hg => ?_⟩
      · have := hI.rest t (fun k _ => hno k)
        show a.tmps.getD t undef = a0.tmps.getD t undef
        simp [Array.getD_eq_getD_getElem?, this]
      · obtain ⟨h1, h2⟩ := hreads j t hjl hj ht
        rw [evalOf j t hj]
        exact hI.live j (doneOf j h1) (liveOf j (doneOf j h1) h2)
      · obtain ⟨h1, h2⟩ := hreads j t hjl hj ht
        rw [evalOf j t hj] at hg
        exact hI.fresh j (doneOf j h1) (liveOf j (doneOf j h1) h2) hoj g hg
    have hw := hstep i o him ho a w env
    unfold wpOp
    rw [ho]
    simp only [show Region.wanted o (yielded ops a.tmps) = true from by unfold Region.wanted; rw [hgd], if_true]
    refine .inl (Oper.wp_mono (fun a' w' hp => ?_) hw)
    obtain ⟨v, rfl, hRv, hm, hov⟩ := hp
    refine ih _ _ _ (by simp [hs]) (by have := undone_set (ops := ops) hil hiun; omega) ?_
    have hval : ∀ k, k < m → opVal ops (a.put o.dst v) k = if k = i then v else opVal ops a k := fun k hk => opVal_put hdi hd v (fun hne => by have := hdist k hk (Ne.symm hne); rwa [hd] at this) hdb
    have hseti : (L.setIfInBounds i true).getD i false = true := by
      have : i < L.size := by omega
      simp [this]
    have upL : ∀ y, L.getD y false = true → (L.setIfInBounds i true).getD y false = true := fun y hy => by
      by_cases e : i = y
      · rw [← e]; exact hseti
      · rw [getD_set_ne false e]; exact hy
    have hdone' : ∀ k, (L.setIfInBounds i true).getD k false = true → k < m := fun k hk => by
      rcases getD_false_set hk with rfl | h
      · exact him
      · exact hI.done k h
    have up : ∀ x, (∀ y, (L.setIfInBounds i true).getD y false = true → D.eats y ≠ some x) → ∀ y, L.getD y false = true → D.eats y ≠ some x := fun x h y hy => h y (upL y hy)
    -- what is changed is owned by the one that is eaten
    have hS : ∀ g, (∃ j t, D.eats i = some j ∧ dstOf ops j = some t ∧ (a.eval (.tmp t)).vBlk = some g) → ∃ j, D.eats i = some j ∧ D.owner j = true ∧ L.getD j false = true ∧ (∀ k', L.getD k' false = true → D.eats k' ≠ some j) ∧ (opVal ops a j).vBlk = some g := fun g ⟨j, t, h1, h2, h3⟩ => by
      obtain ⟨h4, h5, h6, h7⟩ := heats j h1
      rw [evalOf j t h2] at h3
      exact ⟨j, h1, h4, doneOf j h6, liveOf j (doneOf j h6) h7, h3⟩
    have hm0 : Mod (fun g => w0.heap.size ≤ g) w w' := hm.mono (fun g _ h => by
      obtain ⟨j, _, h2, h3, h4, h5⟩ := hS g h
      exact (hI.fresh j h3 h4 h2 g h5).1)
    refine ⟨?_, ?_, ?_, ?_, ?_, ?_, ?_, hdone', hI.closed.set hi⟩
    · rw [← hI.defers]; rw [hd]; rfl
    · rw [put_tmps a o hd]; simpa using hI.size
    · intro t ht
      have hne : d ≠ t := fun e => ht i hseti (by rw [hdi, e])
      rw [put_tmps a o hd, Array.getElem?_setIfInBounds_ne hne]
      exact hI.rest t (fun k hk => ht k (upL k hk))
    · intro k hk hne
      rw [hval k (hdone' k hk)]
      by_cases hki : k = i
      · rw [if_pos hki, hki]; exact hRv
      · rw [if_neg hki]
        have hkL := (getD_false_set hk).resolve_left hki
        have hliv := up k hne
        have hR := hI.live k hkL hliv
        cases hok : D.owner k with
        | false => exact hnon k _ w w' hok hR hm0
        | true =>
          refine hown k _ _ w w' hok hR hm (fun g hg h => ?_)
          obtain ⟨j, h1, h2, h3, h4, h5⟩ := hS g h
          have hjk : k ≠ j := fun e => hne i hseti (by rw [h1, e])
          exact hI.apart k j hjk hkL h3 hliv h4 hok h2 g hg h5
    · intro k k' hkk hk hk' hek hek' hok hok' g hg hg'
      rw [hval k (hdone' k hk)] at hg
      rw [hval k' (hdone' k' hk')] at hg'
      have both : ∀ x, x ≠ i → L.getD x false = true → (∀ y, (L.setIfInBounds i true).getD y false = true → D.eats y ≠ some x) → D.owner x = true → (D.owner i = true) → v.vBlk = some g → (opVal ops a x).vBlk = some g → False := fun x hxi hxL hex hox hoi hgv hgx => by
        rcases (hov hoi g hgv).2 with h | h
        · have := (hI.fresh x hxL (up x hex) hox g hgx).2; omega
        · obtain ⟨j, h1, h2, h3, h4, h5⟩ := hS g h
          have hxj : x ≠ j := fun e => hex i hseti (by rw [h1, e])
          exact hI.apart x j hxj hxL h3 (up x hex) h4 hox h2 g hgx h5
      by_cases h1 : k = i
      · have h2 : k' ≠ i := fun e => hkk (by rw [h1, e])
        rw [if_pos h1] at hg
        rw [if_neg h2] at hg'
        exact both k' h2 ((getD_false_set hk').resolve_left h2) hek' hok' (h1 ▸ hok) hg hg'
      · rw [if_neg h1] at hg
        by_cases h2 : k' = i
        · rw [if_pos h2] at hg'
          exact both k h1 ((getD_false_set hk).resolve_left h1) hek hok (h2 ▸ hok') hg' hg
        · rw [if_neg h2] at hg'
          exact hI.apart k k' hkk ((getD_false_set hk).resolve_left h1) ((getD_false_set hk').resolve_left h2) (up k hek) (up k' hek') hok hok' g hg hg'
    · intro k hk hek hok g hg
      rw [hval k (hdone' k hk)] at hg
      by_cases h1 : k = i
      · rw [if_pos h1] at hg
        obtain ⟨h2, h3⟩ := hov (h1 ▸ hok) g hg
        refine ⟨?_, h2⟩
        rcases h3 with h3 | h3
        · have := hI.mod.size; omega
        · obtain ⟨j, _, h5, h6, h7, h8⟩ := hS g h3
          exact (hI.fresh j h6 h7 h5 g h8).1
      · rw [if_neg h1] at hg
        have := hI.fresh k ((getD_false_set hk).resolve_left h1) (up k hek) hok g hg
        exact ⟨this.1, by have := this.2; have := hm.size; omega⟩
    · exact hI.mod.then_ hm0 (fun g hg h => by omega)
  intro n
  induction n with
  | zero =>
    intro L a w hs hu hI
    refine fin 0 L a w hs hu hI (ready_some (md := md) hs hmo (fun k o hk ho => (form_at hB hk ho).2.2.1) (fun i hi => ?_))
    obtain ⟨hiun, o, ho, _⟩ := mem_ready.1 hi
    have := undone_set (ops := ops) (Array.getElem?_eq_some_iff.1 ho).1 hiun
    omega
  | succ n ih =>
    intro L a w hs hu hI
    by_cases hall : ∀ k, k < m → L.getD k false = true
    · exact fin (n + 1) L a w hs hu hI hall
    · have hlow : ∀ i ∈ Region.ready md ops L, i < m := fun i hi => by
        refine Classical.byContradiction fun him => hall fun k hk => ?_
        obtain ⟨hiun, o, ho, hedges⟩ := mem_ready.1 hi
        have hil := (Array.getElem?_eq_some_iff.1 ho).1
        have h1 := List.all_eq_true.1 hwait i (List.mem_range.2 hil)
        simp only [Bool.or_eq_true, decide_eq_true_eq] at h1
        have h2 := List.all_eq_true.1 (h1.resolve_left him) k (List.mem_range.2 hk)
        -- i is ready: what it waits for is done
        have hC := hI.closed.set hi
        have hii : (L.setIfInBounds i true).getD i false = true := by
          have : i < L.size := by omega
          simp [this]
        have := waits_spec hC ops.size i h2 hii
        rcases getD_false_set this with e | e
        · omega
        · exact e
      refine ⟨fun hr => ?_, fun i hi => step n L a w hs hu hI ih i hi (hlow i hi)⟩
      exact absurd (ready_some (md := md) hs hmo (fun k o hk ho => (form_at hB hk ho).2.2.1) (fun i hi => by rw [hr] at hi; cases hi)) hall
end

section
variable {P : Program} {Q : Exit → Act → World → Prop} {a : Act} {w : World}
/-- a region that draws its order: the first m operations, in whatever order, by what is said of each one's value; the rest by a plan -/
theorem wp_region_inv {id : Nat} {l : List Oper} (D : Said) (m : Nat) (ps : List (Nat × Bool)) (hm : P.follows .mixedOrders = true) (hB : formB .any l.toArray m D.eats D.owner = true) (hsz : ((List.range m).all fun k => match dstOf l.toArray k with | some d => decide (d < a.tmps.size) | none => true) = true)
    (hp : (Region.noSelect l.toArray && planC .any l.toArray ps (doneL l.length m) && (ps.length == l.length - m)) = true)
    (hown : ∀ k v S w1 w2, D.owner k = true → D.R k v w1 → Mod S w1 w2 → (∀ g, v.vBlk = some g → ¬ S g) → D.R k v w2)
    (hnon : ∀ k v w1 w2, D.owner k = false → D.R k v w1 → Mod (fun g => w.heap.size ≤ g) w1 w2 → D.R k v w2)
    (hstep : ∀ k o, k < m → l[k]? = some o → ∀ b w1, Env l.toArray m D a w o b w1 → o.wp P b w1 (fun a' w' => ∃ v, a' = b.put o.dst v ∧ D.R k v w' ∧
      Mod (fun g => ∃ j t, D.eats k = some j ∧ dstOf l.toArray j = some t ∧ (b.eval (.tmp t)).vBlk = some g) w1 w' ∧
      (D.owner k = true → ∀ g, v.vBlk = some g → g < w'.heap.size ∧ (w1.heap.size ≤ g ∨ ∃ j t, D.eats k = some j ∧ dstOf l.toArray j = some t ∧ (b.eval (.tmp t)).vBlk = some g))) (NoP Q))
    (hend : ∀ vs w', Mod Nn w w' → (∀ k, k < m → (∀ i, i < m → D.eats i ≠ some k) → D.R k (vs k) w') → wpPlC P l.toArray (NoP Q) (fun _ => True) ps (fillA l.toArray vs a (List.range m).reverse) w') :
    (Code.region id l.toArray true).wp P Q a w := by
  simp only [Bool.and_eq_true, beq_iff_eq] at hp
  refine Code.wp_mono NoP.imp (wp_region_any hm ?_)
  have hs : l.toArray.size = l.length := by simp
  refine wpAny_inv (md := .any) (m := m) (D := D) (a0 := a) (w0 := w.drew) hB ?_ hown hnon (fun k o hk ho => fun b w1 E => hstep k o hk (by simpa using ho) b w1 ⟨E.old, E.got, E.mod.of_drew, E.fresh⟩) (fun vs w' hm' h => ?_) _ _ _ _ (by simp) ?_ ?_
  · intro k d hk hd
    have := List.all_eq_true.1 hsz k (List.mem_range.2 hk)
    rw [hd] at this
    simpa using this
  · have := wpAnyH_planC (md := .any) (Q := NoP Q) (S := fun _ => True) hp.1.1 (fun _ _ _ _ _ h => h) ps _ _ w' trivial hp.1.2 (hend vs w' hm'.of_drew h)
    rw [hp.2] at this
    rw [hs]
    exact wpAny_of_held _ _ _ _ this
  · unfold undone
    rw [List.countP_eq_length.2]
    · simp
    · intro k hk
      have := List.mem_range.1 hk
      rw [Array.getD_eq_getD_getElem?, Array.getElem?_replicate, if_pos this]; rfl
  · have none_ : ∀ k, (Array.replicate l.toArray.size false).getD k false = false := fun k => by
      rw [Array.getD_eq_getD_getElem?, Array.getElem?_replicate]
      split <;> rfl
    refine ⟨rfl, rfl, fun _ _ => rfl, fun k hk => ?_, fun k k' _ hk => ?_, fun k hk => ?_, Mod.refl Nn _, fun k hk => ?_, Closed.start _⟩ <;> (rw [none_] at hk; cases hk)
end
end Go.Proofs.YtodnhbiomooknaaGreat
