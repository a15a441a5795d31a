/- Own lemmas of several kinds, put together: Kit1, Kit2, Kit3, Kit4, Kit5. -/
import Derived.WalkKit
import Derived.WalkSpells
import Derived.WalkLawsBesides
import Derived.Deep.Draws
import Derived.Deep.QuietTactic
import Derived.BigQuiet
import Derived.StillTailTactics
import Derived.Carry
import Derived.Lib.Hide
import Derived.KernelRfl
import Derived.Maps.AppendAt
/- Plain words for memory: which blocks may change (Mod), a block known whole (Blk), a map with int keys as a list of pairs (MapE), its iterator (IterE); their laws. No program is named. -/
namespace Go.Proofs.YtijmkbhbpbkkoaaGreat
open Go.RowKit

/-! ## which blocks may change -/
structure Mod (S : Nat → Prop) (w w' : World) : Prop where
  os : w'.os = w.os
  tape : w'.tape = w.tape
  output : w'.output = w.output
  size : w.heap.size ≤ w'.heap.size
  block : ∀ k, k < w.heap.size → ¬ S k → w'.heap[k]? = w.heap[k]?

def Nn : Nat → Prop := fun _ => False
def At (g : Nat) : Nat → Prop := fun k => k = g

section
variable {S T : Nat → Prop} {a w w' : World}
theorem Mod.refl (S : Nat → Prop) (w : World) : Mod S w w := ⟨rfl, rfl, rfl, Nat.le_refl _, fun _ _ _ => rfl⟩
theorem Mod.mono (h : Mod S w w') (hs : ∀ k, k < w.heap.size → S k → T k) : Mod T w w' :=
  ⟨h.os, h.tape, h.output, h.size, fun k hk ht => h.block k hk (fun s => ht (hs k hk s))⟩
theorem Mod.then_ (h : Mod S a w) (k : Mod T w w') (hs : ∀ g, g < a.heap.size → T g → S g) : Mod S a w' :=
  ⟨k.os.trans h.os, k.tape.trans h.tape, k.output.trans h.output, Nat.le_trans h.size k.size,
   fun g hg hn => (k.block g (Nat.lt_of_lt_of_le hg h.size) (fun t => hn (hs g hg t))).trans (h.block g hg hn)⟩
theorem Mod.new_ {p : Nat} (h : Mod S a w) (k : Mod (At p) w w') (hp : a.heap.size ≤ p) : Mod S a w' :=
  h.then_ k (fun g hg e => by have : g = p := e; omega)
theorem Mod.at_ {p : Nat} (h : Mod S a w) (k : Mod (At p) w w') (hp : S p) : Mod S a w' :=
  h.then_ k (fun g _ e => by have : g = p := e; rw [this]; exact hp)
theorem Mod.nn_ (h : Mod S a w) (k : Mod Nn w w') : Mod S a w' := h.then_ k (fun _ _ f => f.elim)
theorem Mod.trans (h : Mod S a w) (k : Mod S w w') : Mod S a w' := h.then_ k (fun _ _ t => t)
theorem Mod.alloc (h : Mod S a w) (o : Obj) : Mod S a (w.alloc o) :=
  ⟨h.os, h.tape, h.output, by simp; have := h.size; omega, fun g hg hn => (Below.heap_alloc _ _ _ (by have := h.size; omega)).trans (h.block g hg hn)⟩
theorem Mod.drew (h : Mod S a w) : Mod S a w.drew := ⟨h.os, h.tape, h.output, h.size, h.block⟩
theorem Mod.drewN (h : Mod S a w) (n : Nat) : Mod S a (w.drewN n) := ⟨h.os, h.tape, h.output, h.size, h.block⟩
theorem Mod.of_drew (h : Mod S a.drew w) : Mod S a w := ⟨h.os, h.tape, h.output, h.size, h.block⟩
theorem Mod.of_drewN {n : Nat} (h : Mod S (a.drewN n) w) : Mod S a w := ⟨h.os, h.tape, h.output, h.size, h.block⟩
theorem Mod.setCell (h : Mod S a w) {p : Addr} (hp : a.heap.size ≤ p.block ∨ S p.block) (v : Value) : Mod S a (w.setCell p v) :=
  ⟨h.os, h.tape, h.output, by simp; exact h.size, fun g hg hn => (Below.heap_setCell _ _ _ _ (fun e => by
    subst e; rcases hp with hp | hp
    · omega
    · exact hn hp)).trans (h.block g hg hn)⟩
theorem Mod.setRow (h : Mod S a w) {p : Nat} (hp : a.heap.size ≤ p ∨ S p) (cs : Array Value) : Mod S a (w.setRow p cs) :=
  ⟨h.os, h.tape, h.output, by simp; exact h.size, fun g hg hn => (setRow_other _ _ _ _ (fun e => by
    subst e; rcases hp with hp | hp
    · omega
    · exact hn hp)).trans (h.block g hg hn)⟩
theorem Mod.grown (h : Mod S a w) {row : Option Nat} (hg : w.grownBy w' row) (hr : ∀ g, row = some g → a.heap.size ≤ g ∨ S g) : Mod S a w' :=
  ⟨hg.os.trans h.os, hg.tape.trans h.tape, hg.output.trans h.output, Nat.le_trans h.size hg.size,
   fun g hk hn => (hg.block g (Nat.lt_of_lt_of_le hk h.size) (fun e => by
     rcases hr g e.symm with h1 | h1
     · omega
     · exact hn h1)).trans (h.block g hk hn)⟩
theorem Mod.below (h : Mod Nn w w') : Below w.heap.size w w' := ⟨h.os, h.tape, h.output, h.size, fun k hk => h.block k hk (fun f => f)⟩
theorem Mod.of_below (h : Below w.heap.size w w') : Mod Nn w w' := ⟨h.os, h.tape, h.output, h.size, fun k hk _ => h.block k hk⟩
theorem Mod.cell (h : Mod S w w') {p : Addr} (hp : p.block < w.heap.size) (hn : ¬ S p.block) : w'.cell? p = w.cell? p :=
  World.cell?_of_block (w := w) (h.block p.block hp hn)
theorem Mod.nn (h : Mod Nn w w') : Mod S w w' := h.mono (fun _ _ f => f.elim)
end

/-- Any object of the heap. -/
def World.setObj (w : World) (g : Nat) (o : Obj) : World := { w with heap := w.heap.setIfInBounds g o }
theorem setObj_same (w : World) (g : Nat) (o : Obj) (h : g < w.heap.size) : (World.setObj w g o).heap[g]? = some o := by
  simp [World.setObj, h]
theorem setObj_other (w : World) (g k : Nat) (o : Obj) (h : k ≠ g) : (World.setObj w g o).heap[k]? = w.heap[k]? := by
  simp [World.setObj, Array.getElem?_setIfInBounds]
  intro e; exact absurd e.symm h
theorem Mod.setObj {S : Nat → Prop} {a w : World} (h : Mod S a w) {p : Nat} (hp : a.heap.size ≤ p ∨ S p) (o : Obj) : Mod S a (World.setObj w p o) :=
  ⟨h.os, h.tape, h.output, by simp [World.setObj]; exact h.size, fun g hg hn => (setObj_other _ _ _ _ (fun e => by
    subst e; rcases hp with hp | hp
    · omega
    · exact hn hp)).trans (h.block g hg hn)⟩

theorem Mod.objAt (w : World) (g : Nat) (o : Obj) : Mod (At g) w (World.setObj w g o) := (Mod.refl (At g) w).setObj (p := g) (.inr (rfl : g = g)) o
theorem Mod.rowAt (w : World) (g : Nat) (cs : Array Value) : Mod (At g) w (w.setRow g cs) := (Mod.refl (At g) w).setRow (p := g) (.inr (rfl : g = g)) cs
theorem Mod.cellAt (w : World) (g i : Nat) (v : Value) : Mod (At g) w (w.setCell ⟨g, i, none⟩ v) := (Mod.refl (At g) w).setCell (p := ⟨g, i, none⟩) (.inr (rfl : g = g)) v

/-! ## a block known whole -/
def Blk (w : World) (g : Nat) (t : TypeId) (cs : Array Value) : Prop := w.heap[g]? = some (.cells cs t (0, 0))
section
variable {w w' : World} {g : Nat} {t : TypeId} {cs : Array Value} {S : Nat → Prop}
theorem lt_of_heap {o : Obj} (h : w.heap[g]? = some o) : g < w.heap.size := (Array.getElem?_eq_some_iff.1 h).1
theorem Blk.lt (h : Blk w g t cs) : g < w.heap.size := lt_of_heap h
theorem Blk.cell (h : Blk w g t cs) (i : Nat) : w.cell? ⟨g, i, none⟩ = cs[i]? := cell_of_row w g i cs t (0, 0) h
theorem Blk.frozen (h : Blk w g t cs) (i : Nat) : w.frozen? ⟨g, i, none⟩ = false := by
  unfold Blk at h
  simp [World.frozen?, h]
theorem Blk.new (w : World) (t : TypeId) (cs : Array Value) : Blk (w.alloc (.cells cs t)) w.heap.size t cs := heap_alloc_new w _
theorem Blk.drew (h : Blk w g t cs) : Blk w.drew g t cs := h
theorem Blk.drewN (h : Blk w g t cs) (n : Nat) : Blk (w.drewN n) g t cs := h
theorem Blk.alloc (h : Blk w g t cs) (o : Obj) : Blk (w.alloc o) g t cs := (Below.heap_alloc w o g h.lt).trans h
theorem Blk.set_ (h : Blk w g t cs) (i : Nat) (u : Value) : Blk (w.setCell ⟨g, i, none⟩ u) g t (cs.setIfInBounds i u) := by
  unfold Blk at h ⊢
  simp [World.setCell, Array.getElem?_modify, h]
theorem Blk.far (h : Blk w g t cs) {p : Addr} (hp : g ≠ p.block) (u : Value) : Blk (w.setCell p u) g t cs := (Below.heap_setCell w p u g hp).trans h
theorem Blk.setRow_ (h : Blk w g t cs) (cs' : Array Value) : Blk (w.setRow g cs') g t cs' := setRow_heap w g cs cs' t (0, 0) h
theorem Blk.farRow (h : Blk w g t cs) {p : Nat} (hp : g ≠ p) (cs' : Array Value) : Blk (w.setRow p cs') g t cs := (setRow_other w p g cs' hp).trans h
theorem Blk.farObj (h : Blk w g t cs) {p : Nat} (hp : g ≠ p) (o : Obj) : Blk (World.setObj w p o) g t cs := (setObj_other w p g o hp).trans h
theorem Blk.mod (h : Blk w g t cs) (hm : Mod S w w') (hn : ¬ S g) : Blk w' g t cs := (hm.block g h.lt hn).trans h
theorem Blk.ne_ {g' : Nat} {t' : TypeId} {cs' : Array Value} (h : Blk w g t cs) (h' : Blk w g' t' cs') (hne : t ≠ t') : g ≠ g' := by
  rintro rfl
  unfold Blk at h h'
  rw [h] at h'
  injection h' with h'
  injection h' with _ ht
  exact hne ht
end

theorem nodup_sub_len {β : Type} [DecidableEq β] : ∀ (a b : List β), a.Nodup → (∀ x ∈ a, x ∈ b) → a.length ≤ b.length
  | [], _, _, _ => Nat.zero_le _
  | x :: a, b, hn, hs => by
    simp only [List.nodup_cons] at hn
    have hx : x ∈ b := hs x List.mem_cons_self
    have ih := nodup_sub_len a (b.erase x) hn.2 (fun y hy => by
      have hne : y ≠ x := fun e => hn.1 (e ▸ hy)
      exact (List.mem_erase_of_ne hne).2 (hs y (List.mem_cons_of_mem _ hy)))
    rw [List.length_erase_of_mem hx] at ih
    have : 0 < b.length := List.length_pos_of_mem hx
    simp only [List.length_cons]; omega

/-! ## lists of pairs -/
section
variable {α : Type}
def aget (l : List (Int × α)) (k : Int) : Option α := (l.find? (fun e => e.1 == k)).map (·.2)
def aset (l : List (Int × α)) (k : Int) (v : α) : List (Int × α) :=
  if l.any (fun e => e.1 == k) then l.map (fun e => if e.1 == k then (k, v) else e) else l ++ [(k, v)]
def adel (l : List (Int × α)) (k : Int) : List (Int × α) := l.filter (fun e => !(e.1 == k))

theorem aget_nil (k : Int) : aget ([] : List (Int × α)) k = none := rfl
theorem aget_cons (e : Int × α) (l : List (Int × α)) (k : Int) : aget (e :: l) k = if e.1 = k then some e.2 else aget l k := by
  unfold aget
  by_cases h : e.1 = k <;> simp [h]
theorem aget_none {l : List (Int × α)} {k : Int} : aget l k = none ↔ ∀ e ∈ l, e.1 ≠ k := by
  induction l with
  | nil => simp [aget_nil]
  | cons e l ih =>
    rw [aget_cons]
    by_cases h : e.1 = k
    · simp [h]
    · simp [h, ih]
theorem aget_mem {l : List (Int × α)} {k : Int} {v : α} (h : aget l k = some v) : (k, v) ∈ l := by
  induction l with
  | nil => simp [aget_nil] at h
  | cons e l ih =>
    rw [aget_cons] at h
    by_cases he : e.1 = k
    · rw [if_pos he] at h; injection h with h; subst he; subst h; exact List.mem_cons_self
    · rw [if_neg he] at h; exact List.mem_cons_of_mem _ (ih h)
theorem any_iff {l : List (Int × α)} {k : Int} : l.any (fun e => e.1 == k) = true ↔ aget l k ≠ none := by
  rw [Ne, aget_none, List.any_eq_true]
  constructor
  · rintro ⟨e, he, hk⟩ hn; exact hn e he (by simpa using hk)
  · intro h
    refine Classical.byContradiction fun hc => h fun e he hk => hc ⟨e, he, by simpa using hk⟩
theorem aget_mem' {l : List (Int × α)} {e : Int × α} (hd : (l.map (·.1)).Nodup) (h : e ∈ l) : aget l e.1 = some e.2 := by
  induction l with
  | nil => cases h
  | cons x l ih =>
    simp only [List.map_cons, List.nodup_cons] at hd
    rw [aget_cons]
    rcases List.mem_cons.1 h with rfl | h
    · simp
    · rw [if_neg (fun hx => hd.1 (by rw [hx]; exact List.mem_map_of_mem h)), ih hd.2 h]
theorem aget_append (l m : List (Int × α)) (k : Int) : aget (l ++ m) k = (aget l k).or (aget m k) := by
  induction l with
  | nil => simp [aget_nil]
  | cons e l ih =>
    rw [List.cons_append, aget_cons, aget_cons, ih]
    by_cases h : e.1 = k <;> simp [h]
theorem aget_aset (l : List (Int × α)) (k : Int) (v : α) (j : Int) : aget (aset l k v) j = if j = k then some v else aget l j := by
  unfold aset
  by_cases h : l.any (fun e => e.1 == k) = true
  · rw [if_pos h]
    have hk := any_iff.1 h
    clear h
    induction l with
    | nil => exact absurd rfl hk
    | cons e l ih =>
      rw [List.map_cons, aget_cons, aget_cons]
      rw [aget_cons] at hk
      by_cases he : e.1 = k
      · subst he
        by_cases hj : j = e.1
        · subst hj; simp
        · have hj' : e.1 ≠ j := fun x => hj x.symm
          simp only [beq_self_eq_true, if_true, if_neg hj', if_neg hj]
          by_cases hl : aget l e.1 = none
          · have : l.map (fun x => if (x.1 == e.1) = true then (e.1, v) else x) = l := by
              conv => rhs; rw [← List.map_id l]
              refine List.map_congr_left fun x hx => ?_
              rw [if_neg (by simpa using aget_none.1 hl x hx)]; rfl
            rw [this]
          · rw [ih hl, if_neg hj]
      · rw [if_neg he] at hk
        have he' : (e.1 == k) = false := by simpa using he
        simp only [he', Bool.false_eq_true, if_false]
        rw [ih hk]
        by_cases hj : e.1 = j
        · subst hj; rw [if_pos rfl, if_neg he, if_pos rfl]
        · rw [if_neg hj, if_neg hj]
  · rw [if_neg h, aget_append]
    have hn : aget l k = none := Classical.byContradiction fun hc => h (any_iff.2 hc)
    by_cases hj : j = k
    · subst hj; simp [hn, aget_cons]
    · have hj' : k ≠ j := fun x => hj x.symm
      simp [aget_cons, aget_nil, hj, hj']
theorem keys_aset (l : List (Int × α)) (k : Int) (v : α) : (aset l k v).map (·.1) = if aget l k = none then l.map (·.1) ++ [k] else l.map (·.1) := by
  unfold aset
  by_cases h : l.any (fun e => e.1 == k) = true
  · rw [if_pos h, if_neg (any_iff.1 h), List.map_map]
    refine List.map_congr_left fun x hx => ?_
    simp only [Function.comp]
    by_cases hx : x.1 = k <;> simp [hx]
  · rw [if_neg h, if_pos (Classical.byContradiction fun hc => h (any_iff.2 hc))]; simp
theorem nodup_aset {l : List (Int × α)} (h : (l.map (·.1)).Nodup) (k : Int) (v : α) : ((aset l k v).map (·.1)).Nodup := by
  rw [keys_aset]
  by_cases hk : aget l k = none
  · rw [if_pos hk, List.nodup_append]
    refine ⟨h, by simp, fun x hx y hy => ?_⟩
    simp only [List.mem_singleton] at hy; subst hy
    obtain ⟨e, he, rfl⟩ := List.mem_map.1 hx
    exact aget_none.1 hk e he
  · rw [if_neg hk]; exact h
theorem aget_adel (l : List (Int × α)) (k j : Int) : aget (adel l k) j = if j = k then none else aget l j := by
  unfold adel
  induction l with
  | nil => simp [aget_nil]
  | cons e l ih =>
    rw [List.filter_cons]
    by_cases he : e.1 = k
    · subst he
      simp only [beq_self_eq_true, Bool.not_true, Bool.false_eq_true, if_false]
      rw [ih, aget_cons]
      by_cases hj : j = e.1
      · simp [hj]
      · rw [if_neg hj, if_neg hj, if_neg (fun x => hj x.symm)]
    · have he' : (e.1 == k) = false := by simpa using he
      simp only [he', Bool.not_false, if_true]
      rw [aget_cons, aget_cons, ih]
      by_cases hj : e.1 = j
      · subst hj; rw [if_pos rfl, if_pos rfl, if_neg he]
      · rw [if_neg hj, if_neg hj]
theorem nodup_adel {l : List (Int × α)} (h : (l.map (·.1)).Nodup) (k : Int) : ((adel l k).map (·.1)).Nodup :=
  h.sublist (List.filter_sublist.map _)
end
end Go.Proofs.YtijmkbhbpbkkoaaGreat

/- Maps with int keys as lists of pairs: what a lookup, a store, a delete, a clear, a length, a range do to them. No program is named. -/
namespace Go.Proofs.YtijmkbhbpbkkoaaGreat
open Go.RowKit

section
variable {α : Type} {P : Program} {w w' : World} {g : Nat} {enc : α → Value} {l : List (Int × α)} {S : Nat → Prop}

def ent (enc : α → Value) (e : Int × α) (b : Nat) : MapEntry := ⟨.int .i64 e.1, enc e.2, b⟩
def ents (enc : α → Value) (l : List (Int × α)) (bs : List Nat) : List MapEntry := List.zipWith (ent enc) l bs
structure Stamps (l : List (Int × α)) (bs : List Nat) (clk : Nat) : Prop where
  len : bs.length = l.length
  inc : bs.Pairwise (· < ·)
  lt : ∀ b ∈ bs, b < clk
  nd : (l.map (·.1)).Nodup
def MapE (w : World) (g : Nat) (enc : α → Value) (l : List (Int × α)) : Prop :=
  ∃ bs clk, Stamps l bs clk ∧ w.heap[g]? = some (.map (ents enc l bs).toArray clk)

theorem MapE.lt (h : MapE w g enc l) : g < w.heap.size := by obtain ⟨_, _, _, h⟩ := h; exact lt_of_heap h
theorem MapE.nd (h : MapE w g enc l) : (l.map (·.1)).Nodup := by obtain ⟨_, _, s, _⟩ := h; exact s.nd
theorem MapE.keep (h : MapE w g enc l) (hk : w'.heap[g]? = w.heap[g]?) : MapE w' g enc l := by
  obtain ⟨bs, clk, s, h⟩ := h; exact ⟨bs, clk, s, hk.trans h⟩
theorem MapE.mod (h : MapE w g enc l) (hm : Mod S w w') (hn : ¬ S g) : MapE w' g enc l := h.keep (hm.block g h.lt hn)
theorem MapE.alloc (h : MapE w g enc l) (o : Obj) : MapE (w.alloc o) g enc l := h.keep (Below.heap_alloc w o g h.lt)
theorem MapE.drew (h : MapE w g enc l) : MapE w.drew g enc l := h
theorem MapE.drewN (h : MapE w g enc l) (n : Nat) : MapE (w.drewN n) g enc l := h
theorem MapE.new (w : World) (enc : α → Value) : MapE (w.alloc (.map #[] 0)) w.heap.size enc [] :=
  ⟨[], 0, ⟨rfl, List.Pairwise.nil, by simp, by simp⟩, heap_alloc_new w _⟩
theorem MapE.ne_blk {g' : Nat} {t : TypeId} {cs : Array Value} (h : MapE w g enc l) (h' : Blk w g' t cs) : g ≠ g' := by
  rintro rfl
  obtain ⟨_, _, _, h⟩ := h
  unfold Blk at h'; rw [h] at h'; cases h'

/-- where a key is -/
theorem findNow_ents (k : Int) : ∀ (l : List (Int × α)) (bs : List Nat) (i : Nat), bs.length = l.length →
    Instr.findNow (.int .i64) (.int .i64 k) (ents enc l bs) i = some ((l.findIdx? (fun e => e.1 == k)).bind fun j => (l[j]?).map fun e => (i + j, enc e.2))
  | [], [], i, _ => by simp [ents, Instr.findNow]
  | e :: l, b :: bs, i, h => by
    have ih := findNow_ents k l bs (i + 1) (by simpa using h)
    simp only [ents, List.zipWith_cons_cons, Instr.findNow, ent, Instr.sameNow, if_true]
    by_cases hk : k = e.1
    · subst hk
      simp [List.findIdx?_cons]
    · have h1 : (k == e.1) = false := by simpa using hk
      have h2 : (e.1 == k) = false := by simpa using fun x => hk x.symm
      simp only [h1]
      rw [show List.zipWith (ent enc) l bs = ents enc l bs from rfl, ih, List.findIdx?_cons, if_neg (by simp [h2])]
      cases hf : l.findIdx? (fun e => e.1 == k) with
      | none => simp
      | some j => simp [Nat.add_assoc, Nat.add_comm 1 j]
theorem findIdx_aget (k : Int) : ∀ (l : List (Int × α)), ((l.findIdx? (fun e => e.1 == k)).bind fun j => (l[j]?).map fun e => e.2) = aget l k
  | [] => rfl
  | e :: l => by
    rw [aget_cons, List.findIdx?_cons]
    by_cases h : e.1 = k
    · simp [h]
    · have h2 : (e.1 == k) = false := by simpa using h
      rw [if_neg (by simp [h2]), if_neg h, ← findIdx_aget k l]
      cases l.findIdx? (fun e => e.1 == k) <;> simp

variable {t kt et : TypeId}
theorem run_checkKey_int (b : Bool) (n : Nat) (k : Int) (hk : P.underlying kt = some (.int .i64)) (w : World) :
    (Instr.checkKey b (n + 1) kt (.int .i64 k)).run P w = .ok () w := by
  simp [Instr.checkKey, run_underlying hk]

theorem run_find (k : Int) (hk : P.underlying kt = some (.int .i64)) {bs : List Nat} (hl : bs.length = l.length) (w : World) :
    (Instr.findKey kt (.int .i64 k) (ents enc l bs)).run P w = .ok ((l.findIdx? (fun e => e.1 == k)).bind fun j => (l[j]?).map fun e => (j, enc e.2)) w := by
  have := findNow_ents (enc := enc) k l bs 0 hl
  simp only [Nat.zero_add] at this
  simp [Instr.findKey, run_underlying hk, this]

theorem run_lookup (h : MapE w g enc l) (ht : P.underlying t = some (.map kt et)) (hk : P.underlying kt = some (.int .i64))
    {z : Value} (hz : (zeroValue et).run P w = .ok z w) (k : Int) (ok : Bool) :
    (Instr.lookup t (.map (some g)) (.int .i64 k) ok).run P w =
      .ok (if ok then .tuple #[((aget l k).map enc).getD z, .bool (aget l k).isSome] else ((aget l k).map enc).getD z) w := by
  obtain ⟨bs, clk, s, hg⟩ := h
  have hf := run_find (P := P) (enc := enc) k hk s.len w
  have ha := findIdx_aget k l
  cases hi : l.findIdx? (fun e => e.1 == k) with
  | none =>
    rw [hi] at ha hf
    simp at ha
    simp [Instr.lookup, run_underlying ht, getObj, Sem.run, hg, run_checkKey_int _ 9999 k hk, hf, hz, ← ha, Result.andThen]
  | some j =>
    rw [hi] at ha hf
    have hj : j < l.length := (List.findIdx?_eq_some_iff_findIdx_eq.1 hi).1
    simp [hj] at ha hf
    simp [Instr.lookup, run_underlying ht, getObj, Sem.run, hg, run_checkKey_int _ 9999 k hk, hf, ← ha, Result.andThen]

theorem ents_size {bs : List Nat} (h : bs.length = l.length) : (ents enc l bs).length = l.length := by simp [ents, h]

theorem ents_append {bs : List Nat} (h : bs.length = l.length) (e : Int × α) (b : Nat) : ents enc (l ++ [e]) (bs ++ [b]) = ents enc l bs ++ [ent enc e b] := by
  unfold ents; rw [List.zipWith_append h.symm]; rfl

theorem map_set_nodup {k : Int} {v : α} : ∀ (l : List (Int × α)) (j : Nat), (l.map (·.1)).Nodup → (∃ u, l[j]? = some (k, u)) → l.map (fun e => if e.1 == k then (k, v) else e) = l.set j (k, v)
  | [], j, _, h => by simp at h
  | e :: l, 0, hd, h => by
    obtain ⟨u, h⟩ := h
    simp at h
    subst h
    simp only [List.map_cons, List.nodup_cons] at hd
    simp only [List.map_cons, List.set_cons_zero, beq_self_eq_true, if_true, List.cons.injEq, true_and]
    conv => rhs; rw [← List.map_id l]
    refine List.map_congr_left fun x hx => ?_
    rw [if_neg (by simp; intro e'; exact hd.1 (by rw [← e']; exact List.mem_map_of_mem hx))]; rfl
  | e :: l, j + 1, hd, h => by
    simp only [List.map_cons, List.nodup_cons] at hd
    simp only [List.getElem?_cons_succ] at h
    rw [List.map_cons, List.set_cons_succ, map_set_nodup l j hd.2 h, if_neg]
    obtain ⟨u, h⟩ := h
    have : (k, u) ∈ l := List.mem_of_getElem? h
    simp; intro e'; exact hd.1 (by rw [e']; exact List.mem_map_of_mem (f := (·.1)) this)

theorem ents_set (k : Int) (v : α) : ∀ (l : List (Int × α)) (bs : List Nat) (j : Nat), (∃ u, l[j]? = some (k, u)) →
    ents enc (l.set j (k, v)) bs = ((ents enc l bs).toArray.modify j fun e => { e with key := .int .i64 k, val := enc v }).toList := by
  intro l bs j h
  apply List.ext_getElem?
  intro i
  simp only [ents, List.getElem?_zipWith, Array.getElem?_toList, Array.getElem?_modify, List.getElem?_toArray, List.getElem?_set]
  by_cases hij : j = i
  · subst hij
    obtain ⟨u, h⟩ := h
    have hj : j < l.length := by
      rcases Nat.lt_or_ge j l.length with h' | h'
      · exact h'
      · simp [List.getElem?_eq_none h'] at h
    simp only [if_true, hj, if_true]
    rw [h]
    cases bs[j]? <;> simp [ent]
  · simp [hij]

theorem run_mapUpdate (h : MapE w g enc l) (ht : P.underlying t = some (.map kt et)) (hk : P.underlying kt = some (.int .i64)) (k : Int) (v : α) :
    ∃ w', (Instr.mapUpdate t (.map (some g)) (.int .i64 k) (enc v)).run P w = .ok () w' ∧ MapE w' g enc (aset l k v) ∧ Mod (At g) w w' ∧ w'.heap.size = w.heap.size := by
  have hgl := h.lt
  obtain ⟨bs, clk, s, hg⟩ := h
  have hf := run_find (P := P) (enc := enc) k hk s.len w
  have ha := findIdx_aget k l
  cases hi : l.findIdx? (fun e => e.1 == k) with
  | none =>
    rw [hi] at ha hf
    simp at ha
    have hany : ¬ l.any (fun e => e.1 == k) = true := fun x => (any_iff.1 x) ha.symm
    refine ⟨World.setObj w g (.map ((ents enc l bs).toArray.push ⟨.int .i64 k, enc v, clk⟩) (clk + 1)), ?_, ⟨bs ++ [clk], clk + 1, ?_, ?_⟩, Mod.objAt _ _ _, by simp [World.setObj]⟩
    · simp [Instr.mapUpdate, run_underlying ht, getObj, Go.setObj, Sem.run, hg, run_checkKey_int _ 9999 k hk, hf, Result.andThen]
      rfl
    · refine ⟨?_, ?_, ?_, nodup_aset s.nd k v⟩
      · simp [aset, if_neg hany, s.len]
      · rw [List.pairwise_append]
        exact ⟨s.inc, by simp, fun a ha b hb => by simp at hb; subst hb; exact s.lt a ha⟩
      · intro b hb
        rcases List.mem_append.1 hb with hb | hb
        · have := s.lt b hb; omega
        · simp at hb; omega
    · rw [setObj_same _ _ _ hgl]
      congr 2
      rw [show aset l k v = l ++ [(k, v)] by simp [aset, if_neg hany], ents_append s.len]
      simp [ent]
  | some j =>
    rw [hi] at ha hf
    have hj : j < l.length := (List.findIdx?_eq_some_iff_findIdx_eq.1 hi).1
    have hp := List.findIdx?_eq_some_iff_getElem.1 hi
    have hlj : (l[j]).1 = k := by simpa using hp.2.1
    simp [hj] at ha hf
    have hany : l.any (fun e => e.1 == k) = true := any_iff.2 (by rw [← ha]; simp)
    have hset : aset l k v = l.set j (k, v) := by
      rw [aset, if_pos hany]
      exact map_set_nodup l j s.nd ⟨l[j].2, by rw [List.getElem?_eq_getElem hj, ← hlj]⟩
    have hkey : ((ents enc l bs).toArray[j]?).map (·.key) = some (.int .i64 k) := by
      simp [ents, hj, s.len, ent, hlj]
    refine ⟨World.setObj w g (.map ((ents enc l bs).toArray.modify j fun e => { e with key := .int .i64 k, val := enc v }) clk), ?_, ⟨bs, clk, ?_, ?_⟩, Mod.objAt _ _ _, by simp [World.setObj]⟩
    · simp only [List.getElem?_toArray] at hkey
      simp [Instr.mapUpdate, run_underlying ht, getObj, Go.setObj, Sem.run, hg, run_checkKey_int _ 9999 k hk, hf, Result.andThen, hkey, Instr.keyThatStays, Instr.sameBits]
      rfl
    · exact ⟨by rw [hset]; simp [s.len], s.inc, s.lt, nodup_aset s.nd k v⟩
    · rw [setObj_same _ _ _ hgl]
      congr 2
      rw [hset, ents_set k v l bs j ⟨l[j].2, by rw [List.getElem?_eq_getElem hj, ← hlj]⟩]
end
end Go.Proofs.YtijmkbhbpbkkoaaGreat

/- Maps with int keys: delete, clear, len; the range over a map that is not changed meanwhile. No program is named. -/
namespace Go.Proofs.YtijmkbhbpbkkoaaGreat
open Go.RowKit

section
variable {α : Type} {P : Program} {w w' : World} {g : Nat} {enc : α → Value} {l : List (Int × α)} {S : Nat → Prop} {t kt et : TypeId}

theorem run_clear (h : MapE w g enc l) (ht : P.underlying t = some (.map kt et)) (ty : TypeId) :
    ∃ w', (Builtin.clear_ #[t] ty #[.map (some g)]).run P w = .ok (.tuple #[]) w' ∧ MapE w' g enc [] ∧ Mod (At g) w w' ∧ w'.heap.size = w.heap.size := by
  have hgl := h.lt
  obtain ⟨bs, clk, s, hg⟩ := h
  refine ⟨World.setObj w g (.map #[] clk), ?_, ⟨[], clk, ⟨rfl, List.Pairwise.nil, by simp, by simp⟩, ?_⟩, Mod.objAt _ _ _, by simp [World.setObj]⟩
  · simp [Builtin.clear_, run_underlying ht, getObj, Go.setObj, Sem.run, hg, Result.andThen]
    rfl
  · rw [setObj_same _ _ _ hgl]; rfl

theorem run_len_map_ (h : MapE w g enc l) (ht : P.underlying t = some (.map kt et)) (ty : TypeId) :
    (Builtin.len_ #[t] ty #[.map (some g)]).run P w = .ok (.int .i64 l.length) w := by
  obtain ⟨bs, clk, s, hg⟩ := h
  simp [Builtin.len_, run_underlying ht, getObj, Sem.run, hg, Result.andThen, ents, s.len, goInt]

theorem filter_erase {k : Int} : ∀ (l : List (Int × α)) (j : Nat), (l.map (·.1)).Nodup → (∃ u, l[j]? = some (k, u)) → l.filter (fun e => !(e.1 == k)) = l.eraseIdx j
  | [], j, _, h => by simp at h
  | e :: l, 0, hd, h => by
    obtain ⟨u, h⟩ := h
    simp at h
    subst h
    simp only [List.map_cons, List.nodup_cons] at hd
    simp only [List.filter_cons, beq_self_eq_true, Bool.not_true, Bool.false_eq_true, if_false, List.eraseIdx_cons_zero]
    rw [List.filter_eq_self]
    intro x hx
    simp; intro e'; exact hd.1 (by rw [← e']; exact List.mem_map_of_mem hx)
  | e :: l, j + 1, hd, h => by
    simp only [List.map_cons, List.nodup_cons] at hd
    simp only [List.getElem?_cons_succ] at h
    rw [List.filter_cons, List.eraseIdx_cons_succ, filter_erase l j hd.2 h, if_pos]
    obtain ⟨u, h⟩ := h
    have : (k, u) ∈ l := List.mem_of_getElem? h
    simp; intro e'; exact hd.1 (by rw [e']; exact List.mem_map_of_mem (f := (·.1)) this)

theorem zipWith_eraseIdx {β γ δ : Type} (f : β → γ → δ) : ∀ (a : List β) (b : List γ) (j : Nat), (List.zipWith f a b).eraseIdx j = List.zipWith f (a.eraseIdx j) (b.eraseIdx j)
  | [], b, j => by simp
  | x :: a, [], j => by simp
  | x :: a, y :: b, 0 => by simp
  | x :: a, y :: b, j + 1 => by simp [zipWith_eraseIdx f a b j]

theorem run_delete (h : MapE w g enc l) (ht : P.underlying t = some (.map kt et)) (hk : P.underlying kt = some (.int .i64)) (u : TypeId) (ty : TypeId) (k : Int) :
    ∃ w', (Builtin.delete_ #[t, u] ty #[.map (some g), .int .i64 k]).run P w = .ok (.tuple #[]) w' ∧ MapE w' g enc (adel l k) ∧ Mod (At g) w w' ∧ w'.heap.size = w.heap.size := by
  have hgl := h.lt
  obtain ⟨bs, clk, s, hg⟩ := h
  have hf := run_find (P := P) (enc := enc) k hk s.len w
  have ha := findIdx_aget k l
  cases hi : l.findIdx? (fun e => e.1 == k) with
  | none =>
    rw [hi] at ha hf
    simp at ha
    have hfil : adel l k = l := by
      unfold adel; rw [List.filter_eq_self]; intro x hx
      simpa using aget_none.1 ha.symm x hx
    refine ⟨World.setObj w g (.map (ents enc l bs).toArray clk), ?_, ⟨bs, clk, by rw [hfil]; exact s, ?_⟩, Mod.objAt _ _ _, by simp [World.setObj]⟩
    · simp [Builtin.delete_, run_underlying ht, getObj, Go.setObj, Sem.run, hg, run_checkKey_int _ 9999 k hk, hf, Result.andThen]
      rfl
    · rw [setObj_same _ _ _ hgl, hfil]
  | some j =>
    rw [hi] at ha hf
    have hj : j < l.length := (List.findIdx?_eq_some_iff_findIdx_eq.1 hi).1
    have hp := List.findIdx?_eq_some_iff_getElem.1 hi
    have hlj : (l[j]).1 = k := by simpa using hp.2.1
    simp [hj] at ha hf
    have hfil : adel l k = l.eraseIdx j := filter_erase l j s.nd ⟨l[j].2, by rw [List.getElem?_eq_getElem hj, ← hlj]⟩
    refine ⟨World.setObj w g (.map ((ents enc l bs).toArray.eraseIdxIfInBounds j) clk), ?_, ⟨bs.eraseIdx j, clk, ?_, ?_⟩, Mod.objAt _ _ _, by simp [World.setObj]⟩
    · simp [Builtin.delete_, run_underlying ht, getObj, Go.setObj, Sem.run, hg, run_checkKey_int _ 9999 k hk, hf, Result.andThen]
      rfl
    · exact ⟨by rw [hfil]; simp [List.length_eraseIdx, s.len], s.inc.sublist (List.eraseIdx_sublist _ _), fun b hb => s.lt b ((List.eraseIdx_sublist _ _).mem hb), nodup_adel s.nd k⟩
    · rw [setObj_same _ _ _ hgl, hfil]
      congr 2
      simp [ents, Array.eraseIdxIfInBounds, hj, s.len, ← zipWith_eraseIdx]

/-! ## range -/
/-- 'it' ranges over the map g, which holds l; the keys 'done' have been told. -/
def IterE (w : World) (it g : Nat) (enc : α → Value) (l : List (Int × α)) (done : List Int) : Prop :=
  ∃ (bs : List Nat) (clk : Nat) (seen : Array Nat), Stamps l bs clk ∧ w.heap[g]? = some (.map (ents enc l bs).toArray clk) ∧ w.heap[it]? = some (.mapIter (some g) clk seen clk) ∧
    (∀ (j : Nat) (e : Int × α) (b : Nat), l[j]? = some e → bs[j]? = some b → (b ∈ seen ↔ e.1 ∈ done)) ∧
    (∀ k rest, done = k :: rest → ∃ (j : Nat) (e : Int × α) (b : Nat), l[j]? = some e ∧ e.1 = k ∧ bs[j]? = some b ∧ seen.back? = some b)

theorem IterE.keep {it : Nat} {done : List Int} (h : IterE w it g enc l done) (h1 : w'.heap[it]? = w.heap[it]?) (h2 : w'.heap[g]? = w.heap[g]?) : IterE w' it g enc l done := by
  obtain ⟨bs, clk, seen, s, a, b, c⟩ := h
  exact ⟨bs, clk, seen, s, h2.trans a, h1.trans b, c⟩
theorem IterE.map {it : Nat} {done : List Int} (h : IterE w it g enc l done) : MapE w g enc l := by
  obtain ⟨bs, clk, seen, s, a, b, c⟩ := h
  exact ⟨bs, clk, s, a⟩
theorem IterE.lt {it : Nat} {done : List Int} (h : IterE w it g enc l done) : it < w.heap.size := by
  obtain ⟨bs, clk, seen, s, a, b, c⟩ := h
  exact lt_of_heap b
theorem IterE.ne {it : Nat} {done : List Int} (h : IterE w it g enc l done) : it ≠ g := by
  obtain ⟨bs, clk, seen, s, a, b, c⟩ := h
  rintro rfl; rw [a] at b; cases b
theorem IterE.mod {it : Nat} {done : List Int} (h : IterE w it g enc l done) (hm : Mod S w w') (hi : ¬ S it) (hn : ¬ S g) : IterE w' it g enc l done :=
  h.keep (hm.block it h.lt hi) (hm.block g h.map.lt hn)

theorem run_range_map (h : MapE w g enc l) (ht : P.underlying t = some (.map kt et)) :
    ∃ o, (Instr.range t (.map (some g))).run P w = .ok (.pointer (some ⟨w.heap.size, 0, none⟩)) (w.alloc o) ∧ IterE (w.alloc o) w.heap.size g enc l [] := by
  have hgl := h.lt
  obtain ⟨bs, clk, s, hg⟩ := h
  refine ⟨.mapIter (some g) clk #[] clk, ?_, bs, clk, #[], s, (Below.heap_alloc _ _ _ hgl).trans hg, heap_alloc_new _ _, by simp, by simp⟩
  simp [Instr.range, run_underlying ht, getObj, newObj, Sem.run, hg, Result.andThen]

theorem run_choose_next (m : Nat) (hm : 0 < m) (w : World) : ∃ n w1, (Sem.choose (.mapNext m) Sem.pure).run P w = .ok n w1 ∧ n < m ∧ (w1 = w ∨ w1 = w.drew) := by
  unfold Sem.run
  by_cases h : (Question.mapNext m).forced = true
  · rw [if_pos h]; exact ⟨0, w, rfl, hm, .inl rfl⟩
  · rw [if_neg h]; exact ⟨_, w.drew, rfl, Nat.mod_lt _ hm, .inr rfl⟩

theorem nodup_stamps {bs : List Nat} (h : bs.Pairwise (· < ·)) : bs.Nodup := h.imp (fun h => Nat.ne_of_lt h)

/-- The next entry: none is left, or one that was not told yet. -/
theorem run_next_map {it : Nat} {done : List Int} (h : IterE w it g enc l done) :
    ((∀ e ∈ l, e.1 ∈ done) ∧ ∀ ty, (Instr.next (.pointer (some ⟨it, 0, none⟩)) false ty).run P w = .ok (.tuple #[.bool false]) w) ∨
    (∃ k v w', aget l k = some v ∧ k ∉ done ∧ (∀ ty, (Instr.next (.pointer (some ⟨it, 0, none⟩)) false ty).run P w = .ok (.tuple #[.bool true, .int .i64 k, enc v]) w') ∧
      IterE w' it g enc l (k :: done) ∧ Mod (At it) w w' ∧ w'.heap.size = w.heap.size) := by
  have hne := h.ne
  have hil := h.lt
  obtain ⟨bs, clk, seen, s, hg, hi, hs, _⟩ := h
  have hall : ((ents enc l bs).toArray.all fun e => decide (e.born ≥ clk)) = true → l = [] := by
    intro ha
    cases l with
    | nil => rfl
    | cons e l =>
      obtain ⟨b, bs', rfl⟩ : ∃ b bs', bs = b :: bs' := by
        cases bs with
        | nil => have := s.len; simp at this
        | cons b bs' => exact ⟨b, bs', rfl⟩
      have := s.lt b (by simp)
      simp [ents, ent] at ha
      omega
  have hguard : (!seen.isEmpty && !(ents enc l bs).toArray.isEmpty && (ents enc l bs).toArray.all fun e => decide (e.born ≥ clk)) = false := by
    cases hx : (ents enc l bs).toArray.all fun e => decide (e.born ≥ clk) with
    | false => simp
    | true =>
      have := hall hx
      subst this
      simp [ents]
  have hold : (((ents enc l bs).toArray.filter fun e => !seen.contains e.born).filter fun e => decide (e.born < clk)) = (ents enc l bs).toArray.filter fun e => !seen.contains e.born := by
    rw [Array.filter_eq_self]
    intro e he
    have he := (Array.mem_filter.1 he).1
    simp only [List.mem_toArray, ents, List.mem_iff_getElem?, List.getElem?_zipWith] at he
    obtain ⟨i, he⟩ := he
    cases hb : bs[i]? with
    | none => simp [hb] at he
    | some b =>
      have := s.lt b (List.mem_of_getElem? hb)
      cases hl : l[i]? with
      | none => simp [hl] at he
      | some x => simp [hb, hl, ent] at he; subst he; simpa using this
  have hnew : (((ents enc l bs).toArray.filter fun e => !seen.contains e.born).filter fun e => decide (e.born ≥ clk)) = #[] := by
    rw [Array.filter_eq_empty_iff]
    intro e he
    have he := (Array.mem_filter.1 he).1
    simp only [List.mem_toArray, ents, List.mem_iff_getElem?, List.getElem?_zipWith] at he
    obtain ⟨i, he⟩ := he
    cases hb : bs[i]? with
    | none => simp [hb] at he
    | some b =>
      have := s.lt b (List.mem_of_getElem? hb)
      cases hl : l[i]? with
      | none => simp [hl] at he
      | some x => simp [hb, hl, ent] at he; subst he; simpa using this
  generalize hleft : ((ents enc l bs).toArray.filter fun e => !seen.contains e.born) = left at hold hnew
  have ho : (getObj it : Sem Obj).run P w = .ok (.mapIter (some g) clk seen clk) w := by simp [getObj, Sem.run, hi]
  have hm : (getObj g : Sem Obj).run P w = .ok (.map (ents enc l bs).toArray clk) w := by simp [getObj, Sem.run, hg]
  have hin : ∀ e, e ∈ left ↔ ∃ (j : Nat) (x : Int × α) (b : Nat), l[j]? = some x ∧ bs[j]? = some b ∧ e = ent enc x b ∧ x.1 ∉ done := by
    intro e
    rw [← hleft, Array.mem_filter, List.mem_toArray, ents, List.mem_iff_getElem?]
    constructor
    · rintro ⟨⟨i, he⟩, hc⟩
      rw [List.getElem?_zipWith] at he
      cases hb : bs[i]? with
      | none => simp [hb] at he
      | some b =>
        cases hl : l[i]? with
        | none => simp [hl] at he
        | some x =>
          simp [hb, hl] at he
          subst he
          refine ⟨i, x, b, hl, hb, rfl, fun hd => ?_⟩
          have := (hs i x b hl hb).2 hd
          simp [ent, this] at hc
    · rintro ⟨i, x, b, hl, hb, rfl, hd⟩
      refine ⟨⟨i, by rw [List.getElem?_zipWith, hl, hb]⟩, ?_⟩
      simp [ent, hs i x b hl hb, hd]
  by_cases hemp : left = #[]
  · left
    refine ⟨fun e he => ?_, fun ty => ?_⟩
    · refine Classical.byContradiction fun hd => ?_
      obtain ⟨j, hj⟩ := List.mem_iff_getElem?.1 he
      have hjl : j < bs.length := by
        rw [s.len]
        rcases Nat.lt_or_ge j l.length with h' | h'
        · exact h'
        · simp [List.getElem?_eq_none h'] at hj
      have := (hin (ent enc e bs[j])).2 ⟨j, e, bs[j], hj, List.getElem?_eq_getElem hjl, rfl, hd⟩
      rw [hemp] at this
      simp at this
    · obtain ⟨n, w1, hc, hn, hw⟩ := run_choose_next (P := P) 1 (by omega) w
      have hn0 : n = 0 := by omega
      subst hn0
      have hw1 : w1 = w := by
        have : (Sem.choose (.mapNext 1) Sem.pure).run P w = .ok 0 w := by simp [Sem.run, Question.forced]
        rw [this] at hc
        injection hc with _ hc; exact hc.symm
      subst hw1
      simp only [Instr.next, Sem.run_bind, ho, Result.andThen_ok, hm, hguard, hleft, Bool.false_eq_true, if_false, choose, hemp]
      simp [hc, Result.andThen]
  · right
    have hne' : left.isEmpty = false := by simpa using hemp
    have hpos : 0 < left.size := by
      rcases Nat.eq_zero_or_pos left.size with h0 | h0
      · exact absurd (Array.eq_empty_of_size_eq_zero h0) hemp
      · exact h0
    obtain ⟨n, w1, hc, hn, hw⟩ := run_choose_next (P := P) left.size hpos w
    obtain ⟨j, x, b, hl, hb, he, hd⟩ := (hin left[n]).1 (Array.getElem_mem hn)
    have hw1h : w1.heap = w.heap := by rcases hw with rfl | rfl <;> rfl
    have hmod1 : Mod (At it) w w1 := by
      rcases hw with rfl | rfl
      · exact Mod.refl _ _
      · exact (Mod.refl _ _).drew
    have hxl : x ∈ l := List.mem_of_getElem? hl
    refine ⟨x.1, x.2, World.setObj w1 it (.mapIter (some g) clk (seen.push b) clk), aget_mem' s.nd hxl, hd, fun ty => ?_, ?_, hmod1.trans (Mod.objAt _ _ _), by simp [World.setObj, hw1h]⟩
    · simp only [Instr.next, Sem.run_bind, ho, Result.andThen_ok, hm, hguard, hleft, hold, hnew, Bool.false_eq_true, if_false, choose, Array.append_empty, hne']
      simp only [Array.size_append, List.size_toArray, List.length_nil, Array.size_map, Nat.zero_add, hc, Result.andThen_ok]
      have hat : ((#[] : Array (Option MapEntry)) ++ Array.map some left)[n]? = some (some left[n]) := by simp [hn]
      have hi1 : w1.heap[it]? = some (.mapIter (some g) clk seen clk) := by rw [hw1h]; exact hi
      rw [hat]
      simp [Go.setObj, Sem.run, hi1, Result.andThen, he, ent]
      rfl
    · refine ⟨bs, clk, seen.push b, s, ?_, setObj_same _ _ _ (by rw [hw1h]; exact hil), ?_, fun k rest hk => ⟨j, x, b, hl, by injection hk, hb, by simp⟩⟩
      · rw [setObj_other _ _ _ _ (fun e => hne e.symm), hw1h]; exact hg
      · intro j' e' b' hl' hb'
        rw [Array.mem_push, hs j' e' b' hl' hb', List.mem_cons]
        constructor
        · rintro (h | h)
          · exact .inr h
          · subst h
            have : j' = j := by
              have hjl : j < bs.length := (List.getElem?_eq_some_iff.1 hb).1
              have hjl' : j' < bs.length := (List.getElem?_eq_some_iff.1 hb').1
              exact (List.getElem?_inj hjl' (nodup_stamps s.inc)).1 (hb'.trans hb.symm)
            subst this
            rw [hl] at hl'; injection hl' with hl'; exact .inl (by rw [hl'])
        · rintro (h | h)
          · right
            have hm1 : (l.map (·.1))[j']? = some e'.1 := by simp [hl']
            have hm2 : (l.map (·.1))[j]? = some x.1 := by simp [hl]
            have hjl' : j' < (l.map (·.1)).length := (List.getElem?_eq_some_iff.1 hm1).1
            have : j' = j := (List.getElem?_inj hjl' s.nd).1 (by rw [hm1, hm2, h])
            subst this
            rw [hb] at hb'; injection hb' with hb'; exact hb'.symm
          · exact .inl h

/-- the entry that was told last -/
theorem run_entry_map {it : Nat} {k : Int} {done : List Int} {v : α} (h : IterE w it g enc l (k :: done)) (hv : aget l k = some v) :
    (Instr.entry (.pointer (some ⟨it, 0, none⟩))).run P w = .ok (.tuple #[.int .i64 k, enc v]) w := by
  obtain ⟨bs, clk, seen, s, hg, hi, hs, hl⟩ := h
  obtain ⟨j, e, b, h1, h2, h3, h4⟩ := hl k done rfl
  have ho : (getObj it : Sem Obj).run P w = .ok (.mapIter (some g) clk seen clk) w := by simp [getObj, Sem.run, hi]
  have hm : (getObj g : Sem Obj).run P w = .ok (.map (ents enc l bs).toArray clk) w := by simp [getObj, Sem.run, hg]
  have hev : e = (k, v) := by
    have := aget_mem' s.nd (List.mem_of_getElem? h1)
    rw [h2, hv] at this; injection this with this
    rw [← h2, this]
  have hfind : (ents enc l bs).toArray.find? (fun x => x.born == b) = some (ent enc e b) := by
    rw [List.find?_toArray, List.find?_eq_some_iff_getElem]
    have hjb : j < bs.length := (List.getElem?_eq_some_iff.1 h3).1
    have hje : j < (ents enc l bs).length := by rw [ents_size s.len, ← s.len]; exact hjb
    have hjg : (ents enc l bs)[j] = ent enc e b := by
      have : (ents enc l bs)[j]? = some (ent enc e b) := by simp [ents, List.getElem?_zipWith, h1, h3]
      rw [List.getElem?_eq_getElem hje] at this; injection this
    refine ⟨by simp [ent], j, hje, hjg, fun i hij => ?_⟩
    have hib : i < bs.length := by omega
    have hil : i < l.length := by rw [← s.len]; exact hib
    have hbj : bs[j] = b := by rw [List.getElem?_eq_getElem hjb] at h3; injection h3
    have : bs[i] < bs[j] := List.pairwise_iff_getElem.1 s.inc i j hib hjb hij
    simp [ents, ent]
    omega
  simp only [Instr.entry, Sem.run_bind, ho, Result.andThen_ok, h4, hm, bne_self_eq_false, Bool.false_eq_true, if_false, hfind, hev]
  rfl
end
end Go.Proofs.YtijmkbhbpbkkoaaGreat

/- Laws at the operation, for the walk: whole variables, maps with int keys, range over such a map. No program is named. -/
namespace Go.Proofs.YtijmkbhbpbkkoaaGreat
open Go.RowKit

section
variable {P : Program} {w w' : World} {ops : Array Oper} {rest : List Oper} {o : Oper} {a : Act} {Q : Exit → Act → World → Prop}

theorem wpList_val (hg : Region.wanted o (yielded ops a.tmps) = true) {v : Value} {w1 : World} (hrun : (execOp a.eval o).run P w = .ok (.value v) w1)
    (h : wpList P ops Q rest (a.put o.dst v) w1) : wpList P ops Q (o :: rest) a w :=
  wpList_step fun _ hK => by rw [if_pos hg]; unfold Oper.wp; rw [hrun]; exact hK _ _ h
theorem wpList_unit (hg : Region.wanted o (yielded ops a.tmps) = true) {w1 : World} (hrun : (execOp a.eval o).run P w = .ok .skip w1)
    (h : wpList P ops Q rest (a.put o.dst undef) w1) : wpList P ops Q (o :: rest) a w :=
  wpList_step fun _ hK => by rw [if_pos hg]; unfold Oper.wp; rw [hrun]; exact hK _ _ h
theorem wpStill_val {Q : Act → Prop} (hg : Region.wanted o (yielded ops a.tmps) = true) {v : Value} (hrun : (execOp a.eval o).run P w = .ok (.value v) w)
    (h : wpStill P ops w Q rest (a.put o.dst v)) : wpStill P ops w Q (o :: rest) a :=
  wpStill_step fun K hK => by
    rw [if_pos hg]
    unfold Oper.still
    rw [hrun, Oper.stillUpon_value]
    exact hK _ h

/-! ### run equations -/
theorem zero_of {T : TypeId} {z : Value} {n : Nat} (hi : (P.info? T).map (fun i => (i.zero, i.size)) = some (some z, n)) (w : World) : (zeroValue T).run P w = .ok z w := by
  cases hq : P.info? T with
  | none => simp [hq] at hi
  | some i => simp [hq] at hi; simp [zeroValue, typeInfo, hq, hi.1]
theorem size_of {T : TypeId} {z : Value} {n : Nat} (hi : (P.info? T).map (fun i => (i.zero, i.size)) = some (some z, n)) : (P.info? T).map (·.size) = some n := by
  cases hq : P.info? T with
  | none => simp [hq] at hi
  | some i => simp [hq] at hi; simp [hi.2]

theorem exec_alloc (T : TypeId) (ho : o.op = .alloc T) {z : Value} {n : Nat} (hi : (P.info? T).map (fun i => (i.zero, i.size)) = some (some z, n)) :
    (execOp a.eval o).run P w = .ok (.value (.pointer (some ⟨w.heap.size, 0, none⟩))) (w.alloc (.cells z.cells T)) := by
  simp [execOp, ho, Instr.alloc, zero_of hi, newVar, newRow, Result.andThen]
theorem exec_box (T : TypeId) (x : Operand) (ho : o.op = .box T x) :
    (execOp a.eval o).run P w = .ok (.value (.pointer (some ⟨w.heap.size, 0, none⟩))) (w.alloc (.cells (a.eval x).cells T)) := by
  simp [execOp, ho, Instr.box, newVar, newRow, Result.andThen]
theorem exec_store_row (T : TypeId) (x y : Operand) (ho : o.op = .store T x y) {g : Nat} {cells old : Array Value} {t : TypeId}
    (hx : a.eval x = .pointer (some ⟨g, 0, none⟩)) (hy : a.eval y = .agg cells) (hb : Blk w g t old) (hi : (P.info? T).map (·.size) = some cells.size)
    (hs : old.size = cells.size) (h1 : cells.all (·.oneCell') = true) :
    (execOp a.eval o).run P w = .ok .skip (w.setRow g cells) := by
  simp [execOp, ho, hx, hy, Instr.storeAt, Instr.sureAddr, run_storeVar_row w g t T old cells hb hi hs h1, Result.andThen]
theorem exec_load_row (T : TypeId) (x : Operand) (ho : o.op = .load T x) {g : Nat} {cs : Array Value} {t : TypeId} {d : TypeDesc}
    (hx : a.eval x = .pointer (some ⟨g, 0, none⟩)) (hb : Blk w g t cs) (hu : P.underlying T = some d)
    (hd : (match d with | .struct _ | .array _ _ => true | _ => false) = true) (hi : (P.info? T).map (·.size) = some cs.size) :
    (execOp a.eval o).run P w = .ok (.value (.agg cs)) w := by
  simp [execOp, ho, hx, Instr.loadAt, Instr.sureAddr, run_loadVar_row w g t T cs (0, 0) d hb hu hd hi, Result.andThen]
/-- a whole array or struct, from the middle of whatever block -/
theorem run_loadVar_cells (w : World) (T : TypeId) (b off : Nat) (cs : List Value) (d : TypeDesc) (hc : ∀ j v, cs[j]? = some v → w.cell? ⟨b, off + j, none⟩ = some v)
    (hu : P.underlying T = some d) (hd : (match d with | .struct _ | .array _ _ => true | _ => false) = true) (hi : (P.info? T).map (·.size) = some cs.length) :
    (loadVar T ⟨b, off, none⟩).run P w = .ok (.agg cs.toArray) w := by
  have hl : (loadCells ⟨b, off, none⟩ cs.length).run P w = .ok cs.toArray w :=
    run_loadCells_list (P := P) w ⟨b, off, none⟩ cs (fun j v hv => by
      have hadd : (⟨b, off, none⟩ : Addr).add j = ⟨b, off + j, none⟩ := by unfold Addr.add; split <;> simp_all
      rw [hadd]; exact hc j v hv)
  cases hq : P.info? T with
  | none => simp [hq] at hi
  | some i =>
    have hs : i.size = cs.length := by simpa [hq] using hi
    have hagg : (isAgg T).run P w = .ok true w := by
      unfold isAgg
      rw [Sem.run_bind, run_underlying hu w]
      cases d <;> simp_all
    simp [loadVar, Sem.run_bind, hagg, sizeOf, typeInfo, hq, hs, hl]
theorem exec_load_cells (T : TypeId) (x : Operand) (ho : o.op = .load T x) {b off : Nat} {cs : List Value} {d : TypeDesc}
    (hx : a.eval x = .pointer (some ⟨b, off, none⟩)) (hc : ∀ j v, cs[j]? = some v → w.cell? ⟨b, off + j, none⟩ = some v) (hu : P.underlying T = some d)
    (hd : (match d with | .struct _ | .array _ _ => true | _ => false) = true) (hi : (P.info? T).map (·.size) = some cs.length) :
    (execOp a.eval o).run P w = .ok (.value (.agg cs.toArray)) w := by
  simp [execOp, ho, hx, Instr.loadAt, Instr.sureAddr, run_loadVar_cells w T b off cs d hc hu hd hi, Result.andThen]

/-- one cell -/
theorem exec_load1 (T : TypeId) (x : Operand) (ho : o.op = .load T x) {ad : Addr} {v : Value} {d : TypeDesc} (hx : a.eval x = .pointer (some ad)) (hc : w.cell? ad = some v) (hu : P.underlying T = some d)
    (hd : (match d with | .struct _ | .array _ _ => true | _ => false) = false) : (execOp a.eval o).run P w = .ok (.value v) w := by
  have hagg : (isAgg T).run P w = .ok false w := by
    unfold isAgg
    rw [Sem.run_bind, run_underlying hu w]
    cases d <;> simp_all
  simp [execOp, ho, hx, Instr.loadAt, Instr.sureAddr, loadVar, hagg, load, Sem.run, hc, Result.andThen]
theorem exec_arrayAt (T : TypeId) (x : Operand) (ho : o.op = .sliceToArrayPointer T x) {A : Option Addr} {m c n : Nat} {e : TypeId} (hx : a.eval x = .slice A m c)
    (hu : P.underlying T = some (.array n e)) (hn : n ≤ m) : (execOp a.eval o).run P w = .ok (.value (.pointer A)) w := by
  have hn' : ¬ m < n := by omega
  simp [execOp, ho, hx, Instr.arrayAt, run_underlying hu, hn', Result.andThen]

section maps
variable {α : Type} {enc : α → Value} {g : Nat} {l : List (Int × α)} {t kt et : TypeId}
theorem exec_lookup (m x : Operand) (ok : Bool) (ho : o.op = .lookup t m x ok) (k : Int) (hm : a.eval m = .map (some g)) (hx : a.eval x = .int .i64 k) (h : MapE w g enc l)
    (ht : P.underlying t = some (.map kt et)) (hk : P.underlying kt = some (.int .i64)) {z : Value} {n : Nat} (hi : (P.info? et).map (fun i => (i.zero, i.size)) = some (some z, n)) :
    (execOp a.eval o).run P w = .ok (.value (if ok then .tuple #[((aget l k).map enc).getD z, .bool (aget l k).isSome] else ((aget l k).map enc).getD z)) w := by
  simp [execOp, ho, hm, hx, run_lookup h ht hk (zero_of hi w), Result.andThen]
theorem exec_mapUpdate (m x y : Operand) (ho : o.op = .mapUpdate t m x y) (k : Int) (v : α) (hm : a.eval m = .map (some g)) (hx : a.eval x = .int .i64 k) (hy : a.eval y = enc v) (h : MapE w g enc l)
    (ht : P.underlying t = some (.map kt et)) (hk : P.underlying kt = some (.int .i64)) :
    ∃ w1, (execOp a.eval o).run P w = .ok .skip w1 ∧ MapE w1 g enc (aset l k v) ∧ Mod (At g) w w1 ∧ w1.heap.size = w.heap.size := by
  obtain ⟨w1, h1, h2⟩ := run_mapUpdate (P := P) h ht hk k v
  exact ⟨w1, by simp [execOp, ho, hm, hx, hy, h1, Result.andThen], h2⟩
theorem exec_range (m : Operand) (ho : o.op = .range t m) (hm : a.eval m = .map (some g)) (h : MapE w g enc l) (ht : P.underlying t = some (.map kt et)) :
    ∃ ob, (execOp a.eval o).run P w = .ok (.value (.pointer (some ⟨w.heap.size, 0, none⟩))) (w.alloc ob) ∧ IterE (w.alloc ob) w.heap.size g enc l [] := by
  obtain ⟨ob, h1, h2⟩ := run_range_map (P := P) h ht
  exact ⟨ob, by simp [execOp, ho, hm, h1, Result.andThen], h2⟩
theorem exec_next (x : Operand) (ho : o.op = .next x false) {it : Nat} {done : List Int} (hx : a.eval x = .pointer (some ⟨it, 0, none⟩)) (h : IterE w it g enc l done) :
    ((∀ e ∈ l, e.1 ∈ done) ∧ (execOp a.eval o).run P w = .ok (.value (.tuple #[.bool false])) w) ∨
    (∃ k v w', aget l k = some v ∧ k ∉ done ∧ (execOp a.eval o).run P w = .ok (.value (.tuple #[.bool true, .int .i64 k, enc v])) w' ∧
      IterE w' it g enc l (k :: done) ∧ Mod (At it) w w' ∧ w'.heap.size = w.heap.size) := by
  rcases run_next_map (P := P) h with ⟨h1, h2⟩ | ⟨k, v, w1, h1, h2, h3, h4⟩
  · exact .inl ⟨h1, by simp [execOp, ho, hx, h2, Result.andThen]⟩
  · exact .inr ⟨k, v, w1, h1, h2, by simp [execOp, ho, hx, h3, Result.andThen], h4⟩

end maps

/-! ### the walk's laws -/
theorem wpList_alloc_var (T : TypeId) (hg : Region.wanted o (yielded ops a.tmps) = true) (ho : o.op = .alloc T) {z : Value} {n : Nat} (hi : (P.info? T).map (fun i => (i.zero, i.size)) = some (some z, n))
    (h : ∀ w1, Blk w1 w.heap.size T z.cells → Mod Nn w w1 → w1.heap.size = w.heap.size + 1 → wpList P ops Q rest (a.put o.dst (.pointer (some ⟨w.heap.size, 0, none⟩))) w1) :
    wpList P ops Q (o :: rest) a w :=
  wpList_val hg (exec_alloc T ho hi) (h _ (Blk.new _ _ _) ((Mod.refl _ _).alloc _) (by simp))
theorem wpList_store_var (T : TypeId) (x y : Operand) (hg : Region.wanted o (yielded ops a.tmps) = true) (ho : o.op = .store T x y) (g : Nat) (cells old : Array Value) (t : TypeId)
    (hx : a.eval x = .pointer (some ⟨g, 0, none⟩)) (hy : a.eval y = .agg cells) (hb : Blk w g t old) (hi : (P.info? T).map (·.size) = some cells.size)
    (hs : old.size = cells.size) (h1 : cells.all (·.oneCell') = true)
    (h : ∀ w1, Blk w1 g t cells → Mod (At g) w w1 → w1.heap.size = w.heap.size → wpList P ops Q rest (a.put o.dst undef) w1) :
    wpList P ops Q (o :: rest) a w :=
  wpList_unit hg (exec_store_row T x y ho hx hy hb hi hs h1) (h _ (hb.setRow_ _) (Mod.rowAt _ _ _) (by simp))
theorem wpList_load_var (T : TypeId) (x : Operand) (hg : Region.wanted o (yielded ops a.tmps) = true) (ho : o.op = .load T x) (g : Nat) (cs : Array Value) (t : TypeId) (d : TypeDesc)
    (hx : a.eval x = .pointer (some ⟨g, 0, none⟩)) (hb : Blk w g t cs) (hu : P.underlying T = some d)
    (hd : (match d with | .struct _ | .array _ _ => true | _ => false) = true) (hi : (P.info? T).map (·.size) = some cs.size)
    (h : wpList P ops Q rest (a.put o.dst (.agg cs)) w) : wpList P ops Q (o :: rest) a w :=
  wpList_val hg (exec_load_row T x ho hx hb hu hd hi) h
section maps2
variable {α : Type} {enc : α → Value} {g : Nat} {l : List (Int × α)} {t kt et : TypeId}
theorem wpList_lookup_E (t : TypeId) (m x : Operand) (ok : Bool) (hg : Region.wanted o (yielded ops a.tmps) = true) (ho : o.op = .lookup t m x ok) (g : Nat) (k : Int) (hm : a.eval m = .map (some g)) (hx : a.eval x = .int .i64 k) (h : MapE w g enc l)
    (ht : P.underlying t = some (.map kt et)) (hk : P.underlying kt = some (.int .i64)) {z : Value} {n : Nat} (hi : (P.info? et).map (fun i => (i.zero, i.size)) = some (some z, n)) (r : Value)
    (hr : (if ok then .tuple #[((aget l k).map enc).getD z, .bool (aget l k).isSome] else ((aget l k).map enc).getD z) = r)
    (hK : wpList P ops Q rest (a.put o.dst r) w) : wpList P ops Q (o :: rest) a w :=
  wpList_val hg (exec_lookup m x ok ho k hm hx h ht hk hi) (by rw [hr]; exact hK)
theorem wpList_mapUpdate_E (t : TypeId) (m x y : Operand) (hg : Region.wanted o (yielded ops a.tmps) = true) (ho : o.op = .mapUpdate t m x y) (g : Nat) (k : Int) (v : α) (hm : a.eval m = .map (some g)) (hx : a.eval x = .int .i64 k) (hy : a.eval y = enc v) (h : MapE w g enc l)
    (ht : P.underlying t = some (.map kt et)) (hk : P.underlying kt = some (.int .i64))
    (hK : ∀ w1, MapE w1 g enc (aset l k v) → Mod (At g) w w1 → w1.heap.size = w.heap.size → wpList P ops Q rest (a.put o.dst undef) w1) : wpList P ops Q (o :: rest) a w := by
  obtain ⟨w1, h1, h2, h3, h4⟩ := exec_mapUpdate (P := P) (o := o) (a := a) m x y ho k v hm hx hy h ht hk
  exact wpList_unit hg h1 (hK w1 h2 h3 h4)
theorem wpList_range_E (t : TypeId) (m : Operand) (hg : Region.wanted o (yielded ops a.tmps) = true) (ho : o.op = .range t m) (g : Nat) (hm : a.eval m = .map (some g)) (h : MapE w g enc l) (ht : P.underlying t = some (.map kt et))
    (hK : ∀ w1, IterE w1 w.heap.size g enc l [] → Mod Nn w w1 → w1.heap.size = w.heap.size + 1 → wpList P ops Q rest (a.put o.dst (.pointer (some ⟨w.heap.size, 0, none⟩))) w1) : wpList P ops Q (o :: rest) a w := by
  obtain ⟨ob, h1, h2⟩ := exec_range (P := P) (o := o) (a := a) m ho hm h ht
  exact wpList_val hg h1 (hK _ h2 ((Mod.refl _ _).alloc _) (by simp))
theorem wpList_next_E (x : Operand) (hg : Region.wanted o (yielded ops a.tmps) = true) (ho : o.op = .next x false) (it : Nat) (done : List Int) (hx : a.eval x = .pointer (some ⟨it, 0, none⟩)) (h : IterE w it g enc l done)
    (h0 : (∀ e ∈ l, e.1 ∈ done) → wpList P ops Q rest (a.put o.dst (.tuple #[.bool false])) w)
    (h1 : ∀ k v w1, aget l k = some v → k ∉ done → IterE w1 it g enc l (k :: done) → Mod (At it) w w1 → w1.heap.size = w.heap.size →
      wpList P ops Q rest (a.put o.dst (.tuple #[.bool true, .int .i64 k, enc v])) w1) : wpList P ops Q (o :: rest) a w := by
  rcases exec_next (P := P) (o := o) (a := a) x ho hx h with ⟨h2, h3⟩ | ⟨k, v, w1, h2, h3, h4, h5, h6, h7⟩
  · exact wpList_val hg h3 (h0 h2)
  · exact wpList_val hg h4 (h1 k v w1 h2 h3 h5 h6 h7)
theorem wpList_entry_E (x : Operand) (hg : Region.wanted o (yielded ops a.tmps) = true) (ho : o.op = .entry x) (it : Nat) (k : Int) (v : α) (done : List Int) (hx : a.eval x = .pointer (some ⟨it, 0, none⟩)) (h : IterE w it g enc l (k :: done)) (hv : aget l k = some v)
    (hK : wpList P ops Q rest (a.put o.dst (.tuple #[.int .i64 k, enc v])) w) : wpList P ops Q (o :: rest) a w := by
  refine wpList_val hg ?_ hK
  simp [execOp, ho, hx, run_entry_map (P := P) h hv, Result.andThen]
theorem wpList_clear_E (t : TypeId) (m : Operand) (hg : Region.wanted o (yielded ops a.tmps) = true) (ho : o.op = .call { callee := .builtin .clear, args := #[m], argTypes := #[t] }) (g : Nat) (hm : a.eval m = .map (some g)) (h : MapE w g enc l) (ht : P.underlying t = some (.map kt et))
    (hK : ∀ w1, MapE w1 g enc [] → Mod (At g) w w1 → w1.heap.size = w.heap.size → wpList P ops Q rest (a.put o.dst (.tuple #[])) w1) : wpList P ops Q (o :: rest) a w := by
  obtain ⟨w1, h1, h2, h3, h4⟩ := run_clear (P := P) h ht o.type
  refine wpList_val hg (w1 := w1) (v := .tuple #[]) ?_ (hK w1 h2 h3 h4)
  simp [execOp, ho, resolve, invoke, builtin, hm, h1, Result.andThen]
theorem wpList_delete_E (t u : TypeId) (m x : Operand) (hg : Region.wanted o (yielded ops a.tmps) = true) (ho : o.op = .call { callee := .builtin .delete, args := #[m, x], argTypes := #[t, u] }) (g : Nat) (k : Int) (hm : a.eval m = .map (some g)) (hx : a.eval x = .int .i64 k) (h : MapE w g enc l)
    (ht : P.underlying t = some (.map kt et)) (hk : P.underlying kt = some (.int .i64))
    (hK : ∀ w1, MapE w1 g enc (adel l k) → Mod (At g) w w1 → w1.heap.size = w.heap.size → wpList P ops Q rest (a.put o.dst (.tuple #[])) w1) : wpList P ops Q (o :: rest) a w := by
  obtain ⟨w1, h1, h2, h3, h4⟩ := run_delete (P := P) h ht hk u o.type k
  refine wpList_val hg (w1 := w1) (v := .tuple #[]) ?_ (hK w1 h2 h3 h4)
  simp [execOp, ho, resolve, invoke, builtin, hm, hx, h1, Result.andThen]
end maps2
end
end Go.Proofs.YtijmkbhbpbkkoaaGreat

/- Slices: what one reads as (Rd), one that the call owns (the library's ownsRow), append and make by these. No program is named. -/
namespace Go.Proofs.YtijmkbhbpbkkoaaGreat
open Go.RowKit

/-- the slice value '.slice A n c' of one-cell elements reads as xs -/
def Rd (w : World) (A : Option Addr) (n : Nat) (xs : List Value) : Prop :=
  xs.length = n ∧ (0 < n → ∃ g off, A = some ⟨g, off, none⟩ ∧ ∀ j v, xs[j]? = some v → w.cell? ⟨g, off + j, none⟩ = some v)
/-- block g is the slice's -/
def Of (A : Option Addr) : Nat → Prop := fun g => ∃ a, A = some a ∧ a.block = g

section
variable {P : Program} {w w' : World} {A : Option Addr} {n : Nat} {xs : List Value} {S : Nat → Prop}
theorem Rd.nil (w : World) (A : Option Addr) : Rd w A 0 [] := ⟨rfl, fun h => absurd h (by omega)⟩
theorem Rd.lt (h : Rd w A n xs) (hn : 0 < n) : ∃ g off, A = some ⟨g, off, none⟩ ∧ g < w.heap.size := by
  obtain ⟨g, off, rfl, hc⟩ := h.2 hn
  have h0 : 0 < xs.length := by rw [h.1]; exact hn
  exact ⟨g, off, rfl, World.block_lt_of_cell? w _ (hc 0 xs[0] (List.getElem?_eq_getElem h0))⟩
theorem Rd.keep (h : Rd w A n xs) (hk : ∀ g off, A = some ⟨g, off, none⟩ → 0 < n → ∀ i, w'.cell? ⟨g, i, none⟩ = w.cell? ⟨g, i, none⟩) : Rd w' A n xs :=
  ⟨h.1, fun hn => by
    obtain ⟨g, off, hA, hc⟩ := h.2 hn
    exact ⟨g, off, hA, fun j v hv => (hk g off hA hn _).trans (hc j v hv)⟩⟩
theorem Rd.mod0 (h : Rd w A n xs) (hm : Mod S w w') (hn : 0 < n → ∀ g, Of A g → ¬ S g) : Rd w' A n xs :=
  h.keep fun g off hA hp i => by
    obtain ⟨g', off', hA', hlt⟩ := h.lt hp
    rw [hA] at hA'; injection hA' with hA'; injection hA' with h1 _ _; subst h1
    exact hm.cell (p := ⟨g, i, none⟩) hlt (hn hp g ⟨_, hA, rfl⟩)
theorem Rd.mod (h : Rd w A n xs) (hm : Mod S w w') (hn : ∀ g, Of A g → ¬ S g) : Rd w' A n xs := h.mod0 hm (fun _ => hn)
theorem Rd.in_ (h : Rd w A n xs) (hp : 0 < n) {g : Nat} (hg : Of A g) : g < w.heap.size := by
  obtain ⟨g', off', hA', hlt⟩ := h.lt hp
  obtain ⟨a, ha, rfl⟩ := hg
  rw [hA'] at ha; injection ha with ha; subst ha; exact hlt
theorem Rd.drew (h : Rd w A n xs) : Rd w.drew A n xs := h
theorem Rd.drewN (h : Rd w A n xs) (k : Nat) : Rd (w.drewN k) A n xs := h
theorem Rd.at_ (h : Rd w A n xs) {k : Nat} (hk : k < n) : ∃ g off v, A = some ⟨g, off, none⟩ ∧ xs[k]? = some v ∧ w.cell? ⟨g, off + k, none⟩ = some v := by
  obtain ⟨g, off, hA, hc⟩ := h.2 (by omega)
  have hl : k < xs.length := by rw [h.1]; exact hk
  exact ⟨g, off, xs[k], hA, List.getElem?_eq_getElem hl, hc k _ (List.getElem?_eq_getElem hl)⟩
theorem Rd.of_own {base : Nat} {e : TypeId} {c : Nat} (h : w.ownsRow base e 1 (.slice A n c) n xs) : Rd w A n xs := by
  obtain ⟨h1, h2⟩ := h
  refine ⟨by simpa using h1, fun hn => ?_⟩
  rcases h2 with ⟨_, h0⟩ | ⟨g, cap, cur, hv, _, hb, _, _, _, ht⟩
  · omega
  · injection hv with hA _ _
    refine ⟨g, 0, hA, fun j v hj => ?_⟩
    rw [cell_of_row w g (0 + j) cur e (0, 0) hb, Nat.zero_add]
    have hj' := hj
    rw [← ht, List.getElem?_take] at hj
    split at hj
    · simpa using hj
    · cases hj

theorem own_mod {base : Nat} {e : TypeId} {size : Nat} {v : Value} (h : w.ownsRow base e size v n xs) (hm : Mod S w w') (hn : ∀ g, v.ownBlock = some g → ¬ S g) : w'.ownsRow base e size v n xs := by
  refine ⟨h.1, ?_⟩
  rcases h.2 with h0 | ⟨g, cap, cur, rfl, hb, hgg, rest⟩
  · exact .inl h0
  · refine .inr ⟨g, cap, cur, rfl, hb, ?_, rest⟩
    rw [hm.block g (lt_of_heap hgg) (hn g rfl)]
    exact hgg
theorem own_base {base base' : Nat} {e : TypeId} {size : Nat} {v : Value} (h : w.ownsRow base e size v n xs) (hb : ∀ g, v.ownBlock = some g → base' ≤ g) : w.ownsRow base' e size v n xs := by
  refine ⟨h.1, ?_⟩
  rcases h.2 with h0 | ⟨g, cap, cur, rfl, _, hgg, rest⟩
  · exact .inl h0
  · exact .inr ⟨g, cap, cur, rfl, hb g rfl, hgg, rest⟩
theorem own_form {base : Nat} {e : TypeId} {size : Nat} {v : Value} (h : w.ownsRow base e size v n xs) :
    ∃ A c, v = .slice A n c ∧ n ≤ c ∧ (∀ g, Of A g → base ≤ g ∧ g < w.heap.size) := by
  rcases h.2 with ⟨rfl, rfl⟩ | ⟨g, cap, cur, rfl, hb, hgg, hc, _⟩
  · exact ⟨none, 0, rfl, Nat.le_refl _, fun g hg => by obtain ⟨a, ha, _⟩ := hg; cases ha⟩
  · exact ⟨_, cap, rfl, hc, fun k hk => by obtain ⟨a, ha, hk⟩ := hk; injection ha with ha; subst ha; exact hk ▸ ⟨hb, lt_of_heap hgg⟩⟩
theorem own_blk {base : Nat} {e : TypeId} {size : Nat} {v : Value} (h : w.ownsRow base e size v n xs) (hp : 0 < n) :
    ∃ g cap cur, v = .slice (some ⟨g, 0, none⟩) n cap ∧ base ≤ g ∧ Blk w g e cur ∧ n ≤ cap ∧ cap ≤ maxLen ∧ cur.size = cap * size ∧ cur.toList.take (n * size) = xs := by
  rcases h.2 with ⟨_, h0⟩ | h1
  · omega
  · exact h1
theorem of_own {A : Option Addr} {m c : Nat} {g : Nat} (h : Of A g) : (Value.slice A m c).ownBlock = some g := by
  obtain ⟨a, rfl, rfl⟩ := h; rfl
theorem own_of {A : Option Addr} {m c : Nat} {g : Nat} (h : (Value.slice A m c).ownBlock = some g) : Of A g := by
  cases A with
  | none => cases h
  | some a => injection h with h; exact ⟨a, rfl, h⟩

theorem Rd.of_blk {g : Nat} {t : TypeId} {cs : Array Value} (h : Blk w g t cs) (off : Nat) (hx : xs.length = n) (hs : ∀ j v, xs[j]? = some v → cs[off + j]? = some v) : Rd w (some ⟨g, off, none⟩) n xs :=
  ⟨hx, fun _ => ⟨g, off, rfl, fun j v hv => (h.cell (off + j)).trans (hs j v hv)⟩⟩
theorem Rd.of_blk0 {g : Nat} {t : TypeId} (h : Blk w g t xs.toArray) (hx : xs.length = n) : Rd w (some ⟨g, 0, none⟩) n xs :=
  Rd.of_blk h 0 hx (fun j v hv => by simpa using hv)

/-- Runs of cells, of elements of any size: the source of an append. -/
def RdC (w : World) (A : Option Addr) (m : Nat) (size : Nat) (xs : List Value) : Prop :=
  xs.length = m * size ∧ (0 < m → ∃ g off, A = some ⟨g, off, none⟩ ∧ ∀ j v, xs[j]? = some v → w.cell? ⟨g, off + j, none⟩ = some v)
theorem Rd.toC (h : Rd w A n xs) : RdC w A n 1 xs := ⟨by rw [h.1]; omega, h.2⟩

theorem run_append_rd (w : World) (base : Nat) (t ty e : TypeId) (z : Value) (size bytes : Nat) (ht : P.underlying t = some (.slice e))
    (hi : (P.info? e).map (fun i => (i.zero, i.size, i.bytes)) = some (some z, size, bytes)) (hzs : z.cells.size = size) (hsz : 0 < size)
    (v : Value) (n : Nat) (xs : List Value) (hown : w.ownsRow base e size v n xs)
    (A : Option Addr) (m c : Nat) (news : List Value) (hr : RdC w A m size news) (h1 : ∀ u ∈ news, u.oneCell' = true)
    (hbytes : (n + m) * bytes ≤ 140737488355328) (h63 : n + m ≤ 140737488355328) (hbase : base ≤ w.heap.size) :
    ∃ v' w', (Builtin.append_ #[t, t] ty #[v, .slice A m c]).run P w = .ok v' w' ∧ w'.ownsRow base e size v' (n + m) (xs ++ news) ∧ w.grownBy w' v.ownBlock ∧
      (v'.ownBlock = v.ownBlock ∨ v'.ownBlock = some w.heap.size) := by
  obtain ⟨i, hi, hz, hs, hby⟩ := info_parts hi
  have h63' : n + m ≤ maxLen := by simp only [maxLen]; omega
  by_cases hA : ∃ ad, A = some ad
  · obtain ⟨ad, rfl⟩ := hA
    have hcells : ∀ j u, news[j]? = some u → w.cell? (ad.add j) = some u := by
      intro j u hu
      rcases Nat.eq_zero_or_pos m with h0 | h0
      · have := hr.1; rw [h0, Nat.zero_mul] at this
        rw [List.eq_nil_of_length_eq_zero this] at hu; simp at hu
      · obtain ⟨g, off, h, hc⟩ := hr.2 h0
        injection h with h; subst h
        have hadd : (⟨g, off, none⟩ : Addr).add j = ⟨g, off + j, none⟩ := by unfold Addr.add; split <;> simp_all
        rw [hadd]; exact hc j u hu
    obtain ⟨v', w', r1, r2, r3, _, r5⟩ := run_append_own_at (P := P) w base t ty e i z size bytes ht hi hz hs hby hzs hsz v n xs hown ad m c news hr.1 hcells h1 h63' hbytes hbase
    exact ⟨v', w', r1, r2, r3, r5⟩
  · have hA' : A = none := by cases A with | none => rfl | some a => exact absurd ⟨a, rfl⟩ hA
    subst hA'
    have hm : m = 0 := by
      rcases Nat.eq_zero_or_pos m with h0 | h0
      · exact h0
      · obtain ⟨_, _, h, _⟩ := hr.2 h0; cases h
    subst hm
    have hn : news = [] := List.eq_nil_of_length_eq_zero (by simpa using hr.1)
    subst hn
    refine ⟨v, w, ?_, by simpa using hown, World.grownBy.refl w _, .inl rfl⟩
    rcases hown.2 with ⟨rfl, rfl⟩ | ⟨g, cap, cur, rfl, _, _, hnc, _⟩
    · simp [Builtin.append_, run_underlying ht, sizeOf, typeInfo, hi, Builtin.lenOf, Builtin.firstCells]
    · simp [Builtin.append_, run_underlying ht, sizeOf, typeInfo, hi, Builtin.lenOf, Builtin.firstCells, hnc, storeCells]

section
variable {ops : Array Oper} {rest : List Oper} {o : Oper} {a : Act} {Q : Exit → Act → World → Prop}
theorem wpList_append_rd (t : TypeId) (s x : Operand) (hg : Region.wanted o (yielded ops a.tmps) = true) (ho : o.op = .call { callee := .builtin .append, args := #[s, x], argTypes := #[t, t] })
    (base : Nat) (e : TypeId) (z : Value) (size bytes : Nat) (ht : P.underlying t = some (.slice e))
    (hi : (P.info? e).map (fun i => (i.zero, i.size, i.bytes)) = some (some z, size, bytes)) (hzs : z.cells.size = size) (hsz : 0 < size)
    (v : Value) (n : Nat) (xs : List Value) (hs : a.eval s = v) (hown : w.ownsRow base e size v n xs)
    (A : Option Addr) (m c : Nat) (news : List Value) (hx : a.eval x = .slice A m c) (hr : RdC w A m size news) (h1 : ∀ u ∈ news, u.oneCell' = true)
    (hbytes : (n + m) * bytes ≤ 140737488355328) (h63 : n + m ≤ 140737488355328) (hbase : base ≤ w.heap.size)
    (hK : ∀ v' w', w'.ownsRow base e size v' (n + m) (xs ++ news) → w.grownBy w' v.ownBlock → (v'.ownBlock = v.ownBlock ∨ v'.ownBlock = some w.heap.size) → wpList P ops Q rest (a.put o.dst v') w') :
    wpList P ops Q (o :: rest) a w := by
  obtain ⟨v', w', h2, h3, h4, h5⟩ := run_append_rd (P := P) w base t o.type e z size bytes ht hi hzs hsz v n xs hown A m c news hr h1 hbytes h63 hbase
  refine wpList_val hg (v := v') (w1 := w') ?_ (hK v' w' h3 h4 h5)
  simp [execOp, ho, resolve, invoke, builtin, hs, hx, h2, Result.andThen]
theorem wpList_make_n (t : TypeId) (l c : Operand) (hg : Region.wanted o (yielded ops a.tmps) = true) (ho : o.op = .makeSlice t l c) (e : TypeId) (z : Value) (size bytes : Nat) (ht : P.underlying t = some (.slice e))
    (hi : (P.info? e).map (fun i => (i.zero, i.size, i.bytes)) = some (some z, size, bytes)) (L C : Int) (n m : Nat) (hl : a.eval l = .int .i64 L) (hc : a.eval c = .int .i64 C) (hL : L = (n : Int)) (hC : C = (m : Int)) (hnm : n ≤ m)
    (hb : bytes * m ≤ 281474976710656) (hm : m ≤ 140737488355328)
    (hK : ∀ w1, Blk w1 w.heap.size e (madeCells z.cells (m * size)) → Mod Nn w w1 → w1.heap.size = w.heap.size + 1 → wpList P ops Q rest (a.put o.dst (.slice (some ⟨w.heap.size, 0, none⟩) n m)) w1) :
    wpList P ops Q (o :: rest) a w := by
  obtain ⟨i, hii, hz, hs, hby⟩ := info_parts hi
  subst hL; subst hC; subst hs; subst hby
  refine wpList_val hg (v := .slice (some ⟨w.heap.size, 0, none⟩) n m) (w1 := w.alloc (.cells (madeCells z.cells (m * i.size)) e)) ?_ (hK _ (Blk.new _ _ _) ((Mod.refl _ _).alloc _) (by simp))
  have hb' : (i.bytes : Int) * (m : Int) ≤ 281474976710656 := by
    have h : ((i.bytes * m : Nat) : Int) ≤ 281474976710656 := by omega
    rwa [Int.natCast_mul] at h
  have hr := run_make (P := P) w t e i z ht hii hz .i64 .i64 n m (by omega) (by omega) hb' (by omega)
  simp only [Int.toNat_natCast] at hr
  simp [execOp, ho, hl, hc, hr, Result.andThen]
theorem made_one (z : Value) (n : Nat) : madeCells #[z] n = Array.replicate n z := by
  apply Array.ext_getElem?
  intro i
  simp only [madeCells, Array.getElem?_map, Array.getElem?_range, Array.getElem?_replicate]
  by_cases h : i < n <;> simp [h, Nat.mod_one]
theorem wpList_make1 (t : TypeId) (l c : Operand) (hg : Region.wanted o (yielded ops a.tmps) = true) (ho : o.op = .makeSlice t l c) (e : TypeId) (z : Value) (bytes : Nat) (ht : P.underlying t = some (.slice e))
    (hi : (P.info? e).map (fun i => (i.zero, i.size, i.bytes)) = some (some z, 1, bytes)) (hzs : z.cells = #[z]) (L C : Int) (n m : Nat) (hl : a.eval l = .int .i64 L) (hc : a.eval c = .int .i64 C) (hL : L = (n : Int)) (hC : C = (m : Int)) (hnm : n ≤ m)
    (hb : bytes * m ≤ 281474976710656) (hm : m ≤ 140737488355328)
    (hK : ∀ w1, Blk w1 w.heap.size e (Array.replicate m z) → Mod Nn w w1 → w1.heap.size = w.heap.size + 1 → wpList P ops Q rest (a.put o.dst (.slice (some ⟨w.heap.size, 0, none⟩) n m)) w1) :
    wpList P ops Q (o :: rest) a w :=
  wpList_make_n t l c hg ho e z 1 bytes ht hi L C n m hl hc hL hC hnm hb hm (by rw [hzs, Nat.mul_one, made_one]; exact hK)
end
end
/-- bytes as values -/
def bv (l : List Nat) : List Value := l.map (fun c : Nat => Value.int .u8 (c : Int))
theorem bv_at (l : List Nat) (k : Nat) : (bv l)[k]? = (l[k]?).map (fun c : Nat => Value.int .u8 (c : Int)) := List.getElem?_map ..
end Go.Proofs.YtijmkbhbpbkkoaaGreat
