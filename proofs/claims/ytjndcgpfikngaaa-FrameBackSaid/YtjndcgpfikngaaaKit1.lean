/- Plain words for memory: which blocks may change (Mod), a block known whole (Blk), a map with int keys as a list of pairs (MapE), its iterator (IterE); their laws. No program is named. -/
import Derived.WalkKit
import Derived.WalkSpells
import Derived.WalkLawsBesides
import Derived.Deep.Draws
import Derived.Deep.QuietTactic
import Derived.BigQuiet
import Derived.StillTailTactics
import Derived.Carry
import Derived.Lib.Hide
import Derived.KernelRfl
namespace Go.Proofs.Ytjndcgpfikngaaa
open Go.RowKit

/-! ## which blocks may change -/
structure Mod (S : Nat → Prop) (w w' : World) : Prop where
  os : w'.os = w.os
  tape : w'.tape = w.tape
  output : w'.output = w.output
  size : w.heap.size ≤ w'.heap.size
  block : ∀ k, k < w.heap.size → ¬ S k → w'.heap[k]? = w.heap[k]?

def Nn : Nat → Prop := fun _ => False
def At (g : Nat) : Nat → Prop := fun k => k = g

section
variable {S T : Nat → Prop} {a w w' : World}
theorem Mod.refl (S : Nat → Prop) (w : World) : Mod S w w := ⟨rfl, rfl, rfl, Nat.le_refl _, fun _ _ _ => rfl⟩
theorem Mod.mono (h : Mod S w w') (hs : ∀ k, k < w.heap.size → S k → T k) : Mod T w w' :=
  ⟨h.os, h.tape, h.output, h.size, fun k hk ht => h.block k hk (fun s => ht (hs k hk s))⟩
theorem Mod.then_ (h : Mod S a w) (k : Mod T w w') (hs : ∀ g, g < a.heap.size → T g → S g) : Mod S a w' :=
  ⟨k.os.trans h.os, k.tape.trans h.tape, k.output.trans h.output, Nat.le_trans h.size k.size,
   fun g hg hn => (k.block g (Nat.lt_of_lt_of_le hg h.size) (fun t => hn (hs g hg t))).trans (h.block g hg hn)⟩
theorem Mod.new_ {p : Nat} (h : Mod S a w) (k : Mod (At p) w w') (hp : a.heap.size ≤ p) : Mod S a w' :=
  h.then_ k (fun g hg e => by have : g = p := e; omega)
theorem Mod.at_ {p : Nat} (h : Mod S a w) (k : Mod (At p) w w') (hp : S p) : Mod S a w' :=
  h.then_ k (fun g _ e => by have : g = p := e; rw [this]; exact hp)
theorem Mod.nn_ (h : Mod S a w) (k : Mod Nn w w') : Mod S a w' := h.then_ k (fun _ _ f => f.elim)
theorem Mod.trans (h : Mod S a w) (k : Mod S w w') : Mod S a w' := h.then_ k (fun _ _ t => t)
theorem Mod.alloc (h : Mod S a w) (o : Obj) : Mod S a (w.alloc o) :=
  ⟨h.os, h.tape, h.output, by simp; have := h.size; omega, fun g hg hn => (Below.heap_alloc _ _ _ (by have := h.size; omega)).trans (h.block g hg hn)⟩
theorem Mod.drew (h : Mod S a w) : Mod S a w.drew := ⟨h.os, h.tape, h.output, h.size, h.block⟩
theorem Mod.drewN (h : Mod S a w) (n : Nat) : Mod S a (w.drewN n) := ⟨h.os, h.tape, h.output, h.size, h.block⟩
theorem Mod.of_drew (h : Mod S a.drew w) : Mod S a w := ⟨h.os, h.tape, h.output, h.size, h.block⟩
theorem Mod.of_drewN {n : Nat} (h : Mod S (a.drewN n) w) : Mod S a w := ⟨h.os, h.tape, h.output, h.size, h.block⟩
theorem Mod.setCell (h : Mod S a w) {p : Addr} (hp : a.heap.size ≤ p.block ∨ S p.block) (v : Value) : Mod S a (w.setCell p v) :=
  ⟨h.os, h.tape, h.output, by simp; exact h.size, fun g hg hn => (Below.heap_setCell _ _ _ _ (fun e => by
    subst e; rcases hp with hp | hp
    · omega
    · exact hn hp)).trans (h.block g hg hn)⟩
theorem Mod.setRow (h : Mod S a w) {p : Nat} (hp : a.heap.size ≤ p ∨ S p) (cs : Array Value) : Mod S a (w.setRow p cs) :=
  ⟨h.os, h.tape, h.output, by simp; exact h.size, fun g hg hn => (setRow_other _ _ _ _ (fun e => by
    subst e; rcases hp with hp | hp
    · omega
    · exact hn hp)).trans (h.block g hg hn)⟩
theorem Mod.grown (h : Mod S a w) {row : Option Nat} (hg : w.grownBy w' row) (hr : ∀ g, row = some g → a.heap.size ≤ g ∨ S g) : Mod S a w' :=
  ⟨hg.os.trans h.os, hg.tape.trans h.tape, hg.output.trans h.output, Nat.le_trans h.size hg.size,
   fun g hk hn => (hg.block g (Nat.lt_of_lt_of_le hk h.size) (fun e => by
     rcases hr g e.symm with h1 | h1
     · omega
     · exact hn h1)).trans (h.block g hk hn)⟩
theorem Mod.below (h : Mod Nn w w') : Below w.heap.size w w' := ⟨h.os, h.tape, h.output, h.size, fun k hk => h.block k hk (fun f => f)⟩
theorem Mod.of_below (h : Below w.heap.size w w') : Mod Nn w w' := ⟨h.os, h.tape, h.output, h.size, fun k hk _ => h.block k hk⟩
theorem Mod.cell (h : Mod S w w') {p : Addr} (hp : p.block < w.heap.size) (hn : ¬ S p.block) : w'.cell? p = w.cell? p :=
  World.cell?_of_block (w := w) (h.block p.block hp hn)
theorem Mod.nn (h : Mod Nn w w') : Mod S w w' := h.mono (fun _ _ f => f.elim)
end

/-- Any object of the heap. -/
def World.setObj (w : World) (g : Nat) (o : Obj) : World := { w with heap := w.heap.setIfInBounds g o }
theorem setObj_same (w : World) (g : Nat) (o : Obj) (h : g < w.heap.size) : (World.setObj w g o).heap[g]? = some o := by
  simp [World.setObj, h]
theorem setObj_other (w : World) (g k : Nat) (o : Obj) (h : k ≠ g) : (World.setObj w g o).heap[k]? = w.heap[k]? := by
  simp [World.setObj, Array.getElem?_setIfInBounds]
  intro e; exact absurd e.symm h
theorem Mod.setObj {S : Nat → Prop} {a w : World} (h : Mod S a w) {p : Nat} (hp : a.heap.size ≤ p ∨ S p) (o : Obj) : Mod S a (World.setObj w p o) :=
  ⟨h.os, h.tape, h.output, by simp [World.setObj]; exact h.size, fun g hg hn => (setObj_other _ _ _ _ (fun e => by
    subst e; rcases hp with hp | hp
    · omega
    · exact hn hp)).trans (h.block g hg hn)⟩

theorem Mod.objAt (w : World) (g : Nat) (o : Obj) : Mod (At g) w (World.setObj w g o) := (Mod.refl (At g) w).setObj (p := g) (.inr (rfl : g = g)) o
theorem Mod.rowAt (w : World) (g : Nat) (cs : Array Value) : Mod (At g) w (w.setRow g cs) := (Mod.refl (At g) w).setRow (p := g) (.inr (rfl : g = g)) cs
theorem Mod.cellAt (w : World) (g i : Nat) (v : Value) : Mod (At g) w (w.setCell ⟨g, i, none⟩ v) := (Mod.refl (At g) w).setCell (p := ⟨g, i, none⟩) (.inr (rfl : g = g)) v

/-! ## a block known whole -/
def Blk (w : World) (g : Nat) (t : TypeId) (cs : Array Value) : Prop := w.heap[g]? = some (.cells cs t (0, 0))
section
variable {w w' : World} {g : Nat} {t : TypeId} {cs : Array Value} {S : Nat → Prop}
theorem lt_of_heap {o : Obj} (h : w.heap[g]? = some o) : g < w.heap.size := (Array.getElem?_eq_some_iff.1 h).1
theorem Blk.lt (h : Blk w g t cs) : g < w.heap.size := lt_of_heap h
theorem Blk.cell (h : Blk w g t cs) (i : Nat) : w.cell? ⟨g, i, none⟩ = cs[i]? := cell_of_row w g i cs t (0, 0) h
theorem Blk.frozen (h : Blk w g t cs) (i : Nat) : w.frozen? ⟨g, i, none⟩ = false := by
  unfold Blk at h
  simp [World.frozen?, h]
theorem Blk.new (w : World) (t : TypeId) (cs : Array Value) : Blk (w.alloc (.cells cs t)) w.heap.size t cs := heap_alloc_new w _
theorem Blk.drew (h : Blk w g t cs) : Blk w.drew g t cs := h
theorem Blk.drewN (h : Blk w g t cs) (n : Nat) : Blk (w.drewN n) g t cs := h
theorem Blk.alloc (h : Blk w g t cs) (o : Obj) : Blk (w.alloc o) g t cs := (Below.heap_alloc w o g h.lt).trans h
theorem Blk.set_ (h : Blk w g t cs) (i : Nat) (u : Value) : Blk (w.setCell ⟨g, i, none⟩ u) g t (cs.setIfInBounds i u) := by
  unfold Blk at h ⊢
  simp [World.setCell, Array.getElem?_modify, h]
theorem Blk.far (h : Blk w g t cs) {p : Addr} (hp : g ≠ p.block) (u : Value) : Blk (w.setCell p u) g t cs := (Below.heap_setCell w p u g hp).trans h
theorem Blk.setRow_ (h : Blk w g t cs) (cs' : Array Value) : Blk (w.setRow g cs') g t cs' := setRow_heap w g cs cs' t (0, 0) h
theorem Blk.farRow (h : Blk w g t cs) {p : Nat} (hp : g ≠ p) (cs' : Array Value) : Blk (w.setRow p cs') g t cs := (setRow_other w p g cs' hp).trans h
theorem Blk.farObj (h : Blk w g t cs) {p : Nat} (hp : g ≠ p) (o : Obj) : Blk (World.setObj w p o) g t cs := (setObj_other w p g o hp).trans h
theorem Blk.mod (h : Blk w g t cs) (hm : Mod S w w') (hn : ¬ S g) : Blk w' g t cs := (hm.block g h.lt hn).trans h
theorem Blk.ne_ {g' : Nat} {t' : TypeId} {cs' : Array Value} (h : Blk w g t cs) (h' : Blk w g' t' cs') (hne : t ≠ t') : g ≠ g' := by
  rintro rfl
  unfold Blk at h h'
  rw [h] at h'
  injection h' with h'
  injection h' with _ ht
  exact hne ht
end

theorem nodup_sub_len {β : Type} [DecidableEq β] : ∀ (a b : List β), a.Nodup → (∀ x ∈ a, x ∈ b) → a.length ≤ b.length
  | [], _, _, _ => Nat.zero_le _
  | x :: a, b, hn, hs => by
    simp only [List.nodup_cons] at hn
    have hx : x ∈ b := hs x List.mem_cons_self
    have ih := nodup_sub_len a (b.erase x) hn.2 (fun y hy => by
      have hne : y ≠ x := fun e => hn.1 (e ▸ hy)
      exact (List.mem_erase_of_ne hne).2 (hs y (List.mem_cons_of_mem _ hy)))
    rw [List.length_erase_of_mem hx] at ih
    have : 0 < b.length := List.length_pos_of_mem hx
    simp only [List.length_cons]; omega

/-! ## lists of pairs -/
section
variable {α : Type}
def aget (l : List (Int × α)) (k : Int) : Option α := (l.find? (fun e => e.1 == k)).map (·.2)
def aset (l : List (Int × α)) (k : Int) (v : α) : List (Int × α) :=
  if l.any (fun e => e.1 == k) then l.map (fun e => if e.1 == k then (k, v) else e) else l ++ [(k, v)]
def adel (l : List (Int × α)) (k : Int) : List (Int × α) := l.filter (fun e => !(e.1 == k))

theorem aget_nil (k : Int) : aget ([] : List (Int × α)) k = none := rfl
theorem aget_cons (e : Int × α) (l : List (Int × α)) (k : Int) : aget (e :: l) k = if e.1 = k then some e.2 else aget l k := by
  unfold aget
  by_cases h : e.1 = k <;> simp [h]
theorem aget_none {l : List (Int × α)} {k : Int} : aget l k = none ↔ ∀ e ∈ l, e.1 ≠ k := by
  induction l with
  | nil => simp [aget_nil]
  | cons e l ih =>
    rw [aget_cons]
    by_cases h : e.1 = k
    · simp [h]
    · simp [h, ih]
theorem aget_mem {l : List (Int × α)} {k : Int} {v : α} (h : aget l k = some v) : (k, v) ∈ l := by
  induction l with
  | nil => simp [aget_nil] at h
  | cons e l ih =>
    rw [aget_cons] at h
    by_cases he : e.1 = k
    · rw [if_pos he] at h; injection h with h; subst he; subst h; exact List.mem_cons_self
    · rw [if_neg he] at h; exact List.mem_cons_of_mem _ (ih h)
theorem any_iff {l : List (Int × α)} {k : Int} : l.any (fun e => e.1 == k) = true ↔ aget l k ≠ none := by
  rw [Ne, aget_none, List.any_eq_true]
  constructor
  · rintro ⟨e, he, hk⟩ hn; exact hn e he (by simpa using hk)
  · intro h
    refine Classical.byContradiction fun hc => h fun e he hk => hc ⟨e, he, by simpa using hk⟩
theorem aget_mem' {l : List (Int × α)} {e : Int × α} (hd : (l.map (·.1)).Nodup) (h : e ∈ l) : aget l e.1 = some e.2 := by
  induction l with
  | nil => cases h
  | cons x l ih =>
    simp only [List.map_cons, List.nodup_cons] at hd
    rw [aget_cons]
    rcases List.mem_cons.1 h with rfl | h
    · simp
    · rw [if_neg (fun hx => hd.1 (by rw [hx]; exact List.mem_map_of_mem h)), ih hd.2 h]
theorem aget_append (l m : List (Int × α)) (k : Int) : aget (l ++ m) k = (aget l k).or (aget m k) := by
  induction l with
  | nil => simp [aget_nil]
  | cons e l ih =>
    rw [List.cons_append, aget_cons, aget_cons, ih]
    by_cases h : e.1 = k <;> simp [h]
theorem aget_aset (l : List (Int × α)) (k : Int) (v : α) (j : Int) : aget (aset l k v) j = if j = k then some v else aget l j := by
  unfold aset
  by_cases h : l.any (fun e => e.1 == k) = true
  · rw [if_pos h]
    have hk := any_iff.1 h
    clear h
    induction l with
    | nil => exact absurd rfl hk
    | cons e l ih =>
      rw [List.map_cons, aget_cons, aget_cons]
      rw [aget_cons] at hk
      by_cases he : e.1 = k
      · subst he
        by_cases hj : j = e.1
        · subst hj; simp
        · have hj' : e.1 ≠ j := fun x => hj x.symm
          simp only [beq_self_eq_true, if_true, if_neg hj', if_neg hj]
          by_cases hl : aget l e.1 = none
          · have : l.map (fun x => if (x.1 == e.1) = true then (e.1, v) else x) = l := by
              conv => rhs; rw [← List.map_id l]
              refine List.map_congr_left fun x hx => ?_
              rw [if_neg (by simpa using aget_none.1 hl x hx)]; rfl
            rw [this]
          · rw [ih hl, if_neg hj]
      · rw [if_neg he] at hk
        have he' : (e.1 == k) = false := by simpa using he
        simp only [he', Bool.false_eq_true, if_false]
        rw [ih hk]
        by_cases hj : e.1 = j
        · subst hj; rw [if_pos rfl, if_neg he, if_pos rfl]
        · rw [if_neg hj, if_neg hj]
  · rw [if_neg h, aget_append]
    have hn : aget l k = none := Classical.byContradiction fun hc => h (any_iff.2 hc)
    by_cases hj : j = k
    · subst hj; simp [hn, aget_cons]
    · have hj' : k ≠ j := fun x => hj x.symm
      simp [aget_cons, aget_nil, hj, hj']
theorem keys_aset (l : List (Int × α)) (k : Int) (v : α) : (aset l k v).map (·.1) = if aget l k = none then l.map (·.1) ++ [k] else l.map (·.1) := by
  unfold aset
  by_cases h : l.any (fun e => e.1 == k) = true
  · rw [if_pos h, if_neg (any_iff.1 h), List.map_map]
    refine List.map_congr_left fun x hx => ?_
    simp only [Function.comp]
    by_cases hx : x.1 = k <;> simp [hx]
  · rw [if_neg h, if_pos (Classical.byContradiction fun hc => h (any_iff.2 hc))]; simp
theorem nodup_aset {l : List (Int × α)} (h : (l.map (·.1)).Nodup) (k : Int) (v : α) : ((aset l k v).map (·.1)).Nodup := by
  rw [keys_aset]
  by_cases hk : aget l k = none
  · rw [if_pos hk, List.nodup_append]
    refine ⟨h, by simp, fun x hx y hy => ?_⟩
    simp only [List.mem_singleton] at hy; subst hy
    obtain ⟨e, he, rfl⟩ := List.mem_map.1 hx
    exact aget_none.1 hk e he
  · rw [if_neg hk]; exact h
theorem aget_adel (l : List (Int × α)) (k j : Int) : aget (adel l k) j = if j = k then none else aget l j := by
  unfold adel
  induction l with
  | nil => simp [aget_nil]
  | cons e l ih =>
    rw [List.filter_cons]
    by_cases he : e.1 = k
    · subst he
      simp only [beq_self_eq_true, Bool.not_true, Bool.false_eq_true, if_false]
      rw [ih, aget_cons]
      by_cases hj : j = e.1
      · simp [hj]
      · rw [if_neg hj, if_neg hj, if_neg (fun x => hj x.symm)]
    · have he' : (e.1 == k) = false := by simpa using he
      simp only [he', Bool.not_false, if_true]
      rw [aget_cons, aget_cons, ih]
      by_cases hj : e.1 = j
      · subst hj; rw [if_pos rfl, if_pos rfl, if_neg he]
      · rw [if_neg hj, if_neg hj]
theorem nodup_adel {l : List (Int × α)} (h : (l.map (·.1)).Nodup) (k : Int) : ((adel l k).map (·.1)).Nodup :=
  h.sublist (List.filter_sublist.map _)
end
end Go.Proofs.Ytjndcgpfikngaaa
