/- Maps with int keys as lists of pairs: what a lookup, a store, a delete, a clear, a length, a range do to them. No program is named. -/
import Derived.Test.YtjndcgpfikngaaaKit1
namespace Go.Proofs.Ytjndcgpfikngaaa
open Go.RowKit

section
variable {α : Type} {P : Program} {w w' : World} {g : Nat} {enc : α → Value} {l : List (Int × α)} {S : Nat → Prop}

def ent (enc : α → Value) (e : Int × α) (b : Nat) : MapEntry := ⟨.int .i64 e.1, enc e.2, b⟩
def ents (enc : α → Value) (l : List (Int × α)) (bs : List Nat) : List MapEntry := List.zipWith (ent enc) l bs
structure Stamps (l : List (Int × α)) (bs : List Nat) (clk : Nat) : Prop where
  len : bs.length = l.length
  inc : bs.Pairwise (· < ·)
  lt : ∀ b ∈ bs, b < clk
  nd : (l.map (·.1)).Nodup
def MapE (w : World) (g : Nat) (enc : α → Value) (l : List (Int × α)) : Prop :=
  ∃ bs clk, Stamps l bs clk ∧ w.heap[g]? = some (.map (ents enc l bs).toArray clk)

theorem MapE.lt (h : MapE w g enc l) : g < w.heap.size := by obtain ⟨_, _, _, h⟩ := h; exact lt_of_heap h
theorem MapE.nd (h : MapE w g enc l) : (l.map (·.1)).Nodup := by obtain ⟨_, _, s, _⟩ := h; exact s.nd
theorem MapE.keep (h : MapE w g enc l) (hk : w'.heap[g]? = w.heap[g]?) : MapE w' g enc l := by
  obtain ⟨bs, clk, s, h⟩ := h; exact ⟨bs, clk, s, hk.trans h⟩
theorem MapE.mod (h : MapE w g enc l) (hm : Mod S w w') (hn : ¬ S g) : MapE w' g enc l := h.keep (hm.block g h.lt hn)
theorem MapE.alloc (h : MapE w g enc l) (o : Obj) : MapE (w.alloc o) g enc l := h.keep (Below.heap_alloc w o g h.lt)
theorem MapE.drew (h : MapE w g enc l) : MapE w.drew g enc l := h
theorem MapE.drewN (h : MapE w g enc l) (n : Nat) : MapE (w.drewN n) g enc l := h
theorem MapE.new (w : World) (enc : α → Value) : MapE (w.alloc (.map #[] 0)) w.heap.size enc [] :=
  ⟨[], 0, ⟨rfl, List.Pairwise.nil, by simp, by simp⟩, heap_alloc_new w _⟩
theorem MapE.ne_blk {g' : Nat} {t : TypeId} {cs : Array Value} (h : MapE w g enc l) (h' : Blk w g' t cs) : g ≠ g' := by
  rintro rfl
  obtain ⟨_, _, _, h⟩ := h
  unfold Blk at h'; rw [h] at h'; cases h'

/-- where a key is -/
theorem findNow_ents (k : Int) : ∀ (l : List (Int × α)) (bs : List Nat) (i : Nat), bs.length = l.length →
    Instr.findNow (.int .i64) (.int .i64 k) (ents enc l bs) i = some ((l.findIdx? (fun e => e.1 == k)).bind fun j => (l[j]?).map fun e => (i + j, enc e.2))
  | [], [], i, _ => by simp [ents, Instr.findNow]
  | e :: l, b :: bs, i, h => by
    have ih := findNow_ents k l bs (i + 1) (by simpa using h)
    simp only [ents, List.zipWith_cons_cons, Instr.findNow, ent, Instr.sameNow, if_true]
    by_cases hk : k = e.1
    · subst hk
      simp [List.findIdx?_cons]
    · have h1 : (k == e.1) = false := by simpa using hk
      have h2 : (e.1 == k) = false := by simpa using fun x => hk x.symm
      simp only [h1]
      rw [show List.zipWith (ent enc) l bs = ents enc l bs from rfl, ih, List.findIdx?_cons, if_neg (by simp [h2])]
      cases hf : l.findIdx? (fun e => e.1 == k) with
      | none => simp
      | some j => simp [Nat.add_assoc, Nat.add_comm 1 j]
theorem findIdx_aget (k : Int) : ∀ (l : List (Int × α)), ((l.findIdx? (fun e => e.1 == k)).bind fun j => (l[j]?).map fun e => e.2) = aget l k
  | [] => rfl
  | e :: l => by
    rw [aget_cons, List.findIdx?_cons]
    by_cases h : e.1 = k
    · simp [h]
    · have h2 : (e.1 == k) = false := by simpa using h
      rw [if_neg (by simp [h2]), if_neg h, ← findIdx_aget k l]
      cases l.findIdx? (fun e => e.1 == k) <;> simp

variable {t kt et : TypeId}
theorem run_checkKey_int (b : Bool) (n : Nat) (k : Int) (hk : P.underlying kt = some (.int .i64)) (w : World) :
    (Instr.checkKey b (n + 1) kt (.int .i64 k)).run P w = .ok () w := by
  simp [Instr.checkKey, run_underlying hk]

theorem run_find (k : Int) (hk : P.underlying kt = some (.int .i64)) {bs : List Nat} (hl : bs.length = l.length) (w : World) :
    (Instr.findKey kt (.int .i64 k) (ents enc l bs)).run P w = .ok ((l.findIdx? (fun e => e.1 == k)).bind fun j => (l[j]?).map fun e => (j, enc e.2)) w := by
  have := findNow_ents (enc := enc) k l bs 0 hl
  simp only [Nat.zero_add] at this
  simp [Instr.findKey, run_underlying hk, this]

theorem run_lookup (h : MapE w g enc l) (ht : P.underlying t = some (.map kt et)) (hk : P.underlying kt = some (.int .i64))
    {z : Value} (hz : (zeroValue et).run P w = .ok z w) (k : Int) (ok : Bool) :
    (Instr.lookup t (.map (some g)) (.int .i64 k) ok).run P w =
      .ok (if ok then .tuple #[((aget l k).map enc).getD z, .bool (aget l k).isSome] else ((aget l k).map enc).getD z) w := by
  obtain ⟨bs, clk, s, hg⟩ := h
  have hf := run_find (P := P) (enc := enc) k hk s.len w
  have ha := findIdx_aget k l
  cases hi : l.findIdx? (fun e => e.1 == k) with
  | none =>
    rw [hi] at ha hf
    simp at ha
    simp [Instr.lookup, run_underlying ht, getObj, Sem.run, hg, run_checkKey_int _ 9999 k hk, hf, hz, ← ha, Result.andThen]
  | some j =>
    rw [hi] at ha hf
    have hj : j < l.length := (List.findIdx?_eq_some_iff_findIdx_eq.1 hi).1
    simp [hj] at ha hf
    simp [Instr.lookup, run_underlying ht, getObj, Sem.run, hg, run_checkKey_int _ 9999 k hk, hf, ← ha, Result.andThen]

theorem ents_size {bs : List Nat} (h : bs.length = l.length) : (ents enc l bs).length = l.length := by simp [ents, h]

theorem ents_append {bs : List Nat} (h : bs.length = l.length) (e : Int × α) (b : Nat) : ents enc (l ++ [e]) (bs ++ [b]) = ents enc l bs ++ [ent enc e b] := by
  unfold ents; rw [List.zipWith_append h.symm]; rfl

theorem map_set_nodup {k : Int} {v : α} : ∀ (l : List (Int × α)) (j : Nat), (l.map (·.1)).Nodup → (∃ u, l[j]? = some (k, u)) → l.map (fun e => if e.1 == k then (k, v) else e) = l.set j (k, v)
  | [], j, _, h => by simp at h
  | e :: l, 0, hd, h => by
    obtain ⟨u, h⟩ := h
    simp at h
    subst h
    simp only [List.map_cons, List.nodup_cons] at hd
    simp only [List.map_cons, List.set_cons_zero, beq_self_eq_true, if_true, List.cons.injEq, true_and]
    conv => rhs; rw [← List.map_id l]
    refine List.map_congr_left fun x hx => ?_
    rw [if_neg (by simp; intro e'; exact hd.1 (by rw [← e']; exact List.mem_map_of_mem hx))]; rfl
  | e :: l, j + 1, hd, h => by
    simp only [List.map_cons, List.nodup_cons] at hd
    simp only [List.getElem?_cons_succ] at h
    rw [List.map_cons, List.set_cons_succ, map_set_nodup l j hd.2 h, if_neg]
    obtain ⟨u, h⟩ := h
    have : (k, u) ∈ l := List.mem_of_getElem? h
    simp; intro e'; exact hd.1 (by rw [e']; exact List.mem_map_of_mem (f := (·.1)) this)

theorem ents_set (k : Int) (v : α) : ∀ (l : List (Int × α)) (bs : List Nat) (j : Nat), (∃ u, l[j]? = some (k, u)) →
    ents enc (l.set j (k, v)) bs = ((ents enc l bs).toArray.modify j fun e => { e with key := .int .i64 k, val := enc v }).toList := by
  intro l bs j h
  apply List.ext_getElem?
  intro i
  simp only [ents, List.getElem?_zipWith, Array.getElem?_toList, Array.getElem?_modify, List.getElem?_toArray, List.getElem?_set]
  by_cases hij : j = i
  · subst hij
    obtain ⟨u, h⟩ := h
    have hj : j < l.length := by
      rcases Nat.lt_or_ge j l.length with h' | h'
      · exact h'
      · simp [List.getElem?_eq_none h'] at h
    simp only [if_true, hj, if_true]
    rw [h]
    cases bs[j]? <;> simp [ent]
  · simp [hij]

theorem run_mapUpdate (h : MapE w g enc l) (ht : P.underlying t = some (.map kt et)) (hk : P.underlying kt = some (.int .i64)) (k : Int) (v : α) :
    ∃ w', (Instr.mapUpdate t (.map (some g)) (.int .i64 k) (enc v)).run P w = .ok () w' ∧ MapE w' g enc (aset l k v) ∧ Mod (At g) w w' ∧ w'.heap.size = w.heap.size := by
  have hgl := h.lt
  obtain ⟨bs, clk, s, hg⟩ := h
  have hf := run_find (P := P) (enc := enc) k hk s.len w
  have ha := findIdx_aget k l
  cases hi : l.findIdx? (fun e => e.1 == k) with
  | none =>
    rw [hi] at ha hf
    simp at ha
    have hany : ¬ l.any (fun e => e.1 == k) = true := fun x => (any_iff.1 x) ha.symm
    refine ⟨World.setObj w g (.map ((ents enc l bs).toArray.push ⟨.int .i64 k, enc v, clk⟩) (clk + 1)), ?_, ⟨bs ++ [clk], clk + 1, ?_, ?_⟩, Mod.objAt _ _ _, by simp [World.setObj]⟩
    · simp [Instr.mapUpdate, run_underlying ht, getObj, Go.setObj, Sem.run, hg, run_checkKey_int _ 9999 k hk, hf, Result.andThen]
      rfl
    · refine ⟨?_, ?_, ?_, nodup_aset s.nd k v⟩
      · simp [aset, if_neg hany, s.len]
      · rw [List.pairwise_append]
        exact ⟨s.inc, by simp, fun a ha b hb => by simp at hb; subst hb; exact s.lt a ha⟩
      · intro b hb
        rcases List.mem_append.1 hb with hb | hb
        · have := s.lt b hb; omega
        · simp at hb; omega
    · rw [setObj_same _ _ _ hgl]
      congr 2
      rw [show aset l k v = l ++ [(k, v)] by simp [aset, if_neg hany], ents_append s.len]
      simp [ent]
  | some j =>
    rw [hi] at ha hf
    have hj : j < l.length := (List.findIdx?_eq_some_iff_findIdx_eq.1 hi).1
    have hp := List.findIdx?_eq_some_iff_getElem.1 hi
    have hlj : (l[j]).1 = k := by simpa using hp.2.1
    simp [hj] at ha hf
    have hany : l.any (fun e => e.1 == k) = true := any_iff.2 (by rw [← ha]; simp)
    have hset : aset l k v = l.set j (k, v) := by
      rw [aset, if_pos hany]
      exact map_set_nodup l j s.nd ⟨l[j].2, by rw [List.getElem?_eq_getElem hj, ← hlj]⟩
    have hkey : ((ents enc l bs).toArray[j]?).map (·.key) = some (.int .i64 k) := by
      simp [ents, hj, s.len, ent, hlj]
    refine ⟨World.setObj w g (.map ((ents enc l bs).toArray.modify j fun e => { e with key := .int .i64 k, val := enc v }) clk), ?_, ⟨bs, clk, ?_, ?_⟩, Mod.objAt _ _ _, by simp [World.setObj]⟩
    · simp only [List.getElem?_toArray] at hkey
      simp [Instr.mapUpdate, run_underlying ht, getObj, Go.setObj, Sem.run, hg, run_checkKey_int _ 9999 k hk, hf, Result.andThen, hkey, Instr.keyThatStays, Instr.sameBits]
      rfl
    · exact ⟨by rw [hset]; simp [s.len], s.inc, s.lt, nodup_aset s.nd k v⟩
    · rw [setObj_same _ _ _ hgl]
      congr 2
      rw [hset, ents_set k v l bs j ⟨l[j].2, by rw [List.getElem?_eq_getElem hj, ← hlj]⟩]
end
end Go.Proofs.Ytjndcgpfikngaaa
