/- Maps with int keys: delete, clear, len; the range over a map that is not changed meanwhile. No program is named. -/
import Derived.Test.YtjndcgpfikngaaaKit2
namespace Go.Proofs.Ytjndcgpfikngaaa
open Go.RowKit

section
variable {α : Type} {P : Program} {w w' : World} {g : Nat} {enc : α → Value} {l : List (Int × α)} {S : Nat → Prop} {t kt et : TypeId}

theorem run_clear (h : MapE w g enc l) (ht : P.underlying t = some (.map kt et)) (ty : TypeId) :
    ∃ w', (Builtin.clear_ #[t] ty #[.map (some g)]).run P w = .ok (.tuple #[]) w' ∧ MapE w' g enc [] ∧ Mod (At g) w w' ∧ w'.heap.size = w.heap.size := by
  have hgl := h.lt
  obtain ⟨bs, clk, s, hg⟩ := h
  refine ⟨World.setObj w g (.map #[] clk), ?_, ⟨[], clk, ⟨rfl, List.Pairwise.nil, by simp, by simp⟩, ?_⟩, Mod.objAt _ _ _, by simp [World.setObj]⟩
  · simp [Builtin.clear_, run_underlying ht, getObj, Go.setObj, Sem.run, hg, Result.andThen]
    rfl
  · rw [setObj_same _ _ _ hgl]; rfl

theorem run_len_map_ (h : MapE w g enc l) (ht : P.underlying t = some (.map kt et)) (ty : TypeId) :
    (Builtin.len_ #[t] ty #[.map (some g)]).run P w = .ok (.int .i64 l.length) w := by
  obtain ⟨bs, clk, s, hg⟩ := h
  simp [Builtin.len_, run_underlying ht, getObj, Sem.run, hg, Result.andThen, ents, s.len, goInt]

theorem filter_erase {k : Int} : ∀ (l : List (Int × α)) (j : Nat), (l.map (·.1)).Nodup → (∃ u, l[j]? = some (k, u)) → l.filter (fun e => !(e.1 == k)) = l.eraseIdx j
  | [], j, _, h => by simp at h
  | e :: l, 0, hd, h => by
    obtain ⟨u, h⟩ := h
    simp at h
    subst h
    simp only [List.map_cons, List.nodup_cons] at hd
    simp only [List.filter_cons, beq_self_eq_true, Bool.not_true, Bool.false_eq_true, if_false, List.eraseIdx_cons_zero]
    rw [List.filter_eq_self]
    intro x hx
    simp; intro e'; exact hd.1 (by rw [← e']; exact List.mem_map_of_mem hx)
  | e :: l, j + 1, hd, h => by
    simp only [List.map_cons, List.nodup_cons] at hd
    simp only [List.getElem?_cons_succ] at h
    rw [List.filter_cons, List.eraseIdx_cons_succ, filter_erase l j hd.2 h, if_pos]
    obtain ⟨u, h⟩ := h
    have : (k, u) ∈ l := List.mem_of_getElem? h
    simp; intro e'; exact hd.1 (by rw [e']; exact List.mem_map_of_mem (f := (·.1)) this)

theorem zipWith_eraseIdx {β γ δ : Type} (f : β → γ → δ) : ∀ (a : List β) (b : List γ) (j : Nat), (List.zipWith f a b).eraseIdx j = List.zipWith f (a.eraseIdx j) (b.eraseIdx j)
  | [], b, j => by simp
  | x :: a, [], j => by simp
  | x :: a, y :: b, 0 => by simp
  | x :: a, y :: b, j + 1 => by simp [zipWith_eraseIdx f a b j]

theorem run_delete (h : MapE w g enc l) (ht : P.underlying t = some (.map kt et)) (hk : P.underlying kt = some (.int .i64)) (u : TypeId) (ty : TypeId) (k : Int) :
    ∃ w', (Builtin.delete_ #[t, u] ty #[.map (some g), .int .i64 k]).run P w = .ok (.tuple #[]) w' ∧ MapE w' g enc (adel l k) ∧ Mod (At g) w w' ∧ w'.heap.size = w.heap.size := by
  have hgl := h.lt
  obtain ⟨bs, clk, s, hg⟩ := h
  have hf := run_find (P := P) (enc := enc) k hk s.len w
  have ha := findIdx_aget k l
  cases hi : l.findIdx? (fun e => e.1 == k) with
  | none =>
    rw [hi] at ha hf
    simp at ha
    have hfil : adel l k = l := by
      unfold adel; rw [List.filter_eq_self]; intro x hx
      simpa using aget_none.1 ha.symm x hx
    refine ⟨World.setObj w g (.map (ents enc l bs).toArray clk), ?_, ⟨bs, clk, by rw [hfil]; exact s, ?_⟩, Mod.objAt _ _ _, by simp [World.setObj]⟩
    · simp [Builtin.delete_, run_underlying ht, getObj, Go.setObj, Sem.run, hg, run_checkKey_int _ 9999 k hk, hf, Result.andThen]
      rfl
    · rw [setObj_same _ _ _ hgl, hfil]
  | some j =>
    rw [hi] at ha hf
    have hj : j < l.length := (List.findIdx?_eq_some_iff_findIdx_eq.1 hi).1
    have hp := List.findIdx?_eq_some_iff_getElem.1 hi
    have hlj : (l[j]).1 = k := by simpa using hp.2.1
    simp [hj] at ha hf
    have hfil : adel l k = l.eraseIdx j := filter_erase l j s.nd ⟨l[j].2, by rw [List.getElem?_eq_getElem hj, ← hlj]⟩
    refine ⟨World.setObj w g (.map ((ents enc l bs).toArray.eraseIdxIfInBounds j) clk), ?_, ⟨bs.eraseIdx j, clk, ?_, ?_⟩, Mod.objAt _ _ _, by simp [World.setObj]⟩
    · simp [Builtin.delete_, run_underlying ht, getObj, Go.setObj, Sem.run, hg, run_checkKey_int _ 9999 k hk, hf, Result.andThen]
      rfl
    · exact ⟨by rw [hfil]; simp [List.length_eraseIdx, s.len], s.inc.sublist (List.eraseIdx_sublist _ _), fun b hb => s.lt b ((List.eraseIdx_sublist _ _).mem hb), nodup_adel s.nd k⟩
    · rw [setObj_same _ _ _ hgl, hfil]
      congr 2
      simp [ents, Array.eraseIdxIfInBounds, hj, s.len, ← zipWith_eraseIdx]

/-! ## range -/
/-- 'it' ranges over the map g, which holds l; the keys 'done' have been told. -/
def IterE (w : World) (it g : Nat) (enc : α → Value) (l : List (Int × α)) (done : List Int) : Prop :=
  ∃ (bs : List Nat) (clk : Nat) (seen : Array Nat), Stamps l bs clk ∧ w.heap[g]? = some (.map (ents enc l bs).toArray clk) ∧ w.heap[it]? = some (.mapIter (some g) clk seen clk) ∧
    (∀ (j : Nat) (e : Int × α) (b : Nat), l[j]? = some e → bs[j]? = some b → (b ∈ seen ↔ e.1 ∈ done)) ∧
    (∀ k rest, done = k :: rest → ∃ (j : Nat) (e : Int × α) (b : Nat), l[j]? = some e ∧ e.1 = k ∧ bs[j]? = some b ∧ seen.back? = some b)

theorem IterE.keep {it : Nat} {done : List Int} (h : IterE w it g enc l done) (h1 : w'.heap[it]? = w.heap[it]?) (h2 : w'.heap[g]? = w.heap[g]?) : IterE w' it g enc l done := by
  obtain ⟨bs, clk, seen, s, a, b, c⟩ := h
  exact ⟨bs, clk, seen, s, h2.trans a, h1.trans b, c⟩
theorem IterE.map {it : Nat} {done : List Int} (h : IterE w it g enc l done) : MapE w g enc l := by
  obtain ⟨bs, clk, seen, s, a, b, c⟩ := h
  exact ⟨bs, clk, s, a⟩
theorem IterE.lt {it : Nat} {done : List Int} (h : IterE w it g enc l done) : it < w.heap.size := by
  obtain ⟨bs, clk, seen, s, a, b, c⟩ := h
  exact lt_of_heap b
theorem IterE.ne {it : Nat} {done : List Int} (h : IterE w it g enc l done) : it ≠ g := by
  obtain ⟨bs, clk, seen, s, a, b, c⟩ := h
  rintro rfl; rw [a] at b; cases b
theorem IterE.mod {it : Nat} {done : List Int} (h : IterE w it g enc l done) (hm : Mod S w w') (hi : ¬ S it) (hn : ¬ S g) : IterE w' it g enc l done :=
  h.keep (hm.block it h.lt hi) (hm.block g h.map.lt hn)

theorem run_range_map (h : MapE w g enc l) (ht : P.underlying t = some (.map kt et)) :
    ∃ o, (Instr.range t (.map (some g))).run P w = .ok (.pointer (some ⟨w.heap.size, 0, none⟩)) (w.alloc o) ∧ IterE (w.alloc o) w.heap.size g enc l [] := by
  have hgl := h.lt
  obtain ⟨bs, clk, s, hg⟩ := h
  refine ⟨.mapIter (some g) clk #[] clk, ?_, bs, clk, #[], s, (Below.heap_alloc _ _ _ hgl).trans hg, heap_alloc_new _ _, by simp, by simp⟩
  simp [Instr.range, run_underlying ht, getObj, newObj, Sem.run, hg, Result.andThen]

theorem run_choose_next (m : Nat) (hm : 0 < m) (w : World) : ∃ n w1, (Sem.choose (.mapNext m) Sem.pure).run P w = .ok n w1 ∧ n < m ∧ (w1 = w ∨ w1 = w.drew) := by
  unfold Sem.run
  by_cases h : (Question.mapNext m).forced = true
  · rw [if_pos h]; exact ⟨0, w, rfl, hm, .inl rfl⟩
  · rw [if_neg h]; exact ⟨_, w.drew, rfl, Nat.mod_lt _ hm, .inr rfl⟩

theorem nodup_stamps {bs : List Nat} (h : bs.Pairwise (· < ·)) : bs.Nodup := h.imp (fun h => Nat.ne_of_lt h)

/-- The next entry: none is left, or one that was not told yet. -/
theorem run_next_map {it : Nat} {done : List Int} (h : IterE w it g enc l done) :
    ((∀ e ∈ l, e.1 ∈ done) ∧ ∀ ty, (Instr.next (.pointer (some ⟨it, 0, none⟩)) false ty).run P w = .ok (.tuple #[.bool false]) w) ∨
    (∃ k v w', aget l k = some v ∧ k ∉ done ∧ (∀ ty, (Instr.next (.pointer (some ⟨it, 0, none⟩)) false ty).run P w = .ok (.tuple #[.bool true, .int .i64 k, enc v]) w') ∧
      IterE w' it g enc l (k :: done) ∧ Mod (At it) w w' ∧ w'.heap.size = w.heap.size) := by
  have hne := h.ne
  have hil := h.lt
  obtain ⟨bs, clk, seen, s, hg, hi, hs, _⟩ := h
  have hall : ((ents enc l bs).toArray.all fun e => decide (e.born ≥ clk)) = true → l = [] := by
    intro ha
    cases l with
    | nil => rfl
    | cons e l =>
      obtain ⟨b, bs', rfl⟩ : ∃ b bs', bs = b :: bs' := by
        cases bs with
        | nil => have := s.len; simp at this
        | cons b bs' => exact ⟨b, bs', rfl⟩
      have := s.lt b (by simp)
      simp [ents, ent] at ha
      omega
  have hguard : (!seen.isEmpty && !(ents enc l bs).toArray.isEmpty && (ents enc l bs).toArray.all fun e => decide (e.born ≥ clk)) = false := by
    cases hx : (ents enc l bs).toArray.all fun e => decide (e.born ≥ clk) with
    | false => simp
    | true =>
      have := hall hx
      subst this
      simp [ents]
  have hold : (((ents enc l bs).toArray.filter fun e => !seen.contains e.born).filter fun e => decide (e.born < clk)) = (ents enc l bs).toArray.filter fun e => !seen.contains e.born := by
    rw [Array.filter_eq_self]
    intro e he
    have he := (Array.mem_filter.1 he).1
    simp only [List.mem_toArray, ents, List.mem_iff_getElem?, List.getElem?_zipWith] at he
    obtain ⟨i, he⟩ := he
    cases hb : bs[i]? with
    | none => simp [hb] at he
    | some b =>
      have := s.lt b (List.mem_of_getElem? hb)
      cases hl : l[i]? with
      | none => simp [hl] at he
      | some x => simp [hb, hl, ent] at he; subst he; simpa using this
  have hnew : (((ents enc l bs).toArray.filter fun e => !seen.contains e.born).filter fun e => decide (e.born ≥ clk)) = #[] := by
    rw [Array.filter_eq_empty_iff]
    intro e he
    have he := (Array.mem_filter.1 he).1
    simp only [List.mem_toArray, ents, List.mem_iff_getElem?, List.getElem?_zipWith] at he
    obtain ⟨i, he⟩ := he
    cases hb : bs[i]? with
    | none => simp [hb] at he
    | some b =>
      have := s.lt b (List.mem_of_getElem? hb)
      cases hl : l[i]? with
      | none => simp [hl] at he
      | some x => simp [hb, hl, ent] at he; subst he; simpa using this
  generalize hleft : ((ents enc l bs).toArray.filter fun e => !seen.contains e.born) = left at hold hnew
  have ho : (getObj it : Sem Obj).run P w = .ok (.mapIter (some g) clk seen clk) w := by simp [getObj, Sem.run, hi]
  have hm : (getObj g : Sem Obj).run P w = .ok (.map (ents enc l bs).toArray clk) w := by simp [getObj, Sem.run, hg]
  have hin : ∀ e, e ∈ left ↔ ∃ (j : Nat) (x : Int × α) (b : Nat), l[j]? = some x ∧ bs[j]? = some b ∧ e = ent enc x b ∧ x.1 ∉ done := by
    intro e
    rw [← hleft, Array.mem_filter, List.mem_toArray, ents, List.mem_iff_getElem?]
    constructor
    · rintro ⟨⟨i, he⟩, hc⟩
      rw [List.getElem?_zipWith] at he
      cases hb : bs[i]? with
      | none => simp [hb] at he
      | some b =>
        cases hl : l[i]? with
        | none => simp [hl] at he
        | some x =>
          simp [hb, hl] at he
          subst he
          refine ⟨i, x, b, hl, hb, rfl, fun hd => ?_⟩
          have := (hs i x b hl hb).2 hd
          simp [ent, this] at hc
    · rintro ⟨i, x, b, hl, hb, rfl, hd⟩
      refine ⟨⟨i, by rw [List.getElem?_zipWith, hl, hb]⟩, ?_⟩
      simp [ent, hs i x b hl hb, hd]
  by_cases hemp : left = #[]
  · left
    refine ⟨fun e he => ?_, fun ty => ?_⟩
    · refine Classical.byContradiction fun hd => ?_
      obtain ⟨j, hj⟩ := List.mem_iff_getElem?.1 he
      have hjl : j < bs.length := by
        rw [s.len]
        rcases Nat.lt_or_ge j l.length with h' | h'
        · exact h'
        · simp [List.getElem?_eq_none h'] at hj
      have := (hin (ent enc e bs[j])).2 ⟨j, e, bs[j], hj, List.getElem?_eq_getElem hjl, rfl, hd⟩
      rw [hemp] at this
      simp at this
    · obtain ⟨n, w1, hc, hn, hw⟩ := run_choose_next (P := P) 1 (by omega) w
      have hn0 : n = 0 := by omega
      subst hn0
      have hw1 : w1 = w := by
        have : (Sem.choose (.mapNext 1) Sem.pure).run P w = .ok 0 w := by simp [Sem.run, Question.forced]
        rw [this] at hc
        injection hc with _ hc; exact hc.symm
      subst hw1
      simp only [Instr.next, Sem.run_bind, ho, Result.andThen_ok, hm, hguard, hleft, Bool.false_eq_true, if_false, choose, hemp]
      simp [hc, Result.andThen]
  · right
    have hne' : left.isEmpty = false := by simpa using hemp
    have hpos : 0 < left.size := by
      rcases Nat.eq_zero_or_pos left.size with h0 | h0
      · exact absurd (Array.eq_empty_of_size_eq_zero h0) hemp
      · exact h0
    obtain ⟨n, w1, hc, hn, hw⟩ := run_choose_next (P := P) left.size hpos w
    obtain ⟨j, x, b, hl, hb, he, hd⟩ := (hin left[n]).1 (Array.getElem_mem hn)
    have hw1h : w1.heap = w.heap := by rcases hw with rfl | rfl <;> rfl
    have hmod1 : Mod (At it) w w1 := by
      rcases hw with rfl | rfl
      · exact Mod.refl _ _
      · exact (Mod.refl _ _).drew
    have hxl : x ∈ l := List.mem_of_getElem? hl
    refine ⟨x.1, x.2, World.setObj w1 it (.mapIter (some g) clk (seen.push b) clk), aget_mem' s.nd hxl, hd, fun ty => ?_, ?_, hmod1.trans (Mod.objAt _ _ _), by simp [World.setObj, hw1h]⟩
    · simp only [Instr.next, Sem.run_bind, ho, Result.andThen_ok, hm, hguard, hleft, hold, hnew, Bool.false_eq_true, if_false, choose, Array.append_empty, hne']
      simp only [Array.size_append, List.size_toArray, List.length_nil, Array.size_map, Nat.zero_add, hc, Result.andThen_ok]
      have hat : ((#[] : Array (Option MapEntry)) ++ Array.map some left)[n]? = some (some left[n]) := by simp [hn]
      have hi1 : w1.heap[it]? = some (.mapIter (some g) clk seen clk) := by rw [hw1h]; exact hi
      rw [hat]
      simp [Go.setObj, Sem.run, hi1, Result.andThen, he, ent]
      rfl
    · refine ⟨bs, clk, seen.push b, s, ?_, setObj_same _ _ _ (by rw [hw1h]; exact hil), ?_, fun k rest hk => ⟨j, x, b, hl, by injection hk, hb, by simp⟩⟩
      · rw [setObj_other _ _ _ _ (fun e => hne e.symm), hw1h]; exact hg
      · intro j' e' b' hl' hb'
        rw [Array.mem_push, hs j' e' b' hl' hb', List.mem_cons]
        constructor
        · rintro (h | h)
          · exact .inr h
          · subst h
            have : j' = j := by
              have hjl : j < bs.length := (List.getElem?_eq_some_iff.1 hb).1
              have hjl' : j' < bs.length := (List.getElem?_eq_some_iff.1 hb').1
              exact (List.getElem?_inj hjl' (nodup_stamps s.inc)).1 (hb'.trans hb.symm)
            subst this
            rw [hl] at hl'; injection hl' with hl'; exact .inl (by rw [hl'])
        · rintro (h | h)
          · right
            have hm1 : (l.map (·.1))[j']? = some e'.1 := by simp [hl']
            have hm2 : (l.map (·.1))[j]? = some x.1 := by simp [hl]
            have hjl' : j' < (l.map (·.1)).length := (List.getElem?_eq_some_iff.1 hm1).1
            have : j' = j := (List.getElem?_inj hjl' s.nd).1 (by rw [hm1, hm2, h])
            subst this
            rw [hb] at hb'; injection hb' with hb'; exact hb'.symm
          · exact .inl h

/-- the entry that was told last -/
theorem run_entry_map {it : Nat} {k : Int} {done : List Int} {v : α} (h : IterE w it g enc l (k :: done)) (hv : aget l k = some v) :
    (Instr.entry (.pointer (some ⟨it, 0, none⟩))).run P w = .ok (.tuple #[.int .i64 k, enc v]) w := by
  obtain ⟨bs, clk, seen, s, hg, hi, hs, hl⟩ := h
  obtain ⟨j, e, b, h1, h2, h3, h4⟩ := hl k done rfl
  have ho : (getObj it : Sem Obj).run P w = .ok (.mapIter (some g) clk seen clk) w := by simp [getObj, Sem.run, hi]
  have hm : (getObj g : Sem Obj).run P w = .ok (.map (ents enc l bs).toArray clk) w := by simp [getObj, Sem.run, hg]
  have hev : e = (k, v) := by
    have := aget_mem' s.nd (List.mem_of_getElem? h1)
    rw [h2, hv] at this; injection this with this
    rw [← h2, this]
  have hfind : (ents enc l bs).toArray.find? (fun x => x.born == b) = some (ent enc e b) := by
    rw [List.find?_toArray, List.find?_eq_some_iff_getElem]
    have hjb : j < bs.length := (List.getElem?_eq_some_iff.1 h3).1
    have hje : j < (ents enc l bs).length := by rw [ents_size s.len, ← s.len]; exact hjb
    have hjg : (ents enc l bs)[j] = ent enc e b := by
      have : (ents enc l bs)[j]? = some (ent enc e b) := by simp [ents, List.getElem?_zipWith, h1, h3]
      rw [List.getElem?_eq_getElem hje] at this; injection this
    refine ⟨by simp [ent], j, hje, hjg, fun i hij => ?_⟩
    have hib : i < bs.length := by omega
    have hil : i < l.length := by rw [← s.len]; exact hib
    have hbj : bs[j] = b := by rw [List.getElem?_eq_getElem hjb] at h3; injection h3
    have : bs[i] < bs[j] := List.pairwise_iff_getElem.1 s.inc i j hib hjb hij
    simp [ents, ent]
    omega
  simp only [Instr.entry, Sem.run_bind, ho, Result.andThen_ok, h4, hm, bne_self_eq_false, Bool.false_eq_true, if_false, hfind, hev]
  rfl
end
end Go.Proofs.Ytjndcgpfikngaaa
