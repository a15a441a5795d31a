/- The document's device: Write, plain laws on the list of sectors. -/
import Derived.Test.YtgmkibckbbbhkaaRef82
import Derived.Test.YtgmkibckbbbhkaaKitB
namespace Go.Proofs.Ytgmkibckbbbhkaa
open Go.RowKit

theorem find_add {L : List Sec} {s : Sec} {k : Int} (hk : s.n = k) (h : L.find? (fun s => s.n == k) = none) (j : Int) :
    (L ++ [s]).find? (fun s => s.n == j) = if j = k then some s else L.find? (fun s => s.n == j) := by
  rw [List.find?_append]
  by_cases hj : j = k
  · subst hj
    rw [h, if_pos rfl]
    simp [hk]
  · rw [if_neg hj]
    have : ([s].find? (fun s => s.n == j)) = none := by
      rw [List.find?_eq_none]; intro x hx
      simp only [List.mem_singleton] at hx; subst hx
      simp; omega
    rw [this, Option.or_none]
theorem find_set {L : List Sec} {s t : Sec} {k : Int} {i : Nat} (hs : L[i]? = some s) (hk : s.n = k) (ht : t.n = k) (hn : (L.map (·.n)).Nodup) (j : Int) :
    (L.set i t).find? (fun s => s.n == j) = if j = k then some t else L.find? (fun s => s.n == j) := by
  induction L generalizing i with
  | nil => simp at hs
  | cons x L ih =>
    simp only [List.map_cons, List.nodup_cons] at hn
    cases i with
    | zero =>
      simp only [List.getElem?_cons_zero, Option.some.injEq] at hs; subst hs
      rw [List.set_cons_zero, List.find?_cons, List.find?_cons]
      by_cases hj : j = k
      · subst hj; simp [ht]
      · have h1 : (t.n == j) = false := by simp; omega
        have h2 : (x.n == j) = false := by simp; omega
        rw [h1, h2, if_neg hj]
    | succ i =>
      simp only [List.getElem?_cons_succ] at hs
      have hxk : x.n ≠ k := fun e => hn.1 (by rw [e, ← hk]; exact List.mem_map_of_mem (List.mem_of_getElem? hs))
      rw [List.set_cons_succ, List.find?_cons, List.find?_cons]
      by_cases hx : x.n = j
      · have : (x.n == j) = true := by simpa using hx
        rw [this, if_neg (by omega)]
      · have : (x.n == j) = false := by simpa using hx
        rw [this]
        exact ih hs hn.2
theorem set_ns {L : List Sec} {s t : Sec} {i : Nat} (hs : L[i]? = some s) (ht : t.n = s.n) : (L.set i t).map (·.n) = L.map (·.n) := by
  induction L generalizing i with
  | nil => simp at hs
  | cons x L ih =>
    cases i with
    | zero => simp only [List.getElem?_cons_zero, Option.some.injEq] at hs; subst hs; simp [ht]
    | succ i => simp only [List.getElem?_cons_succ] at hs; simp [ih hs]
theorem like_put {D : Dk} {L M : List Sec} {k : Int} {bs : List Int} {t : Sec} (h : LikeD D L) (hM : ∀ j, M.find? (fun s => s.n == j) = if j = k then some t else L.find? (fun s => s.n == j))
    (h1 : t.lt = bs) (h2 : t.sf = (D.safe k).getD zsec) (h3 : t.op = true) : LikeD (D.put k bs) M := by
  intro j
  rw [hM j]
  by_cases hj : j = k
  · subst hj
    rw [if_pos rfl]
    refine ⟨fun s hs => ?_, fun hs => by cases hs⟩
    injection hs with hs; subst hs
    refine ⟨?_, h2, ?_⟩
    · rw [h1]; simp [Dk.latest, Dk.put]
    · rw [h3]; simp [Dk.put]
  · rw [if_neg hj]
    have e1 : (D.put k bs).latest j = D.latest j := by simp [Dk.latest, Dk.put, hj]
    have e2 : (D.put k bs).opn j = D.opn j := by simp [Dk.put, hj]
    have e3 : (D.put k bs).safe j = D.safe j := rfl
    rw [e1, e2, e3]
    exact h j
theorem put_ok {D : Dk} {k : Int} {bs : List Int} (h : D.ok) (hb : bs.length = 512) : (D.put k bs).ok :=
  ⟨h.n1, h.n2, h.a1, h.a2, h.sl, fun j v hv => by
    simp only [Dk.put] at hv
    split at hv
    · injection hv with hv; rw [← hv]; exact hb
    · exact h.ol j v hv⟩
theorem mem_set {α : Type} {L : List α} {i : Nat} {x y : α} (h : x ∈ L.set i y) : x ∈ L ∨ x = y := List.mem_or_eq_of_mem_set h

/-- what a call may do to the document's device -/
structure RefTo (w w' : World) (b : Nat) (lv : Value) (F : Nat → Prop) (lv' : Value) (F' : Nat → Prop) : Prop where
  md : Mod (InR b lv) w w'
  lv : ∀ g, lv'.ownBlock = some g → lv.ownBlock = some g ∨ w.heap.size ≤ g
  F : ∀ g, F' g → F g ∨ w.heap.size ≤ g
theorem RefTo.refl (w : World) (b : Nat) (lv : Value) (F : Nat → Prop) : RefTo w w b lv F lv F := ⟨Mod.refl _ _, fun _ h => .inl h, fun _ h => .inl h⟩
theorem RefTo.at_b {w w' : World} {b : Nat} {lv : Value} {F : Nat → Prop} (h : Mod (At b) w w') : RefTo w w' b lv F lv F :=
  ⟨h.mono (fun k _ e => .inl e), fun _ h => .inl h, fun _ h => .inl h⟩

/-- a call's end: its answer, the device, what may have changed -/
def RefPost (w : World) (b : Nat) (lv : Value) (F : Nat → Prop) (v : Value) (D' : Dk) (e : Ending) (w' : World) : Prop :=
  ∃ lv' F' L', e = .returned v ∧ RefAt w' b lv' F' D' L' ∧ RefTo w w' b lv F lv' F'
/-- RefAt, the row changed -/
theorem RefAt.rowed {w w' : World} {b : Nat} {lv lv' : Value} {F : Nat → Prop} {D D' : Dk} {L L' : List Sec} (h : RefAt w b lv F D L) (F' : Nat → Prop)
    (hm : Mod (InR b lv) w w') (hblk : Blk w' b 107 #[.int .i64 D'.n, lv', .int .i64 D'.armed, .bool D'.down])
    (hrow : w'.ownsRow 0 112 4 lv' L'.length (flat Sec.enc L')) (hlv : ∀ g, lv'.ownBlock = some g → lv.ownBlock = some g ∨ w.heap.size ≤ g)
    (hF : ∀ g, F' g → F g ∨ (w.heap.size ≤ g ∧ g < w'.heap.size ∧ lv'.ownBlock ≠ some g)) (hsec : ∀ s ∈ L', SecOk w' F' s) (hnd : (L'.map (·.n)).Nodup) (hrng : ∀ s ∈ L', 0 ≤ s.n ∧ s.n < D'.n)
    (hlike : LikeD D' L') (hok : D'.ok) : RefAt w' b lv' F' D' L' := by
  have hbl := h.blk.lt
  refine ⟨hblk, hrow, hsec, hnd, hrng, hlike, fun hf => ?_, fun g hg => ⟨fun e => ?_, fun hf => ?_⟩, fun g hg => ?_, hok⟩
  · rcases hF b hf with h1 | h1
    · exact h.fb h1
    · omega
  · subst e
    rcases hlv g hg with h1 | h1
    · exact (h.sep g h1).1 rfl
    · omega
  · rcases hF g hf with h1 | h1
    · rcases hlv g hg with h2 | h2
      · exact (h.sep g h2).2 h1
      · have := h.flt g h1; omega
    · exact h1.2.2 hg
  · rcases hF g hg with h1 | h1
    · exact Nat.lt_of_lt_of_le (h.flt g h1) hm.size
    · exact h1.2.1
end Go.Proofs.Ytgmkibckbbbhkaa
