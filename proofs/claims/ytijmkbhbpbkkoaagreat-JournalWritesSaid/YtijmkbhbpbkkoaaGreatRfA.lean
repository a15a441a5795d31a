/- Own lemmas of several kinds, put together: Ref81, Ref82, Ref83, Ref84, Ref85, Ref86, Ref87, Ref88. -/
import Derived.Test.YtijmkbhbpbkkoaaGreatKitB
import Derived.Test.YtijmkbhbpbkkoaaGreatDvA
import Derived.Test.YtijmkbhbpbkkoaaGreatDev6
import Derived.Deep.DeepCutAuto
import Derived.BigQuiet
import Derived.Deep.LoopGhost
import Derived.Deep.QuietTactic
import Derived.Test.YtijmkbhbpbkkoaaGreatKitC
/- The document's device (peatbankref08.Disk): its words in memory; find, Down, Sectors, crashes, Arm. -/
namespace Go.Proofs.YtijmkbhbpbkkoaaGreat
open Go.RowKit

structure Sec where
  n : Int
  la : Option Addr
  lc : Nat
  lt : List Int
  sa : Option Addr
  sc : Nat
  sf : List Int
  op : Bool
def Sec.enc (s : Sec) : List Value := [.int .i64 s.n, .slice s.la 512 s.lc, .slice s.sa 512 s.sc, .bool s.op]
theorem Sec.enc_len (s : Sec) : s.enc.length = 4 := rfl
structure SecOk (w : World) (F : Nat → Prop) (s : Sec) : Prop where
  l : Rd w s.la 512 (s.lt.map (Value.int .u8))
  f : Rd w s.sa 512 (s.sf.map (Value.int .u8))
  lF : ∀ g, Of s.la g → F g
  fF : ∀ g, Of s.sa g → F g
theorem SecOk.mod {w w' : World} {F S : Nat → Prop} {s : Sec} (h : SecOk w F s) (hm : Mod S w w') (hn : ∀ k, F k → ¬ S k) : SecOk w' F s :=
  ⟨h.l.mod hm (fun g hg => hn g (h.lF g hg)), h.f.mod hm (fun g hg => hn g (h.fF g hg)), h.lF, h.fF⟩
theorem SecOk.mono {w : World} {F G : Nat → Prop} {s : Sec} (h : SecOk w F s) (hn : ∀ k, F k → G k) : SecOk w G s :=
  ⟨h.l, h.f, fun g hg => hn g (h.lF g hg), fun g hg => hn g (h.fF g hg)⟩

/-- the sectors that were written are those of D -/
def LikeD (D : Dk) (L : List Sec) : Prop :=
  ∀ k : Int, (∀ s, L.find? (fun s => s.n == k) = some s → s.lt = D.latest k ∧ s.sf = (D.safe k).getD zsec ∧ s.op = (D.opn k).isSome) ∧ (L.find? (fun s => s.n == k) = none → D.opn k = none ∧ D.safe k = none)

def InR (b : Nat) (lv : Value) : Nat → Prop := fun k => k = b ∨ lv.ownBlock = some k

section
variable {w w' : World} {b : Nat} {lv : Value} {F : Nat → Prop} {D : Dk} {L : List Sec} {S : Nat → Prop}
end

def fnd (L : List Sec) (k : Int) : Int := match L.findIdx? (fun s => s.n == k) with | some i => (i : Int) | none => -1
theorem fnd_some {L : List Sec} {k : Int} {s : Sec} (h : L.find? (fun s => s.n == k) = some s) : ∃ i : Nat, fnd L k = i ∧ L[i]? = some s ∧ s.n = k := by
  have hs := List.find?_some h
  obtain ⟨i, hi, hp⟩ : ∃ i, L.findIdx? (fun s => s.n == k) = some i ∧ L[i]? = some s := by
    induction L with
    | nil => simp at h
    | cons x L ih =>
      rw [List.find?_cons] at h
      rw [List.findIdx?_cons]
      by_cases hx : (x.n == k) = true
      · rw [hx] at h; simp only [Option.some.injEq] at h; subst h
        exact ⟨0, by rw [hx]; rfl, rfl⟩
      · have hx' : (x.n == k) = false := by simpa using hx
        rw [hx'] at h ⊢
        obtain ⟨i, h1, h2⟩ := ih h
        exact ⟨i + 1, by simp [h1], h2⟩
  exact ⟨i, by unfold fnd; rw [hi], hp, by simpa using hs⟩
theorem fnd_none {L : List Sec} {k : Int} (h : L.find? (fun s => s.n == k) = none) : fnd L k = -1 := by
  have : L.findIdx? (fun s => s.n == k) = none := by
    rw [List.findIdx?_eq_none_iff]
    intro x hx
    have := List.find?_eq_none.1 h x hx
    simpa using this
  unfold fnd; rw [this]

theorem fnd_at {L : List Sec} {k : Int} {i : Nat} {s : Sec} (hs : L[i]? = some s) (hk : s.n = k) (hb : ∀ x ∈ L.take i, x.n ≠ k) : fnd L k = i := by
  unfold fnd
  have : L.findIdx? (fun s => s.n == k) = some i := by
    induction L generalizing i with
    | nil => simp at hs
    | cons x L ih =>
      rw [List.findIdx?_cons]
      cases i with
      | zero => simp only [List.getElem?_cons_zero, Option.some.injEq] at hs; subst hs; simp [hk]
      | succ i =>
        have hx : (x.n == k) = false := by simpa using hb x (by simp)
        rw [hx, ih (i := i) (by simpa using hs) (fun y hy => hb y (by simp [hy]))]; rfl
  rw [this]
theorem fnd_not {L : List Sec} {k : Int} (hb : ∀ x ∈ L, x.n ≠ k) : fnd L k = -1 := fnd_none (by rw [List.find?_eq_none]; intro x hx; simpa using hb x hx)
theorem at_cell0 {w : World} {g n cap base : Nat} {e : TypeId} {L : List Sec} (h : w.ownsRow base e 4 (.slice (some ⟨g, 0, none⟩) n cap) n (flat Sec.enc L)) {i : Nat} {s : Sec} (hs : L[i]? = some s) (j : Nat) (hj : j < 4) {v : Value} (hv : s.enc[j]? = some v) :
    w.cell? ⟨g, i * 4 + j, none⟩ = some v :=
  own_cell h (by rw [flat_at (enc := Sec.enc) (s := 4) Sec.enc_len L i j hj, hs]; exact hv)

end Go.Proofs.YtijmkbhbpbkkoaaGreat

/- The document's device: Read. -/
namespace Go.Proofs.YtijmkbhbpbkkoaaGreat
open Go.RowKit

theorem zsec_vals : Array.replicate 512 (Value.int .u8 0) = (zsec.map (Value.int .u8)).toArray := by
  unfold zsec; rw [List.map_replicate]; exact (Array.ext' (by simp)).symm
theorem own_zsec {w : World} {g base : Nat} (h : Blk w g 5 (Array.replicate 512 (Value.int .u8 0))) (hb : base ≤ g) : w.ownsRow base 5 1 (.slice (some ⟨g, 0, none⟩) 512 512) 512 (zsec.map (Value.int .u8)) :=
  own_of_blk h hb (by simp) (by simp [maxLen]) (by omega) (by rw [zsec_vals, List.toList_toArray, List.take_of_length_le (by rw [List.length_map, zsec_len]; omega)])
/-- an append to a slice just made, of none -/
theorem own_empty {w : World} {e : TypeId} (base : Nat) (hb : base ≤ w.heap.size) : (w.alloc (.cells #[] e)).ownsRow base e 1 (.slice (some ⟨w.heap.size, 0, none⟩) 0 0) 0 [] :=
  World.ownsRow_made (base := base) (e := e) (size := 1) w #[] 0 hb (by simp) rfl

end Go.Proofs.YtijmkbhbpbkkoaaGreat

/- The document's device: Write, plain laws on the list of sectors. -/
namespace Go.Proofs.YtijmkbhbpbkkoaaGreat
open Go.RowKit

theorem find_add {L : List Sec} {s : Sec} {k : Int} (hk : s.n = k) (h : L.find? (fun s => s.n == k) = none) (j : Int) :
    (L ++ [s]).find? (fun s => s.n == j) = if j = k then some s else L.find? (fun s => s.n == j) := by
  rw [List.find?_append]
  by_cases hj : j = k
  · subst hj
    rw [h, if_pos rfl]
    simp [hk]
  · rw [if_neg hj]
    have : ([s].find? (fun s => s.n == j)) = none := by
      rw [List.find?_eq_none]; intro x hx
      simp only [List.mem_singleton] at hx; subst hx
      simp; omega
    rw [this, Option.or_none]
theorem find_set {L : List Sec} {s t : Sec} {k : Int} {i : Nat} (hs : L[i]? = some s) (hk : s.n = k) (ht : t.n = k) (hn : (L.map (·.n)).Nodup) (j : Int) :
    (L.set i t).find? (fun s => s.n == j) = if j = k then some t else L.find? (fun s => s.n == j) := by
  induction L generalizing i with
  | nil => simp at hs
  | cons x L ih =>
    simp only [List.map_cons, List.nodup_cons] at hn
    cases i with
    | zero =>
      simp only [List.getElem?_cons_zero, Option.some.injEq] at hs; subst hs
      rw [List.set_cons_zero, List.find?_cons, List.find?_cons]
      by_cases hj : j = k
      · subst hj; simp [ht]
      · have h1 : (t.n == j) = false := by simp; omega
        have h2 : (x.n == j) = false := by simp; omega
        rw [h1, h2, if_neg hj]
    | succ i =>
      simp only [List.getElem?_cons_succ] at hs
      have hxk : x.n ≠ k := fun e => hn.1 (by rw [e, ← hk]; exact List.mem_map_of_mem (List.mem_of_getElem? hs))
      rw [List.set_cons_succ, List.find?_cons, List.find?_cons]
      by_cases hx : x.n = j
      · have : (x.n == j) = true := by simpa using hx
        rw [this, if_neg (by omega)]
      · have : (x.n == j) = false := by simpa using hx
        rw [this]
        exact ih hs hn.2
theorem set_ns {L : List Sec} {s t : Sec} {i : Nat} (hs : L[i]? = some s) (ht : t.n = s.n) : (L.set i t).map (·.n) = L.map (·.n) := by
  induction L generalizing i with
  | nil => simp at hs
  | cons x L ih =>
    cases i with
    | zero => simp only [List.getElem?_cons_zero, Option.some.injEq] at hs; subst hs; simp [ht]
    | succ i => simp only [List.getElem?_cons_succ] at hs; simp [ih hs]
theorem like_put {D : Dk} {L M : List Sec} {k : Int} {bs : List Int} {t : Sec} (h : LikeD D L) (hM : ∀ j, M.find? (fun s => s.n == j) = if j = k then some t else L.find? (fun s => s.n == j))
    (h1 : t.lt = bs) (h2 : t.sf = (D.safe k).getD zsec) (h3 : t.op = true) : LikeD (D.put k bs) M := by
  intro j
  rw [hM j]
  by_cases hj : j = k
  · subst hj
    rw [if_pos rfl]
    refine ⟨fun s hs => ?_, fun hs => by cases hs⟩
    injection hs with hs; subst hs
    refine ⟨?_, h2, ?_⟩
    · rw [h1]; simp [Dk.latest, Dk.put]
    · rw [h3]; simp [Dk.put]
  · rw [if_neg hj]
    have e1 : (D.put k bs).latest j = D.latest j := by simp [Dk.latest, Dk.put, hj]
    have e2 : (D.put k bs).opn j = D.opn j := by simp [Dk.put, hj]
    have e3 : (D.put k bs).safe j = D.safe j := rfl
    rw [e1, e2, e3]
    exact h j
theorem put_ok {D : Dk} {k : Int} {bs : List Int} (h : D.ok) (hb : bs.length = 512) : (D.put k bs).ok :=
  ⟨h.n1, h.n2, h.a1, h.a2, h.sl, fun j v hv => by
    simp only [Dk.put] at hv
    split at hv
    · injection hv with hv; rw [← hv]; exact hb
    · exact h.ol j v hv⟩
theorem mem_set {α : Type} {L : List α} {i : Nat} {x y : α} (h : x ∈ L.set i y) : x ∈ L ∨ x = y := List.mem_or_eq_of_mem_set h

/-- what a call may do to the document's device -/
structure RefTo (w w' : World) (b : Nat) (lv : Value) (F : Nat → Prop) (lv' : Value) (F' : Nat → Prop) : Prop where
  md : Mod (InR b lv) w w'
  lv : ∀ g, lv'.ownBlock = some g → lv.ownBlock = some g ∨ w.heap.size ≤ g
  F : ∀ g, F' g → F g ∨ w.heap.size ≤ g
theorem RefTo.refl (w : World) (b : Nat) (lv : Value) (F : Nat → Prop) : RefTo w w b lv F lv F := ⟨Mod.refl _ _, fun _ h => .inl h, fun _ h => .inl h⟩
theorem RefTo.at_b {w w' : World} {b : Nat} {lv : Value} {F : Nat → Prop} (h : Mod (At b) w w') : RefTo w w' b lv F lv F :=
  ⟨h.mono (fun k _ e => .inl e), fun _ h => .inl h, fun _ h => .inl h⟩

end Go.Proofs.YtijmkbhbpbkkoaaGreat

/- The document's device: Write, the walk. -/
namespace Go.Proofs.YtijmkbhbpbkkoaaGreat
open Go.RowKit

theorem size_slice8 : (Tryz.prog.info? 29).map (·.size) = some 1 := by kernel_rfl
end Go.Proofs.YtijmkbhbpbkkoaaGreat

/- The document's device: Write of a sector that was never written; Write. -/
namespace Go.Proofs.YtijmkbhbpbkkoaaGreat
open Go.RowKit

theorem flat_new (L : List Sec) (a0 a1 a2 a3 b1 b3 : Value) (t : Sec) (ht : t.enc = [a0, b1, a2, b3]) :
    ((flat Sec.enc L ++ [a0, a1, a2, a3]).set (L.length * 4 + 1) b1).set (L.length * 4 + 3) b3 = flat Sec.enc (L ++ [t]) := by
  have hl := flat_len Sec.enc_len L
  rw [flat_append, flat_one, ht, List.set_append_right _ _ (by rw [hl]; omega), List.set_append_right _ _ (by rw [hl]; omega), hl,
    show L.length * 4 + 1 - L.length * 4 = 1 from by omega, show L.length * 4 + 3 - L.length * 4 = 3 from by omega]
  rfl
theorem new_cell (L : List Sec) (xs : List Value) (j : Nat) : (flat Sec.enc L ++ xs)[L.length * 4 + j]? = xs[j]? := by
  have hl := flat_len Sec.enc_len L
  rw [List.getElem?_append_right (by rw [hl]; omega), hl, show L.length * 4 + j - L.length * 4 = j from by omega]

end Go.Proofs.YtijmkbhbpbkkoaaGreat

/- The document's device: Sync. -/
namespace Go.Proofs.YtijmkbhbpbkkoaaGreat
open Go.RowKit

/-- the first i are done -/
def stepL {α : Type} (f : α → α) (L : List α) (i : Nat) : List α := (L.take i).map f ++ L.drop i
section
variable {α : Type} (f : α → α)
theorem stepL_zero (L : List α) : stepL f L 0 = L := by simp [stepL]
theorem stepL_all (L : List α) : stepL f L L.length = L.map f := by simp [stepL]
theorem stepL_len (L : List α) (i : Nat) : (stepL f L i).length = L.length := by simp [stepL]; omega
theorem stepL_at {L : List α} {i : Nat} {s : α} (h : L[i]? = some s) : (stepL f L i)[i]? = some s := by
  have hi : i < L.length := (List.getElem?_eq_some_iff.1 h).1
  unfold stepL
  rw [List.getElem?_append_right (by simp; omega)]
  simp only [List.length_map, List.length_take, Nat.min_eq_left (Nat.le_of_lt hi), Nat.sub_self, List.getElem?_drop, Nat.add_zero]
  exact h
theorem stepL_set {L : List α} {i : Nat} {s : α} (h : L[i]? = some s) : (stepL f L i).set i (f s) = stepL f L (i + 1) := by
  have hi : i < L.length := (List.getElem?_eq_some_iff.1 h).1
  unfold stepL
  have hl : ((L.take i).map f).length = i := by simp; omega
  have hd : L.drop i = s :: L.drop (i + 1) := by rw [List.drop_eq_getElem_cons hi, (List.getElem?_eq_some_iff.1 h).2]
  rw [List.set_append_right _ _ (by omega), hl, Nat.sub_self, hd, List.set_cons_zero, List.take_succ_eq_append_getElem hi, List.map_append, List.append_assoc, (List.getElem?_eq_some_iff.1 h).2]
  rfl
end
theorem find_map {f : Sec → Sec} (hf : ∀ s, (f s).n = s.n) (k : Int) : ∀ L : List Sec, (L.map f).find? (fun s => s.n == k) = (L.find? (fun s => s.n == k)).map f
  | [] => rfl
  | x :: L => by
    rw [List.map_cons, List.find?_cons, List.find?_cons, hf]
    by_cases h : (x.n == k) = true
    · rw [h]; rfl
    · rw [show (x.n == k) = false by simpa using h]; exact find_map hf k L
theorem map_ns {f : Sec → Sec} (hf : ∀ s, (f s).n = s.n) (L : List Sec) : (L.map f).map (·.n) = L.map (·.n) := by rw [List.map_map]; exact List.map_congr_left fun s _ => hf s

def syncS (s : Sec) : Sec := { s with sa := s.la, sc := s.lc, sf := s.lt, op := false }
theorem like_flush {D : Dk} {L : List Sec} (h : LikeD D L) : LikeD D.flush (L.map syncS) := by
  intro k
  rw [find_map (f := syncS) (fun _ => rfl)]
  have e1 : D.flush.latest k = D.latest k := by simp [Dk.latest, Dk.flush]
  have e2 : (D.flush.safe k).getD zsec = D.latest k := by simp [Dk.latest, Dk.flush]
  refine ⟨fun s hs => ?_, fun hs => ?_⟩
  · obtain ⟨t, ht, rfl⟩ := Option.map_eq_some_iff.1 hs
    have := ((h k).1 t ht).1
    exact ⟨by rw [e1]; exact this, by rw [e2]; exact this, rfl⟩
  · have := (h k).2 (by simpa using hs)
    exact ⟨rfl, by simp [Dk.flush, this.1, this.2]⟩
theorem flush_ok {D : Dk} (h : D.ok) : D.flush.ok :=
  ⟨h.n1, h.n2, h.a1, h.a2, fun k v hv => by
    simp only [Dk.flush] at hv
    cases ho : D.opn k with
    | none => rw [ho, Option.none_or] at hv; exact h.sl k v hv
    | some u => rw [ho, Option.some_or] at hv; injection hv with hv; rw [← hv]; exact h.ol k u ho, fun k v hv => by cases hv⟩
end Go.Proofs.YtijmkbhbpbkkoaaGreat

/- The document's device: Wake. -/
namespace Go.Proofs.YtijmkbhbpbkkoaaGreat
open Go.RowKit

def keepS (s : Sec) : Sec := { s with sa := s.la, sc := s.lc, sf := s.lt, op := false }
def dropS (s : Sec) : Sec := { s with la := s.sa, lc := s.sc, lt := s.sf, op := false }
def wakeS (fs : List Int) (s : Sec) : Sec := if s.op = true then (if s.n ∈ fs then keepS s else dropS s) else s
theorem wakeS_n (fs : List Int) (s : Sec) : (wakeS fs s).n = s.n := by unfold wakeS; split <;> (try split) <;> rfl
theorem wakeS_ok {w : World} {F : Nat → Prop} {s : Sec} (fs : List Int) (h : SecOk w F s) : SecOk w F (wakeS fs s) := by
  unfold wakeS
  split
  · split
    · exact ⟨h.l, h.l, h.lF, h.lF⟩
    · exact ⟨h.f, h.f, h.fF, h.fF⟩
  · exact h
theorem like_wake {D : Dk} {L : List Sec} (fs : List Int) (h : LikeD D L) : LikeD (D.wake fs) (L.map (wakeS fs)) := by
  intro k
  rw [find_map (wakeS_n fs)]
  refine ⟨fun s hs => ?_, fun hs => ?_⟩
  · obtain ⟨t, ht, rfl⟩ := Option.map_eq_some_iff.1 hs
    have htk : t.n = k := by have := List.find?_some ht; simpa using this
    obtain ⟨h1, h2, h3⟩ := (h k).1 t ht
    simp only [Dk.latest, Dk.wake, Option.none_or] at h1 ⊢
    cases ho : D.opn k with
    | none =>
      rw [ho, Option.none_or] at h1
      rw [ho] at h3
      have hf : t.op = false := h3
      have hw : wakeS fs t = t := by unfold wakeS; rw [if_neg (by rw [hf]; exact Bool.false_ne_true)]
      rw [hw]
      refine ⟨?_, ?_, hf⟩
      · rw [h1]; split <;> simp
      · rw [h2]; split <;> simp
    | some u =>
      rw [ho] at h1 h3
      have hf : t.op = true := h3
      by_cases hk : k ∈ fs
      · have hw : wakeS fs t = keepS t := by unfold wakeS; rw [if_pos hf, if_pos (by rw [htk]; exact hk)]
        rw [hw, if_pos hk]
        exact ⟨h1, h1, rfl⟩
      · have hw : wakeS fs t = dropS t := by unfold wakeS; rw [if_pos hf, if_neg (by rw [htk]; exact hk)]
        rw [hw, if_neg hk]
        exact ⟨h2, h2, rfl⟩
  · have := (h k).2 (by simpa using hs)
    simp [Dk.wake, this.1, this.2]
theorem wake_ok {D : Dk} (fs : List Int) (h : D.ok) : (D.wake fs).ok :=
  ⟨h.n1, h.n2, Int.le_refl 0, (by decide : (0 : Int) ≤ 9223372036854775807), fun k v hv => by
    simp only [Dk.wake] at hv
    split at hv
    · cases ho : D.opn k with
      | none => rw [ho, Option.none_or] at hv; exact h.sl k v hv
      | some u => rw [ho, Option.some_or] at hv; injection hv with hv; rw [← hv]; exact h.ol k u ho
    · exact h.sl k v hv, fun k v hv => by cases hv⟩
theorem wake_up (D : Dk) (fs : List Int) : (D.up).wake fs = D.wake fs := rfl

theorem set_same {α : Type} {L : List α} {i : Nat} {s : α} (h : L[i]? = some s) : L.set i s = L := by
  apply List.ext_getElem?
  intro j
  rw [List.getElem?_set]
  by_cases hj : i = j
  · subst hj; rw [if_pos rfl, if_pos (List.getElem?_eq_some_iff.1 h).1, h]
  · rw [if_neg hj]
theorem kept_succ {fs : List Int} {i : Nat} {z k : Int} (h : fs[i]? = some z) : decide (k ∈ fs.take (i + 1)) = (decide (k ∈ fs.take i) || (z == k)) := by
  rw [List.take_add_one, h]
  by_cases h1 : k ∈ fs.take i
  · simp [h1]
  · by_cases h2 : z = k
    · subst h2; simp
    · have h3 : ¬ k = z := fun e => h2 e.symm
      simp [h1, h3, h2]

end Go.Proofs.YtijmkbhbpbkkoaaGreat

/- The document's device: New, Bytes. -/
namespace Go.Proofs.YtijmkbhbpbkkoaaGreat
open Go.RowKit

theorem und_int : Tryz.prog.underlying 3 = some (.int .i64) := Tryz.underlying3
def bytesN (D : Dk) (j : Nat) : List Int := (List.range j).flatMap (fun i : Nat => D.latest i)
theorem bytesN_succ (D : Dk) (j : Nat) : bytesN D (j + 1) = bytesN D j ++ D.latest j := by unfold bytesN; rw [List.range_succ, List.flatMap_append]; simp
theorem bytesN_len {D : Dk} (h : D.ok) : ∀ j, (bytesN D j).length = 512 * j
  | 0 => rfl
  | j + 1 => by rw [bytesN_succ, List.length_append, bytesN_len h j, h.latest_len]; omega
theorem own_row_ge {w : World} {base n size : Nat} {e : TypeId} {v : Value} {xs : List Value} (h : w.ownsRow base e size v n xs) {g : Nat} (hg : v.ownBlock = some g) : base ≤ g := by
  obtain ⟨A, c, hv, _, hlt⟩ := own_form h
  rw [hv] at hg
  exact (hlt g (own_of hg)).1

end Go.Proofs.YtijmkbhbpbkkoaaGreat
