/- A cache's memory in plain words: which sectors are in memory, when they were touched, which makes room. No program is named. -/
import Derived.Test.YtijmkbhbpbkkoaaGreatKitA
namespace Go.Proofs.YtijmkbhbpbkkoaaGreat
open Go.RowKit

structure Kp where
  A : Option Addr
  c : Nat
  bs : List Int
  t : Int
def Kp.enc (x : Kp) : Value := .agg #[.slice x.A 512 x.c, .int .i64 x.t]
abbrev KL := List (Int × Kp)
abbrev TL := List (Int × Int)

/-- how many were touched behind stamp s -/
def behind (T : TL) (s : Int) : Nat := (T.filter (fun e => decide (s < e.2))).length
def touchL (T : TL) (k now : Int) : TL := T.filter (fun e => !(e.1 == k)) ++ [(k, now)]

structure Lru (l : KL) (now most : Int) (T : TL) (up : Bool) : Prop where
  inc : T.Pairwise (fun a b => a.2 < b.2)
  nd : (T.map (·.1)).Nodup
  le : ∀ e ∈ T, e.2 ≤ now
  sub : ∀ e ∈ l, (e.1, e.2.t) ∈ T
  top : up = true → ∀ k s, (k, s) ∈ T → (behind T s : Int) < most → aget l k ≠ none
  cnt : (l.length : Int) ≤ most
  kd : (l.map (·.1)).Nodup

section
variable {l : KL} {now most : Int} {T : TL} {up : Bool}
theorem Lru.nil (now most : Int) (h : 0 ≤ most) (up : Bool) : Lru [] now most [] up :=
  ⟨List.Pairwise.nil, by simp, fun _ h => by simp at h, fun _ h => by simp at h, fun _ _ _ h => by simp at h, by simpa using h, by simp⟩
theorem Lru.weak (h : Lru l now most T up) : Lru l now most T false := ⟨h.inc, h.nd, h.le, h.sub, (fun h => by cases h), h.cnt, h.kd⟩
theorem Lru.absent (h : Lru l now most T up) {k : Int} (hk : ∀ e ∈ T, e.1 ≠ k) : aget l k = none := by
  rw [aget_none]
  intro e he hek
  exact hk _ (h.sub e he) hek
theorem stamp_eq (hd : (T.map (·.1)).Nodup) {k s t : Int} (h1 : (k, s) ∈ T) (h2 : (k, t) ∈ T) : s = t := by
  have a := aget_mem' hd h1
  have b := aget_mem' hd h2
  simp only at a b
  rw [a] at b; injection b
theorem key_eq (hi : T.Pairwise (fun a b => a.2 < b.2)) {x y : Int × Int} (h1 : x ∈ T) (h2 : y ∈ T) (h : x.2 = y.2) : x = y := by
  induction T with
  | nil => simp at h1
  | cons e T ih =>
    rw [List.pairwise_cons] at hi
    rcases List.mem_cons.1 h1 with r1 | r1 <;> rcases List.mem_cons.1 h2 with r2 | r2
    · rw [r1, r2]
    · have := hi.1 _ r2; rw [r1] at h; omega
    · have := hi.1 _ r1; rw [r2] at h; omega
    · exact ih hi.2 r1 r2
theorem mem_touch {k n : Int} {e : Int × Int} : e ∈ touchL T k n ↔ (e ∈ T ∧ e.1 ≠ k) ∨ e = (k, n) := by
  unfold touchL
  rw [List.mem_append, List.mem_filter, List.mem_singleton]
  simp
theorem touch_inc (h : Lru l now most T up) (k : Int) : (touchL T k (now + 1)).Pairwise (fun a b => a.2 < b.2) := by
  unfold touchL
  rw [List.pairwise_append]
  refine ⟨h.inc.sublist List.filter_sublist, List.pairwise_singleton _ _, fun a ha b hb => ?_⟩
  rw [List.mem_singleton] at hb; subst hb
  have := h.le a ((List.mem_filter.1 ha).1)
  show a.2 < now + 1
  omega
theorem touch_nd (h : Lru l now most T up) (k : Int) : ((touchL T k (now + 1)).map (·.1)).Nodup := by
  unfold touchL
  rw [List.map_append, List.nodup_append]
  refine ⟨h.nd.sublist (List.filter_sublist.map _), by simp, fun a ha b hb => ?_⟩
  obtain ⟨e, he, rfl⟩ := List.mem_map.1 ha
  have := (List.mem_filter.1 he).2
  simp only [List.map_cons, List.map_nil, List.mem_singleton] at hb; subst hb
  simpa using this
theorem touch_le (h : Lru l now most T up) (k : Int) : ∀ e ∈ touchL T k (now + 1), e.2 ≤ now + 1 := by
  intro e he
  rcases mem_touch.1 he with ⟨h1, -⟩ | rfl
  · have := h.le e h1; omega
  · exact Int.le_refl _
/-- at most one has the key -/
theorem filter_key {p : Int × Int → Bool} (hd : (T.map (·.1)).Nodup) (k : Int) : (T.filter p).length ≤ ((T.filter (fun e => !(e.1 == k))).filter p).length + 1 := by
  induction T with
  | nil => simp
  | cons e T ih =>
    simp only [List.map_cons, List.nodup_cons] at hd
    by_cases hk : e.1 = k
    · have : T.filter (fun e => !(e.1 == k)) = T := by
        rw [List.filter_eq_self]
        intro x hx
        have : x.1 ≠ k := fun hxk => hd.1 (by rw [hk, ← hxk]; exact List.mem_map_of_mem hx)
        simpa using this
      have e1 : (e :: T).filter (fun e => !(e.1 == k)) = T.filter (fun e => !(e.1 == k)) := List.filter_cons_of_neg (by simp [hk])
      rw [e1, this, List.filter_cons]
      split <;> simp
    · have e1 : (e :: T).filter (fun e => !(e.1 == k)) = e :: T.filter (fun e => !(e.1 == k)) := List.filter_cons_of_pos (by simp [hk])
      rw [e1, List.filter_cons, List.filter_cons]
      have := ih hd.2
      split
      all_goals first | (simp only [List.length_cons]; omega) | omega
theorem behind_touch (h : Lru l now most T up) (k : Int) {s : Int} (hs : s ≤ now) : behind T s ≤ behind (touchL T k (now + 1)) s := by
  unfold behind touchL
  rw [List.filter_append, List.length_append]
  have h1 := filter_key (p := fun e => decide (s < e.2)) h.nd k
  have h2 : ([(k, now + 1)].filter (fun e : Int × Int => decide (s < e.2))).length = 1 := by
    rw [List.filter_cons, if_pos (by simp; omega)]; rfl
  omega

theorem adel_len {α : Type} {l : List (Int × α)} (hd : (l.map (·.1)).Nodup) {k : Int} (h : aget l k ≠ none) : (adel l k).length + 1 = l.length := by
  induction l with
  | nil => simp [aget_nil] at h
  | cons e l ih =>
    simp only [List.map_cons, List.nodup_cons] at hd
    rw [aget_cons] at h
    unfold adel
    by_cases hk : e.1 = k
    · have : l.filter (fun e => !(e.1 == k)) = l := by
        rw [List.filter_eq_self]
        intro x hx
        have : x.1 ≠ k := fun hxk => hd.1 (by rw [hk, ← hxk]; exact List.mem_map_of_mem hx)
        simpa using this
      rw [List.filter_cons, if_neg (by simp [hk]), this]; rfl
    · rw [if_neg hk] at h
      have := ih hd.2 h
      unfold adel at this
      rw [List.filter_cons, if_pos (by simp [hk])]
      simp only [List.length_cons]; omega
theorem adel_le {α : Type} {l : List (Int × α)} {k : Int} : (adel l k).length ≤ l.length := List.length_filter_le _ _
theorem mem_adel {α : Type} {l : List (Int × α)} {k : Int} {e : Int × α} : e ∈ adel l k ↔ e ∈ l ∧ e.1 ≠ k := by
  unfold adel; rw [List.mem_filter]; simp
theorem aset_len {α : Type} {l : List (Int × α)} {k : Int} {v : α} : (aset l k v).length = if aget l k = none then l.length + 1 else l.length := by
  have := congrArg List.length (keys_aset l k v)
  rw [List.length_map] at this
  rw [this]
  split <;> simp
theorem mem_aset {α : Type} {l : List (Int × α)} (hd : (l.map (·.1)).Nodup) {k : Int} {v : α} {e : Int × α} : e ∈ aset l k v ↔ (e ∈ l ∧ e.1 ≠ k) ∨ e = (k, v) := by
  have hn := nodup_aset hd k v
  constructor
  · intro he
    have := aget_mem' hn he
    rw [aget_aset] at this
    by_cases hk : e.1 = k
    · rw [if_pos hk] at this; injection this with this; right; rw [this, ← hk]
    · rw [if_neg hk] at this; left; exact ⟨aget_mem this, hk⟩
  · rintro (⟨h1, h2⟩ | rfl)
    · have := aget_mem' hd h1
      have h3 : aget (aset l k v) e.1 = some e.2 := by rw [aget_aset, if_neg h2]; exact this
      exact aget_mem h3
    · exact aget_mem (by rw [aget_aset, if_pos rfl])

/-- what keep leaves: the list with the new one, or without the eldest -/
def Kept (l1 : KL) (most : Int) (l' : KL) : Prop :=
  ((l1.length : Int) ≤ most ∧ l' = l1) ∨ (most < (l1.length : Int) ∧ ∃ e x, aget l1 e = some x ∧ (∀ y ∈ l1, x.t ≤ y.2.t) ∧ l' = adel l1 e)
theorem Kept.mem {l1 l' : KL} (h : Kept l1 most l') {e : Int × Kp} (he : e ∈ l') : e ∈ l1 := by
  rcases h with ⟨-, rfl⟩ | ⟨-, k, x, -, -, rfl⟩
  · exact he
  · exact (mem_adel.1 he).1
theorem Kept.lru {l' : KL} {k : Int} {x : Kp} (h : Lru l now most T up) (hm : 1 ≤ most) (hx : x.t = now + 1) (hk : Kept (aset l k x) most l') : Lru l' (now + 1) most (touchL T k (now + 1)) up := by
  have hn := nodup_aset h.kd k x
  have hsub1 : ∀ e ∈ aset l k x, (e.1, e.2.t) ∈ touchL T k (now + 1) := by
    intro e he
    rcases (mem_aset h.kd).1 he with ⟨h1, h2⟩ | rfl
    · exact mem_touch.2 (.inl ⟨h.sub e h1, h2⟩)
    · exact mem_touch.2 (.inr (by simp [hx]))
  refine ⟨touch_inc h k, touch_nd h k, touch_le h k, fun e he => hsub1 e (hk.mem he), ?_, ?_, ?_⟩
  · intro hup j s hj hb
    have hin : aget (aset l k x) j ≠ none := by
      rw [aget_aset]
      by_cases hjk : j = k
      · rw [if_pos hjk]; simp
      · rw [if_neg hjk]
        rcases mem_touch.1 hj with ⟨h1, -⟩ | h1
        · exact h.top hup j s h1 (by have := behind_touch h k (h.le _ h1); simp only at this; omega)
        · injection h1 with h1; exact absurd h1 hjk
    rcases hk with ⟨-, rfl⟩ | ⟨hlen, e, y, he, hmin, rfl⟩
    · exact hin
    · rw [aget_adel]
      by_cases hje : j = e
      · exfalso
        subst hje
        have hs : y.t = s := stamp_eq (touch_nd h k) (hsub1 _ (aget_mem he)) hj
        subst hs
        have hlen1 := adel_len hn hin
        have hcount : (adel (aset l k x) j).length ≤ behind (touchL T k (now + 1)) y.t := by
          have := nodup_sub_len ((adel (aset l k x) j).map (fun e => (e.1, e.2.t))) ((touchL T k (now + 1)).filter (fun e => decide (y.t < e.2))) ?_ ?_
          · simpa [behind] using this
          · have hnk := nodup_adel hn j
            have : ((adel (aset l k x) j).map (fun e => (e.1, e.2.t))).map (·.1) = (adel (aset l k x) j).map (·.1) := by rw [List.map_map]; rfl
            rw [← this] at hnk
            refine List.Pairwise.imp ?_ (List.pairwise_map.1 hnk)
            intro a b hab hab'; exact hab (by rw [hab'])
          · intro z hz
            obtain ⟨a, ha, rfl⟩ := List.mem_map.1 hz
            obtain ⟨ha1, ha2⟩ := mem_adel.1 ha
            rw [List.mem_filter]
            refine ⟨hsub1 a ha1, ?_⟩
            have h1 := hmin a ha1
            have h2 : y.t ≠ a.2.t := fun heq => ha2 (by
              have := key_eq (touch_inc h k) (hsub1 a ha1) hj heq.symm
              injection this)
            simp; omega
        omega
      · rw [if_neg hje]; exact hin
  · rcases hk with ⟨hlen, rfl⟩ | ⟨hlen, e, y, he, hmin, rfl⟩
    · exact hlen
    · have h1 := adel_len hn (k := e) (by rw [he]; simp)
      have h2 := aset_len (l := l) (k := k) (v := x)
      have h3 := h.cnt
      split at h2 <;> omega
  · rcases hk with ⟨hlen, rfl⟩ | ⟨hlen, e, y, he, hmin, rfl⟩
    · exact hn
    · exact nodup_adel hn e
/-- what write leaves when the power goes -/
theorem Lru.forget (h : Lru l now most T up) (k : Int) : Lru (adel l k) now most (T.filter (fun e => !(e.1 == k))) false := by
  refine ⟨h.inc.sublist List.filter_sublist, h.nd.sublist (List.filter_sublist.map _), fun e he => h.le e ((List.mem_filter.1 he).1), ?_, (fun h => by cases h), ?_, nodup_adel h.kd k⟩
  · intro e he
    obtain ⟨h1, h2⟩ := mem_adel.1 he
    rw [List.mem_filter]
    exact ⟨h.sub e h1, by simpa using h2⟩
  · have := adel_le (l := l) (k := k); have := h.cnt; omega

/-! ### the list of those that were touched -/
/-- place: how many were touched behind one -/
def placeL (L : List Int) (k : Int) : Int := match L.findIdx? (fun x => x == k) with | some i => (L.length : Int) - 1 - i | none => -1
theorem place_none {L : List Int} {k : Int} (h : ∀ x ∈ L, x ≠ k) : placeL L k = -1 := by
  unfold placeL
  have : L.findIdx? (fun x => x == k) = none := by rw [List.findIdx?_eq_none_iff]; intro x hx; simpa using h x hx
  rw [this]
theorem behind_at (hi : T.Pairwise (fun a b => a.2 < b.2)) {i : Nat} {e : Int × Int} (he : T[i]? = some e) : behind T e.2 = T.length - 1 - i := by
  induction T generalizing i with
  | nil => simp at he
  | cons x T ih =>
    rw [List.pairwise_cons] at hi
    unfold behind
    rw [List.filter_cons]
    cases i with
    | zero =>
      simp only [List.getElem?_cons_zero, Option.some.injEq] at he
      subst he
      rw [if_neg (by simp), List.filter_eq_self.2 (fun a ha => by simpa using hi.1 a ha)]
      simp
    | succ i =>
      simp only [List.getElem?_cons_succ] at he
      have := hi.1 e (List.mem_of_getElem? he)
      rw [if_neg (by simp; omega)]
      have h2 := ih hi.2 he
      unfold behind at h2
      rw [h2]
      simp only [List.length_cons]; omega
/-- what the law asks of a read -/
theorem Lru.place (h : Lru l now most T true) (k : Int) : (placeL (T.map (·.1)) k < 0 → aget l k = none) ∧ (0 ≤ placeL (T.map (·.1)) k → placeL (T.map (·.1)) k < most → aget l k ≠ none) := by
  unfold placeL
  cases hf : (T.map (·.1)).findIdx? (fun x => x == k) with
  | none =>
    rw [List.findIdx?_eq_none_iff] at hf
    refine ⟨fun _ => h.absent fun e he => ?_, fun h => by simp at h⟩
    simpa using hf e.1 (List.mem_map_of_mem he)
  | some i =>
    rw [List.findIdx?_eq_some_iff_getElem] at hf
    obtain ⟨hlt, hk, -⟩ := hf
    rw [List.length_map] at hlt
    simp only [List.getElem_map, beq_iff_eq] at hk
    have hb := behind_at h.inc (List.getElem?_eq_getElem hlt)
    simp only [List.length_map]
    refine ⟨fun h => by omega, fun _ h2 => h.top rfl k (T[i]).2 (by rw [← hk]; exact List.getElem_mem hlt) (by omega)⟩
end
end Go.Proofs.YtijmkbhbpbkkoaaGreat
