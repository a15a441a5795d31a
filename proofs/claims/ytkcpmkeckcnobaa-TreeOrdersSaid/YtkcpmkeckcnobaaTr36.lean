/- peatbanklaw16.TreeOrders in plain words. -/
import Derived.Test.YtkcpmkeckcnobaaTr33
namespace Go.Proofs.Ytkcpmkeckcnobaa
open Go.RowKit

def zsv (v : Nat) (zs : List Int) : List (Int × Nat) := zs.map (fun z => (z, v))
theorem zsv_at {v : Nat} {zs : List Int} {i : Nat} {z : Int} (h : zs[i]? = some z) : (zsv v zs)[i]? = some (z, v) := by unfold zsv; rw [List.getElem?_map, h]; rfl
theorem zsv_len (v : Nat) (zs : List Int) : (zsv v zs).length = zs.length := List.length_map ..
theorem setsL_cons (L : List (List Nat)) (z : Int × Nat) (zs : List (Int × Nat)) : setsL L (z :: zs) = setsL (ins L (en (pk z.1) z.2)) zs := rfl
theorem mem_setsV {v : Nat} : ∀ {zs : List Int} {L : List (List Nat)} {r : List Nat}, r ∈ setsL L (zsv v zs) ↔ (r ∈ L ∧ ∀ z ∈ zs, keyOf r ≠ kn (pk z)) ∨ ∃ z ∈ zs, r = en (pk z) v
  | [], L, r => by simp [setsL, zsv]
  | z :: zs, L, r => by
    have ih := mem_setsV (v := v) (zs := zs) (L := ins L (en (pk z) v)) (r := r)
    have e : setsL L (zsv v (z :: zs)) = setsL (ins L (en (pk z) v)) (zsv v zs) := rfl
    rw [e, ih, mem_ins_iff, keyOf_en]
    simp only [List.mem_cons, forall_eq_or_imp, exists_eq_or_imp]
    constructor
    · rintro (⟨(⟨h1, h2⟩ | h1), h3⟩ | h)
      · exact .inl ⟨h1, h2, h3⟩
      · by_cases hx : ∃ y ∈ zs, r = en (pk y) v
        · exact .inr (.inr hx)
        · exact .inr (.inl h1)
      · exact .inr (.inr h)
    · rintro (⟨h1, h2, h3⟩ | (h | h))
      · exact .inl ⟨.inl ⟨h1, h2⟩, h3⟩
      · by_cases hx : ∃ y ∈ zs, r = en (pk y) v
        · exact .inr hx
        · refine .inl ⟨.inr h, fun y hy hk => hx ⟨y, hy, ?_⟩⟩
          rw [h, keyOf_en] at hk
          rw [h, kn_inj hk]
      · exact .inr h
/-- what is deleted, where its number is not there -/
def condL (there : List Int) (L : List (List Nat)) (ms : List Int) : List (List Nat) := ms.foldl (fun L m => if pk m ∈ there.map pk then L else dele L (kn (pk m))) L
theorem condL_take {th : List Int} {L : List (List Nat)} {ms : List Int} {i : Nat} {m : Int} (h : ms[i]? = some m) : condL th L (ms.take (i + 1)) = if pk m ∈ th.map pk then condL th L (ms.take i) else dele (condL th L (ms.take i)) (kn (pk m)) := by
  obtain ⟨h1, rfl⟩ := List.getElem?_eq_some_iff.1 h
  unfold condL
  rw [List.take_succ_eq_append_getElem h1, List.foldl_append]; rfl
theorem condL_srt {th : List Int} : ∀ (ms : List Int) {L : List (List Nat)}, Srt L → Srt (condL th L ms)
  | [], _, h => h
  | m :: ms, L, h => by
    refine condL_srt ms ?_
    show Srt (if pk m ∈ th.map pk then L else dele L (kn (pk m)))
    split
    · exact h
    · exact srt_dele h _
theorem condL_len {th : List Int} : ∀ (ms : List Int) {L : List (List Nat)}, Srt L → (condL th L ms).length ≤ L.length
  | [], _, _ => Nat.le_refl _
  | m :: ms, L, h => by
    show (condL th (if pk m ∈ th.map pk then L else dele L (kn (pk m))) ms).length ≤ _
    split
    · exact condL_len ms h
    · have h1 := condL_len (th := th) ms (srt_dele h (kn (pk m)))
      have h2 := len_dele (k := kn (pk m)) h
      exact Nat.le_trans h1 (by omega)
theorem mem_condL {th : List Int} : ∀ {ms : List Int} {L : List (List Nat)} {r : List Nat}, r ∈ condL th L ms ↔ r ∈ L ∧ ∀ m ∈ ms, pk m ∉ th.map pk → keyOf r ≠ kn (pk m)
  | [], L, r => by simp [condL]
  | m :: ms, L, r => by
    have ih := mem_condL (th := th) (ms := ms) (L := if pk m ∈ th.map pk then L else dele L (kn (pk m))) (r := r)
    have e : condL th L (m :: ms) = condL th (if pk m ∈ th.map pk then L else dele L (kn (pk m))) ms := rfl
    rw [e, ih]
    by_cases hm : pk m ∈ th.map pk
    · rw [if_pos hm]
      constructor
      · rintro ⟨h1, h2⟩
        refine ⟨h1, fun y hy hn => ?_⟩
        rcases List.mem_cons.1 hy with rfl | hy
        · exact absurd hm hn
        · exact h2 y hy hn
      · rintro ⟨h1, h2⟩
        exact ⟨h1, fun y hy hn => h2 y (List.mem_cons_of_mem _ hy) hn⟩
    · rw [if_neg hm, mem_dele_iff]
      constructor
      · rintro ⟨⟨h1, h0⟩, h2⟩
        refine ⟨h1, fun y hy hn => ?_⟩
        rcases List.mem_cons.1 hy with rfl | hy
        · exact h0
        · exact h2 y hy hn
      · rintro ⟨h1, h2⟩
        exact ⟨⟨h1, h2 m List.mem_cons_self hm⟩, fun y hy hn => h2 y (List.mem_cons_of_mem _ hy) hn⟩
/-- the numbers, from place k on, and from the first on again -/
def rotL (k : Nat) (zs : List Int) : List Int := (List.range zs.length).map (fun i => zs.getD ((i + k) % zs.length) 0)
theorem rotL_len (k : Nat) (zs : List Int) : (rotL k zs).length = zs.length := by simp [rotL]
theorem rotL_at {k : Nat} {zs : List Int} {i n : Nat} {z : Int} (hl : zs.length = n) (hi : i < n) (h : zs[(i + k) % n]? = some z) : (rotL k zs)[i]? = some z := by
  subst hl
  unfold rotL
  rw [List.getElem?_map, List.getElem?_range hi]
  simp [List.getD, h]
theorem rotL_mem {k : Nat} {zs : List Int} (hk : k ≤ zs.length) : ∀ z, z ∈ rotL k zs ↔ z ∈ zs := by
  intro z
  constructor
  · intro h
    obtain ⟨i, hi, rfl⟩ := List.mem_map.1 h
    rw [List.mem_range] at hi
    have hlt : (i + k) % zs.length < zs.length := Nat.mod_lt _ (by omega)
    rw [List.getD, List.getElem?_eq_getElem hlt]
    exact List.getElem_mem hlt
  · intro h
    obtain ⟨j, hj⟩ := List.mem_iff_getElem?.1 h
    have hjl : j < zs.length := (List.getElem?_eq_some_iff.1 hj).1
    refine List.mem_iff_getElem?.2 ⟨(j + (zs.length - k)) % zs.length, rotL_at rfl (Nat.mod_lt _ (by omega)) ?_⟩
    rw [Nat.mod_add_mod, show j + (zs.length - k) + k = j + zs.length by omega, Nat.add_mod_right, Nat.mod_eq_of_lt hjl]
    exact hj
/-- THE LAW -/
theorem orders_law {zs ms : List Int} {k : Nat} (hk : k ≤ zs.length) : setsL [] (zsv 0 zs) = condL zs (setsL (setsL [] (zsv 9 ms)) (zsv 0 (rotL k zs))) ms := by
  have s1 : Srt (setsL [] (zsv 9 ms)) := setsL_srt _ List.Pairwise.nil
  refine srt_ext (setsL_srt _ List.Pairwise.nil) (condL_srt _ (setsL_srt _ s1)) (fun r => ?_)
  rw [mem_condL, mem_setsV, mem_setsV, mem_setsV]
  simp only [List.not_mem_nil, false_and, false_or, rotL_mem hk]
  constructor
  · rintro ⟨z, hz, rfl⟩
    refine ⟨.inr ⟨z, hz, rfl⟩, fun m hm hn e => ?_⟩
    rw [keyOf_en] at e
    exact hn (by rw [← kn_inj e]; exact List.mem_map.2 ⟨z, hz, rfl⟩)
  · rintro ⟨(⟨⟨m, hm, rfl⟩, h2⟩ | h), h3⟩
    · exfalso
      refine h3 m hm (fun hn => ?_) (keyOf_en _ _)
      obtain ⟨z, hz, e⟩ := List.mem_map.1 hn
      exact h2 z hz (by rw [keyOf_en, e])
    · exact h
/-- the map of what is there -/
def ThereI (T : List (Int × Bool)) (zs : List Int) : Prop := ∀ k : Int, aget T k = if k ∈ zs.map (fun z => (pk z : Int)) then some true else none
theorem ThereI.nil : ThereI [] [] := fun k => by simp [aget]
theorem ThereI.snoc {T : List (Int × Bool)} {zs : List Int} (h : ThereI T zs) (z : Int) : ThereI (aset T (pk z : Int) true) (zs ++ [z]) := fun k => by
  rw [aget_aset, h k]
  simp only [List.map_append, List.map_singleton, List.mem_append, List.mem_singleton]
  by_cases e : k = (pk z : Int) <;> simp [e]
theorem ThereI.pk {T : List (Int × Bool)} {zs : List Int} (h : ThereI T zs) (m : Int) : (aget T (Go.Proofs.Ytkcpmkeckcnobaa.pk m : Int)).getD false = decide (Go.Proofs.Ytkcpmkeckcnobaa.pk m ∈ zs.map Go.Proofs.Ytkcpmkeckcnobaa.pk) := by
  rw [h]
  have : ((Go.Proofs.Ytkcpmkeckcnobaa.pk m : Int) ∈ zs.map (fun z => (Go.Proofs.Ytkcpmkeckcnobaa.pk z : Int))) ↔ Go.Proofs.Ytkcpmkeckcnobaa.pk m ∈ zs.map Go.Proofs.Ytkcpmkeckcnobaa.pk := by
    simp only [List.mem_map]
    constructor
    · rintro ⟨z, hz, e⟩; exact ⟨z, hz, by omega⟩
    · rintro ⟨z, hz, e⟩; exact ⟨z, hz, by omega⟩
  by_cases hm : Go.Proofs.Ytkcpmkeckcnobaa.pk m ∈ zs.map Go.Proofs.Ytkcpmkeckcnobaa.pk
  · rw [if_pos (this.2 hm), decide_eq_true hm]; rfl
  · rw [if_neg (fun h => hm (this.1 h)), decide_eq_false hm]; rfl
end Go.Proofs.Ytkcpmkeckcnobaa
