/- Entries set and deleted by numbers, in plain words. -/
import Derived.Test.YtkcpmkeckcnobaaGreatTr32
import Derived.Test.YtkcpmkeckcnobaaGreatWk0
namespace Go.Proofs.YtkcpmkeckcnobaaGreat
open Go.RowKit

theorem size_int : (Tryz.prog.info? 3).map (·.size) = some 1 := by kernel_rfl
def IntsAt (w : World) (A : Option Addr) (n : Nat) (zs : List Int) : Prop := Rd w A n (zs.map (Value.int .i64))
theorem IntsAt.mod {w w' : World} {A : Option Addr} {n : Nat} {zs : List Int} {S : Nat → Prop} (h : IntsAt w A n zs) (hm : Mod S w w') (hS : ∀ g, g < w.heap.size → ¬ S g) : IntsAt w' A n zs := by
  refine ⟨h.1, fun hn => ?_⟩
  obtain ⟨g, off, e, hc⟩ := h.2 hn
  refine ⟨g, off, e, fun j v hj => ?_⟩
  have h1 := hc j v hj
  rw [hm.cell (p := ⟨g, off + j, none⟩) (World.block_lt_of_cell? w _ h1) (hS g (World.block_lt_of_cell? w _ h1))]
  exact h1
theorem IntsAt.nn {w w' : World} {A : Option Addr} {n : Nat} {zs : List Int} (h : IntsAt w A n zs) (hm : Mod Nn w w') : IntsAt w' A n zs := h.mod hm (fun _ _ f => f)
theorem IntsAt.len {w : World} {A : Option Addr} {n : Nat} {zs : List Int} (h : IntsAt w A n zs) : zs.length = n := by simpa using h.1
theorem IntsAt.at_ {w : World} {A : Option Addr} {n : Nat} {zs : List Int} (h : IntsAt w A n zs) (hn : 0 < n) : ∃ g off, A = some ⟨g, off, none⟩ ∧ ∀ (j : Nat) z, zs[j]? = some z → w.cell? ⟨g, off + j, none⟩ = some (.int .i64 z) := by
  obtain ⟨g, off, e, hc⟩ := h.2 hn
  exact ⟨g, off, e, fun j z hj => hc j _ (by rw [List.getElem?_map, hj]; rfl)⟩
/-- entries set by their numbers, each with a value -/
def setsL (L : List (List Nat)) (zs : List (Int × Nat)) : List (List Nat) := zs.foldl (fun L z => ins L (en (pk z.1) z.2)) L
def delsL (L : List (List Nat)) (zs : List Int) : List (List Nat) := zs.foldl (fun L z => dele L (kn (pk z))) L
theorem setsL_take {L : List (List Nat)} {zs : List (Int × Nat)} {i : Nat} {z : Int × Nat} (h : zs[i]? = some z) : setsL L (zs.take (i + 1)) = ins (setsL L (zs.take i)) (en (pk z.1) z.2) := by
  obtain ⟨h1, rfl⟩ := List.getElem?_eq_some_iff.1 h
  unfold setsL
  rw [List.take_succ_eq_append_getElem h1, List.foldl_append]; rfl
theorem delsL_take {L : List (List Nat)} {zs : List Int} {i : Nat} {z : Int} (h : zs[i]? = some z) : delsL L (zs.take (i + 1)) = dele (delsL L (zs.take i)) (kn (pk z)) := by
  obtain ⟨h1, rfl⟩ := List.getElem?_eq_some_iff.1 h
  unfold delsL
  rw [List.take_succ_eq_append_getElem h1, List.foldl_append]; rfl
theorem setsL_srt : ∀ (zs : List (Int × Nat)) {L : List (List Nat)}, Srt L → Srt (setsL L zs)
  | [], _, h => h
  | z :: zs, _, h => setsL_srt zs (srt_ins h _)
theorem setsL_len : ∀ (zs : List (Int × Nat)) {L : List (List Nat)}, Srt L → (setsL L zs).length ≤ L.length + zs.length
  | [], _, _ => Nat.le_refl _
  | z :: zs, L, h => by
    have h1 := setsL_len zs (srt_ins h (en (pk z.1) z.2))
    have h2 := len_ins_le h (en (pk z.1) z.2)
    rw [List.length_cons]
    exact Nat.le_trans h1 (by omega)
theorem delsL_srt : ∀ (zs : List Int) {L : List (List Nat)}, Srt L → Srt (delsL L zs)
  | [], _, h => h
  | z :: zs, _, h => delsL_srt zs (srt_dele h _)
theorem delsL_len : ∀ (zs : List Int) {L : List (List Nat)}, Srt L → (delsL L zs).length ≤ L.length
  | [], _, _ => Nat.le_refl _
  | z :: zs, L, h => by
    have h1 := delsL_len zs (srt_dele h (kn (pk z)))
    have h2 := len_dele (k := kn (pk z)) h
    exact Nat.le_trans h1 (by omega)
theorem mem_delsL : ∀ {zs : List Int} {L : List (List Nat)} {r : List Nat}, r ∈ delsL L zs ↔ r ∈ L ∧ ∀ z ∈ zs, keyOf r ≠ kn (pk z)
  | [], L, r => by simp [delsL]
  | z :: zs, L, r => by
    have := mem_delsL (zs := zs) (L := dele L (kn (pk z))) (r := r)
    rw [mem_dele_iff] at this
    simp only [List.mem_cons, forall_eq_or_imp]
    exact this.trans (by constructor <;> (intro h; simp_all))
/-- what lies there has one of the keys set, or lay there -/
theorem mem_setsL : ∀ {zs : List (Int × Nat)} {L : List (List Nat)} {r : List Nat}, r ∈ setsL L zs → r ∈ L ∨ ∃ z ∈ zs, r = en (pk z.1) z.2
  | [], _, _, h => .inl h
  | z :: zs, L, r, h => by
    rcases mem_setsL (zs := zs) h with h | ⟨y, h1, h2⟩
    · rcases mem_ins h with h | h
      · exact .inl h
      · exact .inr ⟨z, List.mem_cons_self, h⟩
    · exact .inr ⟨y, List.mem_cons_of_mem _ h1, h2⟩
def zs0 (zs : List Int) : List (Int × Nat) := zs.map (fun z => (z, 0))
theorem zs0_at {zs : List Int} {i : Nat} {z : Int} (h : zs[i]? = some z) : (zs0 zs)[i]? = some (z, 0) := by unfold zs0; rw [List.getElem?_map, h]; rfl
theorem zs0_len (zs : List Int) : (zs0 zs).length = zs.length := List.length_map ..
theorem zs0_take (zs : List Int) (i : Nat) : zs0 (zs.take i) = (zs0 zs).take i := by unfold zs0; rw [List.map_take]
/-- what was set is deleted again, in any order -/
theorem empties {zs ys : List Int} (h : ∀ z ∈ zs, z ∈ ys) : delsL (setsL [] (zs0 zs)) ys = [] := by
  refine List.eq_nil_iff_forall_not_mem.2 (fun r hr => ?_)
  obtain ⟨h1, h2⟩ := mem_delsL.1 hr
  rcases mem_setsL h1 with h1 | ⟨z, hz, rfl⟩
  · cases h1
  · obtain ⟨x, hx, rfl⟩ := List.mem_map.1 hz
    exact h2 x (h x hx) (keyOf_en _ _)
theorem ints_get {zs : List Int} {n j : Nat} (hl : zs.length = n) (hj : j < n) : ∃ z, zs[j]? = some z := ⟨_, List.getElem?_eq_getElem (by omega)⟩
def ordB (bk : Bool) (zs : List Int) : List Int := if bk then zs.reverse else zs
theorem ordB_mem {bk : Bool} {zs : List Int} : ∀ z ∈ zs, z ∈ ordB bk zs := fun z hz => by cases bk <;> simpa [ordB] using hz
theorem ordB_len (bk : Bool) (zs : List Int) : (ordB bk zs).length = zs.length := by cases bk <;> simp [ordB]
theorem ordB_false {zs : List Int} {j : Nat} : (ordB false zs)[j]? = zs[j]? := rfl
theorem ordB_true {zs : List Int} {n j : Nat} (hl : zs.length = n) (hj : j < n) : (ordB true zs)[j]? = zs[n - 1 - j]? := by
  show zs.reverse[j]? = _
  rw [List.getElem?_reverse (by omega), hl]
/-- keys of numbers tell them apart -/
theorem kn_ne {a b : Nat} (h : a ≠ b) : kn a ≠ kn b := fun e => h (kn_inj e)
end Go.Proofs.YtkcpmkeckcnobaaGreat
