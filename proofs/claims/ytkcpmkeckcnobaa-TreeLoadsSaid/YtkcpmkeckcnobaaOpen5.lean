/- Slices of arrays of bytes, and of structs of them, out of the form's reading. No program is named. -/
import Derived.Test.YtkcpmkeckcnobaaOpenA
import Derived.Test.YtkcpmkeckcnobaaNdA
namespace Go.Proofs.Ytkcpmkeckcnobaa
open Go.RowKit Go.ChangeShapes Go.WideShapes Go.ChangeAt Go.Deep

section
variable {H : Type} {enc : TypeId × Value → H} {P : Program} {w : World} {base : Nat} {spare : Nat → Bool} {held : Bool}
theorem arr_of {t e : TypeId} {n fuel : Nat} {cs : List Value} {x : DataW H × List MemPlace} (ht : P.underlying t = some (.array n e)) (he : P.underlying e = some (.int .u8)) (hc : P.cellsOf e = 1) (hC : P.cellsOf t = n)
    (h : DataW.trod enc P w base spare held fuel t cs = some x) : ∃ l : List Nat, cs = bv l ∧ l.length = n ∧ ∀ z ∈ l, z < 256 := by
  obtain ⟨xs, m, rfl, rfl, hl, hlen, hf⟩ := DataW.trod_array ht h
  rw [hC] at hl
  have key : ∀ i, i < n → ∃ z : Nat, cs[i]? = some (.int .u8 z) ∧ z < 256 := fun i hi => by
    have h2 := hf i hi
    have hdt : (cs.drop i).take 1 = [cs[i]] := by rw [List.drop_eq_getElem_cons (by omega)]; rfl
    rw [hc, Nat.mul_one, hdt] at h2
    obtain ⟨z, e1, _, hz⟩ := DataW.trod_int he (h2.trans (List.getElem?_eq_getElem (by omega)))
    injection e1 with e1 _
    have hz' : 0 ≤ z ∧ z ≤ 255 := by simpa [Lit.wf, IntKind.min, IntKind.max, IntKind.signed, IntKind.bits] using hz
    refine ⟨z.toNat, ?_, by omega⟩
    rw [List.getElem?_eq_getElem (by omega), e1, Int.toNat_of_nonneg hz'.1]
  obtain ⟨F, hF⟩ := choose_lt key
  refine ⟨(List.range n).map F, ?_, by simp, fun z hz => ?_⟩
  · apply List.ext_getElem?
    intro i
    unfold bv
    rw [List.getElem?_map, List.getElem?_map]
    rcases Nat.lt_or_ge i n with hi | hi
    · rw [List.getElem?_range hi, (hF i hi).1]; rfl
    · rw [List.getElem?_eq_none (by omega), List.getElem?_eq_none (by simpa using hi)]; rfl
  · obtain ⟨i, hi, rfl⟩ := List.mem_map.1 hz
    exact (hF i (List.mem_range.1 hi)).2
/-- two arrays of bytes side by side -/
theorem pair_of {t : TypeId} {f0 f1 : Field} {s0 s1 fuel : Nat} {cs : List Value} {x : DataW H × List MemPlace} (ht : P.underlying t = some (.struct #[f0, f1])) (h0 : f0.offset = 0) (h1 : f1.offset = s0) (c0 : P.cellsOf f0.type = s0) (c1 : P.cellsOf f1.type = s1) (hC : P.cellsOf t = s0 + s1)
    (d0 : ∀ (fuel : Nat) (cs : List Value) (x : DataW H × List MemPlace), DataW.trod enc P w base spare held fuel f0.type cs = some x → ∃ l : List Nat, cs = bv l ∧ l.length = s0 ∧ ∀ z ∈ l, z < 256)
    (d1 : ∀ (fuel : Nat) (cs : List Value) (x : DataW H × List MemPlace), DataW.trod enc P w base spare held fuel f1.type cs = some x → ∃ l : List Nat, cs = bv l ∧ l.length = s1 ∧ ∀ z ∈ l, z < 256)
    (h : DataW.trod enc P w base spare held fuel t cs = some x) : ∃ l : List Nat, cs = bv l ∧ l.length = s0 + s1 ∧ ∀ z ∈ l, z < 256 := by
  obtain ⟨xs, m, rfl, rfl, hl, hlen, hf⟩ := DataW.trod_struct ht h
  rw [hC] at hl
  have hx : xs.length = 2 := hlen
  have g0 := hf 0 f0 rfl
  have g1 := hf 1 f1 rfl
  rw [h0, c0, List.drop_zero, List.getElem?_eq_getElem (by omega)] at g0
  rw [h1, c1, List.getElem?_eq_getElem (by omega)] at g1
  obtain ⟨l0, e0, n0, z0⟩ := d0 _ _ _ g0
  obtain ⟨l1, e1, n1, z1⟩ := d1 _ _ _ g1
  have e1' : cs.drop s0 = bv l1 := by rw [← e1, List.take_of_length_le (by rw [List.length_drop]; omega)]
  refine ⟨l0 ++ l1, ?_, by rw [List.length_append, n0, n1], fun z hz => (List.mem_append.1 hz).elim (z0 z) (z1 z)⟩
  rw [← List.take_append_drop s0 cs, e0, e1']
  unfold bv; rw [List.map_append]
theorem rows_of {t e : TypeId} {s fuel : Nat} {v : Value} {x : DataW H × List MemPlace} (ht : P.underlying t = some (.slice e)) (hC : P.cellsOf e = s) (hs : 0 < s)
    (dec : ∀ (fuel : Nat) (cs : List Value) (x : DataW H × List MemPlace), DataW.trod enc P w base spare held fuel e cs = some x → ∃ l : List Nat, cs = bv l ∧ l.length = s ∧ ∀ z ∈ l, z < 256)
    (h : DataW.trod enc P w base spare held fuel t [v] = some x) :
    ∃ (A : Option Addr) (len cap : Nat) (L : List (List Nat)), v = .slice A len cap ∧ RdC w A len s (bv L.flatten) ∧ L.length = len ∧ Rows s L ∧ len ≤ cap ∧ cap ≤ maxLen := by
  rcases open_slice ht h with ⟨hcs, _⟩ | ⟨a, len, cap, m, n, D, Pl, hcs, _, hl, hm, hmm, _, hi⟩
  · injection hcs with hcs _
    exact ⟨none, 0, 0, [], hcs, ⟨by simp [bv], fun h => absurd h (by omega)⟩, rfl, (fun r h => by cases h), Nat.le_refl _, Nat.zero_le _⟩
  · injection hcs with hcs _
    have hlm : len ≤ m := by rw [hmm]; split <;> omega
    have key : ∀ i, i < len → ∃ l : List Nat, (l.length = s ∧ ∀ z ∈ l, z < 256) ∧ ∀ j, j < s → w.cell? ((a.add (i * s)).add j) = (bv l)[j]? := fun i hi' => by
      obtain ⟨cs', h1, h2⟩ := hi i (by omega)
      rw [hC] at h1
      obtain ⟨_, _, h3⟩ := World.cells?_some h1
      obtain ⟨l, e1, e2, e3⟩ := dec _ _ _ h2
      exact ⟨l, ⟨e2, e3⟩, fun j hj => by rw [h3 j hj, e1]⟩
    obtain ⟨F, hF⟩ := choose_lt key
    have hrows : Rows s ((List.range len).map F) := fun r hr => by
      obtain ⟨i, hi', rfl⟩ := List.mem_map.1 hr
      exact (hF i (List.mem_range.1 hi')).1
    refine ⟨some a, len, cap, (List.range len).map F, hcs, ⟨?_, fun hp => ?_⟩, by simp, hrows, hl, hm⟩
    · unfold bv; rw [List.length_map, rows_len hrows]; simp
    · have h0 := (hF 0 hp).2 0 hs
      have hlen0 := (hF 0 hp).1.1
      have hsome : (bv (F 0))[0]? = some (.int .u8 (((F 0)[0]'(by omega) : Nat) : Int)) := by unfold bv; rw [List.getElem?_map, List.getElem?_eq_getElem (by omega)]; rfl
      rw [hsome] at h0
      have hsp := spot_none h0
      have hsp' : a.spot = none := by simpa [Addr.add] using hsp
      refine ⟨a.block, a.off, by cases a; simp_all, fun j u hu => ?_⟩
      have hjl : j < len * s := by
        have := (List.getElem?_eq_some_iff.1 hu).1
        unfold bv at this; rw [List.length_map, rows_len hrows] at this; simpa using this
      have hq : j / s < len := Nat.div_lt_of_lt_mul (by rw [Nat.mul_comm]; exact hjl)
      have hr : j % s < s := Nat.mod_lt _ hs
      have h2 := (hF _ hq).2 _ hr
      have hcut := rows_at hrows (i := j / s) (r := F (j / s)) (by rw [List.getElem?_map, List.getElem?_range hq]; rfl)
      rw [add_none _ hsp' ((j / s) * s), add_none _ rfl] at h2
      have e : a.off + j / s * s + j % s = a.off + j := by have := Nat.div_add_mod j s; rw [Nat.mul_comm] at this; omega
      rw [e] at h2
      rw [h2, ← hu, ← hcut]
      unfold bv
      rw [List.getElem?_map, List.getElem?_map, List.getElem?_take_of_lt hr, List.getElem?_drop]
      congr 2
      have := Nat.div_add_mod j s; rw [Nat.mul_comm] at this; omega
end
end Go.Proofs.Ytkcpmkeckcnobaa
