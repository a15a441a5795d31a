/- peatbanklaw08.DevWhole: the plain side, and the walk. -/
import Derived.Test.YtgmkibckbbbhkaaDev9
namespace Go.Proofs.Ytgmkibckbbbhkaa
open Go.RowKit

theorem getD_rep {β : Type} (n k : Nat) (v : β) : (List.replicate n v).getD k v = v := by
  simp only [List.getD, List.getElem?_replicate]; split <;> rfl

structure WhAt (D : Dk) (lat saf : List Int) (opn : List Bool) (k : Nat) : Prop where
  o1 : opn.getD k false = true → D.opn k = some (fullL (lat.getD k 0)) ∧ lat.getD k 0 ≠ 0
  o0 : opn.getD k false = false → D.opn k = none ∧ lat.getD k 0 = saf.getD k 0
  s0 : saf.getD k 0 = 0 → D.safe k = none
  s1 : saf.getD k 0 ≠ 0 → D.safe k = some (fullL (saf.getD k 0))
structure WhOk (D : Dk) (lat saf : List Int) (opn : List Bool) : Prop where
  n : D.n = 6
  a : D.armed = 0
  d : D.down = false
  ll : lat.length = 6
  sl : saf.length = 6
  ol : opn.length = 6
  at_ : ∀ k, k < 6 → WhAt D lat saf opn k

theorem wh_new : WhOk (Dk.new 6) (List.replicate 6 0) (List.replicate 6 0) (List.replicate 6 false) := by
  refine ⟨rfl, rfl, rfl, rfl, rfl, rfl, fun k hk => ?_⟩
  have h1 : (List.replicate 6 (0 : Int)).getD k 0 = 0 := getD_rep _ _ _
  have h2 : (List.replicate 6 false).getD k false = false := getD_rep _ _ _
  exact ⟨fun h => by rw [h2] at h; (cases h), fun _ => ⟨rfl, rfl⟩, fun _ => rfl, fun h => absurd h1 h⟩
theorem wh_put {D : Dk} {lat saf : List Int} {opn : List Bool} (h : WhOk D lat saf opn) (j : Nat) (hj : j < 6) (b : Int) (hb : b ≠ 0) :
    WhOk (D.put j (fullL b)) (lat.set j b) saf (opn.set j true) := by
  refine ⟨h.n, h.a, h.d, by simp [h.ll], h.sl, by simp [h.ol], fun k hk => ?_⟩
  have hh := h.at_ k hk
  have hll := h.ll; have hol := h.ol
  by_cases hjk : j = k
  · subst hjk
    have h1 : (lat.set j b).getD j 0 = b := by simp [List.getD, hll, hj]
    have h2 : (opn.set j true).getD j false = true := by simp [List.getD, hol, hj]
    refine ⟨fun _ => ⟨by rw [h1]; simp [Dk.put], by rw [h1]; exact hb⟩, fun h' => (by rw [h2] at h'; cases h'), hh.s0, hh.s1⟩
  · have h1 : (lat.set j b).getD k 0 = lat.getD k 0 := by simp [List.getD, List.getElem?_set, hjk]
    have h2 : (opn.set j true).getD k false = opn.getD k false := by simp [List.getD, List.getElem?_set, hjk]
    have h3 : (D.put j (fullL b)).opn k = D.opn k := by
      simp only [Dk.put]; rw [if_neg (by omega)]
    refine ⟨fun h' => ?_, fun h' => ?_, hh.s0, hh.s1⟩
    · rw [h2] at h'; rw [h1, h3]; exact hh.o1 h'
    · rw [h2] at h'; rw [h1, h3]; exact hh.o0 h'
theorem wh_flush {D : Dk} {lat saf : List Int} {opn : List Bool} (h : WhOk D lat saf opn) : WhOk D.flush lat lat (List.replicate 6 false) := by
  refine ⟨h.n, h.a, h.d, h.ll, h.ll, rfl, fun k hk => ?_⟩
  have hh := h.at_ k hk
  have h2 : (List.replicate 6 false).getD k false = false := getD_rep _ _ _
  refine ⟨fun h' => (by rw [h2] at h'; cases h'), fun _ => ⟨rfl, rfl⟩, fun h' => ?_, fun h' => ?_⟩
  · show (D.opn k).or (D.safe k) = none
    cases ho : opn.getD k false with
    | true => exact absurd h' (hh.o1 ho).2
    | false => rw [(hh.o0 ho).1, hh.s0 (by rw [← (hh.o0 ho).2]; exact h')]; rfl
  · show (D.opn k).or (D.safe k) = some (fullL (lat.getD k 0))
    cases ho : opn.getD k false with
    | true => rw [(hh.o1 ho).1]; rfl
    | false =>
      have h3 := (hh.o0 ho).2
      rw [(hh.o0 ho).1, hh.s1 (by rw [← h3]; exact h'), h3]; rfl

/-- what a crash leaves -/
def whFrom (lat saf : List Int) (opn : List Bool) (kept : Bool) (k : Nat) : Int := if opn.getD k false && kept then lat.getD k 0 else saf.getD k 0
def whWant (f : Int) (i : Nat) : Int := if f = 0 then 0 else (f + ((i / 64 : Nat) : Int)) % 256
theorem want_zero (f : Int) (hf : f = 0) : zsec = (List.range 512).map (whWant f) := by
  apply List.ext_getElem?
  intro i
  simp only [zsec, List.getElem?_map, List.getElem?_replicate]
  by_cases hi : i < 512
  · rw [List.getElem?_range hi, if_pos hi]; simp [whWant, hf]
  · rw [List.getElem?_eq_none (by simpa using hi), if_neg hi]; rfl
theorem want_full (f : Int) (hf : f ≠ 0) : fullL f = (List.range 512).map (whWant f) := by
  unfold fullL
  refine List.map_congr_left fun i _ => ?_
  simp [whWant, hf, fullB]
def wantL (f : Int) : List Int := (List.range 512).map (whWant f)
attribute [local irreducible] fullL zsec wantL
theorem want_zero' (f : Int) (hf : f = 0) : zsec = wantL f := by rw [want_zero f hf, wantL]
theorem want_full' (f : Int) (hf : f ≠ 0) : fullL f = wantL f := by rw [want_full f hf, wantL]
theorem wh_read {D : Dk} {lat saf : List Int} {opn : List Bool} (h : WhOk D lat saf opn) (fs : List Int) (k : Nat) (hk : k < 6) :
    (D.wake fs).read k = wantL (whFrom lat saf opn (decide ((k : Int) ∈ fs)) k) := by
  have hh := h.at_ k hk
  have hm : (D.wake fs).may k = 0 := may_ok rfl (by omega) (by show (k : Int) < D.n; rw [h.n]; omega)
  have hr : (D.wake fs).read k = (if (k : Int) ∈ fs then (D.opn k).or (D.safe k) else D.safe k).getD zsec := by
    unfold Dk.read; rw [if_pos hm]; rfl
  have hsafe : (D.safe k).getD zsec = wantL (saf.getD k 0) := by
    by_cases hs : saf.getD k 0 = 0
    · rw [hh.s0 hs, Option.getD_none, want_zero' _ hs]
    · rw [hh.s1 hs, Option.getD_some, want_full' _ hs]
  rw [hr]
  by_cases hkept : (k : Int) ∈ fs
  · rw [if_pos hkept]
    cases ho : opn.getD k false with
    | true =>
      have : whFrom lat saf opn (decide ((k : Int) ∈ fs)) k = lat.getD k 0 := by simp only [whFrom, ho, hkept]; rfl
      rw [this, (hh.o1 ho).1, Option.some_or, Option.getD_some, want_full' _ (hh.o1 ho).2]
    | false =>
      have : whFrom lat saf opn (decide ((k : Int) ∈ fs)) k = saf.getD k 0 := by simp only [whFrom, ho]; rfl
      rw [this, (hh.o0 ho).1, Option.none_or, hsafe]
  · rw [if_neg hkept]
    have : whFrom lat saf opn (decide ((k : Int) ∈ fs)) k = saf.getD k 0 := by simp [whFrom, hkept]
    rw [this, hsafe]
end Go.Proofs.Ytgmkibckbbbhkaa
