/- Own lemmas of several kinds, put together: Open, Open2, Open3, Open4. -/
import Derived.Test.YtijmkbhbpbkkoaaGreatKitA
import Derived.ProofKit
import Derived.Deep.Slices
import Derived.OpenShut
import Derived.Deep.Fields
import Derived.Test.YtijmkbhbpbkkoaaGreatRows
import Derived.SizedLaws
import Derived.ChangeSlices
/- From the form's reading of an argument (DataW.trod) to plain words: a slice of integers, a slice of structs of one-cell fields. No program is named. -/
namespace Go.Proofs.YtijmkbhbpbkkoaaGreat
open Go.RowKit Go.ChangeShapes Go.WideShapes Go.ChangeAt Go.Deep

section
variable {H : Type} {enc : TypeId × Value → H} {P : Program} {w : World} {base : Nat} {spare : Nat → Bool} {held : Bool}

theorem spot_none {a : Addr} {v : Value} (h : w.cell? a = some v) : a.spot = none := by
  unfold World.cell? at h
  split at h
  · cases hs : a.spot with
    | none => rfl
    | some _ => simp [hs] at h
  · cases h
theorem add_none (a : Addr) (h : a.spot = none) (n : Nat) : a.add n = ⟨a.block, a.off + n, none⟩ := by
  unfold Addr.add
  split
  · rename_i h0; subst h0; cases a; simp_all
  · rfl

theorem rd_of_ints {t e : TypeId} {k : IntKind} {fuel : Nat} {v : Value} {x : DataW H × List MemPlace} (ht : P.underlying t = some (.slice e)) (he : P.underlying e = some (.int k)) (hc : P.cellsOf e = 1)
    (h : DataW.trod enc P w base spare held fuel t [v] = some x) :
    ∃ (A : Option Addr) (len cap : Nat) (zs : List Int), v = .slice A len cap ∧ Rd w A len (zs.map (Value.int k)) ∧ (∀ z ∈ zs, (Lit.int k z).wf = true) ∧ len ≤ cap ∧ cap ≤ maxLen := by
  rcases open_ints ht he hc h with ⟨hcs, _⟩ | ⟨a, len, cap, zs, hcs, _, hl, hm, hz, _, hcell, hwf⟩
  · injection hcs with hcs _
    exact ⟨none, 0, 0, [], hcs, Rd.nil _ _, by simp, Nat.le_refl _, Nat.zero_le _⟩
  · injection hcs with hcs _
    have hlz : len ≤ zs.length := by rw [hz]; split <;> omega
    refine ⟨some a, len, cap, zs.take len, hcs, ⟨by simp; omega, fun hp => ?_⟩, fun z hz' => hwf z (List.mem_of_mem_take hz'), hl, hm⟩
    have h0 := hcell 0 (by omega)
    have hsp : (a.add 0).spot = none := spot_none h0
    have hsp' : a.spot = none := by simpa [Addr.add] using hsp
    refine ⟨a.block, a.off, by cases a; simp_all, fun j u hu => ?_⟩
    rw [List.getElem?_map, List.getElem?_take] at hu
    split at hu
    · rename_i hj
      have := hcell j (by omega)
      rw [add_none a hsp'] at this
      rw [this, ← hu]
      simp [List.getD, List.getElem?_eq_getElem (show j < zs.length by omega)]
    · simp at hu

/-- element k, field f of a slice of structs with m one-cell fields lies at off + (k * m + f) -/
theorem rd_of_structs {t e : TypeId} {fs : Array Field} {fuel : Nat} {v : Value} {x : DataW H × List MemPlace} (ht : P.underlying t = some (.slice e)) (he : P.underlying e = some (.struct fs))
    (hone : oneCellFields P fs = true) (hC : P.cellsOf e = fs.size) (hpos : 0 < fs.size) (h : DataW.trod enc P w base spare held fuel t [v] = some x) :
    ∃ (A : Option Addr) (len cap : Nat), v = .slice A len cap ∧ len ≤ cap ∧ cap ≤ maxLen ∧ (0 < len → ∃ g off, A = some ⟨g, off, none⟩ ∧ g < w.heap.size ∧
      ∀ k, k < len → ∃ n, ∀ (j : Nat) (f : Field), fs[j]? = some f → ∃ (u : Value) (y : DataW H × List MemPlace), w.cell? ⟨g, off + (k * fs.size + j), none⟩ = some u ∧ DataW.trod enc P w base spare held n f.type [u] = some y) := by
  rcases open_slice ht h with ⟨hcs, _⟩ | ⟨a, len, cap, m, n, D, Pl, hcs, _, hl, hm, hmm, _, hi⟩
  · injection hcs with hcs _
    exact ⟨none, 0, 0, hcs, Nat.le_refl _, Nat.zero_le _, fun h => absurd h (by omega)⟩
  · injection hcs with hcs _
    refine ⟨some a, len, cap, hcs, hl, hm, fun hp => ?_⟩
    have hlm : len ≤ m := by rw [hmm]; split <;> omega
    have key : ∀ k, k < len → ∀ (j : Nat) (f : Field), fs[j]? = some f → ∃ (u : Value) (y : DataW H × List MemPlace) (n : Nat), w.cell? (a.add (k * fs.size + j)) = some u ∧ DataW.trod enc P w base spare held n f.type [u] = some y ∧ True := by
      intro k hk j f hj
      obtain ⟨cs', hc, ht'⟩ := hi k (by omega)
      rw [hC] at hc
      obtain ⟨ys, n', hn', hy, hlen, hyl, hf⟩ := DataW.trod_struct he ht'
      obtain ⟨_, hcl, hat⟩ := World.cells?_some hc
      obtain ⟨ho, hk1⟩ := hone_of hone j f hj
      have hjl : j < fs.size := (Array.getElem?_eq_some_iff.1 hj).1
      have h1 := hf j f hj
      have hjc : j < cs'.length := by omega
      have hdt : (cs'.drop j).take 1 = [cs'[j]] := by rw [List.drop_eq_getElem_cons hjc]; rfl
      rw [ho, hk1, hdt] at h1
      have hcell := hat j hjl
      rw [List.getElem?_eq_getElem hjc, Go.Deep.add_add] at hcell
      have hys : ys[j]? = some (ys[j]'(by omega)) := List.getElem?_eq_getElem (by omega)
      exact ⟨_, _, n', hcell, h1.trans hys, trivial⟩
    have hf0 : ∃ f0, fs[0]? = some f0 := ⟨fs[0], Array.getElem?_eq_getElem hpos⟩
    obtain ⟨f0, hf0⟩ := hf0
    obtain ⟨u, y, n0, hc0, _⟩ := key 0 hp 0 f0 hf0
    have hsp' : a.spot = none := by
      have := spot_none hc0
      simpa [Addr.add] using this
    have hg : a.block < w.heap.size := by
      have := World.block_lt_of_cell? w _ hc0
      rw [add_none a hsp'] at this; exact this
    refine ⟨a.block, a.off, by cases a; simp_all, hg, fun k hk => ?_⟩
    obtain ⟨cs', hc, ht'⟩ := hi k (by omega)
    rw [hC] at hc
    obtain ⟨ys, n', hn', hy, hlen, hyl, hf⟩ := DataW.trod_struct he ht'
    obtain ⟨_, hcl, hat⟩ := World.cells?_some hc
    refine ⟨n', fun j f hj => ?_⟩
    obtain ⟨ho, hk1⟩ := hone_of hone j f hj
    have hjl : j < fs.size := (Array.getElem?_eq_some_iff.1 hj).1
    have h1 := hf j f hj
    have hjc : j < cs'.length := by omega
    have hdt : (cs'.drop j).take 1 = [cs'[j]] := by rw [List.drop_eq_getElem_cons hjc]; rfl
    rw [ho, hk1, hdt] at h1
    have hcell := hat j hjl
    rw [List.getElem?_eq_getElem hjc, Go.Deep.add_add, add_none a hsp'] at hcell
    have hys : ys[j]? = some (ys[j]'(by omega)) := List.getElem?_eq_getElem (by omega)
    exact ⟨_, _, hcell, h1.trans hys⟩

/-! ## the law's end: true, and each argument reads as it did -/
theorem trodAll_below {ts : List TypeId} {vs : List Value} {ds : List (DataW H)} {p : List MemPlace} {W W' : World} (hl : laidOutB P = true) (hts : ts.all (fun t => P.readableRec t && decide (t < P.types.size)) = true)
    (h : DataW.TrodAll enc P W 0 (fun _ => true) true ts vs ds p) (hb : Below W.heap.size W W') (hlt : ∀ x ∈ p, x.block < W.heap.size) :
    DataW.TrodAll enc P W' 0 (fun b => decide (b < W.heap.size)) true ts vs ds p := by
  induction ts generalizing vs ds p with
  | nil =>
    obtain ⟨rfl, rfl, rfl⟩ := trodAll_nil h
    exact trodAll_mk0
  | cons t ts ih =>
    obtain ⟨v0, vs0, d0, ds0, p0, q0, rfl, rfl, rfl, h0, r0⟩ := trodAll_cons h
    simp only [List.all_cons, Bool.and_eq_true, decide_eq_true_eq] at hts
    exact trodAll_cons_mk (Below.trod hl hts.1.1 hts.1.2 h0 hb (fun x hx => hlt x (List.mem_append_left _ hx))) (ih hts.2 r0 (fun x hx => hlt x (List.mem_append_right _ hx)))

theorem law_post {f : Func} {s : ChangeSpec} {W W' : World} {args : Array Value} {ds gs : List (DataW H)} {before : List MemPlace} {tb : TypeId} (hl : laidOutB P = true)
    (hts : f.params.toList.all (fun t => P.readableRec t && decide (t < P.types.size)) = true) (hrt : f.resultTypes = #[tb]) (hbt : P.underlying tb = some .bool) (hv : s.vars = [])
    (hW : DataW.Whole enc P f.params.toList s.vars false W args.toList ds gs before) (hs : s.fn H ds = { results := [.lit (.bool true)], args := ds })
    (hm : Mod Nn W W') : s.post enc P f false true false false W args (.bool true) W' := by
  have hlt : ∀ p ∈ before, p.block < W.heap.size := hW.lt
  have hW2 := hW
  obtain ⟨p, q, hA, hV, rfl, hfz, hnd⟩ := hW
  rw [hv] at hV
  obtain ⟨rfl, rfl⟩ := trodVars_none hV
  simp only [List.append_nil] at hlt hW2
  have hargs := trodAll_below hl hts hA hm.below hlt
  refine ⟨ds, [], p, [], p, [], by simpa using hW2, ?_, ?_, ?_, ?_, fun h => by cases h⟩
  · rw [List.append_nil, hs, hrt]
    exact trodAll_mk1 (shut_bool hbt true)
  · rw [List.append_nil, hs]; exact hargs
  · rw [List.append_nil, hs, hv]; rfl
  · exact hm.below.frame _
end
end Go.Proofs.YtijmkbhbpbkkoaaGreat

/- A slice's length lies within the form's reach. No program is named. -/
namespace Go.Proofs.YtijmkbhbpbkkoaaGreat
open Go.RowKit Go.ChangeShapes Go.WideShapes Go.ChangeAt

section
variable {H : Type} {enc : TypeId × Value → H} {P : Program} {w : World} {base : Nat} {spare : Nat → Bool} {held : Bool}
theorem len_of_ints {t e : TypeId} {k : IntKind} {fuel : Nat} {A : Option Addr} {len cap : Nat} {x : DataW H × List MemPlace} (ht : P.underlying t = some (.slice e)) (he : P.underlying e = some (.int k)) (hc : P.cellsOf e = 1)
    (h : DataW.trod enc P w base spare held fuel t [.slice A len cap] = some x) : len = 0 ∨ ∃ el sp, x.1 = .slice el sp ∧ el.length = len := by
  rcases open_ints ht he hc h with ⟨hcs, _⟩ | ⟨a, len', cap', zs, hcs, _, hl, hm, hz, hx, _, _⟩
  · left
    injection hcs with hcs _
    injection hcs
  · right
    injection hcs with hcs _
    injection hcs with e1 e2 e3
    subst e2; subst e3
    have hlz : len ≤ zs.length := by rw [hz]; split <;> omega
    refine ⟨_, _, by rw [hx], ?_⟩
    simp [lits]; omega
theorem len_lt {ts : List TypeId} {ds : List (DataW H)} (h : (DataW.weightsEach P ts ds).all (· ≤ reachBytes) = true) {j : Nat} {t e : TypeId} {d : DataW H} {len : Nat} (ht : ts[j]? = some t) (hd : ds[j]? = some d) (hu : P.underlying t = some (.slice e)) (hb : P.bytesOf e = 1)
    (hl : len = 0 ∨ ∃ el sp, d = .slice el sp ∧ el.length = len) : len < 140737488355328 := by
  rcases hl with rfl | ⟨el, sp, rfl, rfl⟩
  · omega
  · have := sized_slice h ht hd hu
    have hr : reachBytes < 140737488355328 := reachBytes_lt
    rw [hb] at this
    omega
end
end Go.Proofs.YtijmkbhbpbkkoaaGreat

/- A slice of slices of bytes out of the form's reading. No program is named. -/
namespace Go.Proofs.YtijmkbhbpbkkoaaGreat
open Go.RowKit Go.ChangeShapes Go.WideShapes Go.ChangeAt Go.Deep

/-- one slice of bytes in a slice of slices -/
structure Part where
  A : Option Addr
  n : Nat
  c : Nat
  zs : List Int
deriving Inhabited
def Part.v (p : Part) : Value := .slice p.A p.n p.c
def Part.ok (w : World) (p : Part) : Prop := Rd w p.A p.n (p.zs.map (Value.int .u8)) ∧ ∀ z ∈ p.zs, (Lit.int .u8 z).wf = true
section
variable {H : Type} {enc : TypeId × Value → H} {P : Program} {w : World} {base : Nat} {spare : Nat → Bool} {held : Bool}
theorem rd_of_parts {t e b : TypeId} {fuel : Nat} {v : Value} {x : DataW H × List MemPlace} (ht : P.underlying t = some (.slice e)) (hc : P.cellsOf e = 1) (he : P.underlying e = some (.slice b)) (hb : P.underlying b = some (.int .u8)) (hcb : P.cellsOf b = 1)
    (h : DataW.trod enc P w base spare held fuel t [v] = some x) :
    ∃ (A : Option Addr) (len cap : Nat) (L : List Part), v = .slice A len cap ∧ Rd w A len (L.map Part.v) ∧ ∀ p ∈ L, p.ok w := by
  rcases open_slice1 ht hc h with ⟨hcs, _⟩ | ⟨a, len, cap, m, n, V, D, Pl, hcs, _, hl, hm, hmm, _, hi⟩
  · injection hcs with hcs _
    exact ⟨none, 0, 0, [], hcs, Rd.nil _ _, by simp⟩
  · injection hcs with hcs _
    have hlm : len ≤ m := by rw [hmm]; split <;> omega
    have key : ∀ i, i < len → ∃ p : Part, w.cell? (a.add i) = some p.v ∧ p.ok w := fun i hi' => by
      obtain ⟨h1, h2⟩ := hi i (by omega)
      obtain ⟨A, n', c', zs, e1, hr, hz, _, _⟩ := rd_of_ints he hb hcb h2
      exact ⟨⟨A, n', c', zs⟩, by rw [h1, e1]; rfl, hr, hz⟩
    obtain ⟨F, hF⟩ := choose_lt key
    refine ⟨some a, len, cap, (List.range len).map F, hcs, ⟨by simp, fun hp => ?_⟩, fun p hp => ?_⟩
    · have h0 := (hF 0 hp).1
      have hsp : (a.add 0).spot = none := spot_none h0
      have hsp' : a.spot = none := by simpa [Addr.add] using hsp
      refine ⟨a.block, a.off, by cases a; simp_all, fun j u hu => ?_⟩
      rw [List.map_map, List.getElem?_map] at hu
      obtain ⟨k, hk, rfl⟩ := Option.map_eq_some_iff.1 hu
      have hjl : j < len := by have := (List.getElem?_eq_some_iff.1 hk).1; simpa using this
      rw [List.getElem?_range hjl] at hk
      injection hk with hk; subst hk
      have := (hF j hjl).1
      rwa [add_none a hsp'] at this
    · obtain ⟨i, hi', rfl⟩ := List.mem_map.1 hp
      exact (hF i (List.mem_range.1 hi')).2
end
end Go.Proofs.YtijmkbhbpbkkoaaGreat

/- The fields of a struct out of the form's reading. No program is named. -/
namespace Go.Proofs.YtijmkbhbpbkkoaaGreat
open Go.RowKit Go.ChangeShapes Go.WideShapes Go.ChangeAt Go.Deep

section
variable {H : Type} {enc : TypeId × Value → H} {P : Program} {w : World} {base : Nat} {spare : Nat → Bool} {held : Bool}
theorem fields_of {t : TypeId} {fs : Array Field} {fuel : Nat} {cs : List Value} {x : DataW H × List MemPlace} (ht : P.underlying t = some (.struct fs)) (hone : oneCellFields P fs = true) (hC : P.cellsOf t = fs.size)
    (h : DataW.trod enc P w base spare held fuel t cs = some x) :
    cs.length = fs.size ∧ ∃ n, ∀ (j : Nat) (f : Field) (u : Value), fs[j]? = some f → cs[j]? = some u → ∃ y, DataW.trod enc P w base spare held n f.type [u] = some y := by
  obtain ⟨xs, n, rfl, rfl, hl, hlen, hf⟩ := DataW.trod_struct ht h
  rw [hC] at hl
  refine ⟨hl, n, fun j f u hj hu => ?_⟩
  obtain ⟨ho, h1⟩ := hone_of hone j f hj
  have hjl : j < fs.size := (Array.getElem?_eq_some_iff.1 hj).1
  have h2 := hf j f hj
  have hjc : j < cs.length := by omega
  have hdt : (cs.drop j).take 1 = [cs[j]] := by rw [List.drop_eq_getElem_cons hjc]; rfl
  rw [ho, h1, hdt] at h2
  rw [List.getElem?_eq_getElem hjc] at hu
  injection hu with hu
  rw [hu] at h2
  exact ⟨_, h2.trans (List.getElem?_eq_getElem (by omega))⟩
end
end Go.Proofs.YtijmkbhbpbkkoaaGreat
