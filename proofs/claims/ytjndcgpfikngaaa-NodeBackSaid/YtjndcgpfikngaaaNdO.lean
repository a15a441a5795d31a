/- A node out of the form's reading; its slices' lengths within the form's reach. -/
import Derived.Test.YtjndcgpfikngaaaNdM0
import Derived.Test.YtjndcgpfikngaaaOpen5
import Derived.Test.YtjndcgpfikngaaaOpenA
namespace Go.Proofs.Ytjndcgpfikngaaa
open Go.RowKit Go.ChangeShapes Go.WideShapes Go.ChangeAt Go.Deep

section
variable {H : Type} {enc : TypeId × Value → H} {P : Program} {w : World} {base : Nat} {spare : Nat → Bool} {held : Bool}
theorem slice_len {t e : TypeId} {fuel : Nat} {A : Option Addr} {len cap : Nat} {x : DataW H × List MemPlace} (ht : P.underlying t = some (.slice e)) (h : DataW.trod enc P w base spare held fuel t [.slice A len cap] = some x) :
    len = 0 ∨ ∃ el sp, x.1 = .slice el sp ∧ el.length = len := by
  rcases open_slice ht h with ⟨hcs, _⟩ | ⟨a, len', cap', m, n, D, Pl, hcs, _, hl, hm, hmm, hx, hi⟩
  · left
    injection hcs with hcs _
    injection hcs
  · right
    injection hcs with hcs _
    injection hcs with e1 e2 e3
    subst e2
    exact ⟨_, _, by rw [hx], by simp⟩
theorem fields_of2 {t : TypeId} {fs : Array Field} {fuel : Nat} {cs : List Value} {x : DataW H × List MemPlace} (ht : P.underlying t = some (.struct fs)) (hone : oneCellFields P fs = true) (hC : P.cellsOf t = fs.size)
    (h : DataW.trod enc P w base spare held fuel t cs = some x) :
    cs.length = fs.size ∧ ∃ (parts : List (DataW H)) (n : Nat), x.1 = .agg parts ∧ ∀ (j : Nat) (f : Field) (u : Value), fs[j]? = some f → cs[j]? = some u → ∃ y, DataW.trod enc P w base spare held n f.type [u] = some y ∧ parts[j]? = some y.1 := by
  obtain ⟨xs, n, rfl, rfl, hl, hlen, hf⟩ := DataW.trod_struct ht h
  rw [hC] at hl
  refine ⟨hl, _, n, rfl, fun j f u hj hu => ?_⟩
  obtain ⟨ho, h1⟩ := hone_of hone j f hj
  have hjl : j < fs.size := (Array.getElem?_eq_some_iff.1 hj).1
  have h2 := hf j f hj
  have hjc : j < cs.length := by omega
  have hdt : (cs.drop j).take 1 = [cs[j]] := by rw [List.drop_eq_getElem_cons hjc]; rfl
  rw [ho, h1, hdt] at h2
  rw [List.getElem?_eq_getElem hjc] at hu
  injection hu with hu
  rw [hu] at h2
  have hjx : j < xs.length := by omega
  exact ⟨_, h2.trans (List.getElem?_eq_getElem hjx), by rw [List.getElem?_map, List.getElem?_eq_getElem hjx]; rfl⟩
/-- the weights of a struct's fields -/
theorem weights_fields {ts : List TypeId} {ds : List (DataW H)} (h : (DataW.weightsEach P ts ds).all (· ≤ reachBytes) = true) {j : Nat} {t : TypeId} {parts : List (DataW H)} {fs : Array Field} (ht : ts[j]? = some t) (hd : ds[j]? = some (.agg parts)) (hu : P.underlying t = some (.struct fs)) :
    (DataW.weightsEach P (fs.toList.map (·.type)) parts).all (· ≤ reachBytes) = true := by
  rw [List.all_eq_true] at h ⊢
  intro n hn
  exact h n (DataW.weights_mem_each ht hd n (by simp only [DataW.weights, hu]; exact hn))
theorem len_ltN {ts : List TypeId} {ds : List (DataW H)} (h : (DataW.weightsEach P ts ds).all (· ≤ reachBytes) = true) {j : Nat} {t e : TypeId} {d : DataW H} {len s : Nat} (ht : ts[j]? = some t) (hd : ds[j]? = some d) (hu : P.underlying t = some (.slice e)) (hb : P.bytesOf e = s) (hs : 0 < s)
    (hl : len = 0 ∨ ∃ el sp, d = .slice el sp ∧ el.length = len) : len < 140737488355328 := by
  rcases hl with rfl | ⟨el, sp, rfl, rfl⟩
  · omega
  · have := sized_slice h ht hd hu
    have hr : reachBytes < 140737488355328 := reachBytes_lt
    rw [hb] at this
    have h2 : (el.length + sp.length) * 1 ≤ (el.length + sp.length) * s := Nat.mul_le_mul_left _ hs
    omega
end
theorem list4n {α : Type} {l : List α} (h : l.length = 4) : ∃ a b c d, l = [a, b, c, d] := by
  match l, h with
  | [a, b, c, d], _ => exact ⟨a, b, c, d, rfl⟩
section
variable {H : Type} {enc : TypeId × Value → H} {w : World} {base : Nat} {spare : Nat → Bool} {held : Bool}
theorem key_of {fuel : Nat} {cs : List Value} {x : DataW H × List MemPlace} (h : DataW.trod enc Try.prog w base spare held fuel 58 cs = some x) : ∃ l : List Nat, cs = bv l ∧ l.length = 40 ∧ ∀ z ∈ l, z < 256 :=
  arr_of (P := Try.prog) Try.underlying58 Try.underlying5 (by kernel_rfl) (by kernel_rfl) h
theorem val_of {fuel : Nat} {cs : List Value} {x : DataW H × List MemPlace} (h : DataW.trod enc Try.prog w base spare held fuel 59 cs = some x) : ∃ l : List Nat, cs = bv l ∧ l.length = 40 ∧ ∀ z ∈ l, z < 256 :=
  arr_of (P := Try.prog) Try.underlying59 Try.underlying5 (by kernel_rfl) (by kernel_rfl) h
theorem ent_of {fuel : Nat} {cs : List Value} {x : DataW H × List MemPlace} (h : DataW.trod enc Try.prog w base spare held fuel 61 cs = some x) : ∃ l : List Nat, cs = bv l ∧ l.length = 80 ∧ ∀ z ∈ l, z < 256 :=
  pair_of (P := Try.prog) (s0 := 40) (s1 := 40) Try.underlying61 rfl rfl (by kernel_rfl) (by kernel_rfl) (by kernel_rfl) (fun _ _ _ h => key_of h) (fun _ _ _ h => val_of h) h
theorem node_of {fuel : Nat} {cs : List Value} {x : DataW H × List MemPlace} (h : DataW.trod enc Try.prog w base spare held fuel 48 cs = some x) :
    ∃ (EA : Option Addr) (en ec : Nat) (KA : Option Addr) (kn kc : Nat) (CA : Option Addr) (cn cc : Nat) (N : Nd), cs = [.bool N.leaf, .slice EA en ec, .slice KA kn kc, .slice CA cn cc] ∧ NdQ w N EA en KA kn CA cn ∧ en ≤ ec ∧ kn ≤ kc ∧ cn ≤ cc ∧
      ∃ parts, x.1 = .agg parts ∧ (en = 0 ∨ ∃ el sp, parts[1]? = some (.slice el sp) ∧ el.length = en) ∧ (kn = 0 ∨ ∃ el sp, parts[2]? = some (.slice el sp) ∧ el.length = kn) ∧ (cn = 0 ∨ ∃ el sp, parts[3]? = some (.slice el sp) ∧ el.length = cn) := by
  obtain ⟨hl, parts, m, hx, hf⟩ := fields_of2 (P := Try.prog) Try.underlying48 (by kernel_rfl) (by kernel_rfl) h
  obtain ⟨v0, v1, v2, v3, rfl⟩ := list4n hl
  obtain ⟨y0, h0, _⟩ := hf 0 _ v0 rfl rfl
  obtain ⟨y1, h1, k1⟩ := hf 1 _ v1 rfl rfl
  obtain ⟨y2, h2, k2⟩ := hf 2 _ v2 rfl rfl
  obtain ⟨y3, h3, k3⟩ := hf 3 _ v3 rfl rfl
  obtain ⟨lf, e0, _⟩ := DataW.trod_bool Try.underlying4 h0
  injection e0 with e0 _
  subst e0
  obtain ⟨EA, en, ec, E, rfl, re, le, oke, hec, _⟩ := rows_of (P := Try.prog) Try.underlying44 (by kernel_rfl) (by omega) (fun _ _ _ h => ent_of h) h1
  obtain ⟨KA, kn, kc, K, rfl, rk, lk, okk, hkc, _⟩ := rows_of (P := Try.prog) Try.underlying45 (by kernel_rfl) (by omega) (fun _ _ _ h => key_of h) h2
  obtain ⟨CA, cn, cc, zs, rfl, rc, _, hcc, _⟩ := rd_of_ints (P := Try.prog) Try.underlying46 Try.underlying3 (by kernel_rfl) h3
  have lc : zs.length = cn := by simpa using rc.1
  refine ⟨EA, en, ec, KA, kn, kc, CA, cn, cc, ⟨lf, E, K, zs⟩, rfl, ⟨re, rk, rc, le, lk, lc, ⟨oke, okk⟩⟩, hec, hkc, hcc, parts, hx, ?_, ?_, ?_⟩
  · rcases slice_len (P := Try.prog) Try.underlying44 h1 with h | ⟨el, sp, e, hl⟩
    · exact .inl h
    · exact .inr ⟨el, sp, by rw [k1, e], hl⟩
  · rcases slice_len (P := Try.prog) Try.underlying45 h2 with h | ⟨el, sp, e, hl⟩
    · exact .inl h
    · exact .inr ⟨el, sp, by rw [k2, e], hl⟩
  · rcases slice_len (P := Try.prog) Try.underlying46 h3 with h | ⟨el, sp, e, hl⟩
    · exact .inl h
    · exact .inr ⟨el, sp, by rw [k3, e], hl⟩
theorem part_lt {P : Program} {ts : List TypeId} {ds : List (DataW H)} (h : (DataW.weightsEach P ts ds).all (· ≤ reachBytes) = true) {j : Nat} {t e : TypeId} {len s : Nat} (ht : ts[j]? = some t) (hu : P.underlying t = some (.slice e)) (hb : P.bytesOf e = s) (hs : 0 < s)
    (hl : len = 0 ∨ ∃ el sp, ds[j]? = some (.slice el sp) ∧ el.length = len) : len < 140737488355328 := by
  rcases hl with h0 | ⟨el, sp, h1, h2⟩
  · omega
  · exact len_ltN h ht h1 hu hb hs (.inr ⟨el, sp, rfl, h2⟩)
theorem node_small {ts : List TypeId} {ds : List (DataW H)} (h : (DataW.weightsEach Try.prog ts ds).all (· ≤ reachBytes) = true) {j : Nat} {d : DataW H} {parts : List (DataW H)} {en kn cn : Nat} (ht : ts[j]? = some 48) (hd : ds[j]? = some d) (hx : d = .agg parts)
    (h1 : en = 0 ∨ ∃ el sp, parts[1]? = some (.slice el sp) ∧ el.length = en) (h2 : kn = 0 ∨ ∃ el sp, parts[2]? = some (.slice el sp) ∧ el.length = kn) (h3 : cn = 0 ∨ ∃ el sp, parts[3]? = some (.slice el sp) ∧ el.length = cn) :
    en + kn + cn ≤ 9223372036854775807 := by
  subst hx
  have hw := weights_fields h ht hd Try.underlying48
  have b1 := part_lt hw (j := 1) rfl Try.underlying44 (s := 80) (by kernel_rfl) (by omega) h1
  have b2 := part_lt hw (j := 2) rfl Try.underlying45 (s := 40) (by kernel_rfl) (by omega) h2
  have b3 := part_lt hw (j := 3) rfl Try.underlying46 (s := 8) (by kernel_rfl) (by omega) h3
  omega
end
end Go.Proofs.Ytjndcgpfikngaaa
