/- A row of nodes out of the form's reading. -/
import Derived.Test.YtkcpmkeckcnobaaOpW
import Derived.Test.YtkcpmkeckcnobaaTl3
namespace Go.Proofs.Ytkcpmkeckcnobaa
open Go.RowKit Go.ChangeShapes Go.WideShapes Go.ChangeAt Go.Deep

section
variable {H : Type} {enc : TypeId × Value → H} {P : Program} {w : World} {base : Nat} {spare : Nat → Bool} {held : Bool}
theorem slice_len {t e : TypeId} {fuel : Nat} {A : Option Addr} {len cap : Nat} {x : DataW H × List MemPlace} (ht : P.underlying t = some (.slice e)) (h : DataW.trod enc P w base spare held fuel t [.slice A len cap] = some x) :
    len = 0 ∨ ∃ el sp, x.1 = .slice el sp ∧ el.length = len := by
  rcases open_slice ht h with ⟨hcs, _⟩ | ⟨a, len', cap', m, n, D, Pl, hcs, _, hl, hm, hmm, hx, hi⟩
  · left
    injection hcs with hcs _
    injection hcs
  · right
    injection hcs with hcs _
    injection hcs with e1 e2 e3
    subst e2
    exact ⟨_, _, by rw [hx], by simp⟩
theorem fields_of2 {t : TypeId} {fs : Array Field} {fuel : Nat} {cs : List Value} {x : DataW H × List MemPlace} (ht : P.underlying t = some (.struct fs)) (hone : oneCellFields P fs = true) (hC : P.cellsOf t = fs.size)
    (h : DataW.trod enc P w base spare held fuel t cs = some x) :
    cs.length = fs.size ∧ ∃ (parts : List (DataW H)) (n : Nat), x.1 = .agg parts ∧ ∀ (j : Nat) (f : Field) (u : Value), fs[j]? = some f → cs[j]? = some u → ∃ y, DataW.trod enc P w base spare held n f.type [u] = some y ∧ parts[j]? = some y.1 := by
  obtain ⟨xs, n, rfl, rfl, hl, hlen, hf⟩ := DataW.trod_struct ht h
  rw [hC] at hl
  refine ⟨hl, _, n, rfl, fun j f u hj hu => ?_⟩
  obtain ⟨ho, h1⟩ := hone_of hone j f hj
  have hjl : j < fs.size := (Array.getElem?_eq_some_iff.1 hj).1
  have h2 := hf j f hj
  have hjc : j < cs.length := by omega
  have hdt : (cs.drop j).take 1 = [cs[j]] := by rw [List.drop_eq_getElem_cons hjc]; rfl
  rw [ho, h1, hdt] at h2
  rw [List.getElem?_eq_getElem hjc] at hu
  injection hu with hu
  rw [hu] at h2
  have hjx : j < xs.length := by omega
  exact ⟨_, h2.trans (List.getElem?_eq_getElem hjx), by rw [List.getElem?_map, List.getElem?_eq_getElem hjx]; rfl⟩
theorem len_ltN {ts : List TypeId} {ds : List (DataW H)} (h : (DataW.weightsEach P ts ds).all (· ≤ reachBytes) = true) {j : Nat} {t e : TypeId} {d : DataW H} {len s : Nat} (ht : ts[j]? = some t) (hd : ds[j]? = some d) (hu : P.underlying t = some (.slice e)) (hb : P.bytesOf e = s) (hs : 0 < s)
    (hl : len = 0 ∨ ∃ el sp, d = .slice el sp ∧ el.length = len) : len < 140737488355328 := by
  rcases hl with rfl | ⟨el, sp, rfl, rfl⟩
  · omega
  · have := sized_slice h ht hd hu
    have hr : reachBytes < 140737488355328 := reachBytes_lt
    rw [hb] at this
    have h2 : (el.length + sp.length) * 1 ≤ (el.length + sp.length) * s := Nat.mul_le_mul_left _ hs
    omega
theorem part_lt {P : Program} {ts : List TypeId} {ds : List (DataW H)} (h : (DataW.weightsEach P ts ds).all (· ≤ reachBytes) = true) {j : Nat} {t e : TypeId} {len s : Nat} (ht : ts[j]? = some t) (hu : P.underlying t = some (.slice e)) (hb : P.bytesOf e = s) (hs : 0 < s)
    (hl : len = 0 ∨ ∃ el sp, ds[j]? = some (.slice el sp) ∧ el.length = len) : len < 140737488355328 := by
  rcases hl with h0 | ⟨el, sp, h1, h2⟩
  · omega
  · exact len_ltN h ht h1 hu hb hs (.inr ⟨el, sp, rfl, h2⟩)
theorem weights_struct {t : TypeId} {fs : Array Field} {d : DataW H} {parts : List (DataW H)} (hx : d = .agg parts) (hu : P.underlying t = some (.struct fs)) (hw : ∀ n ∈ d.weights P t, n ≤ reachBytes) : (DataW.weightsEach P (fs.toList.map (·.type)) parts).all (· ≤ reachBytes) = true := by
  rw [List.all_eq_true]
  intro n hn
  refine decide_eq_true (hw n ?_)
  rw [hx]
  simp only [DataW.weights, hu]
  exact hn
theorem weights_all {e : TypeId} : ∀ {L : List (DataW H)} {d : DataW H}, d ∈ L → ∀ n ∈ d.weights P e, n ∈ DataW.weightsAll P e L
  | x :: L, d, hd, n, hn => by
    simp only [DataW.weightsAll, List.mem_append]
    rcases List.mem_cons.1 hd with rfl | hd
    · exact .inl hn
    · exact .inr (weights_all hd n hn)
theorem rows_ofW {α : Type} {f : α → List Value} {Q : α → Prop} {t e : TypeId} {s fuel : Nat} {v : Value} {x : DataW H × List MemPlace} (ht : P.underlying t = some (.slice e)) (hC : P.cellsOf e = s) (hs : 0 < s) (hlf : ∀ a, (f a).length = s)
    (dec : ∀ (fuel : Nat) (cs : List Value) (x : DataW H × List MemPlace), DataW.trod enc P w base spare held fuel e cs = some x → (∀ n ∈ x.1.weights P e, n ≤ reachBytes) → ∃ a : α, cs = f a ∧ Q a)
    (hw : ∀ n ∈ x.1.weights P t, n ≤ reachBytes) (h : DataW.trod enc P w base spare held fuel t [v] = some x) :
    ∃ (A : Option Addr) (len cap : Nat) (L : List α), v = .slice A len cap ∧ RdC w A len s (flat f L) ∧ L.length = len ∧ (∀ a ∈ L, Q a) ∧ len ≤ cap ∧ cap ≤ maxLen := by
  rcases open_slice ht h with ⟨hcs, _⟩ | ⟨a, len, cap, m, n, D, Pl, hcs, _, hl, hm, hmm, hx, hi⟩
  · injection hcs with hcs _
    exact ⟨none, 0, 0, [], hcs, ⟨by simp [flat], fun h => absurd h (by omega)⟩, rfl, (fun a ha => by cases ha), Nat.le_refl _, Nat.zero_le _⟩
  · injection hcs with hcs _
    have hlm : len ≤ m := by rw [hmm]; split <;> omega
    have hwi : ∀ i, i < len → ∀ n ∈ (D i).weights P e, n ≤ reachBytes := fun i hi' k hk => hw k (by
      rw [hx]
      simp only [DataW.weights, ht, List.mem_cons, List.mem_append]
      exact .inr (.inl (weights_all (List.mem_map.2 ⟨i, List.mem_range.2 hi', rfl⟩) k hk)))
    have key : ∀ i, i < len → ∃ l : α, Q l ∧ ∀ j, j < s → w.cell? ((a.add (i * s)).add j) = (f l)[j]? := fun i hi' => by
      obtain ⟨cs', h1, h2⟩ := hi i (by omega)
      rw [hC] at h1
      obtain ⟨_, _, h3⟩ := World.cells?_some h1
      obtain ⟨l, e1, e2⟩ := dec _ _ _ h2 (hwi i hi')
      exact ⟨l, e2, fun j hj => by rw [h3 j hj, e1]⟩
    rcases Nat.eq_zero_or_pos len with h0 | hp
    · subst h0
      exact ⟨some a, 0, cap, [], hcs, ⟨by simp [flat], fun h => absurd h (by omega)⟩, rfl, (fun a ha => by cases ha), hl, hm⟩
    obtain ⟨x0, _⟩ := key 0 hp
    have key2 : ∀ i, ∃ l : α, i < len → Q l ∧ ∀ j, j < s → w.cell? ((a.add (i * s)).add j) = (f l)[j]? := fun i => by
      by_cases hi : i < len
      · obtain ⟨l, hl⟩ := key i hi
        exact ⟨l, fun _ => hl⟩
      · exact ⟨x0, fun h => absurd h hi⟩
    obtain ⟨F, hF⟩ := Classical.axiomOfChoice key2
    refine ⟨some a, len, cap, (List.range len).map F, hcs, ⟨by rw [flat_len hlf]; simp, fun _ => ?_⟩, by simp, fun y hy => ?_, hl, hm⟩
    · have h0 := (hF 0 hp).2 0 hs
      obtain ⟨v0, hv0⟩ : ∃ v0, (f (F 0))[0]? = some v0 := ⟨_, List.getElem?_eq_getElem (by rw [hlf]; exact hs)⟩
      rw [hv0] at h0
      have hsp := spot_none h0
      have hsp' : a.spot = none := by simpa [Addr.add] using hsp
      refine ⟨a.block, a.off, by cases a; simp_all, fun j u hu => ?_⟩
      have hjl : j < len * s := by
        have := (List.getElem?_eq_some_iff.1 hu).1
        rw [flat_len hlf] at this; simpa using this
      have hq : j / s < len := Nat.div_lt_of_lt_mul (by rw [Nat.mul_comm]; exact hjl)
      have hr : j % s < s := Nat.mod_lt _ hs
      have hdm : j / s * s + j % s = j := by have := Nat.div_add_mod j s; rw [Nat.mul_comm] at this; exact this
      have h2 := (hF _ hq).2 _ hr
      have hat := flat_at hlf ((List.range len).map F) (j / s) (j % s) hr
      rw [hdm, hu, List.getElem?_map, List.getElem?_range hq] at hat
      rw [add_none _ hsp' ((j / s) * s), add_none _ rfl] at h2
      have e : a.off + j / s * s + j % s = a.off + j := by omega
      rw [e] at h2
      rw [h2]
      exact hat.symm
    · obtain ⟨i, hi', rfl⟩ := List.mem_map.1 hy
      exact (hF i (List.mem_range.1 hi')).1
end
theorem list4n {α : Type} {l : List α} (h : l.length = 4) : ∃ a b c d, l = [a, b, c, d] := by
  match l, h with
  | [a, b, c, d], _ => exact ⟨a, b, c, d, rfl⟩
section
variable {H : Type} {enc : TypeId × Value → H} {w : World} {base : Nat} {spare : Nat → Bool} {held : Bool}
theorem node_ofU {fuel : Nat} {cs : List Value} {x : DataW H × List MemPlace} (h : DataW.trod enc Try.prog w base spare held fuel 77 cs = some x) (hw : ∀ n ∈ x.1.weights Try.prog 77, n ≤ reachBytes) :
    ∃ x : NX, cs = x.cells ∧ NdU w x.N x.EA x.en x.KA x.kn x.CA x.cn := by
  obtain ⟨hl, parts, m, hx, hf⟩ := fields_of2 (P := Try.prog) Try.underlying77 (by kernel_rfl) (by kernel_rfl) h
  obtain ⟨v0, v1, v2, v3, rfl⟩ := list4n hl
  obtain ⟨y0, h0, _⟩ := hf 0 _ v0 rfl rfl
  obtain ⟨y1, h1, k1⟩ := hf 1 _ v1 rfl rfl
  obtain ⟨y2, h2, k2⟩ := hf 2 _ v2 rfl rfl
  obtain ⟨y3, h3, k3⟩ := hf 3 _ v3 rfl rfl
  obtain ⟨lf, e0, _⟩ := DataW.trod_bool Try.underlying4 h0
  injection e0 with e0 _
  subst e0
  obtain ⟨EA, en, ec, E, rfl, re, le, oke, hec, _⟩ := rows_of (P := Try.prog) Try.underlying40 (by kernel_rfl) (by omega) (fun _ _ _ h => ent_of h) h1
  obtain ⟨KA, kn, kc, K, rfl, rk, lk, okk, hkc, _⟩ := rows_of (P := Try.prog) Try.underlying75 (by kernel_rfl) (by omega) (fun _ _ _ h => key_of h) h2
  obtain ⟨CA, cn, cc, zs, rfl, rc, _, hcc, _⟩ := rd_of_ints (P := Try.prog) Try.underlying64 Try.underlying3 (by kernel_rfl) h3
  have lc : zs.length = cn := by simpa using rc.1
  have hws := weights_struct hx Try.underlying77 hw
  have b1 := part_lt hws (j := 1) rfl Try.underlying40 (s := 80) (by kernel_rfl) (by omega) (len := en) (by
    rcases slice_len (P := Try.prog) Try.underlying40 h1 with h | ⟨el, sp, e, hl⟩
    · exact .inl h
    · exact .inr ⟨el, sp, by rw [k1, e], hl⟩)
  have b2 := part_lt hws (j := 2) rfl Try.underlying75 (s := 40) (by kernel_rfl) (by omega) (len := kn) (by
    rcases slice_len (P := Try.prog) Try.underlying75 h2 with h | ⟨el, sp, e, hl⟩
    · exact .inl h
    · exact .inr ⟨el, sp, by rw [k2, e], hl⟩)
  have b3 := part_lt hws (j := 3) rfl Try.underlying64 (s := 8) (by kernel_rfl) (by omega) (len := cn) (by
    rcases slice_len (P := Try.prog) Try.underlying64 h3 with h | ⟨el, sp, e, hl⟩
    · exact .inl h
    · exact .inr ⟨el, sp, by rw [k3, e], hl⟩)
  exact ⟨⟨⟨lf, E, K, zs⟩, EA, en, ec, KA, kn, kc, CA, cn, cc⟩, rfl, ⟨re, rk, rc, le, lk, lc, ⟨oke, okk⟩, by show en + kn + cn ≤ _; omega⟩⟩
theorem nodesarg {ts : List TypeId} {ds : List (DataW H)} (hz : (DataW.weightsEach Try.prog ts ds).all (· ≤ reachBytes) = true) {j fuel : Nat} {v : Value} {d : DataW H} {pl : List MemPlace} (ht : ts[j]? = some 72) (hd : ds[j]? = some d) (h : DataW.trod enc Try.prog w base spare held fuel 72 [v] = some (d, pl)) :
    ∃ (A : Option Addr) (n c : Nat) (Xs : List NX), v = .slice A n c ∧ NsU w A n Xs := by
  obtain ⟨A, n, c, Xs, h1, h2, h3, h4, _⟩ := rows_ofW (P := Try.prog) (s := 4) (f := NX.cells) (Q := fun x => NdU w x.N x.EA x.en x.KA x.kn x.CA x.cn) Try.underlying72 (by kernel_rfl) (by omega) NX.len (fun _ _ _ h hw => node_ofU h hw) (fun n hn => by
    have := List.all_eq_true.1 hz n (DataW.weights_mem_each ht hd n hn)
    simpa using this) h
  exact ⟨A, n, c, Xs, h1, ⟨h2, h3, h4⟩⟩
end
end Go.Proofs.Ytkcpmkeckcnobaa
