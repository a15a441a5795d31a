/- Slices: what one reads as (Rd), one that the call owns (the library's ownsRow), append and make by these. No program is named. -/
import Derived.Test.YtjndcgpfikngaaaKit4
import Derived.Maps.AppendAt
namespace Go.Proofs.Ytjndcgpfikngaaa
open Go.RowKit

/-- the slice value '.slice A n c' of one-cell elements reads as xs -/
def Rd (w : World) (A : Option Addr) (n : Nat) (xs : List Value) : Prop :=
  xs.length = n ∧ (0 < n → ∃ g off, A = some ⟨g, off, none⟩ ∧ ∀ j v, xs[j]? = some v → w.cell? ⟨g, off + j, none⟩ = some v)
/-- block g is the slice's -/
def Of (A : Option Addr) : Nat → Prop := fun g => ∃ a, A = some a ∧ a.block = g

section
variable {P : Program} {w w' : World} {A : Option Addr} {n : Nat} {xs : List Value} {S : Nat → Prop}
theorem Rd.nil (w : World) (A : Option Addr) : Rd w A 0 [] := ⟨rfl, fun h => absurd h (by omega)⟩
theorem Rd.lt (h : Rd w A n xs) (hn : 0 < n) : ∃ g off, A = some ⟨g, off, none⟩ ∧ g < w.heap.size := by
  obtain ⟨g, off, rfl, hc⟩ := h.2 hn
  have h0 : 0 < xs.length := by rw [h.1]; exact hn
  exact ⟨g, off, rfl, World.block_lt_of_cell? w _ (hc 0 xs[0] (List.getElem?_eq_getElem h0))⟩
theorem Rd.keep (h : Rd w A n xs) (hk : ∀ g off, A = some ⟨g, off, none⟩ → 0 < n → ∀ i, w'.cell? ⟨g, i, none⟩ = w.cell? ⟨g, i, none⟩) : Rd w' A n xs :=
  ⟨h.1, fun hn => by
    obtain ⟨g, off, hA, hc⟩ := h.2 hn
    exact ⟨g, off, hA, fun j v hv => (hk g off hA hn _).trans (hc j v hv)⟩⟩
theorem Rd.mod0 (h : Rd w A n xs) (hm : Mod S w w') (hn : 0 < n → ∀ g, Of A g → ¬ S g) : Rd w' A n xs :=
  h.keep fun g off hA hp i => by
    obtain ⟨g', off', hA', hlt⟩ := h.lt hp
    rw [hA] at hA'; injection hA' with hA'; injection hA' with h1 _ _; subst h1
    exact hm.cell (p := ⟨g, i, none⟩) hlt (hn hp g ⟨_, hA, rfl⟩)
theorem Rd.mod (h : Rd w A n xs) (hm : Mod S w w') (hn : ∀ g, Of A g → ¬ S g) : Rd w' A n xs := h.mod0 hm (fun _ => hn)
theorem Rd.in_ (h : Rd w A n xs) (hp : 0 < n) {g : Nat} (hg : Of A g) : g < w.heap.size := by
  obtain ⟨g', off', hA', hlt⟩ := h.lt hp
  obtain ⟨a, ha, rfl⟩ := hg
  rw [hA'] at ha; injection ha with ha; subst ha; exact hlt
theorem Rd.drew (h : Rd w A n xs) : Rd w.drew A n xs := h
theorem Rd.drewN (h : Rd w A n xs) (k : Nat) : Rd (w.drewN k) A n xs := h
theorem Rd.at_ (h : Rd w A n xs) {k : Nat} (hk : k < n) : ∃ g off v, A = some ⟨g, off, none⟩ ∧ xs[k]? = some v ∧ w.cell? ⟨g, off + k, none⟩ = some v := by
  obtain ⟨g, off, hA, hc⟩ := h.2 (by omega)
  have hl : k < xs.length := by rw [h.1]; exact hk
  exact ⟨g, off, xs[k], hA, List.getElem?_eq_getElem hl, hc k _ (List.getElem?_eq_getElem hl)⟩
theorem Rd.of_own {base : Nat} {e : TypeId} {c : Nat} (h : w.ownsRow base e 1 (.slice A n c) n xs) : Rd w A n xs := by
  obtain ⟨h1, h2⟩ := h
  refine ⟨by simpa using h1, fun hn => ?_⟩
  rcases h2 with ⟨_, h0⟩ | ⟨g, cap, cur, hv, _, hb, _, _, _, ht⟩
  · omega
  · injection hv with hA _ _
    refine ⟨g, 0, hA, fun j v hj => ?_⟩
    rw [cell_of_row w g (0 + j) cur e (0, 0) hb, Nat.zero_add]
    have hj' := hj
    rw [← ht, List.getElem?_take] at hj
    split at hj
    · simpa using hj
    · cases hj

theorem own_mod {base : Nat} {e : TypeId} {size : Nat} {v : Value} (h : w.ownsRow base e size v n xs) (hm : Mod S w w') (hn : ∀ g, v.ownBlock = some g → ¬ S g) : w'.ownsRow base e size v n xs := by
  refine ⟨h.1, ?_⟩
  rcases h.2 with h0 | ⟨g, cap, cur, rfl, hb, hgg, rest⟩
  · exact .inl h0
  · refine .inr ⟨g, cap, cur, rfl, hb, ?_, rest⟩
    rw [hm.block g (lt_of_heap hgg) (hn g rfl)]
    exact hgg
theorem own_base {base base' : Nat} {e : TypeId} {size : Nat} {v : Value} (h : w.ownsRow base e size v n xs) (hb : ∀ g, v.ownBlock = some g → base' ≤ g) : w.ownsRow base' e size v n xs := by
  refine ⟨h.1, ?_⟩
  rcases h.2 with h0 | ⟨g, cap, cur, rfl, _, hgg, rest⟩
  · exact .inl h0
  · exact .inr ⟨g, cap, cur, rfl, hb g rfl, hgg, rest⟩
theorem own_form {base : Nat} {e : TypeId} {size : Nat} {v : Value} (h : w.ownsRow base e size v n xs) :
    ∃ A c, v = .slice A n c ∧ n ≤ c ∧ (∀ g, Of A g → base ≤ g ∧ g < w.heap.size) := by
  rcases h.2 with ⟨rfl, rfl⟩ | ⟨g, cap, cur, rfl, hb, hgg, hc, _⟩
  · exact ⟨none, 0, rfl, Nat.le_refl _, fun g hg => by obtain ⟨a, ha, _⟩ := hg; cases ha⟩
  · exact ⟨_, cap, rfl, hc, fun k hk => by obtain ⟨a, ha, hk⟩ := hk; injection ha with ha; subst ha; exact hk ▸ ⟨hb, lt_of_heap hgg⟩⟩
theorem own_blk {base : Nat} {e : TypeId} {size : Nat} {v : Value} (h : w.ownsRow base e size v n xs) (hp : 0 < n) :
    ∃ g cap cur, v = .slice (some ⟨g, 0, none⟩) n cap ∧ base ≤ g ∧ Blk w g e cur ∧ n ≤ cap ∧ cap ≤ maxLen ∧ cur.size = cap * size ∧ cur.toList.take (n * size) = xs := by
  rcases h.2 with ⟨_, h0⟩ | h1
  · omega
  · exact h1
theorem of_own {A : Option Addr} {m c : Nat} {g : Nat} (h : Of A g) : (Value.slice A m c).ownBlock = some g := by
  obtain ⟨a, rfl, rfl⟩ := h; rfl
theorem own_of {A : Option Addr} {m c : Nat} {g : Nat} (h : (Value.slice A m c).ownBlock = some g) : Of A g := by
  cases A with
  | none => cases h
  | some a => injection h with h; exact ⟨a, rfl, h⟩

theorem Rd.of_blk {g : Nat} {t : TypeId} {cs : Array Value} (h : Blk w g t cs) (off : Nat) (hx : xs.length = n) (hs : ∀ j v, xs[j]? = some v → cs[off + j]? = some v) : Rd w (some ⟨g, off, none⟩) n xs :=
  ⟨hx, fun _ => ⟨g, off, rfl, fun j v hv => (h.cell (off + j)).trans (hs j v hv)⟩⟩
theorem Rd.of_blk0 {g : Nat} {t : TypeId} (h : Blk w g t xs.toArray) (hx : xs.length = n) : Rd w (some ⟨g, 0, none⟩) n xs :=
  Rd.of_blk h 0 hx (fun j v hv => by simpa using hv)

/-- Runs of cells, of elements of any size: the source of an append. -/
def RdC (w : World) (A : Option Addr) (m : Nat) (size : Nat) (xs : List Value) : Prop :=
  xs.length = m * size ∧ (0 < m → ∃ g off, A = some ⟨g, off, none⟩ ∧ ∀ j v, xs[j]? = some v → w.cell? ⟨g, off + j, none⟩ = some v)
theorem Rd.toC (h : Rd w A n xs) : RdC w A n 1 xs := ⟨by rw [h.1]; omega, h.2⟩

theorem run_append_rd (w : World) (base : Nat) (t ty e : TypeId) (z : Value) (size bytes : Nat) (ht : P.underlying t = some (.slice e))
    (hi : (P.info? e).map (fun i => (i.zero, i.size, i.bytes)) = some (some z, size, bytes)) (hzs : z.cells.size = size) (hsz : 0 < size)
    (v : Value) (n : Nat) (xs : List Value) (hown : w.ownsRow base e size v n xs)
    (A : Option Addr) (m c : Nat) (news : List Value) (hr : RdC w A m size news) (h1 : ∀ u ∈ news, u.oneCell' = true)
    (hbytes : (n + m) * bytes ≤ 140737488355328) (h63 : n + m ≤ 140737488355328) (hbase : base ≤ w.heap.size) :
    ∃ v' w', (Builtin.append_ #[t, t] ty #[v, .slice A m c]).run P w = .ok v' w' ∧ w'.ownsRow base e size v' (n + m) (xs ++ news) ∧ w.grownBy w' v.ownBlock ∧
      (v'.ownBlock = v.ownBlock ∨ v'.ownBlock = some w.heap.size) := by
  obtain ⟨i, hi, hz, hs, hby⟩ := info_parts hi
  have h63' : n + m ≤ maxLen := by simp only [maxLen]; omega
  by_cases hA : ∃ ad, A = some ad
  · obtain ⟨ad, rfl⟩ := hA
    have hcells : ∀ j u, news[j]? = some u → w.cell? (ad.add j) = some u := by
      intro j u hu
      rcases Nat.eq_zero_or_pos m with h0 | h0
      · have := hr.1; rw [h0, Nat.zero_mul] at this
        rw [List.eq_nil_of_length_eq_zero this] at hu; simp at hu
      · obtain ⟨g, off, h, hc⟩ := hr.2 h0
        injection h with h; subst h
        have hadd : (⟨g, off, none⟩ : Addr).add j = ⟨g, off + j, none⟩ := by unfold Addr.add; split <;> simp_all
        rw [hadd]; exact hc j u hu
    obtain ⟨v', w', r1, r2, r3, _, r5⟩ := run_append_own_at (P := P) w base t ty e i z size bytes ht hi hz hs hby hzs hsz v n xs hown ad m c news hr.1 hcells h1 h63' hbytes hbase
    exact ⟨v', w', r1, r2, r3, r5⟩
  · have hA' : A = none := by cases A with | none => rfl | some a => exact absurd ⟨a, rfl⟩ hA
    subst hA'
    have hm : m = 0 := by
      rcases Nat.eq_zero_or_pos m with h0 | h0
      · exact h0
      · obtain ⟨_, _, h, _⟩ := hr.2 h0; cases h
    subst hm
    have hn : news = [] := List.eq_nil_of_length_eq_zero (by simpa using hr.1)
    subst hn
    refine ⟨v, w, ?_, by simpa using hown, World.grownBy.refl w _, .inl rfl⟩
    rcases hown.2 with ⟨rfl, rfl⟩ | ⟨g, cap, cur, rfl, _, _, hnc, _⟩
    · simp [Builtin.append_, run_underlying ht, sizeOf, typeInfo, hi, Builtin.lenOf, Builtin.firstCells]
    · simp [Builtin.append_, run_underlying ht, sizeOf, typeInfo, hi, Builtin.lenOf, Builtin.firstCells, hnc, storeCells]

section
variable {ops : Array Oper} {rest : List Oper} {o : Oper} {a : Act} {Q : Exit → Act → World → Prop}
theorem wpList_append_rd (t : TypeId) (s x : Operand) (hg : Region.wanted o (yielded ops a.tmps) = true) (ho : o.op = .call { callee := .builtin .append, args := #[s, x], argTypes := #[t, t] })
    (base : Nat) (e : TypeId) (z : Value) (size bytes : Nat) (ht : P.underlying t = some (.slice e))
    (hi : (P.info? e).map (fun i => (i.zero, i.size, i.bytes)) = some (some z, size, bytes)) (hzs : z.cells.size = size) (hsz : 0 < size)
    (v : Value) (n : Nat) (xs : List Value) (hs : a.eval s = v) (hown : w.ownsRow base e size v n xs)
    (A : Option Addr) (m c : Nat) (news : List Value) (hx : a.eval x = .slice A m c) (hr : RdC w A m size news) (h1 : ∀ u ∈ news, u.oneCell' = true)
    (hbytes : (n + m) * bytes ≤ 140737488355328) (h63 : n + m ≤ 140737488355328) (hbase : base ≤ w.heap.size)
    (hK : ∀ v' w', w'.ownsRow base e size v' (n + m) (xs ++ news) → w.grownBy w' v.ownBlock → (v'.ownBlock = v.ownBlock ∨ v'.ownBlock = some w.heap.size) → wpList P ops Q rest (a.put o.dst v') w') :
    wpList P ops Q (o :: rest) a w := by
  obtain ⟨v', w', h2, h3, h4, h5⟩ := run_append_rd (P := P) w base t o.type e z size bytes ht hi hzs hsz v n xs hown A m c news hr h1 hbytes h63 hbase
  refine wpList_val hg (v := v') (w1 := w') ?_ (hK v' w' h3 h4 h5)
  simp [execOp, ho, resolve, invoke, builtin, hs, hx, h2, Result.andThen]
theorem wpList_make_n (t : TypeId) (l c : Operand) (hg : Region.wanted o (yielded ops a.tmps) = true) (ho : o.op = .makeSlice t l c) (e : TypeId) (z : Value) (size bytes : Nat) (ht : P.underlying t = some (.slice e))
    (hi : (P.info? e).map (fun i => (i.zero, i.size, i.bytes)) = some (some z, size, bytes)) (L C : Int) (n m : Nat) (hl : a.eval l = .int .i64 L) (hc : a.eval c = .int .i64 C) (hL : L = (n : Int)) (hC : C = (m : Int)) (hnm : n ≤ m)
    (hb : bytes * m ≤ 281474976710656) (hm : m ≤ 140737488355328)
    (hK : ∀ w1, Blk w1 w.heap.size e (madeCells z.cells (m * size)) → Mod Nn w w1 → w1.heap.size = w.heap.size + 1 → wpList P ops Q rest (a.put o.dst (.slice (some ⟨w.heap.size, 0, none⟩) n m)) w1) :
    wpList P ops Q (o :: rest) a w := by
  obtain ⟨i, hii, hz, hs, hby⟩ := info_parts hi
  subst hL; subst hC; subst hs; subst hby
  refine wpList_val hg (v := .slice (some ⟨w.heap.size, 0, none⟩) n m) (w1 := w.alloc (.cells (madeCells z.cells (m * i.size)) e)) ?_ (hK _ (Blk.new _ _ _) ((Mod.refl _ _).alloc _) (by simp))
  have hb' : (i.bytes : Int) * (m : Int) ≤ 281474976710656 := by
    have h : ((i.bytes * m : Nat) : Int) ≤ 281474976710656 := by omega
    rwa [Int.natCast_mul] at h
  have hr := run_make (P := P) w t e i z ht hii hz .i64 .i64 n m (by omega) (by omega) hb' (by omega)
  simp only [Int.toNat_natCast] at hr
  simp [execOp, ho, hl, hc, hr, Result.andThen]
theorem made_one (z : Value) (n : Nat) : madeCells #[z] n = Array.replicate n z := by
  apply Array.ext_getElem?
  intro i
  simp only [madeCells, Array.getElem?_map, Array.getElem?_range, Array.getElem?_replicate]
  by_cases h : i < n <;> simp [h, Nat.mod_one]
theorem wpList_make1 (t : TypeId) (l c : Operand) (hg : Region.wanted o (yielded ops a.tmps) = true) (ho : o.op = .makeSlice t l c) (e : TypeId) (z : Value) (bytes : Nat) (ht : P.underlying t = some (.slice e))
    (hi : (P.info? e).map (fun i => (i.zero, i.size, i.bytes)) = some (some z, 1, bytes)) (hzs : z.cells = #[z]) (L C : Int) (n m : Nat) (hl : a.eval l = .int .i64 L) (hc : a.eval c = .int .i64 C) (hL : L = (n : Int)) (hC : C = (m : Int)) (hnm : n ≤ m)
    (hb : bytes * m ≤ 281474976710656) (hm : m ≤ 140737488355328)
    (hK : ∀ w1, Blk w1 w.heap.size e (Array.replicate m z) → Mod Nn w w1 → w1.heap.size = w.heap.size + 1 → wpList P ops Q rest (a.put o.dst (.slice (some ⟨w.heap.size, 0, none⟩) n m)) w1) :
    wpList P ops Q (o :: rest) a w :=
  wpList_make_n t l c hg ho e z 1 bytes ht hi L C n m hl hc hL hC hnm hb hm (by rw [hzs, Nat.mul_one, made_one]; exact hK)
end
end
end Go.Proofs.Ytjndcgpfikngaaa
