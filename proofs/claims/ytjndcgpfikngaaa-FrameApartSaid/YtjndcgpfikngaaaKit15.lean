/- append in place or into a new block; rows handed out side by side, each with marks of its own. No program is named. -/
import Derived.Test.YtjndcgpfikngaaaKit10
namespace Go.Proofs.Ytjndcgpfikngaaa
open Go.RowKit

/-- what an append of something did: it wrote behind the slice, in its own row, or it made a new row -/
def AppTwo (w w' : World) (v : Value) (n m : Nat) (v' : Value) : Prop :=
  (∃ g c, v = .slice (some ⟨g, 0, none⟩) n c ∧ v' = .slice (some ⟨g, 0, none⟩) (n + m) c ∧ Mod (At g) w w') ∨ (v'.ownBlock = some w.heap.size ∧ Mod Nn w w')
section
variable {P : Program}
theorem run_append_two (w : World) (base : Nat) (t ty e : TypeId) (z : Value) (size bytes : Nat) (ht : P.underlying t = some (.slice e))
    (hi : (P.info? e).map (fun i => (i.zero, i.size, i.bytes)) = some (some z, size, bytes)) (hzs : z.cells.size = size) (hsz : 0 < size)
    (v : Value) (n : Nat) (xs : List Value) (hown : w.ownsRow base e size v n xs)
    (A : Option Addr) (m c : Nat) (news : List Value) (hr : RdC w A m size news) (hm0 : 0 < m) (h1 : ∀ u ∈ news, u.oneCell' = true)
    (hbytes : (n + m) * bytes ≤ 140737488355328) (h63 : n + m ≤ 140737488355328) (hbase : base ≤ w.heap.size) :
    ∃ v' w', (Builtin.append_ #[t, t] ty #[v, .slice A m c]).run P w = .ok v' w' ∧ w'.ownsRow base e size v' (n + m) (xs ++ news) ∧ AppTwo w w' v n m v' := by
  obtain ⟨i, hii, hz, hs, hby⟩ := info_parts hi
  clear hi
  have h63' : n + m ≤ maxLen := by simp only [maxLen]; omega
  obtain ⟨ga, off, rfl, hc⟩ := hr.2 hm0
  have hnews : ∀ j u, news[j]? = some u → w.cell? ((⟨ga, off, none⟩ : Addr).add j) = some u := by
    intro j u hu
    have hadd : (⟨ga, off, none⟩ : Addr).add j = ⟨ga, off + j, none⟩ := by unfold Addr.add; split <;> simp_all
    rw [hadd]; exact hc j u hu
  have hl := hr.1
  subst hs
  subst hby
  have hlen : (xs ++ news).length = (n + m) * i.size := by rw [List.length_append, hown.1, hl, Nat.add_mul]
  have grown : ∀ (old : Nat), old < n + m →
      (w.drew.alloc (.cells (xs.toArray ++ news.toArray ++ Builtin.zeroCells z.cells (grownCap w (n + m) old e - (n + m))) e)).ownsRow base e i.size
        (.slice (some ⟨w.heap.size, 0, none⟩) (n + m) (grownCap w (n + m) old e)) (n + m) (xs ++ news) ∧
      Mod Nn w (w.drew.alloc (.cells (xs.toArray ++ news.toArray ++ Builtin.zeroCells z.cells (grownCap w (n + m) old e - (n + m))) e)) := by
    intro old ho
    have hge := grownCap_ge w (n + m) old e
    have hcm : grownCap w (n + m) old e ≤ maxLen := grownCap_le_maxLen w (n + m) old e h63'
    refine ⟨⟨hlen, .inr ⟨w.heap.size, _, _, rfl, hbase, heap_alloc_new w.drew _, hge, hcm, ?_, ?_⟩⟩, ((Mod.refl Nn w).drew).alloc _⟩
    · simp only [Array.size_append, List.size_toArray, size_zeroCells, hzs, hown.1, hl, ← Nat.add_mul]
      congr 1
      omega
    · simp only [Array.toList_append, List.append_assoc]
      rw [← List.append_assoc, ← hlen]
      exact List.take_left
  rcases hown.2 with ⟨rfl, rfl⟩ | ⟨g, cap, cur, rfl, hbg, hg, hnc, hcm, hcs, htake⟩
  · have hx : xs = [] := List.eq_nil_of_length_eq_zero (by simpa using hown.1)
    subst hx
    have hr' := run_append_nil (P := P) w t ty e i z ht hii hz ⟨ga, off, none⟩ m c news hl hnews (by omega) (by omega) (by have hb := hbytes; simp only [Nat.zero_add] at hb; omega)
    have hgr := grown 0 (by omega)
    simp only [Nat.zero_add, List.nil_append, Array.empty_append] at hgr ⊢
    exact ⟨_, _, hr', hgr.1, .inr ⟨rfl, hgr.2⟩⟩
  · by_cases hroom : n + m ≤ cap
    · have hfit : n * i.size + news.length ≤ cur.size := by rw [hl, hcs, ← Nat.add_mul]; exact Nat.mul_le_mul_right _ hroom
      have hr' := run_append_room (P := P) w t ty e i ht hii g n cap cur hg ⟨ga, off, none⟩ m c news hl hnews h1 hroom hfit
      refine ⟨_, _, hr', ⟨hlen, .inr ⟨g, cap, _, rfl, hbg, setRow_heap w g cur _ e _ hg, hroom, hcm, ?_, ?_⟩⟩, .inl ⟨g, cap, rfl, rfl, Mod.rowAt _ _ _⟩⟩
      · simp only [List.size_toArray, List.length_append, List.length_take, List.length_drop, Array.length_toList]
        omega
      · rw [htake, ← hlen]
        exact List.take_left
    · have holds : ∀ j u, xs[j]? = some u → w.cell? ((⟨g, 0, none⟩ : Addr).add j) = some u := hown.cells (g := g) rfl
      have hr' := run_append_grow (P := P) w t ty e i z ht hii hz ⟨g, 0, none⟩ n cap xs hown.1 holds ⟨ga, off, none⟩ m c news hl hnews (by omega) (by omega) (growslice_fits (by omega) hbytes)
      have hgr := grown cap (by omega)
      exact ⟨_, _, hr', hgr.1, .inr ⟨rfl, hgr.2⟩⟩
variable {ops : Array Oper} {rest : List Oper} {o : Oper} {a : Act} {Q : Exit → Act → World → Prop} {w : World}
theorem wpList_append_two (t : TypeId) (s x : Operand) (hg : Region.wanted o (yielded ops a.tmps) = true) (ho : o.op = .call { callee := .builtin .append, args := #[s, x], argTypes := #[t, t] })
    (base : Nat) (e : TypeId) (z : Value) (size bytes : Nat) (ht : P.underlying t = some (.slice e))
    (hi : (P.info? e).map (fun i => (i.zero, i.size, i.bytes)) = some (some z, size, bytes)) (hzs : z.cells.size = size) (hsz : 0 < size)
    (v : Value) (n : Nat) (xs : List Value) (hs : a.eval s = v) (hown : w.ownsRow base e size v n xs)
    (A : Option Addr) (m c : Nat) (news : List Value) (hx : a.eval x = .slice A m c) (hr : RdC w A m size news) (hm0 : 0 < m) (h1 : ∀ u ∈ news, u.oneCell' = true)
    (hbytes : (n + m) * bytes ≤ 140737488355328) (h63 : n + m ≤ 140737488355328) (hbase : base ≤ w.heap.size)
    (hK : ∀ v' w', w'.ownsRow base e size v' (n + m) (xs ++ news) → AppTwo w w' v n m v' → wpList P ops Q rest (a.put o.dst v') w') :
    wpList P ops Q (o :: rest) a w := by
  obtain ⟨v', w', h2, h3, h4⟩ := run_append_two (P := P) w base t o.type e z size bytes ht hi hzs hsz v n xs hown A m c news hr hm0 h1 hbytes h63 hbase
  refine wpList_val hg (v := v') (w1 := w') ?_ (hK v' w' h3 h4)
  simp [execOp, ho, resolve, invoke, builtin, hs, hx, h2, Result.andThen]
end

/-! ## rows handed out -/
structure Row where
  A : Option Addr
  n : Nat
  c : Nat
def Row.v (r : Row) : Value := .slice r.A r.n r.c
/-- row k's first n marks -/
def mkR (E : Nat → Nat → List Value) (k n : Nat) : List Value := flat (E k) (List.range n)
def RowsY (w : World) (e : TypeId) (s : Nat) (L : List Row) (Y : Nat → List Value) : Prop := ∀ (j : Nat) (r : Row), L[j]? = some r → w.ownsRow 0 e s r.v r.n (Y j)
def RowsM (w : World) (e : TypeId) (s : Nat) (L : List Row) (E : Nat → Nat → List Value) : Prop := ∀ (j : Nat) (r : Row), L[j]? = some r → w.ownsRow 0 e s r.v r.n (mkR E j r.n)
def Bks (L : List Row) : Nat → Prop := fun g => ∃ (j : Nat) (r : Row), L[j]? = some r ∧ r.v.ownBlock = some g
def AptR (L : List Row) : Prop := ∀ (i j : Nat) (r q : Row) (g : Nat), L[i]? = some r → L[j]? = some q → r.v.ownBlock = some g → q.v.ownBlock = some g → i = j
/-- the rows of H, below k, hold what Z tells; each lies in its elder's row or behind block G -/
def GRows (w : World) (e : TypeId) (s : Nat) (L H : List Row) (Z : Nat → Nat → List Value) (G k : Nat) : Prop :=
  ∀ (j : Nat), j < k → ∀ (r q : Row), L[j]? = some r → H[j]? = some q → q.n = r.n + 64 ∧ w.ownsRow 0 e s q.v q.n (Z j r.n) ∧ ∀ g, q.v.ownBlock = some g → r.v.ownBlock = some g ∨ G < g
section
variable {w w' w0 : World} {e : TypeId} {s : Nat} {L H : List Row} {Y : Nat → List Value} {E : Nat → Nat → List Value} {Z : Nat → Nat → List Value} {S : Nat → Prop} {G k : Nat}
theorem mkR_len (hE : ∀ k i, (E k i).length = s) (k n : Nat) : (mkR E k n).length = n * s := by unfold mkR; rw [flat_len (hE k), List.length_range]
theorem mkR_succ (k n : Nat) : mkR E k (n + 1) = mkR E k n ++ E k n := by unfold mkR; rw [List.range_succ, flat_append, flat_one]
theorem mkR_take (hE : ∀ k i, (E k i).length = s) (k : Nat) {i n : Nat} (h : i ≤ n) : (mkR E k n).take (i * s) = mkR E k i := by
  unfold mkR; rw [flat_take (hE k), List.take_range, Nat.min_eq_left h]
theorem mkR_at (hE : ∀ k i, (E k i).length = s) (k : Nat) {i n j : Nat} (h : i < n) (hj : j < s) : (mkR E k n)[i * s + j]? = (E k i)[j]? := by
  unfold mkR; rw [flat_at (hE k) _ _ _ hj, List.getElem?_range h]; rfl
theorem own_blk_eq {base n : Nat} {v : Value} {xs : List Value} {g : Nat} (h : w.ownsRow base e s v n xs) (hg : v.ownBlock = some g) :
    ∃ (cap : Nat) (cur : Array Value), v = .slice (some ⟨g, 0, none⟩) n cap ∧ base ≤ g ∧ Blk w g e cur ∧ n ≤ cap ∧ cap ≤ maxLen ∧ cur.size = cap * s ∧ cur.toList.take (n * s) = xs := by
  rcases h.2 with ⟨rfl, _⟩ | ⟨g', cap, cur, rfl, h1, h2, h3⟩
  · cases hg
  · injection hg with hg
    have hg : g' = g := hg
    subst hg
    exact ⟨cap, cur, rfl, h1, h2, h3⟩
theorem own_blk_lt {base n : Nat} {v : Value} {xs : List Value} {g : Nat} (h : w.ownsRow base e s v n xs) (hg : v.ownBlock = some g) : g < w.heap.size := by
  obtain ⟨_, _, _, _, hb, _⟩ := own_blk_eq h hg
  exact hb.lt
/-- a row whose row was written behind it -/
theorem AppTwo.keep {base n m k' : Nat} {v v' u : Value} {xs news ys : List Value} (h : AppTwo w w' v n m v') (hs : 0 < s) (hu : w.ownsRow base e s u k' ys) (hv : w.ownsRow base e s v n xs) (hv' : w'.ownsRow base e s v' (n + m) (xs ++ news))
    (hsh : ∀ g, u.ownBlock = some g → v.ownBlock = some g → k' ≤ n ∧ ys = xs.take (k' * s)) : w'.ownsRow base e s u k' ys := by
  rcases h with ⟨g, c, rfl, rfl, hm⟩ | ⟨_, hm⟩
  · by_cases hb : u.ownBlock = some g
    · obtain ⟨hk, hy⟩ := hsh g hb rfl
      obtain ⟨cap, cur, rfl, h1, h2, h3, h4, h5, h6⟩ := own_blk_eq hu hb
      obtain ⟨cur2, _, g2, _, _, g5, _⟩ := own_parts hv
      obtain ⟨cur3, _, q2, q3, q4, q5, q6⟩ := own_parts hv'
      have hcc : cur = cur2 := by
        unfold Blk at h2 g2; rw [h2] at g2; injection g2 with g2; injection g2
      have hcap : cap = c := by
        rw [hcc] at h5; exact Nat.eq_of_mul_eq_mul_right hs (h5.symm.trans g5)
      refine ⟨hu.1, .inr ⟨g, cap, cur3, rfl, h1, q2, h3, h4, by rw [q5, hcap], ?_⟩⟩
      have hle : k' * s ≤ (n + m) * s := Nat.mul_le_mul_right _ (by omega)
      have hxl := hv.1
      have hle2 : k' * s ≤ xs.length := by rw [hxl]; exact Nat.mul_le_mul_right _ hk
      have : cur3.toList.take (k' * s) = (cur3.toList.take ((n + m) * s)).take (k' * s) := by rw [List.take_take, Nat.min_eq_left hle]
      rw [this, q6, List.take_append_of_le_length hle2, hy]
    · exact own_mod hu hm (fun k hk e => by have e : k = g := e; subst e; exact hb hk)
  · exact own_mod hu hm (fun _ _ f => f)
theorem AppTwo.mod {v v' : Value} {n m : Nat} (h : AppTwo w w' v n m v') : Mod (fun g => v.ownBlock = some g) w w' := by
  rcases h with ⟨g, c, rfl, rfl, hm⟩ | ⟨_, hm⟩
  · exact hm.mono (fun k _ e => by have e : k = g := e; subst e; rfl)
  · exact hm.nn
theorem AppTwo.blk {v v' : Value} {n m g : Nat} (h : AppTwo w w' v n m v') (hg : v'.ownBlock = some g) : v.ownBlock = some g ∨ w.heap.size ≤ g := by
  rcases h with ⟨g', c, rfl, rfl, hm⟩ | ⟨h1, hm⟩
  · exact .inl hg
  · rw [h1] at hg; injection hg with hg; exact .inr (by omega)

theorem RowsM.mod (h : RowsM w e s L E) (hm : Mod S w w') (hS : ∀ g, Bks L g → ¬ S g) : RowsM w' e s L E :=
  fun j r hr => own_mod (h j r hr) hm (fun g hg => hS g ⟨j, r, hr, hg⟩)
theorem RowsM.lt (h : RowsM w e s L E) : ∀ g, Bks L g → g < w.heap.size := fun g ⟨j, r, hr, hg⟩ => own_blk_lt (h j r hr) hg
theorem RowsY.mod (h : RowsY w e s L Y) (hm : Mod S w w') (hS : ∀ g, Bks L g → ¬ S g) : RowsY w' e s L Y :=
  fun j r hr => own_mod (h j r hr) hm (fun g hg => hS g ⟨j, r, hr, hg⟩)
theorem RowsY.lt (h : RowsY w e s L Y) : ∀ g, Bks L g → g < w.heap.size := fun g ⟨j, r, hr, hg⟩ => own_blk_lt (h j r hr) hg
theorem RowsY.set (h : RowsY w e s L Y) (ha : AptR L) {r : Row} {g : Nat} (hr : L[k]? = some r) (hg : r.v.ownBlock = some g) (hm : Mod (At g) w w') {X : List Value} (hn : w'.ownsRow 0 e s r.v r.n X) :
    RowsY w' e s L (fun j => if j = k then X else Y j) := by
  intro j q hq
  by_cases hj : j = k
  · subst hj
    rw [hr] at hq; injection hq with hq; subst hq
    simpa using hn
  · simp only [if_neg hj]
    exact own_mod (h j q hq) hm (fun k' hk' e => by have e : k' = g := e; subst e; exact hj (ha j k q r k' hq hr hk' hg))
theorem RowsY.done (h : RowsY w e s L Y) (hY : ∀ j, j < L.length → ∀ r, L[j]? = some r → Y j = mkR E j r.n) : RowsM w e s L E := fun j r hr => by
  have := h j r hr
  rwa [hY j (List.getElem?_eq_some_iff.1 hr).1 r hr] at this
theorem GRows.zero : GRows w e s L H Z G 0 := fun j hj => absurd hj (by omega)
theorem GRows.mod (h : GRows w e s L H Z G k) (hm : Mod S w w') (hS : ∀ g, (Bks L g ∨ G < g) → g < w.heap.size → ¬ S g) : GRows w' e s L H Z G k := fun j hj r q hr hq => by
  obtain ⟨h1, h2, h3⟩ := h j hj r q hr hq
  exact ⟨h1, own_mod h2 hm (fun g hg => hS g ((h3 g hg).elim (fun x => .inl ⟨j, r, hr, x⟩) .inr) (own_blk_lt h2 hg)), h3⟩
theorem GRows.setH (h : GRows w e s L H Z G k) (q : Row) : GRows w e s L (H.set k q) Z G k := fun j hj r q' hr hq => by
  rw [List.getElem?_set_ne (by omega)] at hq
  exact h j hj r q' hr hq
theorem GRows.next (h : GRows w e s L H Z G k) {r q : Row} (hr : L[k]? = some r) (hq : H[k]? = some q) (h1 : q.n = r.n + 64) (h2 : w.ownsRow 0 e s q.v q.n (Z k r.n)) (h3 : ∀ g, q.v.ownBlock = some g → r.v.ownBlock = some g ∨ G < g) : GRows w e s L H Z G (k + 1) := fun j hj r' q' hr' hq' => by
  by_cases hjk : j = k
  · subst hjk
    rw [hr] at hr'; injection hr' with hr'; subst hr'
    rw [hq] at hq'; injection hq' with hq'; subst hq'
    exact ⟨h1, h2, h3⟩
  · exact h j (by omega) r' q' hr' hq'

/-- row k is being appended to: v holds its n marks and what came behind -/
structure Grow (w0 w : World) (e : TypeId) (s : Nat) (L H : List Row) (E : Nat → Nat → List Value) (Z : Nat → Nat → List Value) (G hb k : Nat) (r : Row) (v : Value) (n : Nat) (xs : List Value) : Prop where
  rows : RowsM w e s L E
  gs : GRows w e s L H Z G k
  md : Mod (Bks L) w0 w
  hv : w.ownsRow 0 e s v n xs
  pre : r.n ≤ n ∧ mkR E k r.n = xs.take (r.n * s)
  lies : ∀ g, v.ownBlock = some g → r.v.ownBlock = some g ∨ hb ≤ g
theorem Grow.step {r : Row} {v v' : Value} {n m hb : Nat} {xs news : List Value} (h : Grow w0 w e s L H E Z G hb k r v n xs) (hs : 0 < s) (ha : AptR L) (hr : L[k]? = some r) (hL0 : ∀ g, Bks L g → g < w0.heap.size) (hG : w0.heap.size ≤ G) (hhb : G < hb)
    (hbw : hb ≤ w.heap.size) (hH : ∀ j, j < k → ∀ q, H[j]? = some q → ∀ g, q.v.ownBlock = some g → g < hb) (hk : k < L.length)
    (hv' : w'.ownsRow 0 e s v' (n + m) (xs ++ news)) (ht : AppTwo w w' v n m v') : Grow w0 w' e s L H E Z G hb k r v' (n + m) (xs ++ news) ∧ ∀ g, g ≤ G → ¬ Bks L g → g < w.heap.size → w'.heap[g]? = w.heap[g]? := by
  have hle : r.n * s ≤ n * s := Nat.mul_le_mul_right _ h.pre.1
  refine ⟨⟨fun j q hq => ?_, fun j hj r' q hr' hq => ?_, ?_, hv', ⟨by have := h.pre.1; omega, ?_⟩, fun g hg => ?_⟩, fun g hg hnb hgs => ?_⟩
  · refine ht.keep hs (h.rows j q hq) h.hv hv' (fun g hg hvg => ?_)
    rcases h.lies g hvg with h1 | h1
    · have hjk := ha j k q r g hq hr hg h1
      subst hjk
      rw [hq] at hr; injection hr with hr; subst hr
      exact h.pre
    · have := hL0 g ⟨j, q, hq, hg⟩; omega
  · obtain ⟨h1, h2, h3⟩ := h.gs j hj r' q hr' hq
    refine ⟨h1, ht.keep hs h2 h.hv hv' (fun g hg hvg => ?_), h3⟩
    exfalso
    rcases h.lies g hvg with h4 | h4
    · rcases h3 g hg with h5 | h5
      · have := ha j k r' r g hr' hr h5 h4; omega
      · have := hL0 g ⟨k, r, hr, h4⟩; omega
    · have := hH j hj q hq g hg; omega
  · refine h.md.then_ ht.mod (fun g hg0 hvg => ?_)
    rcases h.lies g hvg with h4 | h4
    · exact ⟨k, r, hr, h4⟩
    · omega
  · rw [List.take_append_of_le_length (by rw [h.hv.1]; exact hle)]; exact h.pre.2
  · rcases ht.blk hg with h1 | h1
    · exact h.lies g h1
    · exact .inr (by omega)
  · refine ht.mod.block g hgs (fun hvg => ?_)
    rcases h.lies g hvg with h4 | h4
    · exact hnb ⟨k, r, hr, h4⟩
    · omega
theorem Grow.mod {r : Row} {v : Value} {n hb : Nat} {xs : List Value} (h : Grow w0 w e s L H E Z G hb k r v n xs) (hm : Mod Nn w w') : Grow w0 w' e s L H E Z G hb k r v n xs :=
  ⟨h.rows.mod hm (fun _ _ f => f), h.gs.mod hm (fun _ _ _ f => f), h.md.nn_ hm, own_mod h.hv hm (fun _ _ f => f), h.pre, h.lies⟩
theorem Grow.start (h : RowsM w e s L E) (hs : ∀ k i, (E k i).length = s) (hg : GRows w e s L H Z G k) (hm : Mod (Bks L) w0 w) {r : Row} (hr : L[k]? = some r) (hb : Nat) : Grow w0 w e s L H E Z G hb k r r.v r.n (mkR E k r.n) :=
  ⟨h, hg, hm, h k r hr, ⟨Nat.le_refl _, by rw [mkR_take hs k (Nat.le_refl _)]⟩, fun g hg => .inl hg⟩
/-- the row is laid into the list G of rows -/
theorem Grow.put {r : Row} {A : Option Addr} {n c hb m : Nat} {xs : List Value} {t : TypeId} (h : Grow w0 w e s L H E Z G hb k r (.slice A n c) n xs) (hn : n = r.n + 64) (hx : xs = Z k r.n) (hB : Blk w G t (H.map Row.v).toArray)
    (hr : L[k]? = some r) (hm : H.length = m) (hk : k < m) (hhb : G < hb) (hG : w0.heap.size ≤ G) (hL0 : ∀ g, Bks L g → g < w0.heap.size) :
    (H.set k ⟨A, n, c⟩).length = m ∧ Blk (w.setCell ⟨G, k, none⟩ (.slice A n c)) G t ((H.set k ⟨A, n, c⟩).map Row.v).toArray ∧ RowsM (w.setCell ⟨G, k, none⟩ (.slice A n c)) e s L E ∧
      GRows (w.setCell ⟨G, k, none⟩ (.slice A n c)) e s L (H.set k ⟨A, n, c⟩) Z G (k + 1) ∧ Mod (Bks L) w0 (w.setCell ⟨G, k, none⟩ (.slice A n c)) := by
  have hm' : Mod (At G) w (w.setCell ⟨G, k, none⟩ (.slice A n c)) := Mod.cellAt _ _ _ _
  refine ⟨by rw [List.length_set]; exact hm, ?_, h.rows.mod hm' (fun g hg e => ?_), ?_, h.md.new_ hm' hG⟩
  · have := hB.set_ k (.slice A n c)
    rw [List.setIfInBounds_toArray] at this
    rw [List.map_set]
    exact this
  · have e : g = G := e
    have := hL0 g hg; omega
  · have hv := own_mod h.hv hm' (fun g hg e => by
      have e : g = G := e
      rcases h.lies g hg with h1 | h1
      · have := hL0 g ⟨k, r, hr, h1⟩; omega
      · omega)
    refine ((h.gs.mod hm' (fun g hg hgs e => ?_)).setH ⟨A, n, c⟩).next hr (List.getElem?_set_self (by omega)) hn (by rw [← hx]; exact hv) (fun g hg => ?_)
    · have e : g = G := e
      rcases hg with hg | hg
      · have := hL0 g hg; omega
      · omega
    · rcases h.lies g hg with h1 | h1
      · exact .inl h1
      · exact .inr (by omega)
theorem GRows.blk_lt (h : GRows w e s L H Z G k) (hk : k ≤ L.length) : ∀ j, j < k → ∀ q, H[j]? = some q → ∀ g, q.v.ownBlock = some g → g < w.heap.size := fun j hj q hq g hg => by
  obtain ⟨_, h2, _⟩ := h j hj L[j] q (List.getElem?_eq_getElem (by omega)) hq
  exact own_blk_lt h2 hg
theorem rows_nil (m : Nat) : (Array.replicate m (Value.slice none 0 0)) = ((List.replicate m (⟨none, 0, 0⟩ : Row)).map Row.v).toArray := by
  rw [List.map_replicate, ← List.toArray_replicate]; rfl
theorem set_take {α : Type} : ∀ (l : List α) (q : Nat) (v : α), q < l.length → (l.set q v).take (q + 1) = l.take q ++ [v]
  | [], q, v, h => by simp at h
  | x :: l, 0, v, h => by simp
  | x :: l, q + 1, v, h => by simp [set_take l q v (by simpa using h)]
theorem pad_set {α : Type} (a : List α) (n : Nat) (z v : α) (h : 0 < n) : (a ++ List.replicate n z).set a.length v = a ++ [v] ++ List.replicate (n - 1) z := by
  rw [List.set_append_right _ _ (Nat.le_refl _), Nat.sub_self]
  obtain ⟨k, rfl⟩ : ∃ k, n = k + 1 := ⟨n - 1, by omega⟩
  rw [List.replicate_succ, List.set_cons_zero, List.append_assoc]; rfl
end
end Go.Proofs.Ytjndcgpfikngaaa
