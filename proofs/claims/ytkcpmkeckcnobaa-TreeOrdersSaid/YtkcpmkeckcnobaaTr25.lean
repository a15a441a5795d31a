/- tree.nodes of an inner: what the loop over the kids keeps in memory. -/
import Derived.Test.YtkcpmkeckcnobaaTr24
namespace Go.Proofs.Ytkcpmkeckcnobaa
open Go.RowKit

/-- blocks of rows of two types are not the same -/
theorem hold_hold {w : World} {e t : TypeId} {s n c s' n' c' g : Nat} {A B : Option Addr} {xs ys : List Value} (h : Hold w e s A n c xs) (h' : Hold w t s' B n' c' ys) (hne : t ≠ e) (hg : Of A g) : ¬ Of B g := fun hb => by
  obtain ⟨a, rfl, rfl⟩ := hb
  rcases h'.2 with ⟨h0, _⟩ | ⟨g', cur, e', hb', _⟩
  · cases h0
  · injection e' with e'; subst e'
    exact hold_ne h hb' hne hg
/-- n0: the block of the node that is being made -/
structure InnM (w wr : World) (n0 base bl : Nat) (lv : Value) (Ts : List TN) (ks : List (List Nat)) (K : Option Addr) (kc : Nat) (lu : Value) (Us : List TN) (zs : List Nat) (A : Option Addr) (c : Nat) : Prop where
  blk : Blk wr n0 77 #[.bool false, .slice none 0 0, .slice K ks.length kc, .slice A zs.length c]
  krow : Hold wr 23 40 K ks.length kc (bv ks.flatten)
  crow : Hold wr 3 1 A zs.length c (iv zs)
  lat : LAt wr base bl lu (Ts ++ Us)
  md : Mod (LSet lv bl) w wr
  own : ∀ g, lu.ownBlock = some g → lv.ownBlock = some g ∨ w.heap.size ≤ g
  on0 : lu.ownBlock ≠ some n0
  bn0 : bl ≠ n0
  n0w : w.heap.size ≤ n0
  far : ∀ t ∈ Ts ++ Us, ∀ g, t.rows g → ¬ Of K g ∧ ¬ Of A g
  fresh : ∀ t ∈ Us, ∀ g, t.rows g → w.heap.size ≤ g
  kf : ∀ g, Of K g → w.heap.size ≤ g
  cf : ∀ g, Of A g → w.heap.size ≤ g
section
variable {w wr wz w' : World} {n0 base bl : Nat} {lv lu lx : Value} {Ts Us Xs : List TN} {ks : List (List Nat)} {K A : Option Addr} {kc c : Nat} {zs : List Nat}
theorem LSet.at_ (hl : LAt w base bl lv Ts) {g : Nat} (h : LSet lv bl g) : base ≤ g ∧ g < w.heap.size := by
  rcases h with rfl | h
  · exact ⟨hl.hb, hl.box.lt⟩
  · obtain ⟨_, _, _, hg, hb, _⟩ := own_blk_eq hl.row h
    exact ⟨hg, hb.lt⟩
theorem InnM.nn (h : InnM w wr n0 base bl lv Ts ks K kc lu Us zs A c) (hm : Mod Nn wr w') : InnM w w' n0 base bl lv Ts ks K kc lu Us zs A c :=
  ⟨h.blk.mod hm (fun f => f), h.krow.nn hm, h.crow.nn hm, h.lat.nn hm, h.md.nn_ hm, h.own, h.on0, h.bn0, h.n0w, h.far, h.fresh, h.kf, h.cf⟩
theorem InnM.call (h : InnM w wr n0 base bl lv Ts ks K kc lu Us zs A c) (hl : LAt w' base bl lx ((Ts ++ Us) ++ Xs)) (hm : Mod (LSet lu bl) wr w') (ho : ∀ g, lx.ownBlock = some g → lu.ownBlock = some g ∨ wr.heap.size ≤ g) (hf : ∀ t ∈ Xs, ∀ g, t.rows g → wr.heap.size ≤ g) : InnM w w' n0 base bl lv Ts ks K kc lx (Us ++ Xs) zs A c := by
  have hn0 := h.blk.lt
  have hsz := h.md.size
  have key : ∀ (T : TypeId) (s n cc : Nat) (B : Option Addr) (xs : List Value), Hold wr T s B n cc xs → 72 ≠ T → 77 ≠ T → ∀ g, Of B g → ¬ LSet lu bl g := fun T s n cc B xs hh h1 h2 g hg hs => by
    rcases hs with rfl | hs
    · exact hold_ne hh h.lat.box h1 hg
    · obtain ⟨_, _, _, _, hb, _⟩ := own_blk_eq h.lat.row hs
      exact hold_ne hh hb h2 hg
  refine ⟨h.blk.mod hm (fun hs => hs.elim (fun e => h.bn0 e.symm) h.on0), h.krow.mod hm (key _ _ _ _ _ _ h.krow (by decide) (by decide)), h.crow.mod hm (key _ _ _ _ _ _ h.crow (by decide) (by decide)), by rw [← List.append_assoc]; exact hl, h.md.then_ hm (fun g hg hs => hs.elim .inl (fun hs => (h.own g hs).elim .inr (fun h => by omega))), fun g hg => (ho g hg).elim (h.own g) (fun h => .inr (by omega)), fun e => (ho n0 e).elim h.on0 (fun h => by omega), h.bn0, h.n0w, fun t ht g hg => ?_, fun t ht g hg => ?_, h.kf, h.cf⟩
  · rw [← List.append_assoc] at ht
    rcases List.mem_append.1 ht with ht | ht
    · exact h.far t ht g hg
    · have := hf t ht g hg
      exact ⟨fun hk => by have := h.krow.lt hk; omega, fun hk => by have := h.crow.lt hk; omega⟩
  · rcases List.mem_append.1 ht with ht | ht
    · exact h.fresh t ht g hg
    · have := hf t ht g hg; omega
theorem InnM.app {A' : Option Addr} {c' z : Nat} (h : InnM w wr n0 base bl lv Ts ks K kc lu Us zs A c) (hh : Hold w' 3 1 A' (zs.length + 1) c' (iv zs ++ [.int .i64 (Int.ofNat z)])) (hm : Mod (Of A) wr w') (hA : ∀ g, Of A' g → Of A g ∨ wr.heap.size ≤ g) : InnM w (w'.setCell ⟨n0, 3, none⟩ (.slice A' (zs.length + 1) c')) n0 base bl lv Ts ks K kc lu Us (zs ++ [z]) A' c' := by
  have hn0 := h.blk.lt
  have hbl := h.lat.box.lt
  have hsz := h.md.size
  have m1 : Mod (At n0) w' (w'.setCell ⟨n0, 3, none⟩ (.slice A' (zs.length + 1) c')) := Mod.cellAt _ _ _ _
  have hAn : ¬ Of A n0 := hold_ne h.crow h.blk (by decide)
  have hAb : ¬ Of A bl := hold_ne h.crow h.lat.box (by decide)
  have hAn' : ¬ Of A' n0 := fun e => (hA n0 e).elim hAn (fun h => by omega)
  have hKn : ¬ Of K n0 := hold_ne h.krow h.blk (by decide)
  have mm : Mod (fun g => Of A g ∨ g = n0) wr (w'.setCell ⟨n0, 3, none⟩ (.slice A' (zs.length + 1) c')) := (hm.mono (fun _ _ e => .inl e)).trans (m1.mono (fun _ _ e => .inr e))
  have hrn : ∀ t ∈ Ts ++ Us, ¬ t.rows n0 := fun t ht hr => by
    have ho := h.lat.ok t ht
    rcases hr with hr | hr | hr
    · exact hold_ne ho.e h.blk (by decide) hr
    · exact hold_ne ho.k h.blk (by decide) hr
    · exact hold_ne ho.c h.blk (by decide) hr
  have hown : ∀ g, lu.ownBlock = some g → ¬ (Of A g ∨ g = n0) := fun g hg e => by
    rcases e with e | rfl
    · obtain ⟨_, _, _, _, hb, _⟩ := own_blk_eq h.lat.row hg
      exact hold_ne h.crow hb (by decide) e
    · exact h.on0 hg
  refine ⟨?_, h.krow.mod mm (fun g hg e => ?_), ?_, ⟨h.lat.box.mod mm (fun e => e.elim hAb h.bn0), own_mod h.lat.row mm hown, fun t ht => (h.lat.ok t ht).mod mm (fun g hg e => ?_), h.lat.hb, h.lat.ap⟩, h.md.then_ mm (fun g hg e => ?_), h.own, h.on0, h.bn0, h.n0w, fun t ht g hg => ⟨(h.far t ht g hg).1, fun e => ?_⟩, h.fresh, h.kf, fun g hg => ?_⟩
  · rw [List.length_append]; exact (h.blk.mod hm hAn).set_ 3 _
  · rcases e with e | rfl
    · exact hold_hold h.krow h.crow (by decide) hg e
    · exact hKn hg
  · rw [List.length_append]
    have := hh.mod m1 (fun g hg e => hAn' (by have e : g = n0 := e; exact e ▸ hg))
    simpa [iv] using this
  · rcases e with e | rfl
    · exact (h.far t ht g hg).2 e
    · exact hrn t ht hg
  · rcases e with e | rfl
    · have := h.cf g e; omega
    · have := h.n0w; omega
  · rcases hA g e with e | e
    · exact (h.far t ht g hg).2 e
    · have := (h.lat.ok t ht).lt g hg; omega
  · rcases hA g hg with e | e
    · exact h.cf g e
    · omega
end
end Go.Proofs.Ytkcpmkeckcnobaa
