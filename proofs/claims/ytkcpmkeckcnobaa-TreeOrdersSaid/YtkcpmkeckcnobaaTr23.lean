/- A tree's nodes: in plain words, and in memory. -/
import Derived.Test.YtkcpmkeckcnobaaTr22
namespace Go.Proofs.Ytkcpmkeckcnobaa
open Go.RowKit

/-- a node in plain words -/
structure PN where
  leaf : Bool
  ents : List (List Nat)
  keys : List (List Nat)
  kids : List Nat
/-- a kid's nodes: its entries, its size, its nodes, its place -/
structure KQ where
  L : List (List Nat)
  k : Nat
  ms : List PN
  i : Nat
def msOf (qs : List KQ) : List PN := qs.flatMap (·.ms)
def entsQ (qs : List KQ) : List (List Nat) := qs.flatMap (·.L)
/-- the nodes of a part, from place b on -/
def NodesIs : Nat → List (List Nat) → Nat → Nat → List PN → Nat → Prop
  | 0, L, k, b, Ms, i => Ms = [⟨true, L, [], []⟩] ∧ i = b ∧ k = L.length
  | d + 1, L, k, b, Ms, i => ∃ (ks : List (List Nat)) (qs : List KQ), Ms = msOf qs ++ [⟨false, [], ks, qs.map (·.i)⟩] ∧ i = b + (msOf qs).length ∧ L = entsQ qs ∧ k = qs.length ∧ ks.length + 1 = qs.length ∧ Rows 40 ks ∧ ks.Pairwise klt ∧
      (∀ j κ, ks[j]? = some κ → Ahead (entsQ (qs.take (j + 1))) κ ∧ ∀ r ∈ entsQ (qs.drop (j + 1)), ¬ klt (keyOf r) κ) ∧ ∀ j q, qs[j]? = some q → NodesIs d q.L q.k (b + (msOf (qs.take j)).length) q.ms q.i ∧ loB d ≤ q.k ∧ q.k ≤ hiB d
/-- a node in memory: its slices -/
structure TN where
  n : PN
  eA : Option Addr
  ec : Nat
  kA : Option Addr
  kc : Nat
  cA : Option Addr
  cc : Nat
def TN.cells (t : TN) : List Value := [.bool t.n.leaf, .slice t.eA t.n.ents.length t.ec, .slice t.kA t.n.keys.length t.kc, .slice t.cA t.n.kids.length t.cc]
theorem TN.len (t : TN) : t.cells.length = 4 := rfl
/-- the blocks of a node's rows -/
def TN.rows (t : TN) (g : Nat) : Prop := Of t.eA g ∨ Of t.kA g ∨ Of t.cA g
def TN.Far (t u : TN) : Prop := ∀ g, t.rows g → ¬ u.rows g
def iv (l : List Nat) : List Value := l.map (fun (z : Nat) => Value.int .i64 (Int.ofNat z))
structure TN.Ok (t : TN) (w : World) (base : Nat) : Prop where
  e : Hold w 28 80 t.eA t.n.ents.length t.ec (bv t.n.ents.flatten)
  k : Hold w 23 40 t.kA t.n.keys.length t.kc (bv t.n.keys.flatten)
  c : Hold w 3 1 t.cA t.n.kids.length t.cc (iv t.n.kids)
  er : Rows 80 t.n.ents
  kr : Rows 40 t.n.keys
  b : ∀ g, t.rows g → base ≤ g
/-- blocks of other types are not a row's -/
theorem hold_ne {w : World} {e t : TypeId} {s n c g : Nat} {A : Option Addr} {xs : List Value} {cs : Array Value} (h : Hold w e s A n c xs) (hb : Blk w g t cs) (hne : t ≠ e) : ¬ Of A g := fun hg => by
  obtain ⟨a, rfl, rfl⟩ := hg
  rcases h.2 with ⟨h0, _⟩ | ⟨g', cur, e', hb', _⟩
  · cases h0
  · injection e' with e'; subst e'
    exact Blk.ne_ hb hb' hne rfl
/-- the list behind a box -/
structure LAt (w : World) (base bl : Nat) (v : Value) (Ts : List TN) : Prop where
  box : Blk w bl 72 #[v]
  row : w.ownsRow base 77 4 v Ts.length (flat TN.cells Ts)
  ok : ∀ t ∈ Ts, t.Ok w base
  hb : base ≤ bl
  ap : Ts.Pairwise TN.Far
def LSet (v : Value) (bl : Nat) : Nat → Prop := fun g => g = bl ∨ v.ownBlock = some g
section
variable {w w' : World} {base bl : Nat} {v : Value} {Ts : List TN}
theorem TN.Ok.mod {t : TN} {S : Nat → Prop} (h : t.Ok w base) (hm : Mod S w w') (hS : ∀ g, t.rows g → ¬ S g) : t.Ok w' base :=
  ⟨h.e.mod hm (fun g hg => hS g (.inl hg)), h.k.mod hm (fun g hg => hS g (.inr (.inl hg))), h.c.mod hm (fun g hg => hS g (.inr (.inr hg))), h.er, h.kr, h.b⟩
theorem LAt.nn (h : LAt w base bl v Ts) (hm : Mod Nn w w') : LAt w' base bl v Ts :=
  ⟨h.box.mod hm (fun f => f), own_mod h.row hm (fun _ _ f => f), fun t ht => (h.ok t ht).mod hm (fun _ _ f => f), h.hb, h.ap⟩
/-- no node's rows lie in the list's own row, or the box -/
theorem LAt.far (h : LAt w base bl v Ts) {t : TN} (ht : t ∈ Ts) : ∀ g, t.rows g → ¬ LSet v bl g := fun g hg hs => by
  have hk := h.ok t ht
  have key : ∀ (T : TypeId) (cs : Array Value), Blk w g T cs → T ≠ 28 → T ≠ 23 → T ≠ 3 → False := fun T cs hb h1 h2 h3 => by
    rcases hg with hg | hg | hg
    · exact hold_ne hk.e hb h1 hg
    · exact hold_ne hk.k hb h2 hg
    · exact hold_ne hk.c hb h3 hg
  rcases hs with rfl | hs
  · exact key _ _ h.box (by decide) (by decide) (by decide)
  · obtain ⟨_, _, _, _, hb, _⟩ := own_blk_eq h.row hs
    exact key _ _ hb (by decide) (by decide) (by decide)
end
def NodesP (w : World) (d : Nat) (L : List (List Nat)) (k : Nat) (base bl : Nat) (v : Value) (Ts : List TN) (r : Ending) (w' : World) : Prop :=
  ∃ (v' : Value) (Us : List TN) (i : Nat), r = .returned (.int .i64 i) ∧ NodesIs d L k Ts.length (Us.map (·.n)) i ∧ LAt w' base bl v' (Ts ++ Us) ∧ Mod (LSet v bl) w w' ∧ (∀ g, v'.ownBlock = some g → v.ownBlock = some g ∨ w.heap.size ≤ g) ∧ ∀ t ∈ Us, ∀ g, t.rows g → w.heap.size ≤ g
end Go.Proofs.Ytkcpmkeckcnobaa
