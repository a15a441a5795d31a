/- Own lemmas of several kinds, put together: Tr23, Tr24, Tr25, Tr26, Tr28. -/
import Derived.Test.YtkcpmkeckcnobaaTrH
import Derived.Test.YtkcpmkeckcnobaaSlO
import Derived.Test.YtkcpmkeckcnobaaKitF
/- A tree's nodes: in plain words, and in memory. -/
namespace Go.Proofs.Ytkcpmkeckcnobaa
open Go.RowKit

/-- a node in plain words -/
structure PN where
  leaf : Bool
  ents : List (List Nat)
  keys : List (List Nat)
  kids : List Nat
/-- a kid's nodes: its entries, its size, its nodes, its place -/
structure KQ where
  L : List (List Nat)
  k : Nat
  ms : List PN
  i : Nat
def msOf (qs : List KQ) : List PN := qs.flatMap (·.ms)
def entsQ (qs : List KQ) : List (List Nat) := qs.flatMap (·.L)
/-- the nodes of a part, from place b on -/
def NodesIs : Nat → List (List Nat) → Nat → Nat → List PN → Nat → Prop
  | 0, L, k, b, Ms, i => Ms = [⟨true, L, [], []⟩] ∧ i = b ∧ k = L.length
  | d + 1, L, k, b, Ms, i => ∃ (ks : List (List Nat)) (qs : List KQ), Ms = msOf qs ++ [⟨false, [], ks, qs.map (·.i)⟩] ∧ i = b + (msOf qs).length ∧ L = entsQ qs ∧ k = qs.length ∧ ks.length + 1 = qs.length ∧ Rows 40 ks ∧ ks.Pairwise klt ∧
      (∀ j κ, ks[j]? = some κ → Ahead (entsQ (qs.take (j + 1))) κ ∧ ∀ r ∈ entsQ (qs.drop (j + 1)), ¬ klt (keyOf r) κ) ∧ ∀ j q, qs[j]? = some q → NodesIs d q.L q.k (b + (msOf (qs.take j)).length) q.ms q.i ∧ loB d ≤ q.k ∧ q.k ≤ hiB d
/-- a node in memory: its slices -/
structure TN where
  n : PN
  eA : Option Addr
  ec : Nat
  kA : Option Addr
  kc : Nat
  cA : Option Addr
  cc : Nat
def TN.cells (t : TN) : List Value := [.bool t.n.leaf, .slice t.eA t.n.ents.length t.ec, .slice t.kA t.n.keys.length t.kc, .slice t.cA t.n.kids.length t.cc]
theorem TN.len (t : TN) : t.cells.length = 4 := rfl
/-- the blocks of a node's rows -/
def TN.rows (t : TN) (g : Nat) : Prop := Of t.eA g ∨ Of t.kA g ∨ Of t.cA g
def TN.Far (t u : TN) : Prop := ∀ g, t.rows g → ¬ u.rows g
def iv (l : List Nat) : List Value := l.map (fun (z : Nat) => Value.int .i64 (Int.ofNat z))
structure TN.Ok (t : TN) (w : World) (base : Nat) : Prop where
  e : w.ownsRow base 28 80 (.slice t.eA t.n.ents.length t.ec) t.n.ents.length (bv t.n.ents.flatten)
  k : w.ownsRow base 23 40 (.slice t.kA t.n.keys.length t.kc) t.n.keys.length (bv t.n.keys.flatten)
  c : w.ownsRow base 3 1 (.slice t.cA t.n.kids.length t.cc) t.n.kids.length (iv t.n.kids)
  er : Rows 80 t.n.ents
  kr : Rows 40 t.n.keys
  b : ∀ g, t.rows g → base ≤ g
section
variable {t : TN} {w : World} {base : Nat}
theorem TN.Ok.eh (h : t.Ok w base) : Hold w 28 80 t.eA t.n.ents.length t.ec (bv t.n.ents.flatten) := Hold.of_own h.e
theorem TN.Ok.kh (h : t.Ok w base) : Hold w 23 40 t.kA t.n.keys.length t.kc (bv t.n.keys.flatten) := Hold.of_own h.k
theorem TN.Ok.ch (h : t.Ok w base) : Hold w 3 1 t.cA t.n.kids.length t.cc (iv t.n.kids) := Hold.of_own h.c
end
theorem own_of_ge {w : World} {base n c s : Nat} {e : TypeId} {A : Option Addr} {xs : List Value} (h : w.ownsRow base e s (.slice A n c) n xs) : ∀ g, Of A g → base ≤ g := fun g hg => by
  obtain ⟨_, _, _, h1, _⟩ := own_blk_eq h (of_own hg)
  exact h1
/-- blocks of other types are not a row's -/
theorem hold_ne {w : World} {e t : TypeId} {s n c g : Nat} {A : Option Addr} {xs : List Value} {cs : Array Value} (h : Hold w e s A n c xs) (hb : Blk w g t cs) (hne : t ≠ e) : ¬ Of A g := fun hg => by
  obtain ⟨a, rfl, rfl⟩ := hg
  rcases h.2 with ⟨h0, _⟩ | ⟨g', cur, e', hb', _⟩
  · cases h0
  · injection e' with e'; subst e'
    exact Blk.ne_ hb hb' hne rfl
/-- the list behind a box -/
structure LAt (w : World) (base bl : Nat) (v : Value) (Ts : List TN) : Prop where
  box : Blk w bl 72 #[v]
  row : w.ownsRow base 77 4 v Ts.length (flat TN.cells Ts)
  ok : ∀ t ∈ Ts, t.Ok w base
  hb : base ≤ bl
  ap : Ts.Pairwise TN.Far
def LSet (v : Value) (bl : Nat) : Nat → Prop := fun g => g = bl ∨ v.ownBlock = some g
section
variable {w w' : World} {base bl : Nat} {v : Value} {Ts : List TN}
theorem TN.Ok.mod {t : TN} {S : Nat → Prop} (h : t.Ok w base) (hm : Mod S w w') (hS : ∀ g, t.rows g → ¬ S g) : t.Ok w' base :=
  ⟨own_mod h.e hm (fun g hg => hS g (.inl (own_of hg))), own_mod h.k hm (fun g hg => hS g (.inr (.inl (own_of hg)))), own_mod h.c hm (fun g hg => hS g (.inr (.inr (own_of hg)))), h.er, h.kr, h.b⟩
theorem LAt.nn (h : LAt w base bl v Ts) (hm : Mod Nn w w') : LAt w' base bl v Ts :=
  ⟨h.box.mod hm (fun f => f), own_mod h.row hm (fun _ _ f => f), fun t ht => (h.ok t ht).mod hm (fun _ _ f => f), h.hb, h.ap⟩
/-- no node's rows lie in the list's own row, or the box -/
theorem LAt.far (h : LAt w base bl v Ts) {t : TN} (ht : t ∈ Ts) : ∀ g, t.rows g → ¬ LSet v bl g := fun g hg hs => by
  have hk := h.ok t ht
  have key : ∀ (T : TypeId) (cs : Array Value), Blk w g T cs → T ≠ 28 → T ≠ 23 → T ≠ 3 → False := fun T cs hb h1 h2 h3 => by
    rcases hg with hg | hg | hg
    · exact hold_ne hk.eh hb h1 hg
    · exact hold_ne hk.kh hb h2 hg
    · exact hold_ne hk.ch hb h3 hg
  rcases hs with rfl | hs
  · exact key _ _ h.box (by decide) (by decide) (by decide)
  · obtain ⟨_, _, _, _, hb, _⟩ := own_blk_eq h.row hs
    exact key _ _ hb (by decide) (by decide) (by decide)
end
def NodesP (w : World) (d : Nat) (L : List (List Nat)) (k : Nat) (base bl : Nat) (v : Value) (Ts : List TN) (r : Ending) (w' : World) : Prop :=
  ∃ (v' : Value) (Us : List TN) (i : Nat), r = .returned (.int .i64 i) ∧ NodesIs d L k Ts.length (Us.map (·.n)) i ∧ LAt w' base bl v' (Ts ++ Us) ∧ Mod (LSet v bl) w w' ∧ (∀ g, v'.ownBlock = some g → v.ownBlock = some g ∨ w.heap.size ≤ g) ∧ ∀ t ∈ Us, ∀ g, t.rows g → w.heap.size ≤ g
end Go.Proofs.Ytkcpmkeckcnobaa

/- tree.nodes of a leaf. -/
namespace Go.Proofs.Ytkcpmkeckcnobaa
open Go.RowKit

def zN : Value := .agg #[.bool false, .slice none 0 0, .slice none 0 0, .slice none 0 0]
theorem infoNt : (Try.prog.info? 77).map (fun i => (i.zero, i.size, i.bytes)) = some (some zN, 4, 80) := by kernel_rfl
theorem infoN2 : (Try.prog.info? 77).map (fun i => (i.zero, i.size)) = some (some zN, 4) := by kernel_rfl
theorem zeroN : (Try.prog.info? 77).map (·.zero) = some (some zN) := by kernel_rfl
theorem sizeN : (Try.prog.info? 77).map (·.size) = some 4 := by kernel_rfl
theorem uuN : Try.prog.underlying 72 = some (.slice 77) := Try.underlying72
theorem size_slN : (Try.prog.info? 72).map (·.size) = some 1 := by kernel_rfl
section
variable {w w' : World} {base bl : Nat} {v v' : Value} {Ts : List TN} {t : TN}
theorem exec_leafN {o : Oper} {a : Act} {x : Operand} {A : Option Addr} {n c : Nat} (ho : o.op = .build 77 #[(0, .const (.bool true)), (1, x)]) (hx : a.eval x = .slice A n c) : (execOp a.eval o).run Try.prog w = .ok (.value (.agg #[.bool true, .slice A n c, .slice none 0 0, .slice none 0 0])) w := by
  have hc : cellsOf [.bool true, .slice A n c] = [.bool true, .slice A n c] := rfl
  have := exec_build_seq (P := Try.prog) (w := w) (a := a) 77 _ [.bool true, .slice A n c] ho zeroN (zs := [.bool false, .slice none 0 0, .slice none 0 0, .slice none 0 0]) rfl (by rw [hc]; simp) Try.underlying77 [(0, 1), (1, 1), (2, 1), (3, 1)] (by kernel_rfl)
    (fun i q hq => by
      have e : offs 0 [.bool true, .slice A n c] = [(0, 1), (1, 1)] := rfl
      rw [e] at hq
      match i, hq with
      | 0, hq => exact hq
      | 1, hq => exact hq) (by
      have e : a.eval (.const (.bool true)) = .bool true := rfl
      simp [hx, e, List.zipIdx])
  exact this
/-- no node's rows lie in the list's own row, or the box -/
theorem LAt.far_ (h : LAt w base bl v Ts) (hk : t.Ok w base) : ∀ g, t.rows g → ¬ LSet v bl g := fun g hg hs => by
  have key : ∀ (T : TypeId) (cs : Array Value), Blk w g T cs → T ≠ 28 → T ≠ 23 → T ≠ 3 → False := fun T cs hb h1 h2 h3 => by
    rcases hg with hg | hg | hg
    · exact hold_ne hk.eh hb h1 hg
    · exact hold_ne hk.kh hb h2 hg
    · exact hold_ne hk.ch hb h3 hg
  rcases hs with rfl | hs
  · exact key _ _ h.box (by decide) (by decide) (by decide)
  · obtain ⟨_, _, _, _, hb, _⟩ := own_blk_eq h.row hs
    exact key _ _ hb (by decide) (by decide) (by decide)
/-- the box is not the row's block -/
theorem LAt.own_ne (h : LAt w base bl v Ts) : v.ownBlock ≠ some bl := fun hs => by
  obtain ⟨_, _, _, _, hb, _⟩ := own_blk_eq h.row hs
  exact h.box.ne_ hb (by decide) rfl
theorem TN.Ok.lt (h : t.Ok w base) : ∀ g, t.rows g → g < w.heap.size := fun g hg => by
  rcases hg with hg | hg | hg
  · exact h.eh.lt hg
  · exact h.kh.lt hg
  · exact h.ch.lt hg
/-- one node more -/
theorem LAt.push (h : LAt w base bl v Ts) (ht : t.Ok w base) (hf : ∀ x ∈ Ts, x.Far t) (hm : Mod (fun g => v.ownBlock = some g) w w') (hown : w'.ownsRow base 77 4 v' (Ts.length + 1) (flat TN.cells Ts ++ t.cells)) (hv : ∀ g, v'.ownBlock = some g → v.ownBlock = some g ∨ w.heap.size ≤ g) :
    LAt (w'.setCell ⟨bl, 0, none⟩ v') base bl v' (Ts ++ [t]) ∧ Mod (LSet v bl) w (w'.setCell ⟨bl, 0, none⟩ v') := by
  have hbl := h.box.lt
  have hne : v'.ownBlock ≠ some bl := fun e => (hv bl e).elim h.own_ne (fun h => by omega)
  have m1 : Mod (At bl) w' (w'.setCell ⟨bl, 0, none⟩ v') := Mod.cellAt _ _ _ _
  have mm : Mod (LSet v bl) w (w'.setCell ⟨bl, 0, none⟩ v') := (hm.mono (fun g _ e => .inr e)).trans (m1.mono (fun g _ e => .inl e))
  refine ⟨⟨?_, ?_, fun x hx => ?_, h.hb, List.pairwise_append.2 ⟨h.ap, List.pairwise_singleton _ _, fun x hx y hy => by rw [List.mem_singleton] at hy; subst hy; exact hf x hx⟩⟩, mm⟩
  · exact (h.box.mod hm h.own_ne).set_ 0 _
  · rw [List.length_append, flat_append, flat_one]
    exact own_mod hown m1 (fun g e f => hne (by rw [e]; exact congrArg some f))
  · rcases List.mem_append.1 hx with hx | hx
    · exact (h.ok x hx).mod mm (h.far_ (h.ok x hx))
    · rw [List.mem_singleton] at hx; subst hx
      exact ht.mod mm (h.far_ ht)
end
section
variable {w : World} {v lv : Value} {L : List (List Nat)} {k b c base bl : Nat} {F : List Nat} {A : Option Addr} {Ts : List TN}
set_option maxRecDepth 100000 in
set_option maxHeartbeats 6400000 in
theorem nodes_leaf (h : LeafAt w v L k F b A c) (hl : LAt w base bl lv Ts) (hn : L.length ≤ 549755813888) (hT : Ts.length ≤ 549755813888) : Calls Try.prog 47 #[v, .pointer (some ⟨bl, 0, none⟩)] w (NodesP w 0 L k base bl lv Ts) := by
  obtain ⟨rfl, hb, hrow, hrows, hsrt, rfl, rfl, hnd⟩ := h
  have hbw := hb.lt
  have hblw := hl.box.lt
  have hc0 : w.cell? ⟨b, 0, none⟩ = some (.slice A L.length c) := hb.cell 0
  have HB := Lib.hid (And.intro hb (And.intro hrow (And.intro hrows hl)))
  clear hb hrow hrows hsrt hnd hl
  generalize hXX : leafV b = XX
  have HX := Lib.hid hXX
  unfold leafV at hXX
  subst hXX
  go_enter Try.func47, Try.ntmps47
  go_wp2_with (first
    | (with_reducible change wpList _ _ _ (⟨some 5, Op.alloc _, _, _, _, _⟩ :: _) _ _
       go_must (refine wpList_alloc_var 77 rfl rfl infoN2 ?_)
       intro w1 b1 m1 z1
       clear z1
       have hs1 : w.heap.size < w1.heap.size := b1.lt
       replace hc0 : w1.cell? ⟨b, 0, none⟩ = some (.slice A L.length c) := (m1.cell (p := ⟨b, 0, none⟩) hbw (fun f => f)).trans hc0
       have H1 := Lib.hid (And.intro m1 b1)
       clear m1 b1)
    | (with_reducible change wpList _ _ _ (⟨some 11, _, _, _, _, _⟩ :: _) _ _
       go_must (refine wpList_val rfl (exec_assert_yes (P := Try.prog) _ _ _ _ rfl rfl Try.underlying109) ?_)
       rw [if_pos rfl]))
  refine (scloneE_own (c := c) (HB.out.2.1.nn H1.out.1).rd (bv_one _) (by omega)).mono ?_
  rintro r w2 ⟨A', c', rfl, hh, m2⟩
  have hfr := own_of_ge hh
  have hs2 : w1.heap.size ≤ w2.heap.size := m2.size
  have H2 := Lib.hid (And.intro (H1.out.1.nn_ m2) (And.intro (H1.out.2.mod m2 (fun f => f)) (And.intro hh hfr)))
  clear m2 hh hfr hc0
  go_wp2_with (first
    | (with_reducible change wpList _ _ _ (⟨some 19, _, _, _, _, _⟩ :: _) _ _
       go_must (refine wpList_val rfl (exec_leafN rfl rfl) ?_))
    | (with_reducible change wpList _ _ _ (⟨none, Op.store _ (Operand.tmp 5) _, _, _, _, _⟩ :: _) _ _
       go_must (refine wpList_store_var 77 _ _ rfl rfl w.heap.size #[.bool true, .slice A' L.length c', .slice none 0 0, .slice none 0 0] _ _ rfl rfl H2.out.2.1 sizeN rfl (by simp [Value.oneCell']) ?_)
       intro w3 b3 m3 z3
       have H3 := Lib.hid (And.intro (H2.out.1.new_ m3 (by omega)) (And.intro b3 (own_mod H2.out.2.2.1 m3 (fun g hg f => by have := H2.out.2.2.2 g (own_of hg); have f' : g = w.heap.size := f; omega))))
       have hs23 : w2.heap.size ≤ w3.heap.size := Nat.le_of_eq z3.symm
       clear m3 b3 z3))
  -- zzA
  have hl3 : LAt w3 base bl lv Ts := HB.out.2.2.2.nn H3.out.1
  have ht : TN.Ok ⟨⟨true, L, [], []⟩, A', c', none, 0, none, 0⟩ w3 base := by
    refine ⟨own_base H3.out.2.2 (fun g hg => by have := H2.out.2.2.2 g (own_of hg); have := HB.out.2.2.2.hb; omega), World.ownsRow_nil _ _ _ _, World.ownsRow_nil _ _ _ _, HB.out.2.2.1, (fun r hr => absurd hr (by simp)), fun g hg => ?_⟩
    rcases hg with hg | ⟨_, hg, _⟩ | ⟨_, hg, _⟩
    · have := H2.out.2.2.2 g hg
      have := HB.out.2.2.2.hb
      omega
    · cases hg
    · cases hg
  have hfr : ∀ g, TN.rows ⟨⟨true, L, [], []⟩, A', c', none, 0, none, 0⟩ g → w.heap.size ≤ g := fun g hg => by
    rcases hg with hg | ⟨_, hg, _⟩ | ⟨_, hg, _⟩
    · have := H2.out.2.2.2 g hg
      omega
    · cases hg
    · cases hg
  have hfar : ∀ x ∈ Ts, x.Far ⟨⟨true, L, [], []⟩, A', c', none, 0, none, 0⟩ := fun x hx g hg hg' => by
    have := (HB.out.2.2.2.ok x hx).lt g hg
    have := hfr g hg'
    omega
  have HFR := Lib.hid hfar
  have HFW := Lib.hid hfr
  clear hfr hfar
  have hc0 := hl3.box.cell 0
  have HL := Lib.hid (And.intro hl3 ht)
  clear hl3 ht
  refine wp_region_planT (fun w' => w'.cell? ⟨bl, 0, none⟩ = some lv ∧ Blk w' w.heap.size 77 #[.bool true, .slice A' L.length c', .slice none 0 0, .slice none 0 0]) 8 [(0, 0), (1, 0), (2, 0), (3, 1), (4, 1), (5, 2), (6, 2), (7, 0), (8, 2)] (by kernel_rfl) (by kernel_rfl) ⟨(Mod.refl Nn w3).drew.cell (p := ⟨bl, 0, none⟩) (World.block_lt_of_cell? w3 _ hc0) (fun f => f) |>.trans hc0, H3.out.2.1.drew⟩ ?_
  iterate 3 (refine pt_pure rfl rfl (fun K hK => ?_); go_simp; refine hK _ ?_; clear hK K)
  refine pt_take _ rfl rfl (fun w' hS => exec_load1 (P := Try.prog) 72 _ rfl rfl hS.1 Try.underlying72 rfl) (fun K hK => ?_); go_simp; refine hK _ ?_; clear hK K
  refine pt_take _ rfl rfl (fun w' hS => exec_load_row (P := Try.prog) (g := w.heap.size) 77 (.tmp 5) rfl rfl hS.2 Try.underlying77 rfl sizeN) (fun K hK => ?_); go_simp; refine hK _ ?_; clear hK K
  refine pt_mk1 (ys := [.bool true, .slice A' L.length c', .slice none 0 0, .slice none 0 0]) (v := .agg #[.bool true, .slice A' L.length c', .slice none 0 0, .slice none 0 0]) 72 77 (.tmp 51) rfl rfl rfl uuN infoN2 (by omega) (by omega) rfl rfl rfl (fun w4 b4 m4 => ⟨fun _ => ⟨((Mod.of_drew m4).cell (p := ⟨bl, 0, none⟩) (World.block_lt_of_cell? w3 _ hc0) (fun f => f)).trans hc0, H3.out.2.1.mod (Mod.of_drew m4) (fun f => f)⟩, ?_⟩)
  refine (fun K hK => ?_); go_simp; refine hK _ ?_; clear hK K
  have m4' := m4.of_drew
  have hs4 : w3.heap.size < w4.heap.size := b4.lt
  have H4 := Lib.hid (And.intro m4' b4)
  clear m4 m4' b4
  have hs3 : w.heap.size < w3.heap.size := by omega
  refine pt_append 72 (.tmp 50) (.tmp 52) rfl rfl rfl base 77 zN 4 80 uuN infoNt rfl (by omega) lv Ts.length (flat TN.cells Ts) rfl (HL.out.1.nn H4.out.1).row _ 1 _ [.bool true, .slice A' L.length c', .slice none 0 0, .slice none 0 0] rfl (RdC.of_blk H4.out.2 rfl) (by simp [Value.oneCell']) (by omega) (by omega) (by have := HL.out.1.hb; omega) (fun v5 w5 own5 gr5 ob5 => ?_)
  have hl4 := HL.out.1.nn H4.out.1
  have m45 : Mod (fun g => lv.ownBlock = some g) w4 w5 := (Mod.refl _ w4).grown gr5 (fun g hg => .inr hg)
  have hbl4 : bl < w4.heap.size := by omega
  have c5 : w5.cell? ⟨bl, 0, none⟩ = some lv := (m45.cell (p := ⟨bl, 0, none⟩) hbl4 hl4.own_ne).trans (hl4.box.cell 0)
  have hf5 : w5.frozen? ⟨bl, 0, none⟩ = false := (hl4.box.mod m45 hl4.own_ne).frozen 0
  have how : lv.ownBlock ≠ some w.heap.size := fun e => by
    obtain ⟨_, _, _, _, hb, _⟩ := own_blk_eq HB.out.2.2.2.row e
    exact absurd hb.lt (Nat.lt_irrefl _)
  refine ⟨fun _ => ⟨c5, (H3.out.2.1.mod H4.out.1 (fun f => f)).mod m45 how⟩, ?_⟩
  refine (fun K hK => ?_); go_simp; refine hK _ ?_; clear hK K
  obtain ⟨g5, p5, _, rfl, _⟩ := own_blk own5 (by omega)
  have hp := hl4.push (HL.out.2.mod H4.out.1 (fun _ _ f => f)) HFR.out m45 own5 (fun g hg => by
    rcases ob5 with h | h
    · exact .inl (h.symm.trans hg)
    · exact .inr (by rw [h] at hg; injection hg with hg; omega))
  have hvo : ∀ g, (Value.slice (some ⟨g5, 0, none⟩) (Ts.length + 1) p5).ownBlock = some g → lv.ownBlock = some g ∨ w.heap.size ≤ g := fun g hg => by
    rcases ob5 with h | h
    · exact .inl (h.symm.trans hg)
    · exact .inr (by rw [h] at hg; injection hg with hg; omega)
  have HP := Lib.hid (And.intro hp (And.intro hvo (H3.out.1.nn_ H4.out.1)))
  clear hp hvo m45 hl4 own5 gr5 ob5
  iterate 1 (refine pt_pure rfl rfl (fun K hK => ?_); go_simp; refine hK _ ?_; clear hK K)
  refine pt_unit rfl rfl (exec_store1 (P := Try.prog) (ad := ⟨bl, 0, none⟩) (v := .slice (some ⟨g5, 0, none⟩) (Ts.length + 1) p5) (u := lv) 72 (.tmp 54) (.tmp 53) rfl rfl rfl c5 hf5 rfl rfl rfl size_slN) (fun h => by simp at h) (fun K hK => ?_); go_simp; refine hK _ ?_; clear hK K
  refine pt_nil ?_
  have hps := HP.out.1
  generalize w5.setCell ⟨bl, 0, none⟩ (.slice (some ⟨g5, 0, none⟩) (Ts.length + 1) p5) = w6 at *
  have c6 := hps.1.box.cell 0
  have HR := Lib.hid hps
  clear hps c5 hf5
  go_wp2
  go_ret
  refine ⟨_, [⟨⟨true, L, [], []⟩, A', c', none, 0, none, 0⟩], Ts.length, rfl, ⟨rfl, rfl, rfl⟩, HR.out.1, HP.out.2.2.nn.trans HR.out.2, HP.out.2.1, fun t ht => by rw [List.mem_singleton] at ht; subst ht; exact HFW.out⟩
end
end Go.Proofs.Ytkcpmkeckcnobaa

/- tree.nodes of an inner: what the loop over the kids keeps in memory. -/
namespace Go.Proofs.Ytkcpmkeckcnobaa
open Go.RowKit

/-- blocks of rows of two types are not the same -/
theorem hold_hold {w : World} {e t : TypeId} {s n c s' n' c' g : Nat} {A B : Option Addr} {xs ys : List Value} (h : Hold w e s A n c xs) (h' : Hold w t s' B n' c' ys) (hne : t ≠ e) (hg : Of A g) : ¬ Of B g := fun hb => by
  obtain ⟨a, rfl, rfl⟩ := hb
  rcases h'.2 with ⟨h0, _⟩ | ⟨g', cur, e', hb', _⟩
  · cases h0
  · injection e' with e'; subst e'
    exact hold_ne h hb' hne hg
/-- n0: the block of the node that is being made -/
structure InnM (w wr : World) (n0 base bl : Nat) (lv : Value) (Ts : List TN) (ks : List (List Nat)) (K : Option Addr) (kc : Nat) (lu : Value) (Us : List TN) (zs : List Nat) (A : Option Addr) (c : Nat) : Prop where
  blk : Blk wr n0 77 #[.bool false, .slice none 0 0, .slice K ks.length kc, .slice A zs.length c]
  krow : wr.ownsRow w.heap.size 23 40 (.slice K ks.length kc) ks.length (bv ks.flatten)
  crow : wr.ownsRow w.heap.size 3 1 (.slice A zs.length c) zs.length (iv zs)
  lat : LAt wr base bl lu (Ts ++ Us)
  md : Mod (LSet lv bl) w wr
  own : ∀ g, lu.ownBlock = some g → lv.ownBlock = some g ∨ w.heap.size ≤ g
  on0 : lu.ownBlock ≠ some n0
  bn0 : bl ≠ n0
  n0w : w.heap.size ≤ n0
  far : ∀ t ∈ Ts ++ Us, ∀ g, t.rows g → ¬ Of K g ∧ ¬ Of A g
  fresh : ∀ t ∈ Us, ∀ g, t.rows g → w.heap.size ≤ g
  kf : ∀ g, Of K g → w.heap.size ≤ g
  cf : ∀ g, Of A g → w.heap.size ≤ g
section
variable {w wr wz w' : World} {n0 base bl : Nat} {lv lu lx : Value} {Ts Us Xs : List TN} {ks : List (List Nat)} {K A : Option Addr} {kc c : Nat} {zs : List Nat}
theorem LSet.at_ (hl : LAt w base bl lv Ts) {g : Nat} (h : LSet lv bl g) : base ≤ g ∧ g < w.heap.size := by
  rcases h with rfl | h
  · exact ⟨hl.hb, hl.box.lt⟩
  · obtain ⟨_, _, _, hg, hb, _⟩ := own_blk_eq hl.row h
    exact ⟨hg, hb.lt⟩
theorem InnM.kh (h : InnM w wr n0 base bl lv Ts ks K kc lu Us zs A c) : Hold wr 23 40 K ks.length kc (bv ks.flatten) := Hold.of_own h.krow
theorem InnM.ch (h : InnM w wr n0 base bl lv Ts ks K kc lu Us zs A c) : Hold wr 3 1 A zs.length c (iv zs) := Hold.of_own h.crow
theorem InnM.nn (h : InnM w wr n0 base bl lv Ts ks K kc lu Us zs A c) (hm : Mod Nn wr w') : InnM w w' n0 base bl lv Ts ks K kc lu Us zs A c :=
  ⟨h.blk.mod hm (fun f => f), own_mod h.krow hm (fun _ _ f => f), own_mod h.crow hm (fun _ _ f => f), h.lat.nn hm, h.md.nn_ hm, h.own, h.on0, h.bn0, h.n0w, h.far, h.fresh, h.kf, h.cf⟩
theorem InnM.call (h : InnM w wr n0 base bl lv Ts ks K kc lu Us zs A c) (hl : LAt w' base bl lx ((Ts ++ Us) ++ Xs)) (hm : Mod (LSet lu bl) wr w') (ho : ∀ g, lx.ownBlock = some g → lu.ownBlock = some g ∨ wr.heap.size ≤ g) (hf : ∀ t ∈ Xs, ∀ g, t.rows g → wr.heap.size ≤ g) : InnM w w' n0 base bl lv Ts ks K kc lx (Us ++ Xs) zs A c := by
  have hn0 := h.blk.lt
  have hsz := h.md.size
  have key : ∀ (T : TypeId) (s n cc : Nat) (B : Option Addr) (xs : List Value), Hold wr T s B n cc xs → 72 ≠ T → 77 ≠ T → ∀ g, Of B g → ¬ LSet lu bl g := fun T s n cc B xs hh h1 h2 g hg hs => by
    rcases hs with rfl | hs
    · exact hold_ne hh h.lat.box h1 hg
    · obtain ⟨_, _, _, _, hb, _⟩ := own_blk_eq h.lat.row hs
      exact hold_ne hh hb h2 hg
  refine ⟨h.blk.mod hm (fun hs => hs.elim (fun e => h.bn0 e.symm) h.on0), own_mod h.krow hm (fun g hg => key _ _ _ _ _ _ h.kh (by decide) (by decide) g (own_of hg)), own_mod h.crow hm (fun g hg => key _ _ _ _ _ _ h.ch (by decide) (by decide) g (own_of hg)), by rw [← List.append_assoc]; exact hl, h.md.then_ hm (fun g hg hs => hs.elim .inl (fun hs => (h.own g hs).elim .inr (fun h => by omega))), fun g hg => (ho g hg).elim (h.own g) (fun h => .inr (by omega)), fun e => (ho n0 e).elim h.on0 (fun h => by omega), h.bn0, h.n0w, fun t ht g hg => ?_, fun t ht g hg => ?_, h.kf, h.cf⟩
  · rw [← List.append_assoc] at ht
    rcases List.mem_append.1 ht with ht | ht
    · exact h.far t ht g hg
    · have := hf t ht g hg
      exact ⟨fun hk => by have := h.kh.lt hk; omega, fun hk => by have := h.ch.lt hk; omega⟩
  · rcases List.mem_append.1 ht with ht | ht
    · exact h.fresh t ht g hg
    · have := hf t ht g hg; omega
theorem InnM.app {A' : Option Addr} {c' z : Nat} (h : InnM w wr n0 base bl lv Ts ks K kc lu Us zs A c) (hh : w'.ownsRow w.heap.size 3 1 (.slice A' (zs.length + 1) c') (zs.length + 1) (iv zs ++ [.int .i64 (Int.ofNat z)])) (hm : Mod (Of A) wr w') (hA : ∀ g, Of A' g → Of A g ∨ wr.heap.size ≤ g) : InnM w (w'.setCell ⟨n0, 3, none⟩ (.slice A' (zs.length + 1) c')) n0 base bl lv Ts ks K kc lu Us (zs ++ [z]) A' c' := by
  have hn0 := h.blk.lt
  have hbl := h.lat.box.lt
  have hsz := h.md.size
  have m1 : Mod (At n0) w' (w'.setCell ⟨n0, 3, none⟩ (.slice A' (zs.length + 1) c')) := Mod.cellAt _ _ _ _
  have hAn : ¬ Of A n0 := hold_ne h.ch h.blk (by decide)
  have hAb : ¬ Of A bl := hold_ne h.ch h.lat.box (by decide)
  have hAn' : ¬ Of A' n0 := fun e => (hA n0 e).elim hAn (fun h => by omega)
  have hKn : ¬ Of K n0 := hold_ne h.kh h.blk (by decide)
  have mm : Mod (fun g => Of A g ∨ g = n0) wr (w'.setCell ⟨n0, 3, none⟩ (.slice A' (zs.length + 1) c')) := (hm.mono (fun _ _ e => .inl e)).trans (m1.mono (fun _ _ e => .inr e))
  have hrn : ∀ t ∈ Ts ++ Us, ¬ t.rows n0 := fun t ht hr => by
    have ho := h.lat.ok t ht
    rcases hr with hr | hr | hr
    · exact hold_ne ho.eh h.blk (by decide) hr
    · exact hold_ne ho.kh h.blk (by decide) hr
    · exact hold_ne ho.ch h.blk (by decide) hr
  have hown : ∀ g, lu.ownBlock = some g → ¬ (Of A g ∨ g = n0) := fun g hg e => by
    rcases e with e | rfl
    · obtain ⟨_, _, _, _, hb, _⟩ := own_blk_eq h.lat.row hg
      exact hold_ne h.ch hb (by decide) e
    · exact h.on0 hg
  refine ⟨?_, own_mod h.krow mm (fun g hg e => ?_), ?_, ⟨h.lat.box.mod mm (fun e => e.elim hAb h.bn0), own_mod h.lat.row mm hown, fun t ht => (h.lat.ok t ht).mod mm (fun g hg e => ?_), h.lat.hb, h.lat.ap⟩, h.md.then_ mm (fun g hg e => ?_), h.own, h.on0, h.bn0, h.n0w, fun t ht g hg => ⟨(h.far t ht g hg).1, fun e => ?_⟩, h.fresh, h.kf, fun g hg => ?_⟩
  · rw [List.length_append]; exact (h.blk.mod hm hAn).set_ 3 _
  · rcases e with e | rfl
    · exact hold_hold h.kh h.ch (by decide) (own_of hg) e
    · exact hKn (own_of hg)
  · rw [List.length_append]
    have := own_mod hh m1 (fun g hg e => hAn' (by have e : g = n0 := e; exact e ▸ own_of hg))
    simpa [iv] using this
  · rcases e with e | rfl
    · exact (h.far t ht g hg).2 e
    · exact hrn t ht hg
  · rcases e with e | rfl
    · have := h.cf g e; omega
    · have := h.n0w; omega
  · rcases hA g e with e | e
    · exact (h.far t ht g hg).2 e
    · have := (h.lat.ok t ht).lt g hg; omega
  · rcases hA g hg with e | e
    · exact h.cf g e
    · omega
end
end Go.Proofs.Ytkcpmkeckcnobaa

/- tree.nodes of an inner: the plain side of the loop over the kids. -/
namespace Go.Proofs.Ytkcpmkeckcnobaa
open Go.RowKit

theorem msOf_len : ∀ (qs : List KQ), (∀ q ∈ qs, 4 * q.ms.length + 2 ≤ q.L.length) → 4 * (msOf qs).length + 2 * qs.length ≤ (entsQ qs).length
  | [], _ => by simp [msOf, entsQ]
  | q :: qs, h => by
    have h1 := h q List.mem_cons_self
    have h2 := msOf_len qs (fun x hx => h x (List.mem_cons_of_mem _ hx))
    simp only [msOf, entsQ, List.flatMap_cons, List.length_append, List.length_cons] at h2 ⊢
    omega
theorem nodes_len : ∀ (d : Nat) (L : List (List Nat)) (k b : Nat) (Ms : List PN) (i : Nat), NodesIs d L k b Ms i → loB d ≤ k → 4 * Ms.length + 2 ≤ L.length
  | 0, L, k, b, Ms, i, ⟨h, _, hk⟩, hlo => by
    subst h; simp only [loB] at hlo; simp; omega
  | d + 1, L, k, b, Ms, i, ⟨ks, qs, h1, _, h3, h4, _, _, _, _, h9⟩, hlo => by
    have := msOf_len qs (fun q hq => by
      obtain ⟨j, hj⟩ := List.mem_iff_getElem?.1 hq
      obtain ⟨ha, hb, _⟩ := h9 j q hj
      exact nodes_len d _ _ _ _ _ ha hb)
    subst h1; subst h3; subst h4
    simp only [loB] at hlo
    simp only [List.length_append, List.length_cons, List.length_nil]
    omega
/-- the kids done are as their nodes say -/
def QOk (d b : Nat) (ts : List Kid) (qs : List KQ) : Prop := ∀ i q, qs[i]? = some q → ∃ t, ts[i]? = some t ∧ q.L = t.L ∧ q.k = t.k ∧ NodesIs d q.L q.k (b + (msOf (qs.take i)).length) q.ms q.i
section
variable {d b : Nat} {ts : List Kid} {qs : List KQ}
theorem QOk.ents (h : QOk d b ts qs) : entsQ qs = entsOf (ts.take qs.length) := by
  have : qs.map (·.L) = (ts.take qs.length).map (·.L) := by
    apply List.ext_getElem?
    intro i
    rw [List.getElem?_map, List.getElem?_map, List.getElem?_take]
    rcases Nat.lt_or_ge i qs.length with hi | hi
    · obtain ⟨t, h1, h2, _⟩ := h i _ (List.getElem?_eq_getElem hi)
      rw [if_pos hi, List.getElem?_eq_getElem hi, h1]
      simp [h2]
    · rw [if_neg (by omega), List.getElem?_eq_none hi]; rfl
  unfold entsQ entsOf
  rw [List.flatMap_def, List.flatMap_def, this]
theorem QOk.snoc {q : KQ} {t : Kid} (h : QOk d b ts qs) (ht : ts[qs.length]? = some t) (h1 : q.L = t.L) (h2 : q.k = t.k) (h3 : NodesIs d q.L q.k (b + (msOf qs).length) q.ms q.i) : QOk d b ts (qs ++ [q]) := fun i x hx => by
  rcases Nat.lt_or_ge i qs.length with hi | hi
  · rw [List.getElem?_append_left hi] at hx
    obtain ⟨t', a1, a2, a3, a4⟩ := h i x hx
    exact ⟨t', a1, a2, a3, by rwa [List.take_append_of_le_length (by omega)]⟩
  · have hlt := (List.getElem?_eq_some_iff.1 hx).1
    rw [List.length_append, List.length_singleton] at hlt
    have e : i = qs.length := by omega
    subst e
    rw [List.getElem?_append_right (Nat.le_refl _), Nat.sub_self] at hx
    injection hx with hx
    subst hx
    exact ⟨t, ht, h1, h2, by rwa [List.take_append_of_le_length (Nat.le_refl _), List.take_length]⟩
/-- the whole node of an inner -/
theorem NodesIs.inner {ks : List (List Nat)} (h : QOk d b ts qs) (hl : qs.length = ts.length) (hk : ks.length + 1 = ts.length) (hr : Rows 40 ks) (hs : ks.Pairwise klt) (hsep : Sep ks ts) (hbd : ∀ t ∈ ts, loB d ≤ t.k ∧ t.k ≤ hiB d) : NodesIs (d + 1) (entsOf ts) ts.length b (msOf qs ++ [⟨false, [], ks, qs.map (·.i)⟩]) (b + (msOf qs).length) := by
  have he : entsQ qs = entsOf ts := by rw [h.ents, hl, List.take_length]
  have ht : ∀ j, entsQ (qs.take j) = entsOf (ts.take j) := fun j => by
    have : QOk d b ts (qs.take j) := fun i q hi => by
      rw [List.getElem?_take] at hi
      split at hi
      · obtain ⟨t, a1, a2, a3, a4⟩ := h i q hi
        exact ⟨t, a1, a2, a3, by rwa [List.take_take, Nat.min_eq_left (by omega)]⟩
      · cases hi
    rw [this.ents, List.length_take, hl, ← List.take_take, List.take_length] 
  have hd : ∀ j, entsQ (qs.drop j) = entsOf (ts.drop j) := fun j => by
    have h1 : entsQ (qs.take j) ++ entsQ (qs.drop j) = entsQ qs := by unfold entsQ; rw [← List.flatMap_append, List.take_append_drop]
    have h2 : entsOf (ts.take j) ++ entsOf (ts.drop j) = entsOf ts := by unfold entsOf; rw [← List.flatMap_append, List.take_append_drop]
    rw [ht j, he, ← h2] at h1
    exact List.append_cancel_left h1
  refine ⟨ks, qs, rfl, rfl, he.symm, hl.symm, by omega, hr, hs, fun j κ hj => ?_, fun j q hj => ?_⟩
  · rw [ht, hd]; exact hsep j κ hj
  · obtain ⟨t, a1, a2, a3, a4⟩ := h j q hj
    have := hbd t (List.mem_of_getElem? a1)
    exact ⟨a4, by rw [a3]; exact this.1, by rw [a3]; exact this.2⟩
end
end Go.Proofs.Ytkcpmkeckcnobaa

/- A tree's nodes counted: thirteen entries are three nodes, none is one. -/
namespace Go.Proofs.Ytkcpmkeckcnobaa
open Go.RowKit

/-- what is told of a tree's nodes -/
def NodesT (L : List (List Nat)) (Ms : List PN) (i : Nat) : Prop := ∃ d k, NodesIs d L k 0 Ms i ∧ k ≤ hiB d ∧ (d = 0 ∨ 2 ≤ k)
theorem entsQ_ge (m : Nat) : ∀ (qs : List KQ), (∀ q ∈ qs, m ≤ q.L.length) → m * qs.length ≤ (entsQ qs).length
  | [], _ => by simp
  | q :: qs, h => by
    have h1 := h q List.mem_cons_self
    have h2 := entsQ_ge m qs (fun x hx => h x (List.mem_cons_of_mem _ hx))
    simp only [entsQ, List.flatMap_cons, List.length_append, List.length_cons, Nat.mul_add, Nat.mul_one] at h2 ⊢
    omega
theorem ents_ge : ∀ (d : Nat) (L : List (List Nat)) (k b : Nat) (Ms : List PN) (i : Nat), NodesIs d L k b Ms i → loB d ≤ k → 6 ≤ L.length
  | 0, L, k, b, Ms, i, ⟨_, _, hk⟩, hlo => by simp only [loB] at hlo; omega
  | d + 1, L, k, b, Ms, i, ⟨ks, qs, h1, _, h3, h4, _, _, _, _, h9⟩, hlo => by
    have := entsQ_ge 6 qs (fun q hq => by
      obtain ⟨j, hj⟩ := List.mem_iff_getElem?.1 hq
      obtain ⟨ha, hb, _⟩ := h9 j q hj
      exact ents_ge d _ _ _ _ _ ha hb)
    simp only [loB] at hlo
    subst h3 h4
    omega
/-- an inner has six entries and more for each kid -/
theorem ents_kids {d : Nat} {L : List (List Nat)} {k b : Nat} {Ms : List PN} {i : Nat} (h : NodesIs (d + 1) L k b Ms i) : 6 * k ≤ L.length := by
  obtain ⟨ks, qs, h1, _, h3, h4, _, _, _, _, h9⟩ := h
  subst h3 h4
  exact entsQ_ge 6 qs (fun q hq => by
    obtain ⟨j, hj⟩ := List.mem_iff_getElem?.1 hq
    obtain ⟨ha, hb, _⟩ := h9 j q hj
    exact ents_ge d _ _ _ _ _ ha hb)
theorem msOf_ones : ∀ (qs : List KQ), (∀ q ∈ qs, q.ms.length = 1) → (msOf qs).length = qs.length
  | [], _ => rfl
  | q :: qs, h => by
    have h1 := h q List.mem_cons_self
    have h2 := msOf_ones qs (fun x hx => h x (List.mem_cons_of_mem _ hx))
    simp only [msOf, List.flatMap_cons, List.length_append, List.length_cons] at h2 ⊢
    omega
theorem nodesT_len {L : List (List Nat)} {Ms : List PN} {i : Nat} (h : NodesT L Ms i) : Ms.length ≤ L.length / 4 + 1 := by
  obtain ⟨d, k, h, hk, hd⟩ := h
  cases d with
  | zero => rw [h.1]; simp
  | succ d =>
    obtain ⟨ks, qs, h1, _, h3, h4, _, _, _, _, h9⟩ := h
    have := msOf_len qs (fun q hq => by
      obtain ⟨j, hj⟩ := List.mem_iff_getElem?.1 hq
      obtain ⟨ha, hb, _⟩ := h9 j q hj
      exact nodes_len d _ _ _ _ _ ha hb)
    subst h1 h3 h4
    have h2 : 2 ≤ qs.length := hd.elim (fun h => by omega) id
    simp only [List.length_append, List.length_cons, List.length_nil]
    omega
theorem nodesT_root {L : List (List Nat)} {Ms : List PN} {i : Nat} (h : NodesT L Ms i) : i + 1 = Ms.length := by
  obtain ⟨d, k, h, hk, hd⟩ := h
  cases d with
  | zero => rw [h.1, h.2.1]; simp
  | succ d =>
    obtain ⟨ks, qs, h1, h2, _⟩ := h
    rw [h1, h2]; simp
theorem nodesT_nil {Ms : List PN} {i : Nat} (h : NodesT [] Ms i) : Ms = [⟨true, [], [], []⟩] ∧ i = 0 := by
  obtain ⟨d, k, h, hk, hd⟩ := h
  cases d with
  | zero => exact ⟨h.1, h.2.1⟩
  | succ d =>
    have := ents_kids h
    have h2 : 2 ≤ k := hd.elim (fun h => by omega) id
    simp at this; omega
theorem nodesT_13 {L : List (List Nat)} {Ms : List PN} {i : Nat} (h : NodesT L Ms i) (hL : L.length = 13) : Ms.length = 3 ∧ i = 2 ∧ ∃ n, Ms[i]? = some n ∧ n.kids.length = 2 := by
  obtain ⟨d, k, h, hk, hd⟩ := h
  match d, h, hk, hd with
  | 0, h, hk, hd => have := h.2.2; simp only [hiB] at hk; omega
  | 1, h, hk, hd =>
    have h6 := ents_kids h
    have h2 : 2 ≤ k := hd.elim (fun h => by omega) id
    obtain ⟨ks, qs, h1, hi, h3, h4, _, _, _, _, h9⟩ := h
    have hm := msOf_ones qs (fun q hq => by
      obtain ⟨j, hj⟩ := List.mem_iff_getElem?.1 hq
      obtain ⟨ha, hb, _⟩ := h9 j q hj
      rw [ha.1]; rfl)
    have hq : qs.length = 2 := by omega
    have hi2 : i = 2 := by omega
    subst h1 hi2
    refine ⟨by simp; omega, rfl, ⟨false, [], ks, qs.map (·.i)⟩, ?_, by simpa using hq⟩
    rw [List.getElem?_append_right (by omega), show 2 - (msOf qs).length = 0 by omega]
    rfl
  | d + 2, h, hk, hd =>
    exfalso
    have h2 : 2 ≤ k := hd.elim (fun h => by omega) id
    obtain ⟨ks, qs, h1, hi, h3, h4, _, _, _, _, h9⟩ := h
    have := entsQ_ge 60 qs (fun q hq => by
      obtain ⟨j, hj⟩ := List.mem_iff_getElem?.1 hq
      obtain ⟨ha, hb, _⟩ := h9 j q hj
      have := ents_kids ha
      simp only [loB] at hb
      omega)
    subst h3
    omega
end Go.Proofs.Ytkcpmkeckcnobaa
