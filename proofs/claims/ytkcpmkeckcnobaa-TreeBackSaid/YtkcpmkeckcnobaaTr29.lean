/- (*tree.Tree).Nodes. -/
import Derived.Test.YtkcpmkeckcnobaaTr27
import Derived.Test.YtkcpmkeckcnobaaTrI
namespace Go.Proofs.Ytkcpmkeckcnobaa
open Go.RowKit

theorem info_slNt : (Try.prog.info? 72).map (fun i => (i.zero, i.size)) = some (some (.slice none 0 0), 1) := by kernel_rfl
/-- nodes that were told: an own row of them, each with rows of its own, all from block base on -/
structure NodesV (w : World) (base : Nat) (L : List (List Nat)) (v : Value) (i : Nat) (Us : List TN) : Prop where
  is_ : NodesT L (Us.map (·.n)) i
  row : w.ownsRow base 77 4 v Us.length (flat TN.cells Us)
  ok : ∀ t ∈ Us, t.Ok w base
  ap : Us.Pairwise TN.Far
theorem NodesV.mod {w w' : World} {base i : Nat} {L : List (List Nat)} {v : Value} {Us : List TN} {S : Nat → Prop} (h : NodesV w base L v i Us) (hm : Mod S w w') (hS : ∀ g, base ≤ g → ¬ S g) : NodesV w' base L v i Us :=
  ⟨h.is_, own_mod h.row hm (fun g hg => by
    obtain ⟨_, _, _, hb, _, _⟩ := own_blk_eq h.row hg
    exact hS g hb), fun t ht => (h.ok t ht).mod hm (fun g hg => hS g ((h.ok t ht).b g hg)), h.ap⟩
section
variable {w : World} {b : Nat} {L : List (List Nat)} {G : List Nat}
def NodesO (w : World) (L : List (List Nat)) (r : Ending) (w' : World) : Prop := ∃ v i Us, r = .returned (.tuple #[v, .int .i64 (i : Nat)]) ∧ NodesV w' w.heap.size L v i Us ∧ Mod Nn w w'
set_option maxRecDepth 100000 in
set_option maxHeartbeats 3200000 in
theorem tnodes_any (h : TrAt w b L G) (hn : L.length ≤ 549755813888) : Calls Try.prog 32 #[.pointer (some ⟨b, 0, none⟩)] w (NodesO w L) := by
  have hGw := h.lt
  obtain ⟨v, d, k, F, h1, h2, h3, h4, rfl, h6⟩ := h
  have hk : k ≤ 549755813888 := by cases d <;> simp [hiB] at h3 <;> omega
  have HB := Lib.hid (And.intro h1 (And.intro h2 (And.intro (tree_iface h2) (And.intro hGw (And.intro h3 h4)))))
  clear h1 h2 h3 h4 h6 hGw
  go_enter Try.func32, Try.ntmps32
  go_wp2_with fail
  refine (there_yes HB.out.1 HB.out.2.2.1).mono ?_
  rintro r w1 ⟨rfl, m1⟩
  have H1 := Lib.hid m1
  have hs1 : w.heap.size ≤ w1.heap.size := m1.size
  clear m1
  go_wp2_with (first
    | (with_reducible change wpList _ _ _ (⟨some 4, Op.alloc _, _, _, _, _⟩ :: _) _ _
       go_must (refine wpList_alloc_var 72 rfl rfl info_slNt ?_)
       intro w2 b2 m2 z2
       clear z2
       have hs2 : w1.heap.size < w2.heap.size := b2.lt
       have H2 := Lib.hid (And.intro (H1.out.nn_ m2) b2)
       clear m2 b2)
    | (with_reducible change wpList _ _ _ (⟨some 12, _, _, _, _, _⟩ :: _) _ _
       go_must (refine wpList_val rfl (exec_load1 (P := Try.prog) (v := v) (ad := ⟨b, 0, none⟩) 37 _ rfl rfl ((HB.out.1.mod H2.out.1 (fun f => f)).cell 0) Try.underlying37 rfl) ?_)))
  -- zzA
  have hl : LAt w2 w.heap.size w1.heap.size (.slice none 0 0) [] := ⟨H2.out.2, World.ownsRow_nil _ _ _ _, (fun t ht => by cases ht), hs1, List.Pairwise.nil⟩
  refine (nodes_any d w2 v L k F w.heap.size w1.heap.size _ _ (HB.out.2.1.nn H2.out.1) (fun g hg => HB.out.2.2.2.1 g (List.mem_cons_of_mem _ hg)) hl (by simpa using hn) hk).mono ?_
  rintro r w3 ⟨v', Us, i, rfl, hN, hl3, m3, ho3, hf3⟩
  have hc3 := hl3.box.cell 0
  have hm3 : Mod Nn w w3 := H2.out.1.then_ m3 (fun g hg hs => by
    rcases hs with rfl | hs
    · omega
    · cases hs)
  have H3 := Lib.hid (And.intro hN (And.intro hl3 hm3))
  clear hN hl3 m3 ho3 hf3 hm3 hl
  go_wp2
  go_ret2
  refine ⟨v', i, Us, rfl, ⟨⟨d, k, H3.out.1, HB.out.2.2.2.2.1, HB.out.2.2.2.2.2⟩, ?_, ?_, ?_⟩, H3.out.2.2⟩
  · have := H3.out.2.1.row; simpa using this
  · have := H3.out.2.1.ok; simpa using this
  · have := H3.out.2.1.ap; simpa using this
/-- no tree: no nodes -/
theorem tnodes_no {p : Value} (ht : ∀ w', Mod Nn w w' → Calls Try.prog 43 #[p] w' fun e w'' => e = .returned (.bool false) ∧ Mod Nn w' w'') : Calls Try.prog 32 #[p] w fun r w' => r = .returned (.tuple #[.slice none 0 0, .int .i64 0]) ∧ Mod Nn w w' := by
  have HT := Lib.hid ht
  clear ht
  go_enter Try.func32, Try.ntmps32
  go_wp2_with fail
  refine (HT.out w (Mod.refl _ _)).mono ?_
  rintro r w1 ⟨rfl, m1⟩
  have H1 := Lib.hid m1
  clear m1
  go_wp2
  go_ret2
  exact ⟨rfl, H1.out⟩
end
end Go.Proofs.Ytkcpmkeckcnobaa
