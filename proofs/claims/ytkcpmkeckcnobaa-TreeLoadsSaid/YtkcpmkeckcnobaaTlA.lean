/- Own lemmas of several kinds, put together: Tl1, Tl2. -/
import Derived.Test.YtkcpmkeckcnobaaNdL
import Derived.Test.YtkcpmkeckcnobaaUn1
import Derived.Test.YtkcpmkeckcnobaaKitF
/- peatbankkit over rows of nodes: markNode, LentNodes. -/
namespace Go.Proofs.Ytkcpmkeckcnobaa
open Go.RowKit

def zNd : Value := .agg #[.bool false, .slice none 0 0, .slice none 0 0, .slice none 0 0]
theorem info_nodeL : (Try.prog.info? 77).map (fun i => (i.zero, i.size, i.bytes)) = some (some zNd, 4, 80) := by kernel_rfl
theorem built_markN (A : Option Addr) (n c : Nat) : Try.prog.built 77 [(3, .slice A n c)] = some #[.bool false, .slice none 0 0, .slice none 0 0, .slice A n c] := by kernel_rfl
theorem info_intL : (Try.prog.info? 3).map (fun i => (i.zero, i.size)) = some (some (.int .i64 0), 1) := by kernel_rfl
section
variable {w : World} {o : Oper} {a : Act} {x : Operand}
theorem exec_markN {A : Option Addr} {n c : Nat} (ho : o.op = .build 77 #[(3, x)]) (hx : a.eval x = .slice A n c) : (execOp a.eval o).run Try.prog w = .ok (.value (.agg #[.bool false, .slice none 0 0, .slice none 0 0, .slice A n c])) w := by
  have hr := run_build (P := Try.prog) w 77 _ _ (built_markN A n c)
  simp only [execOp, ho]
  simp [hx, hr, Result.andThen]
theorem exec_bint1 {z : Int} (ho : o.op = .buildSlice 64 1 #[(0, x)]) (hx : a.eval x = .int .i64 z) :
    (execOp a.eval o).run Try.prog w = .ok (.value (.slice (some ⟨w.heap.size, 0, none⟩) 1 1)) (w.alloc (.cells #[.int .i64 z] 3)) := by
  have := exec_bsliceN (P := Try.prog) (w := w) (a := a) 64 3 1 _ [.int .i64 z] ho Try.underlying64 info_intL (by omega) (by omega) (by simp [hx, List.zipIdx]) rfl (by intro q hq; simp only [List.mem_cons, List.not_mem_nil, or_false] at hq; subst hq; rfl)
  have e : (Value.int .i64 z).cells = #[.int .i64 z] := rfl
  simpa [e] using this
end
/-- a mark as a node -/
def markX (k j : Int) (g : Nat) : NX := ⟨⟨false, [], [], [mk0 k j]⟩, none, 0, 0, none, 0, 0, some ⟨g, 0, none⟩, 1, 1⟩
theorem markX_nd {w : World} {k j : Int} {g : Nat} (h : Blk w g 3 #[.int .i64 (mk0 k j)]) : NdR w (markX k j g).N none 0 none 0 (some ⟨g, 0, none⟩) 1 :=
  ⟨⟨rfl, fun h => absurd h (by omega)⟩, ⟨rfl, fun h => absurd h (by omega)⟩, Rd.of_blk0 h rfl, rfl, rfl, rfl, ⟨(fun r hr => by cases hr), (fun r hr => by cases hr)⟩, by omega, by omega, by omega⟩
set_option maxRecDepth 100000 in
set_option maxHeartbeats 1600000 in
theorem markNd_any (k i : Int) (w : World) (k0 : 0 ≤ k) (k1 : k ≤ 1000) (i0 : 0 ≤ i) (i1 : i ≤ 281474976710656) :
    Calls Try.prog 55 #[.int .i64 k, .int .i64 i] w fun r w' => ∃ g, r = .returned (.agg (markX k i g).cells.toArray) ∧ Blk w' g 3 #[.int .i64 (mk0 k i)] ∧ Mod Nn w w' ∧ w.heap.size ≤ g := by
  have h0 := fun w => mark_any k i w k0 k1 i0 i1
  unfold markX NX.cells
  generalize mk0 k i = M at *
  go_enter Try.func55, Try.ntmps55
  go_wp2_with (first
    | (with_reducible change wpList _ _ _ (⟨some 4, Op.alloc _, _, _, _, _⟩ :: _) _ _
       go_must (refine wpList_alloc_var 77 rfl rfl info_node ?_)
       intro w1 b1 m1 z1
       have hs1 : w.heap.size < w1.heap.size := b1.lt
       have H1 := Lib.hid (And.intro m1 b1)
       clear b1 m1 z1))
  refine (h0 _).mono ?_
  rintro r w2 ⟨rfl, rfl⟩
  clear h0
  go_wp2_with (first
    | (with_reducible change wpList _ _ _ (⟨some 8, _, _, _, _, _⟩ :: _) _ _
       go_must (refine wpList_val rfl (exec_bint1 (z := M) rfl rfl) ?_)
       have b2 : Blk (w1.alloc (.cells #[.int .i64 M] 3)) w1.heap.size 3 #[.int .i64 M] := Blk.new _ _ _
       have m2 : Mod Nn w1 (w1.alloc (.cells #[.int .i64 M] 3)) := (Mod.refl _ _).alloc _
       generalize w1.alloc (.cells #[.int .i64 M] 3) = w2 at *
       have H2 := Lib.hid (And.intro (H1.out.1.nn_ m2) (And.intro (H1.out.2.mod m2 (fun f => f)) b2))
       clear b2 m2)
    | (with_reducible change wpList _ _ _ (⟨some 9, _, _, _, _, _⟩ :: _) _ _
       go_must (refine wpList_val rfl (exec_markN (A := some ⟨w1.heap.size, 0, none⟩) (n := 1) (c := 1) rfl rfl) ?_))
    | (with_reducible change wpList _ _ _ (⟨none, Op.store _ _ _, _, _, _, _⟩ :: _) _ _
       go_must (refine wpList_store_var 77 _ _ rfl rfl w.heap.size #[.bool false, .slice none 0 0, .slice none 0 0, .slice (some ⟨w1.heap.size, 0, none⟩) 1 1] _ _ rfl rfl H2.out.2.1 sizeN rfl (by simp [Value.oneCell']) ?_)
       intro w9 b9 m9 z9
       have H9 := Lib.hid (And.intro (H2.out.1.new_ m9 (Nat.le_refl _)) (H2.out.2.2.mod m9 (fun e => by have e : w1.heap.size = w.heap.size := e; omega)))
       clear m9 z9))
  exact bodyPost_ret (results_cell_row (P := Try.prog) rfl _ w9 _ _ _ (0, 0) _ rfl b9 Try.underlying77 rfl sizeN) rfl ⟨w1.heap.size, rfl, H9.out.2, H9.out.1, by omega⟩
/-! ## lent -/
def lentX (x : NX) (g1 g2 g3 : Nat) : NX := ⟨x.N, some ⟨g1, 0, none⟩, x.en, x.en + 12, some ⟨g2, 0, none⟩, x.kn, x.kn + 12, some ⟨g3, 0, none⟩, x.cn, x.cn + 12⟩
/-- the blocks of a lent node -/
def NX.bs (x : NX) : List Nat := blks x.EA ++ (blks x.KA ++ blks x.CA)
/-- the first nodes lent, the first marks laid -/
structure LentNs (w : World) (base : Nat) (Xs Ys : List NX) (q : Nat) (Zs : List NX) (m : Nat) : Prop where
  yl : Ys.length = q
  zl : Zs.length = m
  ys : ∀ i x, i < q → Xs[i]? = some x → ∃ g1 g2 g3, Ys[i]? = some (lentX x g1 g2 g3) ∧ LentB w base x.N g1 g2 g3
  zs : ∀ j : Nat, j < m → ∃ g, Zs[j]? = some (markX 1 j g) ∧ Blk w g 3 #[.int .i64 (mk0 1 j)] ∧ base ≤ g
  pw : Ys.Pairwise (fun y y' => ∀ a ∈ y.bs, ∀ b ∈ y'.bs, a < b)
section
variable {w w' : World} {base q m : Nat} {Xs Ys Zs : List NX} {S : Nat → Prop}
theorem LentNs.mod (h : LentNs w base Xs Ys q Zs m) (hq : q ≤ Xs.length) (hm : Mod S w w') (hS : ∀ y ∈ Ys ++ Zs, ∀ g ∈ y.bs, ¬ S g) : LentNs w' base Xs Ys q Zs m := by
  refine ⟨h.yl, h.zl, fun i x hi hx => ?_, fun j hj => ?_, h.pw⟩
  · obtain ⟨g1, g2, g3, h1, h2⟩ := h.ys i x hi hx
    have hb := hS _ (List.mem_append_left _ (List.mem_of_getElem? h1))
    exact ⟨g1, g2, g3, h1, h2.mod hm (hb g1 (by simp [NX.bs, lentX, blks])) (hb g2 (by simp [NX.bs, lentX, blks])) (hb g3 (by simp [NX.bs, lentX, blks]))⟩
  · obtain ⟨g, h1, h2, h3⟩ := h.zs j hj
    have hb := hS _ (List.mem_append_right _ (List.mem_of_getElem? h1))
    exact ⟨g, h1, h2.mod hm (hb g (by simp [NX.bs, markX, blks])), h3⟩
theorem LentNs.nn (h : LentNs w base Xs Ys q Zs m) (hq : q ≤ Xs.length) (hm : Mod Nn w w') : LentNs w' base Xs Ys q Zs m := h.mod hq hm (fun _ _ _ _ f => f)
theorem LentNs.y_at (h : LentNs w base Xs Ys q Zs m) (hq : q ≤ Xs.length) {y : NX} (hy : y ∈ Ys) : ∃ x g1 g2 g3, x ∈ Xs ∧ y = lentX x g1 g2 g3 ∧ LentB w base x.N g1 g2 g3 := by
  obtain ⟨i, hi⟩ := List.mem_iff_getElem?.1 hy
  have hil := (List.getElem?_eq_some_iff.1 hi).1
  rw [h.yl] at hil
  obtain ⟨x, hx⟩ : ∃ x, Xs[i]? = some x := ⟨_, List.getElem?_eq_getElem (by omega)⟩
  obtain ⟨g1, g2, g3, h1, h2⟩ := h.ys i x hil hx
  rw [h1] at hi
  injection hi with hi
  exact ⟨x, g1, g2, g3, List.mem_of_getElem? hx, hi.symm, h2⟩
theorem LentNs.z_at (h : LentNs w base Xs Ys q Zs m) {z : NX} (hz : z ∈ Zs) : ∃ (j : Nat) (g : Nat), z = markX 1 j g ∧ Blk w g 3 #[.int .i64 (mk0 1 j)] ∧ base ≤ g := by
  obtain ⟨j, hj⟩ := List.mem_iff_getElem?.1 hz
  have hjl := (List.getElem?_eq_some_iff.1 hj).1
  rw [h.zl] at hjl
  obtain ⟨g, h1, h2, h3⟩ := h.zs j hjl
  rw [h1] at hj
  injection hj with hj
  exact ⟨j, g, hj.symm, h2, h3⟩
/-- a block of nodes is none of theirs -/
theorem LentNs.not (h : LentNs w base Xs Ys q Zs m) (hq : q ≤ Xs.length) {gr : Nat} {cs : Array Value} (hb : Blk w gr 77 cs) : ∀ y ∈ Ys ++ Zs, ∀ g ∈ y.bs, ¬ g = gr := by
  intro y hy g hg
  rcases List.mem_append.1 hy with hy | hy
  · obtain ⟨x, g1, g2, g3, -, rfl, hl⟩ := h.y_at hq hy
    simp only [NX.bs, lentX, blks, List.mem_append, List.mem_singleton] at hg
    rcases hg with rfl | rfl | rfl
    · exact hl.e.ne_ hb (by decide)
    · exact hl.k.ne_ hb (by decide)
    · exact hl.c.ne_ hb (by decide)
  · obtain ⟨j, g', rfl, hl, -⟩ := h.z_at hy
    simp only [NX.bs, markX, blks, List.mem_append, List.mem_singleton, List.not_mem_nil, false_or] at hg
    subst hg
    exact hl.ne_ hb (by decide)
theorem LentNs.lt (h : LentNs w base Xs Ys q Zs m) (hq : q ≤ Xs.length) : ∀ y ∈ Ys ++ Zs, ∀ g ∈ y.bs, base ≤ g ∧ g < w.heap.size := by
  intro y hy g hg
  rcases List.mem_append.1 hy with hy | hy
  · obtain ⟨x, g1, g2, g3, -, rfl, hl⟩ := h.y_at hq hy
    simp only [NX.bs, lentX, blks, List.mem_append, List.mem_singleton] at hg
    rcases hg with rfl | rfl | rfl
    · exact ⟨hl.b1, hl.e.lt⟩
    · exact ⟨hl.b2, hl.k.lt⟩
    · exact ⟨hl.b3, hl.c.lt⟩
  · obtain ⟨j, g', rfl, hl, hb⟩ := h.z_at hy
    simp only [NX.bs, markX, blks, List.mem_append, List.mem_singleton, List.not_mem_nil, false_or] at hg
    subst hg
    exact ⟨hb, hl.lt⟩
/-- one node more is lent -/
theorem LentNs.push {x : NX} {g1 g2 g3 : Nat} (h : LentNs w base Xs Ys q [] 0) (hq : q < Xs.length) (hx : Xs[q]? = some x) (hm : Mod Nn w w') (hl : LentB w' w.heap.size x.N g1 g2 g3) (hbw : base ≤ w.heap.size) : LentNs w' base Xs (Ys ++ [lentX x g1 g2 g3]) (q + 1) [] 0 := by
  have h' := h.nn (by omega) hm
  refine ⟨by rw [List.length_append, h.yl]; rfl, rfl, fun i y hi hy => ?_, fun j hj => absurd hj (by omega), ?_⟩
  · rcases Nat.lt_or_ge i q with hlt | hge
    · obtain ⟨a, b, c, h1, h2⟩ := h'.ys i y hlt hy
      exact ⟨a, b, c, by rw [List.getElem?_append_left (by rw [h.yl]; exact hlt)]; exact h1, h2⟩
    · obtain rfl : i = q := by omega
      rw [hx] at hy
      injection hy with hy
      subst hy
      exact ⟨g1, g2, g3, by rw [List.getElem?_append_right (by rw [h.yl]; exact Nat.le_refl _), h.yl, Nat.sub_self]; rfl, hl.e, hl.k, hl.c, by have := hl.b1; omega, by have := hl.b2; omega, by have := hl.b3; omega⟩
  · refine List.pairwise_append.2 ⟨h.pw, List.pairwise_singleton .., fun y hy z hz a ha b hb => ?_⟩
    have h1 := (h.lt (by omega) y (List.mem_append_left _ hy) a ha).2
    obtain rfl := List.mem_singleton.1 hz
    simp only [NX.bs, lentX, blks, List.mem_append, List.mem_singleton] at hb
    have := hl.b1; have := hl.b2; have := hl.b3
    rcases hb with rfl | rfl | rfl <;> omega
/-- one mark more -/
theorem LentNs.mark {g : Nat} (h : LentNs w base Xs Ys q Zs m) (hq : q ≤ Xs.length) (hm : Mod Nn w w') (hb : Blk w' g 3 #[.int .i64 (mk0 1 (m : Nat))]) (hg : base ≤ g) : LentNs w' base Xs Ys q (Zs ++ [markX 1 m g]) (m + 1) := by
  have h' := h.nn hq hm
  refine ⟨h.yl, by rw [List.length_append, h.zl]; rfl, h'.ys, fun j hj => ?_, h.pw⟩
  rcases Nat.lt_or_ge j m with hlt | hge
  · obtain ⟨g', h1, h2, h3⟩ := h'.zs j hlt
    exact ⟨g', by rw [List.getElem?_append_left (by rw [h.zl]; exact hlt)]; exact h1, h2, h3⟩
  · obtain rfl : j = m := by omega
    exact ⟨g, by rw [List.getElem?_append_right (by rw [h.zl]; exact Nat.le_refl _), h.zl, Nat.sub_self]; rfl, hb, hg⟩
end
theorem NX.one (x : NX) : ∀ u ∈ x.cells, u.oneCell' = true := by
  intro u hu
  simp only [NX.cells, List.mem_cons, List.not_mem_nil, or_false] at hu
  rcases hu with rfl | rfl | rfl | rfl <;> rfl
/-- the nodes lent out: a row with marks behind its end -/
structure LentRow (w : World) (base g n : Nat) (Xs Ys Zs : List NX) : Prop where
  row : Blk w g 77 (flat NX.cells (Ys ++ Zs)).toArray
  gb : base ≤ g
  ls : LentNs w base Xs Ys n Zs 12
  xl : Xs.length = n
theorem snoc_flat (L : List NX) (x : NX) : flat NX.cells (L ++ [x]) = flat NX.cells L ++ x.cells := by rw [flat_append]; simp [flat]
section
variable {w : World} {A : Option Addr} {n c : Nat} {Xs : List NX}
set_option maxRecDepth 100000 in
set_option maxHeartbeats 3200000 in
theorem lentNs_any (hN : NsAt w A n Xs) (hn : n ≤ 1000) :
    Calls Try.prog 37 #[.slice A n c] w fun r w' => ∃ g, r = .returned (.slice (some ⟨g, 0, none⟩) n (n + 12)) ∧ (∃ Ys Zs, LentRow w' w.heap.size g n Xs Ys Zs) ∧ Mod Nn w w' := by
  have hmax : n + 12 ≤ maxLen := by simp only [maxLen]; omega
  have HN := Lib.hid hN
  clear hN
  go_enter Try.func37, Try.ntmps37
  go_wp2_with (first
    | (with_reducible change wpList _ _ _ (⟨_, Op.makeSlice _ _ _, _, _, _, _⟩ :: _) _ _
       go_must (refine wpList_make_n 72 _ _ rfl rfl 77 _ 4 80 Try.underlying72 info_nodeL 0 ((n : Int) + 12) 0 (n + 12) rfl rfl rfl (by omega) (by omega) (by omega) (by omega) ?_)
       intro w1 b1 m1 z1
       have own1 : w1.ownsRow w.heap.size 77 4 (.slice (some ⟨w.heap.size, 0, none⟩) 0 (n + 12)) 0 [] := own_of_blkS b1 (Nat.le_refl _) (by unfold madeCells; simp) hmax (by omega) (by simp)
       have O1 := Lib.hid (And.intro own1 m1)
       clear b1 z1 own1 m1))
  obtain ⟨g, hg⟩ : ∃ g, w.heap.size = g := ⟨_, rfl⟩
  rw [hg] at O1 ⊢
  have HG := Lib.hid hg
  clear hg
  -- zzL1
  go_loopw [3, 4] (fun v i wr => ∃ (q : Nat) (Ys : List NX), q ≤ n ∧ i = .int .i64 q ∧ v = .slice (some ⟨g, 0, none⟩) q (n + 12) ∧ Hid (wr.ownsRow g 77 4 (.slice (some ⟨g, 0, none⟩) q (n + 12)) q (flat NX.cells Ys) ∧ LentNs wr g Xs Ys q [] 0 ∧ Mod Nn w wr)) (fun _ i _ => n - (intOf i).toNat)
  case atStart => exact ⟨0, [], Nat.zero_le _, rfl, rfl, Lib.hid ⟨O1.out.1, ⟨rfl, rfl, fun i x hi => absurd hi (by omega), fun j hj => absurd hj (by omega), List.Pairwise.nil⟩, O1.out.2⟩⟩
  case round =>
    obtain ⟨q, Ys, hq, rfl, rfl, HR⟩ := hrel
    by_cases hlt : q < n
    · have hlt' : (q : Int) < n := by omega
      obtain ⟨x, hx⟩ : ∃ x, Xs[q]? = some x := ⟨_, List.getElem?_eq_getElem (by rw [HN.out.len]; exact hlt)⟩
      obtain ⟨gA, oA, rfl, hnode⟩ := HN.out.node hx
      have hc2 : ∀ j v, x.cells[j]? = some v → wr.cell? ⟨gA, oA + q * 4 + j, none⟩ = some v := fun j v hv => by
        have h1 := hnode j v hv
        rw [HR.out.2.2.cell (p := ⟨gA, oA + q * 4 + j, none⟩) (World.block_lt_of_cell? w _ h1) (fun f => f)]
        exact h1
      have hnd := (HN.out.nd x (List.mem_of_getElem? hx)).nn HR.out.2.2
      have HX := Lib.hid (And.intro hx (And.intro hc2 hnd))
      clear hx hnode hc2 hnd
      go_wp2_with (first
        | (with_reducible change wpList _ _ _ (⟨some 19, _, _, _, _, _⟩ :: _) _ _
           go_must (refine wpList_val rfl (exec_elem (P := Try.prog) (g := gA) (off := oA) (q := q) 72 _ _ rfl 77 4 uuN sizeN rfl rfl hlt) ?_))
        | (with_reducible change wpList _ _ _ (⟨some 20, _, _, _, _, _⟩ :: _) _ _
           go_must (refine wpList_val rfl (exec_load_cells (P := Try.prog) (b := gA) (off := oA + q * 4) (cs := x.cells) 77 _ rfl rfl HX.out.2.1 Try.underlying77 rfl sizeN) ?_)))
      refine (lentN_any (lf := x.N.leaf) (ec := x.ec) (kc := x.kc) (cc := x.cc) HX.out.2.2).mono ?_
      rintro r w3 ⟨g1, g2, g3, rfl, hl3, m3⟩
      have hgw : g ≤ wr.heap.size := by have := HR.out.2.2.size; have := HG.out; omega
      have hs3 : wr.heap.size ≤ w3.heap.size := m3.size
      have hp3 := HR.out.2.1.push (by rw [HN.out.len]; exact hlt) HX.out.1 m3 hl3 hgw
      have H3 := Lib.hid (And.intro hp3 (And.intro (own_mod HR.out.1 m3 (fun _ _ f => f)) (HR.out.2.2.nn_ m3)))
      clear hl3 m3 hp3
      unfold ndV
      obtain ⟨y, hy⟩ : ∃ y, lentX x g1 g2 g3 = y := ⟨_, rfl⟩
      have hyc : (#[.bool x.N.leaf, .slice (some ⟨g1, 0, none⟩) x.en (x.en + 12), .slice (some ⟨g2, 0, none⟩) x.kn (x.kn + 12), .slice (some ⟨g3, 0, none⟩) x.cn (x.cn + 12)] : Array Value) = y.cells.toArray := by rw [← hy]; rfl
      rw [hy] at H3
      rw [hyc]
      clear hyc hy
      go_wp2_with (first
        | (with_reducible change wpList _ _ _ (⟨some 5, Op.alloc _, _, _, _, _⟩ :: _) _ _
           go_must (refine wpList_alloc_var 77 rfl rfl info_node ?_)
           intro w4 b4 m4 z4
           clear z4
           have hs4 : w3.heap.size < w4.heap.size := b4.lt
           have H4 := Lib.hid (And.intro m4 b4)
           clear m4 b4)
        | (with_reducible change wpList _ _ _ (⟨none, Op.store _ (Operand.tmp 5) _, _, _, _, _⟩ :: _) _ _
           go_must (refine wpList_store_var 77 _ _ rfl rfl w3.heap.size y.cells.toArray _ _ rfl rfl H4.out.2 sizeN rfl (by rw [List.all_toArray, List.all_eq_true]; exact y.one) ?_)
           intro w5 b5 m5 z5
           clear z5
           have m35 : Mod Nn w3 w5 := H4.out.1.new_ m5 (Nat.le_refl _)
           have H5 := Lib.hid (And.intro b5 (And.intro (H3.out.1.nn (by rw [HN.out.len]; omega) m35) (And.intro (own_mod H3.out.2.1 m35 (fun _ _ f => f)) (H3.out.2.2.nn_ m35))))
           clear b5 m5 m35)
        | (with_reducible change wpList _ _ _ (⟨some 23, _, _, _, _, _⟩ :: _) _ _
           go_must (refine wpList_val rfl (exec_load_row (P := Try.prog) (g := w3.heap.size) (cs := y.cells.toArray) 77 _ rfl rfl H5.out.1 Try.underlying77 rfl sizeN) ?_))
        | (with_reducible change wpList _ _ _ (⟨some 24, _, _, _, _, _⟩ :: _) _ _
           go_must (refine wpList_val rfl (exec_bslice1 (P := Try.prog) 72 77 _ rfl (s := 4) Try.underlying72 info_node (by omega) (by omega) rfl (X := y.cells.toArray) rfl rfl) ?_))
        | (with_reducible change wpList _ _ _ (⟨some 25, _, _, _, _, _⟩ :: _) _ _
           go_must (refine wpList_append_spare_rd 72 _ _ rfl rfl g 77 _ 4 80 Try.underlying72 info_nodeL q (n + 12) _ rfl (own_mod H5.out.2.2.1 ((Mod.refl Nn _).alloc _) (fun _ _ f => f)) _ 1 1 y.cells rfl (RdC.of_blk (Blk.new _ _ _) rfl) y.one (by omega) ?_)
           intro w6 own6 gr6
           have hb5 := (H5.out.2.1.nn (by rw [HN.out.len]; omega) ((Mod.refl Nn w5).alloc (.cells y.cells.toArray 77)))
           have m6 : Mod (At g) (w5.alloc (.cells y.cells.toArray 77)) w6 := (Mod.refl _ _).grown gr6 (fun g' h => .inr (by injection h with h; exact h.symm))
           have hbk : ∃ cs, Blk (w5.alloc (.cells y.cells.toArray 77)) g 77 cs := by
             obtain ⟨_, cur, _, _, hb, _⟩ := own_blk_eq (own_mod H5.out.2.2.1 ((Mod.refl Nn w5).alloc (.cells y.cells.toArray 77)) (fun _ _ f => f)) (g := g) rfl
             exact ⟨_, hb⟩
           obtain ⟨cs5, hbk⟩ := hbk
           have hl6 := hb5.mod (by rw [HN.out.len]; omega) m6 (fun y' hy' g' hg' e => hb5.not (by rw [HN.out.len]; omega) hbk y' hy' g' hg' e)
           rw [← snoc_flat] at own6
           have H6 := Lib.hid (show w6.ownsRow g 77 4 (.slice (some ⟨g, 0, none⟩) (q + 1) (n + 12)) (q + 1) (flat NX.cells (Ys ++ [y])) ∧ LentNs w6 g Xs (Ys ++ [y]) (q + 1) [] 0 ∧ Mod Nn w w6 from ⟨own6, hl6, (H5.out.2.2.2.alloc _).new_ m6 (by have := HG.out; omega)⟩)
           clear own6 gr6 hb5 m6 hbk hl6))
      exact ⟨⟨q + 1, Ys ++ [y], by omega, by go_num, rfl, H6⟩, by simp [intOf]; omega⟩
    · have hlt' : ¬ (q : Int) < n := by omega
      obtain rfl : n = q := by omega
      have HO := HR
      clear HR O1
      go_wp2_with fail
      -- zzL2
      go_loopw [3, 6] (fun v i wr => ∃ (m : Nat) (Zs : List NX), m ≤ 12 ∧ i = .int .i64 m ∧ v = .slice (some ⟨g, 0, none⟩) (n + m) (n + 12) ∧ Hid (wr.ownsRow g 77 4 (.slice (some ⟨g, 0, none⟩) (n + m) (n + 12)) (n + m) (flat NX.cells (Ys ++ Zs)) ∧ LentNs wr g Xs Ys n Zs m ∧ Mod Nn w wr)) (fun _ i _ => 12 - (intOf i).toNat)
      case atStart => exact ⟨0, [], by omega, rfl, rfl, Lib.hid ⟨by rw [List.append_nil]; exact HO.out.1, HO.out.2.1, HO.out.2.2⟩⟩
      case round =>
        clear HO
        obtain ⟨m, Zs, hm, rfl, rfl, HR⟩ := hrel
        by_cases hlm : m < 12
        · have hlm' : (m : Int) < 12 := by omega
          go_wp2_with fail
          refine (markNd_any 1 m _ (by omega) (by omega) (by omega) (by omega)).mono ?_
          rintro r w3 ⟨gm, rfl, hb3, m3, hgm⟩
          have hgw : g ≤ wr.heap.size := by have := HR.out.2.2.size; have := HG.out; omega
          have hp3 := HR.out.2.1.mark (by rw [HN.out.len]; exact Nat.le_refl _) m3 hb3 (by omega)
          have H3 := Lib.hid (And.intro hp3 (And.intro (own_mod HR.out.1 m3 (fun _ _ f => f)) (HR.out.2.2.nn_ m3)))
          clear hb3 m3 hp3 hgm
          generalize markX 1 (m : Int) gm = y at *
          go_wp2_with (first
            | (with_reducible change wpList _ _ _ (⟨some 33, _, _, _, _, _⟩ :: _) _ _
               go_must (refine wpList_val rfl (exec_bslice1 (P := Try.prog) 72 77 _ rfl (s := 4) Try.underlying72 info_node (by omega) (by omega) rfl (X := y.cells.toArray) rfl rfl) ?_))
            | (with_reducible change wpList _ _ _ (⟨some 34, _, _, _, _, _⟩ :: _) _ _
               go_must (refine wpList_append_spare_rd 72 _ _ rfl rfl g 77 _ 4 80 Try.underlying72 info_nodeL (n + m) (n + 12) _ rfl (own_mod H3.out.2.1 ((Mod.refl Nn _).alloc _) (fun _ _ f => f)) _ 1 1 y.cells rfl (RdC.of_blk (Blk.new _ _ _) rfl) y.one (by omega) ?_)
               intro w6 own6 gr6
               have hb5 := (H3.out.1.nn (by rw [HN.out.len]; exact Nat.le_refl _) ((Mod.refl Nn w3).alloc (.cells y.cells.toArray 77)))
               have m6 : Mod (At g) (w3.alloc (.cells y.cells.toArray 77)) w6 := (Mod.refl _ _).grown gr6 (fun g' h => .inr (by injection h with h; exact h.symm))
               have hbk : ∃ cs, Blk (w3.alloc (.cells y.cells.toArray 77)) g 77 cs := by
                 obtain ⟨_, cur, _, _, hb, _⟩ := own_blk_eq (own_mod H3.out.2.1 ((Mod.refl Nn w3).alloc (.cells y.cells.toArray 77)) (fun _ _ f => f)) (g := g) rfl
                 exact ⟨_, hb⟩
               obtain ⟨cs5, hbk⟩ := hbk
               have hl6 := hb5.mod (by rw [HN.out.len]; exact Nat.le_refl _) m6 (fun y' hy' g' hg' e => hb5.not (by rw [HN.out.len]; exact Nat.le_refl _) hbk y' hy' g' hg' e)
               rw [← snoc_flat, List.append_assoc] at own6
               have H6 := Lib.hid (show w6.ownsRow g 77 4 (.slice (some ⟨g, 0, none⟩) (n + (m + 1)) (n + 12)) (n + (m + 1)) (flat NX.cells (Ys ++ (Zs ++ [y]))) ∧ LentNs w6 g Xs Ys n (Zs ++ [y]) (m + 1) ∧ Mod Nn w w6 from ⟨own6, hl6, (H3.out.2.2.alloc _).new_ m6 (by have := HG.out; omega)⟩)
               clear own6 gr6 hb5 m6 hbk hl6))
          exact ⟨⟨m + 1, Zs ++ [y], by omega, by go_num, rfl, H6⟩, by simp [intOf]; omega⟩
        · have hlm' : ¬ (m : Int) < 12 := by omega
          obtain rfl : m = 12 := by omega
          have HB := Lib.hid (And.intro (blk_of_ownS HR.out.1) (And.intro HR.out.2.1 HR.out.2.2))
          clear HR
          go_wp2
          go_ret
          exact ⟨g, rfl, ⟨Ys, Zs, HB.out.1, Nat.le_of_eq HG.out, by rw [HG.out]; exact HB.out.2.1, HN.out.len⟩, HB.out.2.2⟩
end
end Go.Proofs.Ytkcpmkeckcnobaa

/- peatbankkit over rows of nodes: KeptNodes, OverNodes. -/
namespace Go.Proofs.Ytkcpmkeckcnobaa
open Go.RowKit

theorem LentRow.cells {w : World} {base g n : Nat} {Xs Ys Zs : List NX} (h : LentRow w base g n Xs Ys Zs) {i : Nat} {y : NX} (hy : (Ys ++ Zs)[i]? = some y) : ∀ j v, y.cells[j]? = some v → w.cell? ⟨g, i * 4 + j, none⟩ = some v := fun j v hv => by
  have hj : j < 4 := by have := (List.getElem?_eq_some_iff.1 hv).1; rwa [NX.len] at this
  rw [h.row.cell, List.getElem?_toArray, flat_at NX.len _ i j hj, hy]
  exact hv
theorem LentRow.nn {w w' : World} {base g n : Nat} {Xs Ys Zs : List NX} (h : LentRow w base g n Xs Ys Zs) (hm : Mod Nn w w') : LentRow w' base g n Xs Ys Zs := ⟨h.row.mod hm (fun f => f), h.gb, h.ls.nn (by rw [h.xl]; exact Nat.le_refl _) hm, h.xl⟩
theorem LentRow.ns {w w' : World} {base g n : Nat} {A : Option Addr} {Xs Ys Zs : List NX} (h : LentRow w base g n Xs Ys Zs) (hN : NsAt w' A n Xs) : NsAt w (some ⟨g, 0, none⟩) n Ys := by
  refine ⟨⟨by rw [flat_len NX.len, h.ls.yl], fun _ => ⟨g, 0, rfl, fun j v hv => ?_⟩⟩, h.ls.yl, fun y hy => ?_⟩
  · rw [Nat.zero_add, h.row.cell, List.getElem?_toArray, flat_append, List.getElem?_append_left (List.getElem?_eq_some_iff.1 hv).1]
    exact hv
  · obtain ⟨x, g1, g2, g3, hx, rfl, hl⟩ := h.ls.y_at (by rw [h.xl]; exact Nat.le_refl _) hy
    exact hl.nd (hN.nd x hx)
theorem LentRow.names {w : World} {base g n : Nat} {Xs Ys Zs : List NX} (h : LentRow w base g n Xs Ys Zs) : Ys.map (·.N) = Xs.map (·.N) := by
  apply List.ext_getElem?
  intro i
  rw [List.getElem?_map, List.getElem?_map]
  rcases Nat.lt_or_ge i n with hi | hi
  · obtain ⟨x, hx⟩ : ∃ x, Xs[i]? = some x := ⟨_, List.getElem?_eq_getElem (by rw [h.xl]; exact hi)⟩
    obtain ⟨g1, g2, g3, h1, _⟩ := h.ls.ys i x hi hx
    rw [h1, hx]; rfl
  · rw [List.getElem?_eq_none (by rw [h.ls.yl]; exact hi), List.getElem?_eq_none (by rw [h.xl]; exact hi)]
theorem sameN_mark {w : World} {M : Int} {g1 g2 : Nat} (h1 : Blk w g1 3 #[.int .i64 M]) (h2 : Blk w g2 3 #[.int .i64 M]) : Calls Try.prog 59 #[.agg #[.bool false, .slice none 0 0, .slice none 0 0, .slice (some ⟨g1, 0, none⟩) 1 1], .agg #[.bool false, .slice none 0 0, .slice none 0 0, .slice (some ⟨g2, 0, none⟩) 1 1]] w fun r w' => r = .returned (.bool true) ∧ Mod Nn w w' := by
  have nd : ∀ g, Blk w g 3 #[.int .i64 M] → NdR w ⟨false, [], [], [M]⟩ none 0 none 0 (some ⟨g, 0, none⟩) 1 := fun g h =>
    ⟨⟨rfl, fun h => absurd h (by omega)⟩, ⟨rfl, fun h => absurd h (by omega)⟩, Rd.of_blk0 h rfl, rfl, rfl, rfl, ⟨(fun r hr => by cases hr), (fun r hr => by cases hr)⟩, by omega, by omega, by omega⟩
  exact sameN_yes (lf := false) (ec := 0) (kc := 0) (cc := 1) (ed := 0) (kd := 0) (cd := 1) (nd g1 h1) (nd g2 h2)
section
variable {w : World} {A : Option Addr} {n c g base : Nat} {Xs Ys Zs : List NX}
set_option maxRecDepth 100000 in
set_option maxHeartbeats 6400000 in
theorem keptNs_any (hL : LentRow w base g n Xs Ys Zs) (hN : NsAt w A n Xs) (hn : n ≤ 1000) :
    Calls Try.prog 39 #[.slice (some ⟨g, 0, none⟩) n (n + 12), .slice A n c] w fun r w' => r = .returned (.bool true) ∧ Mod Nn w w' := by
  have hbn : ((n : Int) != n) = false := by simp
  have HR := Lib.hid (And.intro hL hN)
  clear hL hN
  go_enter Try.func39, Try.ntmps39
  go_wp2
  go_loopw [6] (fun i wr => ∃ k : Nat, k ≤ n + 12 ∧ i = .int .i64 k ∧ Mod Nn w wr) (fun i _ => n + 12 - (intOf i).toNat)
  case atStart => exact ⟨0, by omega, rfl, Mod.refl _ _⟩
  case round =>
    obtain ⟨k, hk, rfl, hmr⟩ := hrel
    obtain ⟨wo, rfl⟩ : ∃ wo : World, wo = wr := ⟨_, rfl⟩
    by_cases hlt : k < n
    · have hlt1 : (k : Int) < n + 12 := by omega
      have hlt2 : (k : Int) < n := by omega
      have hd2 : ¬ n ≤ k := by omega
      have hk12 : k < n + 12 := by omega
      obtain ⟨x, hx⟩ : ∃ x, Xs[k]? = some x := ⟨_, List.getElem?_eq_getElem (by rw [HR.out.1.xl]; exact hlt)⟩
      obtain ⟨g1, g2, g3, hy, -⟩ := HR.out.1.ls.ys k x hlt hx
      obtain ⟨gA, oA, rfl, hnode⟩ := HR.out.2.node hx
      have hcl := HR.out.1.cells (i := k) (y := lentX x g1 g2 g3) (by rw [List.getElem?_append_left (List.getElem?_eq_some_iff.1 hy).1]; exact hy)
      have hlb : ∀ w', Mod Nn w w' → LentB w' base x.N g1 g2 g3 := fun w' hm => by
        obtain ⟨a, b, d, h1, h2⟩ := (HR.out.1.nn hm).ls.ys k x hlt hx
        rw [hy] at h1
        injection h1 with h1
        simp only [lentX, NX.mk.injEq, Option.some.injEq, Addr.mk.injEq, and_true, true_and] at h1
        obtain ⟨e1, e2, e3⟩ := h1
        subst e1 e2 e3
        exact h2
      have hnx := fun w' (hm : Mod Nn w w') => (HR.out.2.nn hm).nd x (List.mem_of_getElem? hx)
      have HX := Lib.hid (And.intro hcl (And.intro hnode (And.intro hlb hnx)))
      have HM := Lib.hid hmr
      clear hcl hnode hlb hnx hx hy hmr
      go_upto_region 7 with fail
      refine wp_region_planC (fun w' => Mod Nn wo w')
        ((List.range 13).map (fun i => (i, true)) ++ ((13, false) :: (List.range 21).map (fun i => (i + 14, true)))) (by kernel_rfl) (by kernel_rfl) (Mod.refl Nn wo).drew ?_
      simp only [List.range, List.range.loop, List.map_cons, List.map_nil, List.cons_append, List.nil_append]
      iterate 7 (refine pc_pure rfl rfl (fun K hK => ?_); go_simp; refine hK _ ?_; clear hK K)
      refine pc_take (.pointer (some ⟨g, 0 + k * 4, none⟩)) rfl rfl (fun w' hS => exec_elem (P := Try.prog) (g := g) (off := 0) (q := k) 72 (.tmp 28) (.tmp 29) rfl 77 4 uuN sizeN rfl rfl hk12) (fun K hK => ?_); go_simp; refine hK _ ?_; clear hK K
      refine pc_take (.agg (lentX x g1 g2 g3).cells.toArray) rfl rfl (fun w' hS => exec_load_cells (P := Try.prog) (b := g) (off := k * 4) 77 (.tmp 30) rfl (cs := (lentX x g1 g2 g3).cells) rfl (fun j v hv => by
        have h1 := HX.out.1 j v hv
        rw [(HM.out.nn_ hS).cell (p := ⟨g, k * 4 + j, none⟩) (World.block_lt_of_cell? w _ h1) (fun f => f)]
        exact h1) Try.underlying77 rfl sizeN) (fun K hK => ?_); go_simp; refine hK _ ?_; clear hK K
      iterate 2 (refine pc_pure rfl rfl (fun K hK => ?_); go_simp; refine hK _ ?_; clear hK K)
      refine pc_take (.pointer (some ⟨gA, oA + k * 4, none⟩)) rfl rfl (fun w' hS => exec_elem (P := Try.prog) (g := gA) (off := oA) (q := k) 72 (.tmp 32) (.tmp 33) rfl 77 4 uuN sizeN rfl rfl hlt) (fun K hK => ?_); go_simp; refine hK _ ?_; clear hK K
      refine pc_take (.agg x.cells.toArray) rfl rfl (fun w' hS => exec_load_cells (P := Try.prog) (b := gA) (off := oA + k * 4) 77 (.tmp 34) rfl (cs := x.cells) rfl (fun j v hv => by
        have h1 := HX.out.2.1 j v hv
        rw [(HM.out.nn_ hS).cell (p := ⟨gA, oA + k * 4 + j, none⟩) (World.block_lt_of_cell? w _ h1) (fun f => f)]
        exact h1) Try.underlying77 rfl sizeN) (fun K hK => ?_); go_simp; refine hK _ ?_; clear hK K
      refine pc_call rfl rfl (fun K hK => ?_); go_simp; refine ⟨_, _, ⟨rfl, rfl⟩, hK _ _ _ ?_⟩; clear hK K
      refine (keptN_any (lf := x.N.leaf) (ec := x.ec) (kc := x.kc) (cc := x.cc) (HX.out.2.2.1 _ HM.out.drew) (HX.out.2.2.2 _ HM.out.drew)).mono ?_
      rintro r9 w9 ⟨rfl, m9⟩
      refine ⟨_, rfl, (Mod.refl Nn wo).drew.nn_ m9, ?_⟩
      have M9 := Lib.hid (HM.out.drew.nn_ m9)
      clear m9
      iterate 8 (refine pc_pure rfl rfl (fun K hK => ?_); go_simp; refine hK _ ?_; clear hK K)
      iterate 11 (refine pc_skip rfl rfl (fun K hK => ?_); go_simp; refine hK _ ?_; clear hK K)
      iterate 2 (refine pc_pure rfl rfl (fun K hK => ?_); go_simp; refine hK _ ?_; clear hK K)
      refine pc_nil ?_
      clear HX
      go_wp2
      exact ⟨⟨k + 1, by omega, by go_num, M9.out⟩, by simp [intOf]; omega⟩
    · by_cases hlt12 : k < n + 12
      · have hlt1 : (k : Int) < n + 12 := by omega
        have hlt2 : ¬ (k : Int) < n := by omega
        have hd2 : n ≤ k := by omega
        obtain ⟨j, hkj⟩ : ∃ j, k = n + j := ⟨k - n, by omega⟩
        have hj : j < 12 := by omega
        have e2 : (k : Int) - (n : Int) = (j : Int) := by omega
        obtain ⟨gm, hz, -, -⟩ := HR.out.1.ls.zs j hj
        have hcl := HR.out.1.cells (i := k) (y := markX 1 j gm) (by rw [List.getElem?_append_right (by rw [HR.out.1.ls.yl]; omega), HR.out.1.ls.yl, hkj, Nat.add_sub_cancel_left]; exact hz)
        have hmb : ∀ w', Mod Nn w w' → Blk w' gm 3 #[.int .i64 (mk0 1 j)] := fun w' hm => by
          obtain ⟨g', h1, h2, _⟩ := (HR.out.1.nn hm).ls.zs j hj
          rw [hz] at h1
          injection h1 with h1
          simp only [markX, NX.mk.injEq, Option.some.injEq, Addr.mk.injEq, and_true, true_and] at h1
          subst h1
          exact h2
        have HX := Lib.hid (And.intro hcl hmb)
        have HM := Lib.hid hmr
        have HE := Lib.hid e2
        clear hcl hmb hz hmr e2 hkj
        go_upto_region 7 with fail
        refine wp_region_planC (fun w' => Mod Nn wo w')
          ((List.range 30).map (fun i => (i, true)) ++ [(30, false), (31, false), (32, true), (33, true), (34, true)]) (by kernel_rfl) (by kernel_rfl) (Mod.refl Nn wo).drew ?_
        simp only [List.range, List.range.loop, List.map_cons, List.map_nil, List.cons_append, List.nil_append]
        iterate 5 (refine pc_pure rfl rfl (fun K hK => ?_); go_simp; refine hK _ ?_; clear hK K)
        iterate 10 (refine pc_skip rfl rfl (fun K hK => ?_); go_simp; refine hK _ ?_; clear hK K)
        iterate 9 (refine pc_pure rfl rfl (fun K hK => ?_); go_simp; refine hK _ ?_; clear hK K)
        refine pc_take (.pointer (some ⟨g, 0 + k * 4, none⟩)) rfl rfl (fun w' hS => exec_elem (P := Try.prog) (g := g) (off := 0) (q := k) 72 (.tmp 45) (.tmp 46) rfl 77 4 uuN sizeN rfl rfl hlt12) (fun K hK => ?_); go_simp; refine hK _ ?_; clear hK K
        refine pc_take (.agg #[.bool false, .slice none 0 0, .slice none 0 0, .slice (some ⟨gm, 0, none⟩) 1 1]) rfl rfl (fun w' hS => exec_load_cells (P := Try.prog) (b := g) (off := k * 4) 77 (.tmp 47) rfl (cs := [.bool false, .slice none 0 0, .slice none 0 0, .slice (some ⟨gm, 0, none⟩) 1 1]) rfl (fun j' v hv => by
          have h1 := HX.out.1 j' v hv
          rw [(HM.out.nn_ hS).cell (p := ⟨g, k * 4 + j', none⟩) (World.block_lt_of_cell? w _ h1) (fun f => f)]
          exact h1) Try.underlying77 rfl sizeN) (fun K hK => ?_); go_simp; refine hK _ ?_; clear hK K
        iterate 4 (refine pc_pure rfl rfl (fun K hK => ?_); go_simp; refine hK _ ?_; clear hK K)
        -- zzW
        refine pc_call rfl rfl (fun K hK => ?_); go_simp; refine ⟨_, _, ⟨rfl, rfl⟩, hK _ _ _ ?_⟩; clear hK K
        rw [show IntKind.i64.wrap ((k : Int) - (n : Int)) = (j : Int) from by rw [IntKind.wrap_i64, HE.out]; omega]
        refine (markNd_any 1 j _ (by omega) (by omega) (by omega) (by omega)).mono ?_
        rintro r9 w9 ⟨gq, rfl, b9, m9, -⟩
        refine ⟨_, rfl, (Mod.refl Nn wo).drew.nn_ m9, ?_⟩
        have M9 := Lib.hid (And.intro (HM.out.drew.nn_ m9) (And.intro b9 ((Mod.refl Nn wo).drew.nn_ m9)))
        clear m9 b9
        have hsame := sameN_mark (M := mk0 1 (j : Int)) (HX.out.2 _ M9.out.1) M9.out.2.1
        have HSM := Lib.hid hsame
        clear hsame
        rw [show (markX 1 (j : Int) gq).cells.toArray = #[.bool false, .slice none 0 0, .slice none 0 0, .slice (some ⟨gq, 0, none⟩) 1 1] from rfl]
        refine pc_call rfl rfl (fun K hK => ?_); go_simp; refine ⟨_, _, ⟨rfl, rfl⟩, hK _ _ _ ?_⟩; clear hK K
        refine HSM.out.mono ?_
        rintro r10 w10 ⟨rfl, m10⟩
        refine ⟨_, rfl, M9.out.2.2.nn_ m10, ?_⟩
        have M10 := Lib.hid (M9.out.1.nn_ m10)
        clear m10
        iterate 3 (refine pc_pure rfl rfl (fun K hK => ?_); go_simp; refine hK _ ?_; clear hK K)
        refine pc_nil ?_
        clear HX
        go_wp2
        exact ⟨⟨k + 1, by omega, by go_num, M10.out⟩, by simp [intOf]; omega⟩
      · have hlt1 : ¬ (k : Int) < n + 12 := by omega
        go_wp2
        go_ret
        exact ⟨rfl, hmr⟩
end
/-! ## written over -/
/-- the nodes from k on are as they were lent -/
def LeftN (w : World) (base n k : Nat) (Xs Ys : List NX) : Prop := ∀ i x, k ≤ i → i < n → Xs[i]? = some x → ∃ g1 g2 g3, Ys[i]? = some (lentX x g1 g2 g3) ∧ LentB w base x.N g1 g2 g3
section
variable {w w1 wN : World} {A : Option Addr} {n c g base : Nat} {Xs Ys Zs : List NX}
set_option maxRecDepth 100000 in
set_option maxHeartbeats 6400000 in
theorem overNs_any (hL : LentRow w base g n Xs Ys Zs) (h1 : LentRow w1 base g n Xs Ys Zs) (hN : NsAt wN A n Xs) (hn : n ≤ 1000) :
    Calls Try.prog 40 #[.slice (some ⟨g, 0, none⟩) n (n + 12)] w fun r w' => r = .returned (.tuple #[]) ∧ Mod (fun x => base ≤ x ∧ x < w1.heap.size) w w' := by
  have hgl := h1.row.lt
  have hgb := hL.gb
  have HL1 := Lib.hid (fun y hy => h1.ls.lt (by rw [h1.xl]; exact Nat.le_refl _) y (List.mem_append_left _ hy) : ∀ y ∈ Ys, ∀ g ∈ y.bs, base ≤ g ∧ g < w1.heap.size)
  clear h1
  have hsz : (flat NX.cells (Ys ++ Zs)).toArray.size = (n + 12) * 4 := by rw [List.size_toArray, flat_len NX.len, List.length_append, hL.ls.yl, hL.ls.zl]
  have HR := Lib.hid (And.intro hL (And.intro hN hsz))
  clear hL hN hsz
  go_enter Try.func40, Try.ntmps40
  go_wp2_with fail
  go_loopw [2] (fun i wr => ∃ k : Nat, k ≤ n ∧ i = .int .i64 k ∧ Hid (Blk wr g 77 (flat NX.cells (Ys ++ Zs)).toArray ∧ LeftN wr base n k Xs Ys ∧ Mod (fun x => base ≤ x ∧ x < w1.heap.size) w wr)) (fun i _ => n - (intOf i).toNat)
  case atStart => exact ⟨0, by omega, rfl, Lib.hid ⟨HR.out.1.row, fun i x _ hi hx => HR.out.1.ls.ys i x hi hx, Mod.refl _ _⟩⟩
  case round =>
    obtain ⟨k, hk, rfl, HQ⟩ := hrel
    obtain ⟨wo, rfl⟩ : ∃ wo : World, wo = wr := ⟨_, rfl⟩
    by_cases hlt : k < n
    · have hlt' : (k : Int) < n := by omega
      obtain ⟨x, hx⟩ : ∃ x, Xs[k]? = some x := ⟨_, List.getElem?_eq_getElem (by rw [HR.out.1.xl]; exact hlt)⟩
      obtain ⟨g1, g2, g3, hy, hl⟩ := HQ.out.2.1 k x (Nat.le_refl _) hlt hx
      have hcl : ∀ j v, (lentX x g1 g2 g3).cells[j]? = some v → wo.cell? ⟨g, k * 4 + j, none⟩ = some v := fun j v hv => by
        have hj : j < 4 := by have := (List.getElem?_eq_some_iff.1 hv).1; rwa [NX.len] at this
        rw [HQ.out.1.cell, List.getElem?_toArray, flat_at NX.len _ k j hj, List.getElem?_append_left (List.getElem?_eq_some_iff.1 hy).1, hy]
        exact hv
      have HX := Lib.hid (And.intro hcl (And.intro hl (And.intro hx hy)))
      clear hcl hl hx hy
      go_wp2_with (first
        | (with_reducible change wpList _ _ _ (⟨some 13, _, _, _, _, _⟩ :: _) _ _
           go_must (refine wpList_val rfl (exec_elem (P := Try.prog) (g := g) (off := 0) (q := k) 72 _ _ rfl 77 4 uuN sizeN rfl rfl hlt) ?_)
           rw [show 0 + k * 4 = k * 4 from by omega])
        | (with_reducible change wpList _ _ _ (⟨some 14, _, _, _, _, _⟩ :: _) _ _
           go_must (refine wpList_val rfl (exec_load_cells (P := Try.prog) (b := g) (off := k * 4) (cs := (lentX x g1 g2 g3).cells) 77 _ rfl rfl HX.out.1 Try.underlying77 rfl sizeN) ?_)))
      refine (overN_any (lf := x.N.leaf) HX.out.2.1 (HR.out.2.1.nd x (List.mem_of_getElem? HX.out.2.2.1))).mono ?_
      rintro r w3 ⟨rfl, m3⟩
      have hlr := HL1.out _ (List.mem_of_getElem? HX.out.2.2.2)
      have hbs : ∀ q, (q = g1 ∨ q = g2 ∨ q = g3) → q ∈ (lentX x g1 g2 g3).bs := fun q hq => by
        simp only [NX.bs, lentX, blks, List.mem_append, List.mem_singleton]; exact hq
      have hgn : ¬ (g = g1 ∨ g = g2 ∨ g = g3) := by
        rintro (e | e | e)
        · exact HX.out.2.1.e.ne_ HQ.out.1 (by decide) e.symm
        · exact HX.out.2.1.k.ne_ HQ.out.1 (by decide) e.symm
        · exact HX.out.2.1.c.ne_ HQ.out.1 (by decide) e.symm
      have hleft : LeftN w3 base n (k + 1) Xs Ys := fun i x' hi hin hx' => by
        obtain ⟨a, b, d, h1, h2⟩ := HQ.out.2.1 i x' (by omega) hin hx'
        obtain ⟨i1, e1⟩ := List.getElem?_eq_some_iff.1 HX.out.2.2.2
        obtain ⟨i2, e2⟩ := List.getElem?_eq_some_iff.1 h1
        have hp := List.pairwise_iff_getElem.1 HR.out.1.ls.pw k i i1 i2 (by omega)
        rw [e1, e2] at hp
        have far : ∀ q, q ∈ (lentX x' a b d).bs → ¬ (q = g1 ∨ q = g2 ∨ q = g3) := fun q hq e => by
          have := hp q (hbs q e) q hq
          omega
        exact ⟨a, b, d, h1, h2.mod m3 (far a (by simp [NX.bs, lentX, blks])) (far b (by simp [NX.bs, lentX, blks])) (far d (by simp [NX.bs, lentX, blks]))⟩
      have H3 := Lib.hid (show Blk w3 g 77 (flat NX.cells (Ys ++ Zs)).toArray ∧ LeftN w3 base n (k + 1) Xs Ys ∧ Mod (fun x => base ≤ x ∧ x < w1.heap.size) w w3 from ⟨HQ.out.1.mod m3 hgn, hleft, HQ.out.2.2.then_ m3 (fun q _ hq => hlr q (hbs q hq))⟩)
      clear m3 hleft hlr hbs hgn
      go_wp2
      exact ⟨⟨k + 1, by omega, by go_num, H3⟩, by simp [intOf]; omega⟩
    · have hlt' : ¬ (k : Int) < n := by omega
      have HO := HQ
      clear HQ
      go_wp2_with fail
      -- zzL2
      go_loopw [4] (fun i wr => ∃ k : Nat, k ≤ n + 12 ∧ i = .int .i64 k ∧ Hid (Mod (fun x => base ≤ x ∧ x < w1.heap.size) w wr ∧ ∃ cs : Array Value, Blk wr g 77 cs ∧ cs.size = (n + 12) * 4)) (fun i _ => n + 12 - (intOf i).toNat)
      case atStart => exact ⟨0, by omega, rfl, Lib.hid ⟨HO.out.2.2, _, HO.out.1, HR.out.2.2⟩⟩
      case round =>
        clear HO
        obtain ⟨k, hk, rfl, hh⟩ := hrel
        obtain ⟨wo, rfl⟩ : ∃ wo : World, wo = wr := ⟨_, rfl⟩
        by_cases hlt : k < n + 12
        · have hlt' : (k : Int) < n + 12 := by omega
          go_wp2_with fail
          refine (markNd_any 2 k _ (by omega) (by omega) (by omega) (by omega)).mono ?_
          rintro r w3 ⟨gm, rfl, -, m3, -⟩
          generalize markX 2 (k : Int) gm = y at *
          obtain ⟨hm, cs, hb, hc⟩ := hh.out
          have HB := Lib.hid (And.intro (hm.nn_ m3) (And.intro (hb.mod m3 (fun f => f)) (And.intro hc (show k * 4 + y.cells.toArray.size ≤ cs.size by rw [List.size_toArray, NX.len, hc]; omega))))
          clear hm hb hc hh m3
          go_wp2_with (first
            | (with_reducible change wpList _ _ _ (⟨some 31, _, _, _, _, _⟩ :: _) _ _
               go_must (refine wpList_val rfl (exec_elem (P := Try.prog) (g := g) (off := 0) (q := k) 72 _ _ rfl 77 4 uuN sizeN rfl rfl hlt) ?_)
               rw [show 0 + k * 4 = k * 4 from by omega])
            | (with_reducible change wpList _ _ _ (⟨none, Op.store _ _ _, _, _, _, _⟩ :: _) _ _
               go_must (refine wpList_store_at 77 _ _ rfl rfl g (k * 4) y.cells.toArray cs _ rfl rfl HB.out.2.1 sizeN HB.out.2.2.2 (by rw [List.all_toArray, List.all_eq_true]; exact y.one) ?_)
               intro w9 b9 m9 z9
               have hq := (store_size HB.out.2.2.2).trans HB.out.2.2.1
               have H9 := Lib.hid (And.intro (HB.out.1.at_ m9 ⟨hgb, hgl⟩) (And.intro b9 hq))
               clear b9 m9 z9 hq))
          exact ⟨⟨k + 1, by omega, by go_num, Lib.hid ⟨H9.out.1, _, H9.out.2.1, H9.out.2.2⟩⟩, by simp [intOf]; omega⟩
        · have hlt' : ¬ (k : Int) < n + 12 := by omega
          go_wp2
          go_end0
          exact ⟨rfl, hh.out.1⟩
end
end Go.Proofs.Ytkcpmkeckcnobaa
