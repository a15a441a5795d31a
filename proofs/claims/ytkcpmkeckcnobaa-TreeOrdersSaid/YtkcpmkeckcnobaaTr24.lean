/- tree.nodes of a leaf. -/
import Derived.Test.YtkcpmkeckcnobaaTr23
namespace Go.Proofs.Ytkcpmkeckcnobaa
open Go.RowKit

def zN : Value := .agg #[.bool false, .slice none 0 0, .slice none 0 0, .slice none 0 0]
theorem infoN : (Try.prog.info? 77).map (fun i => (i.zero, i.size, i.bytes)) = some (some zN, 4, 80) := by kernel_rfl
theorem infoN2 : (Try.prog.info? 77).map (fun i => (i.zero, i.size)) = some (some zN, 4) := by kernel_rfl
theorem zeroN : (Try.prog.info? 77).map (·.zero) = some (some zN) := by kernel_rfl
theorem sizeN : (Try.prog.info? 77).map (·.size) = some 4 := by kernel_rfl
theorem uuN : Try.prog.underlying 72 = some (.slice 77) := Try.underlying72
theorem size_slN : (Try.prog.info? 72).map (·.size) = some 1 := by kernel_rfl
section
variable {w w' : World} {base bl : Nat} {v v' : Value} {Ts : List TN} {t : TN}
theorem exec_leafN {o : Oper} {a : Act} {x : Operand} {A : Option Addr} {n c : Nat} (ho : o.op = .build 77 #[(0, .const (.bool true)), (1, x)]) (hx : a.eval x = .slice A n c) : (execOp a.eval o).run Try.prog w = .ok (.value (.agg #[.bool true, .slice A n c, .slice none 0 0, .slice none 0 0])) w := by
  have hc : cellsOf [.bool true, .slice A n c] = [.bool true, .slice A n c] := rfl
  have := exec_build_seq (P := Try.prog) (w := w) (a := a) 77 _ [.bool true, .slice A n c] ho zeroN (zs := [.bool false, .slice none 0 0, .slice none 0 0, .slice none 0 0]) rfl (by rw [hc]; simp) Try.underlying77 [(0, 1), (1, 1), (2, 1), (3, 1)] (by kernel_rfl)
    (fun i q hq => by
      have e : offs 0 [.bool true, .slice A n c] = [(0, 1), (1, 1)] := rfl
      rw [e] at hq
      match i, hq with
      | 0, hq => exact hq
      | 1, hq => exact hq) (by
      have e : a.eval (.const (.bool true)) = .bool true := rfl
      simp [hx, e, List.zipIdx])
  exact this
/-- no node's rows lie in the list's own row, or the box -/
theorem LAt.far_ (h : LAt w base bl v Ts) (hk : t.Ok w base) : ∀ g, t.rows g → ¬ LSet v bl g := fun g hg hs => by
  have key : ∀ (T : TypeId) (cs : Array Value), Blk w g T cs → T ≠ 28 → T ≠ 23 → T ≠ 3 → False := fun T cs hb h1 h2 h3 => by
    rcases hg with hg | hg | hg
    · exact hold_ne hk.e hb h1 hg
    · exact hold_ne hk.k hb h2 hg
    · exact hold_ne hk.c hb h3 hg
  rcases hs with rfl | hs
  · exact key _ _ h.box (by decide) (by decide) (by decide)
  · obtain ⟨_, _, _, _, hb, _⟩ := own_blk_eq h.row hs
    exact key _ _ hb (by decide) (by decide) (by decide)
/-- the box is not the row's block -/
theorem LAt.own_ne (h : LAt w base bl v Ts) : v.ownBlock ≠ some bl := fun hs => by
  obtain ⟨_, _, _, _, hb, _⟩ := own_blk_eq h.row hs
  exact h.box.ne_ hb (by decide) rfl
theorem TN.Ok.lt (h : t.Ok w base) : ∀ g, t.rows g → g < w.heap.size := fun g hg => by
  rcases hg with hg | hg | hg
  · exact h.e.lt hg
  · exact h.k.lt hg
  · exact h.c.lt hg
/-- one node more -/
theorem LAt.push (h : LAt w base bl v Ts) (ht : t.Ok w base) (hf : ∀ x ∈ Ts, x.Far t) (hm : Mod (fun g => v.ownBlock = some g) w w') (hown : w'.ownsRow base 77 4 v' (Ts.length + 1) (flat TN.cells Ts ++ t.cells)) (hv : ∀ g, v'.ownBlock = some g → v.ownBlock = some g ∨ w.heap.size ≤ g) :
    LAt (w'.setCell ⟨bl, 0, none⟩ v') base bl v' (Ts ++ [t]) ∧ Mod (LSet v bl) w (w'.setCell ⟨bl, 0, none⟩ v') := by
  have hbl := h.box.lt
  have hne : v'.ownBlock ≠ some bl := fun e => (hv bl e).elim h.own_ne (fun h => by omega)
  have m1 : Mod (At bl) w' (w'.setCell ⟨bl, 0, none⟩ v') := Mod.cellAt _ _ _ _
  have mm : Mod (LSet v bl) w (w'.setCell ⟨bl, 0, none⟩ v') := (hm.mono (fun g _ e => .inr e)).trans (m1.mono (fun g _ e => .inl e))
  refine ⟨⟨?_, ?_, fun x hx => ?_, h.hb, List.pairwise_append.2 ⟨h.ap, List.pairwise_singleton _ _, fun x hx y hy => by rw [List.mem_singleton] at hy; subst hy; exact hf x hx⟩⟩, mm⟩
  · exact (h.box.mod hm h.own_ne).set_ 0 _
  · rw [List.length_append, flat_append, flat_one]
    exact own_mod hown m1 (fun g e f => hne (by rw [e]; exact congrArg some f))
  · rcases List.mem_append.1 hx with hx | hx
    · exact (h.ok x hx).mod mm (h.far_ (h.ok x hx))
    · rw [List.mem_singleton] at hx; subst hx
      exact ht.mod mm (h.far_ ht)
end
section
variable {w : World} {v lv : Value} {L : List (List Nat)} {k b c base bl : Nat} {F : List Nat} {A : Option Addr} {Ts : List TN}
set_option maxRecDepth 100000 in
set_option maxHeartbeats 6400000 in
theorem nodes_leaf (h : LeafAt w v L k F b A c) (hl : LAt w base bl lv Ts) (hn : L.length ≤ 549755813888) (hT : Ts.length ≤ 549755813888) : Calls Try.prog 47 #[v, .pointer (some ⟨bl, 0, none⟩)] w (NodesP w 0 L k base bl lv Ts) := by
  obtain ⟨rfl, hb, hrow, hrows, hsrt, rfl, rfl, hnd⟩ := h
  have hbw := hb.lt
  have hblw := hl.box.lt
  have hc0 : w.cell? ⟨b, 0, none⟩ = some (.slice A L.length c) := hb.cell 0
  have HB := Lib.hid (And.intro hb (And.intro hrow (And.intro hrows hl)))
  clear hb hrow hrows hsrt hnd hl
  generalize hXX : leafV b = XX
  have HX := Lib.hid hXX
  unfold leafV at hXX
  subst hXX
  go_enter Try.func47, Try.ntmps47
  go_wp2_with (first
    | (with_reducible change wpList _ _ _ (⟨some 5, Op.alloc _, _, _, _, _⟩ :: _) _ _
       go_must (refine wpList_alloc_var 77 rfl rfl infoN2 ?_)
       intro w1 b1 m1 z1
       clear z1
       have hs1 : w.heap.size < w1.heap.size := b1.lt
       replace hc0 : w1.cell? ⟨b, 0, none⟩ = some (.slice A L.length c) := (m1.cell (p := ⟨b, 0, none⟩) hbw (fun f => f)).trans hc0
       have H1 := Lib.hid (And.intro m1 b1)
       clear m1 b1)
    | (with_reducible change wpList _ _ _ (⟨some 11, _, _, _, _, _⟩ :: _) _ _
       go_must (refine wpList_val rfl (exec_assert_yes (P := Try.prog) _ _ _ _ rfl rfl Try.underlying109) ?_)
       rw [if_pos rfl]))
  refine (scloneE_any (c := c) (HB.out.2.1.nn H1.out.1).rd (bv_one _) (by omega)).mono ?_
  rintro r w2 ⟨A', c', rfl, hh, m2, hfr⟩
  have hs2 : w1.heap.size ≤ w2.heap.size := m2.size
  have H2 := Lib.hid (And.intro (H1.out.1.nn_ m2) (And.intro (H1.out.2.mod m2 (fun f => f)) (And.intro hh hfr)))
  clear m2 hh hfr hc0
  go_wp2_with (first
    | (with_reducible change wpList _ _ _ (⟨some 19, _, _, _, _, _⟩ :: _) _ _
       go_must (refine wpList_val rfl (exec_leafN rfl rfl) ?_))
    | (with_reducible change wpList _ _ _ (⟨none, Op.store _ (Operand.tmp 5) _, _, _, _, _⟩ :: _) _ _
       go_must (refine wpList_store_var 77 _ _ rfl rfl w.heap.size #[.bool true, .slice A' L.length c', .slice none 0 0, .slice none 0 0] _ _ rfl rfl H2.out.2.1 sizeN rfl (by simp [Value.oneCell']) ?_)
       intro w3 b3 m3 z3
       have H3 := Lib.hid (And.intro (H2.out.1.new_ m3 (by omega)) (And.intro b3 (H2.out.2.2.1.mod m3 (fun g hg f => by have := H2.out.2.2.2 g hg; have f' : g = w.heap.size := f; omega))))
       have hs23 : w2.heap.size ≤ w3.heap.size := Nat.le_of_eq z3.symm
       clear m3 b3 z3))
  -- zzA
  have hl3 : LAt w3 base bl lv Ts := HB.out.2.2.2.nn H3.out.1
  have ht : TN.Ok ⟨⟨true, L, [], []⟩, A', c', none, 0, none, 0⟩ w3 base := by
    refine ⟨H3.out.2.2, Hold.nil _ _ _, Hold.nil _ _ _, HB.out.2.2.1, (fun r hr => absurd hr (by simp)), fun g hg => ?_⟩
    rcases hg with hg | ⟨_, hg, _⟩ | ⟨_, hg, _⟩
    · have := H2.out.2.2.2 g hg
      have := HB.out.2.2.2.hb
      omega
    · cases hg
    · cases hg
  have hfr : ∀ g, TN.rows ⟨⟨true, L, [], []⟩, A', c', none, 0, none, 0⟩ g → w.heap.size ≤ g := fun g hg => by
    rcases hg with hg | ⟨_, hg, _⟩ | ⟨_, hg, _⟩
    · have := H2.out.2.2.2 g hg
      omega
    · cases hg
    · cases hg
  have hfar : ∀ x ∈ Ts, x.Far ⟨⟨true, L, [], []⟩, A', c', none, 0, none, 0⟩ := fun x hx g hg hg' => by
    have := (HB.out.2.2.2.ok x hx).lt g hg
    have := hfr g hg'
    omega
  have HFR := Lib.hid hfar
  have HFW := Lib.hid hfr
  clear hfr hfar
  have hc0 := hl3.box.cell 0
  have HL := Lib.hid (And.intro hl3 ht)
  clear hl3 ht
  refine wp_region_planT (fun w' => w'.cell? ⟨bl, 0, none⟩ = some lv ∧ Blk w' w.heap.size 77 #[.bool true, .slice A' L.length c', .slice none 0 0, .slice none 0 0]) 8 [(0, 0), (1, 0), (2, 0), (3, 1), (4, 1), (5, 2), (6, 2), (7, 0), (8, 2)] (by kernel_rfl) (by kernel_rfl) ⟨(Mod.refl Nn w3).drew.cell (p := ⟨bl, 0, none⟩) (World.block_lt_of_cell? w3 _ hc0) (fun f => f) |>.trans hc0, H3.out.2.1.drew⟩ ?_
  iterate 3 (refine pt_pure rfl rfl (fun K hK => ?_); go_simp; refine hK _ ?_; clear hK K)
  refine pt_take _ rfl rfl (fun w' hS => exec_load1 (P := Try.prog) 72 _ rfl rfl hS.1 Try.underlying72 rfl) (fun K hK => ?_); go_simp; refine hK _ ?_; clear hK K
  refine pt_take _ rfl rfl (fun w' hS => exec_load_row (P := Try.prog) (g := w.heap.size) 77 (.tmp 5) rfl rfl hS.2 Try.underlying77 rfl sizeN) (fun K hK => ?_); go_simp; refine hK _ ?_; clear hK K
  refine pt_mk1 (ys := [.bool true, .slice A' L.length c', .slice none 0 0, .slice none 0 0]) (v := .agg #[.bool true, .slice A' L.length c', .slice none 0 0, .slice none 0 0]) 72 77 (.tmp 51) rfl rfl rfl uuN infoN2 (by omega) (by omega) rfl rfl rfl (fun w4 b4 m4 => ⟨fun _ => ⟨((Mod.of_drew m4).cell (p := ⟨bl, 0, none⟩) (World.block_lt_of_cell? w3 _ hc0) (fun f => f)).trans hc0, H3.out.2.1.mod (Mod.of_drew m4) (fun f => f)⟩, ?_⟩)
  refine (fun K hK => ?_); go_simp; refine hK _ ?_; clear hK K
  have m4' := m4.of_drew
  have hs4 : w3.heap.size < w4.heap.size := b4.lt
  have H4 := Lib.hid (And.intro m4' b4)
  clear m4 m4' b4
  have hs3 : w.heap.size < w3.heap.size := by omega
  refine pt_append 72 (.tmp 50) (.tmp 52) rfl rfl rfl base 77 zN 4 80 uuN infoN rfl (by omega) lv Ts.length (flat TN.cells Ts) rfl (HL.out.1.nn H4.out.1).row _ 1 _ [.bool true, .slice A' L.length c', .slice none 0 0, .slice none 0 0] rfl (RdC.of_blk H4.out.2 rfl) (by simp [Value.oneCell']) (by omega) (by omega) (by have := HL.out.1.hb; omega) (fun v5 w5 own5 gr5 ob5 => ?_)
  have hl4 := HL.out.1.nn H4.out.1
  have m45 : Mod (fun g => lv.ownBlock = some g) w4 w5 := (Mod.refl _ w4).grown gr5 (fun g hg => .inr hg)
  have hbl4 : bl < w4.heap.size := by omega
  have c5 : w5.cell? ⟨bl, 0, none⟩ = some lv := (m45.cell (p := ⟨bl, 0, none⟩) hbl4 hl4.own_ne).trans (hl4.box.cell 0)
  have hf5 : w5.frozen? ⟨bl, 0, none⟩ = false := (hl4.box.mod m45 hl4.own_ne).frozen 0
  have how : lv.ownBlock ≠ some w.heap.size := fun e => by
    obtain ⟨_, _, _, _, hb, _⟩ := own_blk_eq HB.out.2.2.2.row e
    exact absurd hb.lt (Nat.lt_irrefl _)
  refine ⟨fun _ => ⟨c5, (H3.out.2.1.mod H4.out.1 (fun f => f)).mod m45 how⟩, ?_⟩
  refine (fun K hK => ?_); go_simp; refine hK _ ?_; clear hK K
  obtain ⟨g5, p5, _, rfl, _⟩ := own_blk own5 (by omega)
  have hp := hl4.push (HL.out.2.mod H4.out.1 (fun _ _ f => f)) HFR.out m45 own5 (fun g hg => by
    rcases ob5 with h | h
    · exact .inl (h.symm.trans hg)
    · exact .inr (by rw [h] at hg; injection hg with hg; omega))
  have hvo : ∀ g, (Value.slice (some ⟨g5, 0, none⟩) (Ts.length + 1) p5).ownBlock = some g → lv.ownBlock = some g ∨ w.heap.size ≤ g := fun g hg => by
    rcases ob5 with h | h
    · exact .inl (h.symm.trans hg)
    · exact .inr (by rw [h] at hg; injection hg with hg; omega)
  have HP := Lib.hid (And.intro hp (And.intro hvo (H3.out.1.nn_ H4.out.1)))
  clear hp hvo m45 hl4 own5 gr5 ob5
  iterate 1 (refine pt_pure rfl rfl (fun K hK => ?_); go_simp; refine hK _ ?_; clear hK K)
  refine pt_unit rfl rfl (exec_store1 (P := Try.prog) (ad := ⟨bl, 0, none⟩) (v := .slice (some ⟨g5, 0, none⟩) (Ts.length + 1) p5) (u := lv) 72 (.tmp 54) (.tmp 53) rfl rfl rfl c5 hf5 rfl rfl rfl size_slN) (fun h => by simp at h) (fun K hK => ?_); go_simp; refine hK _ ?_; clear hK K
  refine pt_nil ?_
  have hps := HP.out.1
  generalize w5.setCell ⟨bl, 0, none⟩ (.slice (some ⟨g5, 0, none⟩) (Ts.length + 1) p5) = w6 at *
  have c6 := hps.1.box.cell 0
  have HR := Lib.hid hps
  clear hps c5 hf5
  go_wp2
  go_ret
  refine ⟨_, [⟨⟨true, L, [], []⟩, A', c', none, 0, none, 0⟩], Ts.length, rfl, ⟨rfl, rfl, rfl⟩, HR.out.1, HP.out.2.2.nn.trans HR.out.2, HP.out.2.1, fun t ht => by rw [List.mem_singleton] at ht; subst ht; exact HFW.out⟩
end
end Go.Proofs.Ytkcpmkeckcnobaa
