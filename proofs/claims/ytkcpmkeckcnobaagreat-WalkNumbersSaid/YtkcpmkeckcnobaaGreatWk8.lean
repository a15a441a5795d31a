/- peatbanklaw17.WalkGoes. -/
import Derived.Test.YtkcpmkeckcnobaaGreatWk7
import Derived.Test.YtkcpmkeckcnobaaGreatBytesP
namespace Go.Proofs.YtkcpmkeckcnobaaGreat
open Go.RowKit

/-- a deed: which, and an entry -/
def DoW := Int × {l : List Nat // l.length = 80 ∧ ∀ z ∈ l, z < 256}
def doW (p : DoW) : List Value := .int .i64 p.1 :: bv p.2.1
theorem doW_len (p : DoW) : (doW p).length = 81 := by simp [doW, bv_len, p.2.2.1]
def DoAt (w : World) (A : Option Addr) (n : Nat) (M : List DoW) : Prop := RdC w A n 81 (flat doW M) ∧ M.length = n
theorem DoAt.row {w : World} {A : Option Addr} {n : Nat} {M : List DoW} (h : DoAt w A n M) {j : Nat} {p : DoW} (hj : M[j]? = some p) (hn : 0 < n) :
    ∃ g off, A = some ⟨g, off, none⟩ ∧ w.cell? ⟨g, off + j * 81, none⟩ = some (.int .i64 p.1) ∧ ∀ q v, (bv p.2.1)[q]? = some v → w.cell? ⟨g, off + j * 81 + 1 + q, none⟩ = some v := by
  obtain ⟨g, off, rfl, hc⟩ := h.1.2 hn
  have key : ∀ q v, q < 81 → (doW p)[q]? = some v → w.cell? ⟨g, off + j * 81 + q, none⟩ = some v := fun q v hq hv => by
    rw [Nat.add_assoc]
    apply hc
    rw [flat_at doW_len M j q hq, hj]
    exact hv
  refine ⟨g, off, rfl, ?_, fun q v hv => ?_⟩
  · have := key 0 _ (by omega) rfl
    rwa [Nat.add_zero] at this
  · have hq : q < 80 := by have := (List.getElem?_eq_some_iff.1 hv).1; rwa [bv_len, p.2.2.1] at this
    rw [Nat.add_assoc]
    refine key (1 + q) v (by omega) ?_
    unfold doW
    rw [Nat.add_comm, List.getElem?_cons_succ]
    exact hv
theorem zero_rcur : (Tryz.prog.info? 117).map (·.zero) = some (some (.agg (bv (List.replicate 120 0) ++ [Value.bool false]).toArray)) := by kernel_rfl
def zk40 : List Nat := List.replicate 40 0
theorem exec_rcur {w : World} {o : Oper} {a : Act} {x0 x1 : Operand} {fr be : List Nat} (ho : o.op = .build 117 #[(0, x0), (1, x1)]) (h0 : a.eval x0 = .agg (bv fr).toArray) (h1 : a.eval x1 = .agg (bv be).toArray) (ha : fr.length = 40) (hb : be.length = 40) :
    (execOp a.eval o).run Tryz.prog w = .ok (.value (.agg (rcurL fr be zk40 false).toArray)) w := by
  have hc : cellsOf [.agg (bv fr).toArray, .agg (bv be).toArray] = bv fr ++ bv be := by simp [cellsOf, Value.cells]
  have hl : (bv fr ++ bv be).length = 80 := by simp [bv_len, ha, hb]
  have := exec_build_seq (P := Tryz.prog) (w := w) (a := a) 117 _ [.agg (bv fr).toArray, .agg (bv be).toArray] ho zero_rcur (zs := bv (List.replicate 120 0) ++ [Value.bool false]) rfl (by rw [hc, hl]; simp [bv_len]) Tryz.underlying117 [(0, 40), (40, 40), (80, 40), (120, 1)] (by kernel_rfl)
    (fun i q hq => by
      have e : offs 0 [.agg (bv fr).toArray, .agg (bv be).toArray] = [(0, 40), (40, 40)] := by
        simp [offs, Value.cells, bv_len, ha, hb]
      rw [e] at hq
      match i, hq with
      | 0, hq => exact hq
      | 1, hq => exact hq) (by simp [h0, h1, List.zipIdx])
  rw [hc, hl] at this
  have e2 : (bv fr ++ bv be ++ (bv (List.replicate 120 0) ++ [Value.bool false]).drop 80) = rcurL fr be zk40 false := by
    unfold rcurL zk40
    rw [List.append_assoc]
    congr 2
  rwa [e2] at this
theorem zk40_ok : zk40.length = 40 ∧ ∀ z ∈ zk40, z < 256 := ⟨by simp [zk40], fun z hz => by have := List.eq_of_mem_replicate hz; omega⟩
theorem size_do : (Tryz.prog.info? 57).map (·.size) = some 81 := by kernel_rfl
theorem ze_lt : ∀ z ∈ ze, z < 256 := fun z hz => by have := List.eq_of_mem_replicate hz; omega
/-- the state between the steps -/
structure Goes (w wr : World) (b c d : Nat) (κ μ : List Nat) (s : Value) (j : Nat) (R L : List (List Nat)) (G at_ la : List Nat) (wi told : Bool) : Prop where
  tr : TrAt wr b L G
  like : Like R L
  rows : Rows 80 R
  len : R.length ≤ 200 + j
  own : OwnE wr w.heap.size s R
  cur : CurAt wr c (.pointer (some ⟨b, 0, none⟩)) at_ μ wi
  rcur : RCur wr d κ μ la told
  ok : CurOk κ at_ la wi told
  sep : ∀ g ∈ G, w.heap.size ≤ g ∧ g ≠ c ∧ g ≠ d ∧ s.ownBlock ≠ some g
  m : Mod Nn w wr
section
variable {w wr : World} {b c d : Nat} {κ μ : List Nat} {s : Value} {j : Nat} {R L : List (List Nat)} {G at_ la : List Nat} {wi told : Bool}
theorem Goes.ownc (h : Goes w wr b c d κ μ s j R L G at_ la wi told) {g : Nat} (hg : s.ownBlock = some g) : g ≠ c ∧ g ≠ d := by
  obtain ⟨_, _, _, _, hb, _⟩ := own_blk_eq h.own hg
  exact ⟨hb.ne_ h.cur.blk (by decide), hb.ne_ h.rcur.blk (by decide)⟩
theorem Goes.cd (h : Goes w wr b c d κ μ s j R L G at_ la wi told) : c ≠ d := h.cur.blk.ne_ h.rcur.blk (by decide)
end
section
variable {w : World} {A B : Option Addr} {n c0 nm cm : Nat} {E : List (List Nat)} {M : List DoW} {κ μ : List Nat}
set_option maxRecDepth 100000 in
set_option maxHeartbeats 12800000 in
theorem walkgoes_any (hE : RowsAt w A n E) (hM : DoAt w B nm M) (h1 : κ.length = 40 ∧ ∀ z ∈ κ, z < 256) (h2 : μ.length = 40 ∧ ∀ z ∈ μ, z < 256) : Calls Tryz.prog 24 #[.slice A n c0, .agg (bv κ).toArray, .agg (bv μ).toArray, .slice B nm cm] w fun r w' => r = .returned (.bool true) ∧ Mod Nn w w' := by
  have l1 := h1.1
  have l2 := h2.1
  have H0 := Lib.hid (And.intro h1 (And.intro h2 (And.intro hE hM)))
  clear h1 h2 hE hM
  go_enter Tryz.func24, Tryz.ntmps24
  go_wp2_with (first
    | (with_reducible change wpList _ _ _ (⟨some 5, Op.box _ _, _, _, _, _⟩ :: _) _ _
       go_must (refine wpList_box_var 40 _ rfl rfl (bv κ).toArray rfl ?_)
       intro w1 b1 m1 z1
       clear z1
       have hs1 : w.heap.size < w1.heap.size := b1.lt
       have H1 := Lib.hid (And.intro m1 b1)
       clear m1 b1)
    | (with_reducible change wpList _ _ _ (⟨some 6, Op.box _ _, _, _, _, _⟩ :: _) _ _
       go_must (refine wpList_box_var 40 _ rfl rfl (bv μ).toArray rfl ?_)
       intro w2 b2 m2 z2
       clear z2
       have hs2 : w1.heap.size < w2.heap.size := b2.lt
       have H2 := Lib.hid (And.intro (H1.out.1.nn_ m2) (And.intro (H1.out.2.mod m2 (fun f => f)) b2))
       clear m2 b2))
  refine (planted_any (c := c0) (H0.out.2.2.1.nn H2.out.1)).mono ?_
  rintro r w3 ⟨b, G, v3, rfl, ht3, ho3, hG3, m3⟩
  have H3 := Lib.hid (And.intro (H2.out.1.nn_ m3) (And.intro (H2.out.2.1.mod m3 (fun f => f)) (And.intro (H2.out.2.2.mod m3 (fun f => f)) (And.intro ht3 (And.intro ho3 hG3)))))
  have hs3 : w2.heap.size ≤ w3.heap.size := m3.size
  clear ht3 ho3 hG3 m3
  go_wp2_with fail
  have hJ : ∀ (c d : Nat) (w6 : World), CurAt w6 c (.pointer (some ⟨b, 0, none⟩)) κ μ true → RCur w6 d κ μ zk40 false → Mod Nn w3 w6 → w3.heap.size ≤ c → w3.heap.size ≤ d → Goes w w6 b c d κ μ v3 0 (plR (E.take 200)) (ordR (E.take 200)) G κ zk40 true false := fun c d w6 hc hd hm h3 h4 =>
    ⟨H3.out.2.2.2.1.nn hm, pl_like _, plR_rows (fun r hr => H0.out.2.2.1.2.1 r (List.mem_of_mem_take hr)), by have := plR_len (E.take 200); rw [List.length_take] at this; omega, own_base (H3.out.2.2.2.2.1.nn hm) (fun g hg => by have := H3.out.2.2.2.2.1.blk hg; omega), hc, hd, cur_start, fun g hg => ⟨by have := (H3.out.2.2.2.2.2 g hg).1; omega, by have := H3.out.2.2.2.1.lt g hg; omega, by have := H3.out.2.2.2.1.lt g hg; omega, (H3.out.2.2.2.2.2 g hg).2⟩, H3.out.1.nn_ hm⟩
  have HJ := Lib.hid hJ
  clear hJ
  go_cut [11, 12] from 23 to 30 (fun p q wx => ∃ c d, p = .pointer (some ⟨c, 0, none⟩) ∧ q = .pointer (some ⟨d, 0, none⟩) ∧ Hid (Goes w wx b c d κ μ v3 0 (plR (E.take 200)) (ordR (E.take 200)) G κ zk40 true false ∧ w3.heap.size ≤ c ∧ w3.heap.size ≤ d))
  case first =>
    refine wp_region_planV (fun w' => Mod Nn w3 w') 9 (.pure 0 (.read 1 (.read 2 (.read 4 (.read 5 (.pure 6 (.fork 3 7 (.pure 8 (.alone 7 (.alone 9 .nil))) (.alone 3 (.pure 8 (.alone 9 .nil)))))))))) (by kernel_rfl) (by kernel_rfl) (Mod.refl Nn w3).drew ?_
    iterate 1 (refine pv_pure rfl rfl (fun K hK => ?_); go_simp; refine hK _ ?_; clear hK K)
    refine pv_take (.agg (bv κ).toArray) rfl rfl (fun w' hS => exec_load_row (P := Tryz.prog) (g := w.heap.size) (cs := (bv κ).toArray) 40 (.tmp 5) rfl rfl (H3.out.2.1.mod hS (fun f => f)) Tryz.underlying40 rfl (size_keyk l1)) (fun K hK => ?_); go_simp; refine hK _ ?_; clear hK K
    refine pv_take (.agg (bv μ).toArray) rfl rfl (fun w' hS => exec_load_row (P := Tryz.prog) (g := w1.heap.size) (cs := (bv μ).toArray) 40 (.tmp 6) rfl rfl (H3.out.2.2.1.mod hS (fun f => f)) Tryz.underlying40 rfl (size_keyk l2)) (fun K hK => ?_); go_simp; refine hK _ ?_; clear hK K
    refine pv_take (.agg (bv κ).toArray) rfl rfl (fun w' hS => exec_load_row (P := Tryz.prog) (g := w.heap.size) (cs := (bv κ).toArray) 40 (.tmp 5) rfl rfl (H3.out.2.1.mod hS (fun f => f)) Tryz.underlying40 rfl (size_keyk l1)) (fun K hK => ?_); go_simp; refine hK _ ?_; clear hK K
    refine pv_take (.agg (bv μ).toArray) rfl rfl (fun w' hS => exec_load_row (P := Tryz.prog) (g := w1.heap.size) (cs := (bv μ).toArray) 40 (.tmp 6) rfl rfl (H3.out.2.2.1.mod hS (fun f => f)) Tryz.underlying40 rfl (size_keyk l2)) (fun K hK => ?_); go_simp; refine hK _ ?_; clear hK K
    refine pv_is (.agg (rcurL κ μ zk40 false).toArray) rfl rfl (fun w' => exec_rcur rfl rfl rfl l1 l2) (fun K hK => ?_); go_simp; refine hK _ ?_; clear hK K
    refine pv_fork ?_ ?_
    · refine pv_call rfl rfl (fun K hK => ?_); go_simp; refine ⟨_, _, ⟨rfl, rfl⟩, hK _ _ _ ?_⟩; clear hK K
      refine (wnew_any (κ := κ) (μ := μ) H0.out.1 H0.out.2.1).mono ?_
      rintro r w4 ⟨c, rfl, hc4, hcs, m4⟩
      have hdr : w3.drew.heap.size = w3.heap.size := rfl
      refine ⟨_, rfl, fun _ => m4.of_drew, ?_⟩
      iterate 1 (refine pv_pure rfl rfl (fun K hK => ?_); go_simp; refine hK _ ?_; clear hK K)
      refine pv_val rfl rfl (exec_box_agg (P := Tryz.prog) (cs := (rcurL κ μ zk40 false).toArray) 117 (.tmp 29) rfl rfl) (fun _ => m4.of_drew.alloc _) (fun K hK => ?_); go_simp; refine hK _ ?_; clear hK K
      have b5 : Blk (w4.alloc (.cells (rcurL κ μ zk40 false).toArray 117)) w4.heap.size 117 (rcurL κ μ zk40 false).toArray := Blk.new _ _ _
      have m5 : Mod Nn w4 (w4.alloc (.cells (rcurL κ μ zk40 false).toArray 117)) := (Mod.refl _ _).alloc _
      generalize w4.alloc (.cells (rcurL κ μ zk40 false).toArray 117) = w5 at *
      have hs4 : w3.heap.size ≤ w4.heap.size := m4.of_drew.size
      have H5 := Lib.hid (And.intro (HJ.out c w4.heap.size w5 (hc4.mod m5 (fun f => f)) ⟨b5, H0.out.1, H0.out.2.1, zk40_ok⟩ (m4.of_drew.nn_ m5) (by omega) hs4) (And.intro (show w3.heap.size ≤ c by omega) hs4))
      clear hc4 m4 b5 m5
      refine pv_val rfl rfl (exec_assign (P := Tryz.prog) (w := w5) (.tmp 30) rfl (v := .pointer (some ⟨w4.heap.size, 0, none⟩)) rfl) (fun h => by simp at h) (fun K hK => ?_); go_simp; refine hK _ ?_; clear hK K
      refine pv_nil ?_
      go_wp2
      go_meet
      exact ⟨c, _, rfl, rfl, H5⟩
    · refine pv_val rfl rfl (exec_box_agg (P := Tryz.prog) (cs := (rcurL κ μ zk40 false).toArray) 117 (.tmp 29) rfl rfl) (fun _ => (Mod.refl Nn w3).drew.alloc _) (fun K hK => ?_); go_simp; refine hK _ ?_; clear hK K
      have b4 : Blk (w3.drew.alloc (.cells (rcurL κ μ zk40 false).toArray 117)) w3.heap.size 117 (rcurL κ μ zk40 false).toArray := Blk.new w3.drew _ _
      have m4 : Mod Nn w3 (w3.drew.alloc (.cells (rcurL κ μ zk40 false).toArray 117)) := (Mod.refl Nn w3).drew.alloc _
      generalize w3.drew.alloc (.cells (rcurL κ μ zk40 false).toArray 117) = w4 at *
      have H4 := Lib.hid (And.intro m4 b4)
      have hs4 : w3.heap.size ≤ w4.heap.size := m4.size
      clear m4 b4
      refine pv_call rfl rfl (fun K hK => ?_); go_simp; refine ⟨_, _, ⟨rfl, rfl⟩, hK _ _ _ ?_⟩; clear hK K
      refine (wnew_any (κ := κ) (μ := μ) H0.out.1 H0.out.2.1).mono ?_
      rintro r w5 ⟨c, rfl, hc5, hcs, m5⟩
      refine ⟨_, rfl, fun _ => H4.out.1.nn_ m5, ?_⟩
      have H5 := Lib.hid (And.intro (HJ.out c w3.heap.size w5 hc5 ⟨H4.out.2.mod m5 (fun f => f), H0.out.1, H0.out.2.1, zk40_ok⟩ (H4.out.1.nn_ m5) (by omega) (Nat.le_refl _)) (And.intro (show w3.heap.size ≤ c by omega) (Nat.le_refl w3.heap.size)))
      clear hc5 m5
      iterate 1 (refine pv_pure rfl rfl (fun K hK => ?_); go_simp; refine hK _ ?_; clear hK K)
      refine pv_val rfl rfl (exec_assign (P := Tryz.prog) (w := w5) (.tmp 30) rfl (v := .pointer (some ⟨w3.heap.size, 0, none⟩)) rfl) (fun h => by simp at h) (fun K hK => ?_); go_simp; refine hK _ ?_; clear hK K
      refine pv_nil ?_
      go_wp2
      go_meet
      exact ⟨c, _, rfl, rfl, H5⟩
  case rest =>
    obtain ⟨c, d, rfl, rfl, HG0⟩ := hcut
    go_wp2_with fail
    go_loopw [10, 13] (fun s i wr => ∃ (j : Nat) (R L : List (List Nat)) (G at_ la : List Nat) (wi told : Bool), j ≤ nm ∧ j ≤ 200 ∧ i = .int .i64 j ∧ Hid (Goes w wr b c d κ μ s j R L G at_ la wi told)) (fun _ i _ => nm - (intOf i).toNat)
    case atStart => exact ⟨0, _, _, G, κ, zk40, true, false, Nat.zero_le _, Nat.zero_le _, rfl, Lib.hid HG0.out.1⟩
    case round =>
      obtain ⟨j, R, L, G', at_, la, wi, told, hj, hj2, rfl, HG⟩ := hrel
      obtain ⟨wo, rfl⟩ : ∃ wo : World, wo = wr := ⟨_, rfl⟩
      have hml : M.length = nm := H0.out.2.2.2.2
      have hcw : w.heap.size ≤ c := by have := HG0.out.2.1; omega
      have hdw : w.heap.size ≤ d := by have := HG0.out.2.2; omega
      have hcl : c < wo.heap.size := HG.out.cur.blk.lt
      have hdl : d < wo.heap.size := HG.out.rcur.blk.lt
      by_cases hjn : j < nm ∧ j < 200
      · obtain ⟨hjn, hj200⟩ := hjn
        have hjn' : (j : Int) < nm := by omega
        have hj200' : (j : Int) < 200 := by omega
        obtain ⟨p, hp⟩ : ∃ p, M[j]? = some p := ⟨_, List.getElem?_eq_getElem (by omega)⟩
        obtain ⟨op, e, hel, hez⟩ := p
        obtain ⟨g, off, rfl, hc0c, hce⟩ := H0.out.2.2.2.row hp (by omega)
        have hgl : g < w.heap.size := lt_of_cell_ hc0c
        have hat : ∀ w', Mod Nn w w' → ∀ q v, (bv e)[q]? = some v → w'.cell? ⟨g, off + j * 81 + 1 + q, none⟩ = some v := fun w' hm q v hv => by
          rw [hm.cell (p := ⟨g, off + j * 81 + 1 + q, none⟩) hgl (fun f => f)]
          exact hce q v hv
        have hop : ∀ w', Mod Nn w w' → w'.cell? ⟨g, off + j * 81, none⟩ = some (.int .i64 op) := fun w' hm => by
          rw [hm.cell (p := ⟨g, off + j * 81, none⟩) hgl (fun f => f)]; exact hc0c
        have hopo := hop wo HG.out.m
        have hLl : L.length ≤ 400 := by have := HG.out.like.len; have := HG.out.len; omega
        have hRl : R.length ≤ 400 := by have := HG.out.len; omega
        have hke := keyOf_len hel
        have HC := Lib.hid (And.intro hat (And.intro hez (keyOf_lt hez)))
        clear hat hez hce hc0c hop hp
        go_wp2_with (first
          | (with_reducible change wpList _ _ _ (⟨some 43, _, _, _, _, _⟩ :: _) _ _
             go_must (refine wpList_val rfl (exec_elem (P := Tryz.prog) (g := g) (off := off) (q := j) 55 (.tmp 41) (.tmp 42) rfl 57 81 Tryz.underlying55 size_do rfl rfl hjn) ?_))
          | (with_reducible change wpList _ _ _ (⟨some 45, _, _, _, _, _⟩ :: _) _ _
             go_must (refine wpList_val rfl (exec_load1 (P := Tryz.prog) (ad := ⟨g, off + j * 81, none⟩) 3 (.tmp 44) rfl rfl hopo Tryz.underlying3 rfl) ?_)))
        refine (pick_any op 5 wo (by omega)).mono ?_
        rintro r w4 ⟨rfl, rfl⟩
        have hpk := pick_range op 5 (by omega)
        obtain ⟨P, hP⟩ : ∃ P, pick op 5 = P := ⟨_, rfl⟩
        rw [hP] at hpk ⊢
        clear hP hopo
        by_cases hP0 : P = 0
        · subst hP0
          clear hpk
          -- zz0
          go_wp2_with (first
            | (with_reducible change wpList _ _ _ (⟨some 71, _, _, _, _, _⟩ :: _) _ _
               go_must (refine wpList_val rfl (exec_elem (P := Tryz.prog) (g := g) (off := off) (q := j) 55 (.tmp 69) (.tmp 70) rfl 57 81 Tryz.underlying55 size_do rfl rfl hjn) ?_))
            | (with_reducible change wpList _ _ _ (⟨some 73, _, _, _, _, _⟩ :: _) _ _
               go_must (refine wpList_val rfl (exec_load_cells (P := Tryz.prog) (b := g) (off := off + j * 81 + 1) (cs := bv e) 43 (.tmp 72) rfl rfl (HC.out.1 wo HG.out.m) Tryz.underlying43 rfl (by rw [bv_len, hel]; exact size_entT)) ?_)))
          refine (tset_any HG.out.tr hel HC.out.2.1 (by omega)).mono ?_
          rintro r w5 ⟨rfl, G5, ht5, hG5, m5⟩
          obtain ⟨A5, c5, hs5v, -, -, hr5, ho5⟩ := HG.out.own.slice
          subst hs5v
          have hs5 : wo.heap.size ≤ w5.heap.size := m5.size
          have hso : w.heap.size ≤ wo.heap.size := HG.out.m.size
          have hm5 : Mod Nn w w5 := HG.out.m.then_ m5 (fun x hx h => by have := (HG.out.sep x h).1; omega)
          have hra5 : RowsAt w5 A5 R.length R := ⟨hr5.md (by omega) m5 (fun x hx hxG => (HG.out.sep x hxG).2.2.2 (ho5 x hx)), HG.out.rows, rfl⟩
          have H5 := Lib.hid (And.intro ht5 (And.intro hm5 (And.intro hra5 (And.intro (HG.out.cur.mod m5 (fun h => (HG.out.sep c h).2.1 rfl)) (And.intro (HG.out.rcur.mod m5 (fun h => (HG.out.sep d h).2.2.1 rfl)) (fun x hx => (hG5 x hx).elim (fun h => ⟨(HG.out.sep x h).1, (HG.out.sep x h).2.1, (HG.out.sep x h).2.2.1⟩) (fun h => ⟨by omega, by omega, by omega⟩) : ∀ x ∈ G5, w.heap.size ≤ x ∧ x ≠ c ∧ x ≠ d))))))
          clear ht5 hG5 m5 hm5 hra5 hr5 ho5
          go_wp2_with (first
            | (with_reducible change wpList _ _ _ (⟨some 78, _, _, _, _, _⟩ :: _) _ _
               go_must (refine wpList_val rfl (exec_elem (P := Tryz.prog) (g := g) (off := off) (q := j) 55 (.tmp 76) (.tmp 77) rfl 57 81 Tryz.underlying55 size_do rfl rfl hjn) ?_))
            | (with_reducible change wpList _ _ _ (⟨some 80, _, _, _, _, _⟩ :: _) _ _
               go_must (refine wpList_val rfl (exec_load_cells (P := Tryz.prog) (b := g) (off := off + j * 81 + 1) (cs := bv e) 43 (.tmp 79) rfl rfl (HC.out.1 w5 H5.out.2.1) Tryz.underlying43 rfl (by rw [bv_len, hel]; exact size_entT)) ?_)))
          refine (lset_any H5.out.2.2.1 (by omega) hel HC.out.2.1).mono ?_
          rintro r w6 ⟨v6, rfl, ho6, m6⟩
          have H6 := Lib.hid (And.intro ho6 m6)
          clear ho6 m6
          go_wp2
          have hrl : (rset R e).length ≤ R.length + 1 := by unfold rset; rw [List.length_append]; have := rdel_len R (keyOf e); simp; omega
          refine ⟨⟨j + 1, rset R e, ins L e, G5, at_, la, wi, told, by omega, by omega, by go_num, Lib.hid ⟨H5.out.1.nn H6.out.2, HG.out.like.set e, rows_rset HG.out.rows ⟨hel, HC.out.2.1⟩, by have := HG.out.len; omega, own_base H6.out.1 (fun x hx => by have := H6.out.1.blk hx; omega), H5.out.2.2.2.1.mod H6.out.2 (fun f => f), H5.out.2.2.2.2.1.mod H6.out.2 (fun f => f), HG.out.ok, fun x hx => ⟨(H5.out.2.2.2.2.2 x hx).1, (H5.out.2.2.2.2.2 x hx).2.1, (H5.out.2.2.2.2.2 x hx).2.2, fun hc => by have h1 := H6.out.1.blk hc; have h2 := H5.out.1.lt x hx; omega⟩, H5.out.2.1.nn_ H6.out.2⟩⟩, by simp [intOf]; omega⟩
        · by_cases hP1 : P = 1
          · subst hP1
            clear hpk hP0
            -- zz1
            go_wp2_with (first
              | (with_reducible change wpList _ _ _ (⟨some 87, _, _, _, _, _⟩ :: _) _ _
                 go_must (refine wpList_val rfl (exec_elem (P := Tryz.prog) (g := g) (off := off) (q := j) 55 (.tmp 85) (.tmp 86) rfl 57 81 Tryz.underlying55 size_do rfl rfl hjn) ?_))
              | (with_reducible change wpList _ _ _ (⟨some 90, _, _, _, _, _⟩ :: _) _ _
                 go_must (refine wpList_val rfl (exec_load_cells (P := Tryz.prog) (b := g) (off := off + j * 81 + 1) (cs := bv (keyOf e)) 40 (.tmp 89) rfl rfl (fun q v hv => HC.out.1 wo HG.out.m q v (key_pre hv)) Tryz.underlying40 rfl (by rw [bv_len, hke]; exact size_keyT)) ?_)))
            refine (tdel_any HG.out.tr hke HC.out.2.2 (by omega)).mono ?_
            rintro r w5 ⟨rfl, G5, ht5, hG5, m5⟩
            obtain ⟨x9, hx9⟩ : ∃ x : Int, (if has L (keyOf e) = true then (0 : Int) else 6) = x := ⟨_, rfl⟩
            rw [hx9]
            clear hx9
            obtain ⟨A5, c5, hs5v, -, -, hr5, ho5⟩ := HG.out.own.slice
            subst hs5v
            have hs5 : wo.heap.size ≤ w5.heap.size := m5.size
            have hso : w.heap.size ≤ wo.heap.size := HG.out.m.size
            have hm5 : Mod Nn w w5 := HG.out.m.then_ m5 (fun x hx h => by have := (HG.out.sep x h).1; omega)
            have hra5 : RowsAt w5 A5 R.length R := ⟨hr5.md (by omega) m5 (fun x hx hxG => (HG.out.sep x hxG).2.2.2 (ho5 x hx)), HG.out.rows, rfl⟩
            have H5 := Lib.hid (And.intro ht5 (And.intro hm5 (And.intro hra5 (And.intro (HG.out.cur.mod m5 (fun h => (HG.out.sep c h).2.1 rfl)) (And.intro (HG.out.rcur.mod m5 (fun h => (HG.out.sep d h).2.2.1 rfl)) (fun x hx => (hG5 x hx).elim (fun h => ⟨(HG.out.sep x h).1, (HG.out.sep x h).2.1, (HG.out.sep x h).2.2.1⟩) (fun h => ⟨by omega, by omega, by omega⟩) : ∀ x ∈ G5, w.heap.size ≤ x ∧ x ≠ c ∧ x ≠ d))))))
            clear ht5 hG5 m5 hm5 hra5 hr5 ho5
            go_wp2_with (first
              | (with_reducible change wpList _ _ _ (⟨some 95, _, _, _, _, _⟩ :: _) _ _
                 go_must (refine wpList_val rfl (exec_elem (P := Tryz.prog) (g := g) (off := off) (q := j) 55 (.tmp 93) (.tmp 94) rfl 57 81 Tryz.underlying55 size_do rfl rfl hjn) ?_))
              | (with_reducible change wpList _ _ _ (⟨some 98, _, _, _, _, _⟩ :: _) _ _
                 go_must (refine wpList_val rfl (exec_load_cells (P := Tryz.prog) (b := g) (off := off + j * 81 + 1) (cs := bv (keyOf e)) 40 (.tmp 97) rfl rfl (fun q v hv => HC.out.1 w5 H5.out.2.1 q v (key_pre hv)) Tryz.underlying40 rfl (by rw [bv_len, hke]; exact size_keyT)) ?_)))
            refine (ldel_any H5.out.2.2.1 (by omega) hke HC.out.2.2).mono ?_
            rintro r w6 ⟨v6, rfl, ho6, m6⟩
            have H6 := Lib.hid (And.intro ho6 m6)
            clear ho6 m6
            go_wp2
            have hrl : (rdel R (keyOf e)).length ≤ R.length := rdel_len R (keyOf e)
            refine ⟨⟨j + 1, rdel R (keyOf e), dele L (keyOf e), G5, at_, la, wi, told, by omega, by omega, by go_num, Lib.hid ⟨H5.out.1.nn H6.out.2, HG.out.like.del (keyOf e), rows_rdel HG.out.rows, by have := HG.out.len; omega, own_base H6.out.1 (fun x hx => by have := H6.out.1.blk hx; omega), H5.out.2.2.2.1.mod H6.out.2 (fun f => f), H5.out.2.2.2.2.1.mod H6.out.2 (fun f => f), HG.out.ok, fun x hx => ⟨(H5.out.2.2.2.2.2 x hx).1, (H5.out.2.2.2.2.2 x hx).2.1, (H5.out.2.2.2.2.2 x hx).2.2, fun hc => by have h1 := H6.out.1.blk hc; have h2 := H5.out.1.lt x hx; omega⟩, H5.out.2.1.nn_ H6.out.2⟩⟩, by simp [intOf]; omega⟩
          · have hq0 : (P == 0) = false := by simpa using hP0
            have hq1 : (P == 1) = false := by simpa using hP1
            clear hpk hP0 hP1
            -- zz2
            obtain ⟨o, ho⟩ : ∃ o, nxt L at_ wi μ = o := ⟨_, rfl⟩
            have ho2 : (L.filter (cand κ μ la told)).head? = o := by rw [← ho]; exact cur_next HG.out.like.srt HG.out.ok
            have HO := Lib.hid (And.intro ho ho2)
            clear ho ho2
            obtain ⟨eo, heo'⟩ : ∃ eo, o.getD ze = eo := ⟨_, rfl⟩
            have heo : eo.length = 80 ∧ ∀ z ∈ eo, z < 256 := by
              rw [← heo']
              cases ho : o with
              | none => exact ⟨ze_len, ze_lt⟩
              | some x =>
                have := HO.out.1
                rw [ho] at this
                exact HG.out.tr.rows x (aft_mem (nxt_some this).1)
            have hel2 := heo.1
            obtain ⟨bo, hbo⟩ : ∃ bo, o.isSome = bo := ⟨_, rfl⟩
            have hov : optV o = .tuple #[.agg (bv eo).toArray, .bool bo] := by unfold optV; rw [heo', hbo]
            have HV := Lib.hid (And.intro heo.2 hov)
            clear heo heo' hbo hov
            go_wp2_with fail
            have hnext := next_any HG.out.cur HG.out.tr
            refine hnext.mono ?_
            clear hnext
            rintro r w5 ⟨rfl, m5, hn5, hx5⟩
            rw [HO.out.1] at hn5 hx5 ⊢
            rw [HV.out.2]
            have hs5 : wo.heap.size ≤ w5.heap.size := m5.size
            have hm5 : Mod Nn w w5 := HG.out.m.then_ m5 (fun x hx h => by have e : x = c := h; omega)
            have H5 := Lib.hid (And.intro hm5 (And.intro hn5 (And.intro hx5 (And.intro (HG.out.tr.mod m5 (fun x hx e => (HG.out.sep x hx).2.1 e)) (And.intro (HG.out.rcur.mod m5 (fun e => HG.out.cd (Eq.symm e))) (HG.out.own.mod m5 (fun x hx e => (HG.out.ownc hx).1 e)))))))
            have hdl5 : d < w5.heap.size := by omega
            clear m5 hn5 hx5 hm5
            go_wp2_with (first
              | (with_reducible change wpList _ _ _ (⟨some 14, Op.alloc _, _, _, _, _⟩ :: _) _ _
                 go_must (refine wpList_alloc_var 43 rfl rfl info_entz ?_)
                 intro w6 b6 m6 z6
                 clear z6
                 have H6 := Lib.hid (And.intro m6 b6)
                 clear m6 b6)
              | (with_reducible change wpList _ _ _ (⟨none, Op.store _ (Operand.tmp 14) _, _, _, _, _⟩ :: _) _ _
                 go_must (refine wpList_store_var 43 _ _ rfl rfl w5.heap.size (bv eo).toArray _ _ rfl rfl H6.out.2 (size_ente hel2) (by rw [bv_size, hel2]; rfl) (bv_all _) ?_)
                 intro w7 b7 m7 z7
                 clear z7
                 have H7 := Lib.hid (And.intro (H6.out.1.new_ m7 (Nat.le_refl _)) b7)
                 clear m7 b7))
            obtain ⟨A5, c5, hs5v, -, -, hr5, ho5⟩ := HG.out.own.slice
            subst hs5v
            have hs7 : w5.heap.size < w7.heap.size := H7.out.2.lt
            obtain ⟨A5', c5', hv5, -, -, hr5', ho5'⟩ := (H5.out.2.2.2.2.2.nn H7.out.1).slice
            injection hv5 with e1 _ e3
            subst e1; subst e3
            have hra : RowsAt w7 A5 R.length R := ⟨hr5', HG.out.rows, rfl⟩
            have HR7 := Lib.hid (And.intro hra (fun x hx => (HG.out.ownc (ho5' x hx)).2 : ∀ x, Of A5 x → x ≠ d))
            clear hra hr5 ho5 hr5' ho5'
            have hrn := rnext_any (c := c5) (H5.out.2.2.2.2.1.mod H7.out.1 (fun f => f)) HR7.out.1 HG.out.like (by omega) HR7.out.2 HO.out.2
            refine hrn.mono ?_
            clear hrn
            rintro r w8 ⟨rfl, m8, hn8, hx8⟩
            rw [HV.out.2]
            have hs8 : w7.heap.size ≤ w8.heap.size := m8.size
            have hm78 : Mod Nn w w8 := (H5.out.1.nn_ H7.out.1).then_ m8 (fun x hx h => by have e : x = d := h; omega)
            have H8 := Lib.hid (And.intro hm78 (And.intro hn8 (And.intro hx8 (And.intro (H7.out.2.mod m8 (fun e => by have e : w5.heap.size = d := e; omega)) m8))))
            clear hn8 hx8 m8 hm78
            go_wp2_with (first
              | (with_reducible change wpList _ _ _ (⟨some 16, Op.alloc _, _, _, _, _⟩ :: _) _ _
                 go_must (refine wpList_alloc_var 43 rfl rfl info_entz ?_)
                 intro w9 b9 m9 z9
                 clear z9
                 have H9 := Lib.hid (And.intro m9 b9)
                 clear m9 b9)
              | (with_reducible change wpList _ _ _ (⟨none, Op.store _ (Operand.tmp 16) _, _, _, _, _⟩ :: _) _ _
                 go_must (refine wpList_store_var 43 _ _ rfl rfl w8.heap.size (bv eo).toArray _ _ rfl rfl H9.out.2 (size_ente hel2) (by rw [bv_size, hel2]; rfl) (bv_all _) ?_)
                 intro w10 b10 m10 z10
                 clear z10
                 have hm10 : Mod Nn w8 w10 := H9.out.1.new_ m10 (Nat.le_refl _)
                 have H10 := Lib.hid (And.intro hm10 (And.intro b10 (H8.out.2.2.2.1.mod hm10 (fun f => f))))
                 clear m10 b10 hm10)
              | (with_reducible change wpList _ _ _ (⟨some 58, _, _, _, _, _⟩ :: _) _ _
                 go_must (refine wpList_val rfl (exec_load_row (P := Tryz.prog) (g := w5.heap.size) (cs := (bv eo).toArray) 43 _ rfl rfl H10.out.2.2 Tryz.underlying43 rfl (size_ente hel2)) ?_))
              | (with_reducible change wpList _ _ _ (⟨some 59, _, _, _, _, _⟩ :: _) _ _
                 go_must (refine wpList_val rfl (exec_load_row (P := Tryz.prog) (g := w8.heap.size) (cs := (bv eo).toArray) 43 _ rfl rfl H10.out.2.1 Tryz.underlying43 rfl (size_ente hel2)) ?_))
              | (with_reducible change wpList _ _ _ (⟨some 60, _, _, _, _, _⟩ :: _) _ _
                 go_must (refine wpList_val rfl (exec_neq_agg (P := Tryz.prog) (b := true) 43 43 _ _ rfl rfl rfl Tryz.eqGuardType43 (eqE hel2 HV.out.1)) ?_)))
            -- zzE
            have hm58 : Mod (At d) w5 w8 := H7.out.1.nn.trans H8.out.2.2.2.2
            have hcd := HG.out.cd
            have hcur : ∃ at2 la2 wi2 told2, CurAt w10 c (.pointer (some ⟨b, 0, none⟩)) at2 μ wi2 ∧ RCur w10 d κ μ la2 told2 ∧ CurOk κ at2 la2 wi2 told2 := by
              cases ho : o with
              | none => exact ⟨at_, la, wi, told, ((H5.out.2.1 ho).mod hm58 (fun e => hcd e)).mod H10.out.1 (fun f => f), (H8.out.2.1 ho).mod H10.out.1 (fun f => f), HG.out.ok⟩
              | some x =>
                have h1 := HO.out.1
                rw [ho] at h1
                exact ⟨keyOf x, keyOf x, false, true, ((H5.out.2.2.1 x ho).mod hm58 (fun e => hcd e)).mod H10.out.1 (fun f => f), (H8.out.2.2.1 x ho).mod H10.out.1 (fun f => f), cur_told HG.out.ok (nxt_some h1).1⟩
            obtain ⟨at2, la2, wi2, told2, hq1', hq2', hq3'⟩ := hcur
            have HQ := Lib.hid (And.intro hq1' (And.intro hq2' hq3'))
            clear hq1' hq2' hq3'
            have hGok : Goes w w10 b c d κ μ (.slice A5 R.length c5) (j + 1) R L G' at2 la2 wi2 told2 :=
              ⟨((H5.out.2.2.2.1.nn H7.out.1).mod H8.out.2.2.2.2 (fun x hx e => (HG.out.sep x hx).2.2.1 e)).nn H10.out.1, HG.out.like, HG.out.rows, by have := HG.out.len; omega, ((H5.out.2.2.2.2.2.nn H7.out.1).mod H8.out.2.2.2.2 (fun x hx e => (HG.out.ownc hx).2 e)).nn H10.out.1, HQ.out.1, HQ.out.2.1, HQ.out.2.2, HG.out.sep, H8.out.1.nn_ H10.out.1⟩
            have HGK := Lib.hid hGok
            clear hGok hm58 hcd
            cases bo <;> (go_wp2; exact ⟨⟨j + 1, R, L, G', at2, la2, wi2, told2, by omega, by omega, by go_num, HGK⟩, by simp [intOf]; omega⟩)
      · by_cases hjl : j < nm
        · have h1 : (j : Int) < nm := by omega
          have h2 : ¬ (j : Int) < 200 := by omega
          go_wp2_with fail
          refine (walk_awake wo).mono ?_
          rintro r w9 ⟨rfl, m9⟩
          have H9 := Lib.hid (HG.out.m.nn_ m9)
          clear m9
          go_wp2
          go_ret
          exact ⟨rfl, H9.out⟩
        · have h1 : ¬ (j : Int) < nm := by omega
          go_wp2_with fail
          refine (walk_awake wo).mono ?_
          rintro r w9 ⟨rfl, m9⟩
          have H9 := Lib.hid (HG.out.m.nn_ m9)
          clear m9
          go_wp2
          go_ret
          exact ⟨rfl, H9.out⟩
end
end Go.Proofs.YtkcpmkeckcnobaaGreat
