/- peatbanklaw16.TreeBack: the walk. -/
import Derived.Test.YtkcpmkeckcnobaaLd6
import Derived.Test.YtkcpmkeckcnobaaUn5
import Derived.Test.YtkcpmkeckcnobaaTr31a
import Derived.Test.YtkcpmkeckcnobaaTr32
import Derived.Test.YtkcpmkeckcnobaaTdR
import Derived.Test.YtkcpmkeckcnobaaStrB
namespace Go.Proofs.Ytkcpmkeckcnobaa
open Go.RowKit

theorem tloadT_any {w' : World} {base : Nat} {L : List (List Nat)} {v : Value} {i : Nat} {Us : List TN} (h : NodesV w' base L v i Us) (hs : Srt L) (hl : L.length ≤ 2000) : Calls Try.prog 38 #[v, .int .i64 (i : Nat)] w' (LoadT w' (some L)) := by
  have hlen := nodesT_len h.is_
  rw [List.length_map] at hlen
  obtain ⟨A, c, rfl, hns⟩ := nsat_of h
  have := loadT_any (c := c) (root := (i : Int)) hns (by omega)
  rwa [loadM_nodes h hs hl] at this
theorem exec_geq_no {P : Program} {w : World} {l k : List Nat} {o : Oper} {a : Act} (T T' : TypeId) (x y : Operand) (ho : o.op = .binOp .geq T x y T') (hx : a.eval x = .string (bstrT l)) (hy : a.eval y = .string (bstrT k)) (hl : ∀ z ∈ l, z < 256) (hk : ∀ z ∈ k, z < 256) (h : klt l k) :
    (execOp a.eval o).run P w = .ok (.value (.bool false)) w := by
  have := exec_geq_str (P := P) (w := w) T T' x y ho hx hy hl hk
  rwa [decide_eq_true h] at this
/-- a deed, of sets and deletes alone -/
def stepB (L : List (List Nat)) (d : DeedR) : List (List Nat) := if pick d.kd 6 = 2 then dele L (kn (pk d.n)) else ins L (en (pk d.n) d.v)
def runB (L : List (List Nat)) (ds : List DeedR) : List (List Nat) := ds.foldl stepB L
theorem runB_take {L : List (List Nat)} {ds : List DeedR} {i : Nat} {d : DeedR} (h : ds[i]? = some d) : runB L (ds.take (i + 1)) = stepB (runB L (ds.take i)) d := by
  obtain ⟨h1, rfl⟩ := List.getElem?_eq_some_iff.1 h
  unfold runB
  rw [List.take_succ_eq_append_getElem h1, List.foldl_append]; rfl
theorem stepB_ok {L : List (List Nat)} (h : Srt L) (d : DeedR) : Srt (stepB L d) ∧ (stepB L d).length ≤ L.length + 1 := by
  unfold stepB
  split
  · exact ⟨srt_dele h _, by rw [len_dele h]; omega⟩
  · exact ⟨srt_ins h _, by rw [len_ins h]; split <;> omega⟩
theorem runB_ok : ∀ (ds : List DeedR) {L : List (List Nat)}, Srt L → Srt (runB L ds) ∧ (runB L ds).length ≤ L.length + ds.length
  | [], _, h => ⟨h, Nat.le_refl _⟩
  | d :: ds, L, h => by
    have h1 := stepB_ok h d
    have h2 := runB_ok ds h1.1
    refine ⟨h2.1, Nat.le_trans h2.2 ?_⟩
    rw [List.length_cons]; omega
theorem runB_len (ds : List DeedR) {L : List (List Nat)} (h : Srt L) (i : Nat) : (runB L (ds.take i)).length ≤ L.length + i := by
  have := (runB_ok (ds.take i) h).2
  rw [List.length_take] at this; omega
/-- two trees with the same entries -/
structure Twin (w wr : World) (pa pb : Nat) (L : List (List Nat)) (Ga Gb : List Nat) : Prop where
  a : TrAt wr pa L Ga
  b : TrAt wr pb L Gb
  ga : ∀ g ∈ Ga, w.heap.size ≤ g ∧ g ∉ Gb
  gb : ∀ g ∈ Gb, w.heap.size ≤ g
  md : Mod Nn w wr
section
variable {w wr w' w'' : World} {pa pb : Nat} {L L' : List (List Nat)} {Ga Gb G' G'' : List Nat}
theorem Twin.nn (h : Twin w wr pa pb L Ga Gb) (hm : Mod Nn wr w') : Twin w w' pa pb L Ga Gb := ⟨h.a.nn hm, h.b.nn hm, h.ga, h.gb, h.md.nn_ hm⟩
/-- the same is done to both -/
theorem Twin.both {wm : World} (h : Twin w wr pa pb L Ga Gb) (ht : TrAt w' pa L' G') (hG : ∀ g ∈ G', g ∈ Ga ∨ wr.heap.size ≤ g) (hm : Mod (· ∈ Ga) wr w') (hn : Mod Nn w' wm) (hu : TrAt w'' pb L' G'') (hG2 : ∀ g ∈ G'', g ∈ Gb ∨ wm.heap.size ≤ g) (hm2 : Mod (· ∈ Gb) wm w'') : Twin w w'' pa pb L' G' G'' := by
  have h1 := h.md.size
  have h2 := hm.size
  have h3 := hn.size
  have hga : ∀ g ∈ G', w.heap.size ≤ g ∧ g ∉ Gb := fun g hg => by
    rcases hG g hg with hg | hg
    · exact h.ga g hg
    · exact ⟨by omega, fun hx => by have := h.b.lt g hx; omega⟩
  have htl := (ht.nn hn).lt
  refine ⟨(ht.nn hn).mod hm2 (fun g hg hx => (hga g hg).2 hx), hu, fun g hg => ⟨(hga g hg).1, fun hx => ?_⟩, fun g hg => ?_, ((h.md.then_ hm (fun g hg hx => by have := (h.ga g hx).1; omega)).nn_ hn).then_ hm2 (fun g hg hx => by have := h.gb g hx; omega)⟩
  · rcases hG2 g hx with hx | hx
    · exact (hga g hg).2 hx
    · have := htl g hg; omega
  · rcases hG2 g hg with hg | hg
    · exact h.gb g hg
    · omega
/-- the second behind the first has changed -/
theorem Twin.mid (h : Twin w wr pa pb L Ga Gb) (hm : Mod (· ∈ Ga) wr w') : TrAt w' pb L Gb := h.b.mod hm (fun g hg hx => (h.ga g hx).2 hg)
end
section
variable {w : World} {A B : Option Addr} {n c m e : Nat} {Ds Es : List DeedR}
set_option maxRecDepth 100000 in
set_option maxHeartbeats 12800000 in
theorem treeback_any (hd : DeedsAt w A n Ds) (he : DeedsAt w B m Es) : Calls Try.prog 11 #[.slice A n c, .slice B m e] w fun r w' => r = .returned (.bool true) ∧ Mod Nn w w' := by
  have HD := Lib.hid hd
  have HE := Lib.hid he
  have HDL := Lib.hid (And.intro hd.2 he.2)
  clear hd he
  go_enter Try.func11, Try.ntmps11
  go_wp2_with fail
  refine (awake16 w).mono ?_
  rintro r w0 ⟨rfl, m0⟩
  have H0 := Lib.hid m0
  clear m0
  by_cases hbig : 600 < n
  · have hbig' : (600 : Int) < n := by omega
    go_wp2
    go_ret
    exact ⟨rfl, H0.out⟩
  by_cases hbig2 : 100 < m
  · have hsm : ¬ (600 : Int) < n := by omega
    have hbig' : (100 : Int) < m := by omega
    go_wp2
    go_ret
    exact ⟨rfl, H0.out⟩
  have hsm : ¬ (600 : Int) < n := by omega
  have hsm2 : ¬ (100 : Int) < m := by omega
  go_wp2_with fail
  refine (tnew_any w0).mono ?_
  rintro r w1 ⟨b, G1, rfl, ht1, hG1, m1⟩
  have hs0 : w.heap.size ≤ w0.heap.size := H0.out.size
  have H1 := Lib.hid (And.intro ht1 (And.intro (fun g hg => by have := hG1 g hg; omega : ∀ g ∈ G1, w.heap.size ≤ g) (H0.out.nn_ m1)))
  clear ht1 hG1 m1
  go_wp2_with fail
  -- zzL1
  go_loopw [6] (fun i wr => ∃ (j : Nat) (G : List Nat), j ≤ n ∧ i = .int .i64 j ∧ Hid (TrAt wr b (runB [] (Ds.take j)) G ∧ (∀ g ∈ G, w.heap.size ≤ g) ∧ Mod Nn w wr)) (fun i _ => n - (intOf i).toNat)
  case atStart => exact ⟨0, G1, Nat.zero_le _, rfl, H1⟩
  case round =>
    obtain ⟨j, G, hj, rfl, HR⟩ := hrel
    by_cases hjn : j < n
    · have hj' : (j : Int) < n := by omega
      obtain ⟨d, hd⟩ : ∃ d, Ds[j]? = some d := ⟨_, List.getElem?_eq_getElem (by rw [HDL.out.1]; exact hjn)⟩
      obtain ⟨gD, oD, eA, hcell⟩ := HD.out.at_ hd
      subst eA
      have hc2 : ∀ q v, d.cells[q]? = some v → wr.cell? ⟨gD, oD + j * 3 + q, none⟩ = some v := fun q v hq => by
        have h1 := hcell q v hq
        rw [HR.out.2.2.cell (p := ⟨gD, oD + j * 3 + q, none⟩) (World.block_lt_of_cell? w _ h1) (fun f => f)]
        exact h1
      have HC := Lib.hid (And.intro (runB_take (L := []) hd) hc2)
      have HLB := Lib.hid (runB_len Ds (L := []) List.Pairwise.nil j)
      clear hd hcell hc2
      go_wp2_with (first
        | (with_reducible change wpList _ _ _ (⟨some 34, _, _, _, _, _⟩ :: _) _ _
           go_must (refine wpList_val rfl (exec_elem (P := Try.prog) (g := gD) (off := oD) (q := j) 79 _ _ rfl 69 3 Try.underlying79 size_deed3 rfl rfl hjn) ?_))
        | (with_reducible change wpList _ _ _ (⟨some 36, _, _, _, _, _⟩ :: _) _ _
           go_must (refine wpList_val rfl (exec_load1 (P := Try.prog) (v := .int .i64 d.kd) (ad := ⟨gD, oD + j * 3, none⟩) 3 _ rfl rfl (HC.out.2 0 _ rfl) Try.underlying3 rfl) ?_)))
      refine (pick_any d.kd 6 _ (by omega)).mono ?_
      rintro r w4 ⟨rfl, rfl⟩
      obtain ⟨p, hp⟩ : ∃ p, pick d.kd 6 = p := ⟨_, rfl⟩
      rw [hp]
      have HP := Lib.hid hp
      clear hp
      by_cases hp2 : p = 2
      · subst hp2
        go_wp2_with (first
          | (with_reducible change wpList _ _ _ (⟨some 42, _, _, _, _, _⟩ :: _) _ _
             go_must (refine wpList_val rfl (exec_elem (P := Try.prog) (g := gD) (off := oD) (q := j) 79 _ _ rfl 69 3 Try.underlying79 size_deed3 rfl rfl hjn) ?_))
          | (with_reducible change wpList _ _ _ (⟨some 44, _, _, _, _, _⟩ :: _) _ _
             go_must (refine wpList_val rfl (exec_load1 (P := Try.prog) (v := .int .i64 d.n) (ad := ⟨gD, oD + j * 3 + 1, none⟩) 3 _ rfl rfl (HC.out.2 1 _ rfl) Try.underlying3 rfl) ?_)))
        refine (key16_any wr d.n).mono ?_
        rintro r w5 ⟨rfl, m5⟩
        have hs5 : wr.heap.size ≤ w5.heap.size := m5.size
        have H5 := Lib.hid (And.intro (HR.out.1.nn m5) (And.intro HR.out.2.1 (HR.out.2.2.nn_ m5)))
        clear m5
        go_wp2_with fail
        refine (tdel_any H5.out.1 (kn_len _) (kn_lt (pk_spec d.n).2) (by have := HLB.out; simp only [List.length_nil] at this; omega)).mono ?_
        rintro r w6 ⟨rfl, G6, ht6, hG6, m6⟩
        generalize (if has _ (kn (pk d.n)) then 0 else 6 : Int) = er
        rw [show dele (runB [] (Ds.take j)) (kn (pk d.n)) = runB [] (Ds.take (j + 1)) from by rw [HC.out.1]; unfold stepB; rw [if_pos HP.out]] at ht6
        have hsw : w.heap.size ≤ wr.heap.size := HR.out.2.2.size
        have H6 := Lib.hid (show TrAt w6 b (runB [] (Ds.take (j + 1))) G6 ∧ (∀ g ∈ G6, w.heap.size ≤ g) ∧ Mod Nn w w6 from ⟨ht6, fun g hg => (hG6 g hg).elim (HR.out.2.1 g) (fun h => by omega), H5.out.2.2.then_ m6 (fun g hg h => by have := HR.out.2.1 g h; omega)⟩)
        clear ht6 hG6 m6
        go_wp2
        exact ⟨⟨j + 1, G6, by omega, by go_num, H6⟩, by simp [intOf]; omega⟩
      · have hpb : (p == 2) = false := by rw [beq_eq_false_iff_ne]; exact hp2
        go_wp2_with (first
          | (with_reducible change wpList _ _ _ (⟨some 50, _, _, _, _, _⟩ :: _) _ _
             go_must (refine wpList_val rfl (exec_elem (P := Try.prog) (g := gD) (off := oD) (q := j) 79 _ _ rfl 69 3 Try.underlying79 size_deed3 rfl rfl hjn) ?_))
          | (with_reducible change wpList _ _ _ (⟨some 51, _, _, _, _, _⟩ :: _) _ _
             go_must (refine wpList_val rfl (exec_load_cells (P := Try.prog) (b := gD) (off := oD + j * 3) (cs := d.cells) 69 _ rfl rfl HC.out.2 Try.underlying69 rfl size_deed3) ?_)))
        refine (entry16_any wr d.kd d.n d.v d.hv).mono ?_
        rintro r w5 ⟨rfl, m5⟩
        have hs5 : wr.heap.size ≤ w5.heap.size := m5.size
        have H5 := Lib.hid (And.intro (HR.out.1.nn m5) (And.intro HR.out.2.1 (HR.out.2.2.nn_ m5)))
        clear m5
        go_wp2_with fail
        refine (tset_any H5.out.1 (en_len _ _) (en_lt (pk_spec d.n).2 d.hv) (by have := HLB.out; simp only [List.length_nil] at this; omega)).mono ?_
        rintro r w6 ⟨rfl, G6, ht6, hG6, m6⟩
        rw [show ins (runB [] (Ds.take j)) (en (pk d.n) d.v) = runB [] (Ds.take (j + 1)) from by rw [HC.out.1]; unfold stepB; rw [if_neg (by rw [HP.out]; exact hp2)]] at ht6
        have hsw : w.heap.size ≤ wr.heap.size := HR.out.2.2.size
        have H6 := Lib.hid (show TrAt w6 b (runB [] (Ds.take (j + 1))) G6 ∧ (∀ g ∈ G6, w.heap.size ≤ g) ∧ Mod Nn w w6 from ⟨ht6, fun g hg => (hG6 g hg).elim (HR.out.2.1 g) (fun h => by omega), H5.out.2.2.then_ m6 (fun g hg h => by have := HR.out.2.1 g h; omega)⟩)
        clear ht6 hG6 m6
        go_wp2
        exact ⟨⟨j + 1, G6, by omega, by go_num, H6⟩, by simp [intOf]; omega⟩
    · have hje : j = n := by omega
      subst hje
      have hrl := runB_len Ds (L := []) List.Pairwise.nil j
      have hTs := (runB_ok (Ds.take j) (L := []) List.Pairwise.nil).1
      simp only [List.length_nil, Nat.zero_add] at hrl
      generalize runB [] (Ds.take j) = L at *
      have HTS := Lib.hid hTs
      clear hTs
      obtain ⟨N, hN⟩ : ∃ N, L.length = N := ⟨_, rfl⟩
      have HN := Lib.hid hN
      have hN6 : N ≤ 600 := by omega
      clear hrl hN
      go_wp2_with fail
      refine (tnodes_any HR.out.1 (by rw [HN.out]; omega)).mono ?_
      rintro r w5 ⟨vn, i5, Us, rfl, hNV, m5⟩
      have hs5 : wr.heap.size ≤ w5.heap.size := m5.size
      have H5 := Lib.hid (And.intro (HR.out.1.nn m5) (And.intro (HR.out.2.2.nn_ m5) hNV))
      clear hNV m5
      go_wp2_with fail
      refine (tloadT_any H5.out.2.2 HTS.out (by rw [HN.out]; omega)).mono ?_
      rintro r w6 ⟨m6, b6, G6, rfl, ht6, hG6⟩
      have hlen := nodesT_len H5.out.2.2.is_
      rw [List.length_map, HN.out] at hlen
      obtain ⟨An, cn, evn, _, _⟩ := own_form H5.out.2.2.row
      subst evn
      have hT6 : Twin w w6 b b6 L G G6 := by
        have hsw : w.heap.size ≤ wr.heap.size := HR.out.2.2.size
        refine ⟨H5.out.1.nn m6, ht6, fun g hg => ⟨HR.out.2.1 g hg, fun hx => ?_⟩, fun g hg => ?_, H5.out.2.1.nn_ m6⟩
        · have h1 := HR.out.1.lt g hg
          have h2 := hG6 g hx
          omega
        · have h2 := hG6 g hg; omega
      have H6 := Lib.hid hT6
      clear m6 ht6 hG6 hT6 H5 H1
      obtain ⟨N4, hN4⟩ : ∃ N4 : Nat, (N : Int) / 4 = (N4 : Int) := ⟨N / 4, by omega⟩
      have hgt : ¬ (N4 : Int) + 1 < (Us.length : Int) := by omega
      have hN4b : N4 ≤ 600 := by omega
      -- zzG
      go_wp2_with fail
      refine (tlen_any H6.out.b).mono ?_
      rintro r w7 ⟨rfl, m7⟩
      have H7 := Lib.hid (H6.out.nn m7)
      rw [HN.out]
      clear m7
      go_wp2_with fail
      refine (tlen_any H7.out.a).mono ?_
      rintro r w8 ⟨rfl, m8⟩
      have H8 := Lib.hid (H7.out.nn m8)
      rw [HN.out]
      clear m8
      go_wp2_with fail
      refine (tlen_any H8.out.a).mono ?_
      rintro r w9 ⟨rfl, m9⟩
      have H9 := Lib.hid (H8.out.nn m9)
      rw [HN.out]
      clear m9 H6 H7 H8 HR
      -- zzH
      go_wp2_with fail
      go_loopw [11] (fun i wr => ∃ (j : Nat) (Ga Gb : List Nat), j ≤ m ∧ i = .int .i64 j ∧ Hid (Twin w wr b b6 (runB L (Es.take j)) Ga Gb)) (fun i _ => m - (intOf i).toNat)
      case atStart => exact ⟨0, G, G6, Nat.zero_le _, rfl, H9⟩
      case round =>
        clear H9
        obtain ⟨j, Ga, Gb, hj, rfl, HR⟩ := hrel
        by_cases hjn : j < m
        · have hj' : (j : Int) < m := by omega
          obtain ⟨d, hd⟩ : ∃ d, Es[j]? = some d := ⟨_, List.getElem?_eq_getElem (by rw [HDL.out.2]; exact hjn)⟩
          obtain ⟨gE, oE, eA, hcell⟩ := HE.out.at_ hd
          subst eA
          have hc2 : ∀ w', Mod Nn w w' → ∀ q v, d.cells[q]? = some v → w'.cell? ⟨gE, oE + j * 3 + q, none⟩ = some v := fun w' hm q v hq => by
            have h1 := hcell q v hq
            rw [hm.cell (p := ⟨gE, oE + j * 3 + q, none⟩) (World.block_lt_of_cell? w _ h1) (fun f => f)]
            exact h1
          have HC := Lib.hid (And.intro (runB_take (L := L) hd) hc2)
          have HLB := Lib.hid (runB_len Es HTS.out j)
          clear hd hcell hc2
          go_wp2_with (first
            | (with_reducible change wpList _ _ _ (⟨some 91, _, _, _, _, _⟩ :: _) _ _
               go_must (refine wpList_val rfl (exec_elem (P := Try.prog) (g := gE) (off := oE) (q := j) 79 _ _ rfl 69 3 Try.underlying79 size_deed3 rfl rfl hjn) ?_))
            | (with_reducible change wpList _ _ _ (⟨some 93, _, _, _, _, _⟩ :: _) _ _
               go_must (refine wpList_val rfl (exec_load1 (P := Try.prog) (v := .int .i64 d.kd) (ad := ⟨gE, oE + j * 3, none⟩) 3 _ rfl rfl (HC.out.2 _ HR.out.md 0 _ rfl) Try.underlying3 rfl) ?_)))
          refine (pick_any d.kd 6 _ (by omega)).mono ?_
          rintro r w4 ⟨rfl, rfl⟩
          obtain ⟨p, hp⟩ : ∃ p, pick d.kd 6 = p := ⟨_, rfl⟩
          rw [hp]
          have HP := Lib.hid hp
          clear hp
          by_cases hp2 : p = 2
          · subst hp2
            obtain ⟨er, her⟩ : ∃ er : Int, (if has (runB L (Es.take j)) (kn (pk d.n)) then 0 else 6 : Int) = er := ⟨_, rfl⟩
            go_wp2_with fail
            refine wp_region_planC (fun w' => ∀ q v, d.cells[q]? = some v → w'.cell? ⟨gE, oE + j * 3 + q, none⟩ = some v) [(0, true), (1, true), (2, true), (3, true), (4, true), (5, true), (8, true), (9, true), (10, true), (11, true), (12, true), (13, true), (6, false), (7, false), (14, false), (15, false), (16, true)] (by kernel_rfl) (by kernel_rfl) (HC.out.2 _ (HR.out.md.drew)) ?_
            iterate 3 (refine pc_pure rfl rfl (fun K hK => ?_); go_simp; refine hK _ ?_; clear hK K)
            refine pc_take (.pointer (some ⟨gE, oE + j * 3, none⟩)) rfl rfl (fun w' hS => exec_elem (P := Try.prog) (g := gE) (off := oE) (q := j) 79 (.tmp 97) (.tmp 98) rfl 69 3 Try.underlying79 size_deed3 rfl rfl hjn) (fun K hK => ?_); go_simp; refine hK _ ?_; clear hK K
            iterate 1 (refine pc_pure rfl rfl (fun K hK => ?_); go_simp; refine hK _ ?_; clear hK K)
            refine pc_take (.int .i64 d.n) rfl rfl (fun w' hS => exec_load1 (P := Try.prog) (v := .int .i64 d.n) (ad := ⟨gE, oE + j * 3 + 1, none⟩) 3 (.tmp 100) rfl rfl (hS 1 _ rfl) Try.underlying3 rfl) (fun K hK => ?_); go_simp; refine hK _ ?_; clear hK K
            iterate 3 (refine pc_pure rfl rfl (fun K hK => ?_); go_simp; refine hK _ ?_; clear hK K)
            refine pc_take (.pointer (some ⟨gE, oE + j * 3, none⟩)) rfl rfl (fun w' hS => exec_elem (P := Try.prog) (g := gE) (off := oE) (q := j) 79 (.tmp 105) (.tmp 106) rfl 69 3 Try.underlying79 size_deed3 rfl rfl hjn) (fun K hK => ?_); go_simp; refine hK _ ?_; clear hK K
            iterate 1 (refine pc_pure rfl rfl (fun K hK => ?_); go_simp; refine hK _ ?_; clear hK K)
            refine pc_take (.int .i64 d.n) rfl rfl (fun w' hS => exec_load1 (P := Try.prog) (v := .int .i64 d.n) (ad := ⟨gE, oE + j * 3 + 1, none⟩) 3 (.tmp 108) rfl rfl (hS 1 _ rfl) Try.underlying3 rfl) (fun K hK => ?_); go_simp; refine hK _ ?_; clear hK K
            refine pc_call rfl rfl (fun K hK => ?_); go_simp; refine ⟨_, _, ⟨rfl, rfl⟩, hK _ _ _ ?_⟩; clear hK K
            refine (key16_any _ d.n).mono ?_
            rintro r w5 ⟨rfl, m5⟩
            have H5 := Lib.hid (HR.out.nn m5.of_drew)
            clear m5
            refine ⟨_, rfl, HC.out.2 _ H5.out.md, ?_⟩
            refine pc_call rfl rfl (fun K hK => ?_); go_simp; refine ⟨_, _, ⟨rfl, rfl⟩, hK _ _ _ ?_⟩; clear hK K
            refine (tdel_any H5.out.a (kn_len _) (kn_lt (pk_spec d.n).2) (by have := HLB.out; have := HN.out; omega)).mono ?_
            rintro r w6 ⟨rfl, Ga6, ht6, hGa6, m6⟩
            rw [her]
            have md6 : Mod Nn w w6 := H5.out.md.then_ m6 (fun g hg hx => by have := (H5.out.ga g hx).1; omega)
            have H6 := Lib.hid (And.intro ht6 (And.intro hGa6 (And.intro m6 (And.intro md6 (H5.out.mid m6)))))
            clear ht6 hGa6 m6 md6
            refine ⟨_, rfl, HC.out.2 _ H6.out.2.2.2.1, ?_⟩
            refine pc_call rfl rfl (fun K hK => ?_); go_simp; refine ⟨_, _, ⟨rfl, rfl⟩, hK _ _ _ ?_⟩; clear hK K
            refine (key16_any _ d.n).mono ?_
            rintro r w7 ⟨rfl, m7⟩
            have H7 := Lib.hid (And.intro m7 (H6.out.2.2.2.2.nn m7))
            clear m7
            refine ⟨_, rfl, HC.out.2 _ (H6.out.2.2.2.1.nn_ H7.out.1), ?_⟩
            refine pc_call rfl rfl (fun K hK => ?_); go_simp; refine ⟨_, _, ⟨rfl, rfl⟩, hK _ _ _ ?_⟩; clear hK K
            refine (tdel_any H7.out.2 (kn_len _) (kn_lt (pk_spec d.n).2) (by have := HLB.out; have := HN.out; omega)).mono ?_
            rintro r w8 ⟨rfl, Gb8, ht8, hGb8, m8⟩
            rw [her]
            have hT8 := H5.out.both H6.out.1 H6.out.2.1 H6.out.2.2.1 H7.out.1 ht8 hGb8 m8
            rw [show dele (runB L (Es.take j)) (kn (pk d.n)) = runB L (Es.take (j + 1)) from by rw [HC.out.1]; unfold stepB; rw [if_pos HP.out]] at hT8
            have H8 := Lib.hid hT8
            clear ht8 hGb8 m8 hT8
            refine ⟨_, rfl, HC.out.2 _ H8.out.md, ?_⟩
            iterate 1 (refine pc_pure rfl rfl (fun K hK => ?_); go_simp; refine hK _ ?_; clear hK K)
            refine pc_nil ?_
            go_wp2
            exact ⟨⟨j + 1, Ga6, Gb8, by omega, by go_num, H8⟩, by simp [intOf]; omega⟩
          · have hpb : (p == 2) = false := by rw [beq_eq_false_iff_ne]; exact hp2
            go_wp2_with fail
            refine wp_region_planC (fun w' => ∀ q v, d.cells[q]? = some v → w'.cell? ⟨gE, oE + j * 3 + q, none⟩ = some v) [(0, true), (1, true), (2, true), (3, true), (4, true), (7, true), (8, true), (9, true), (10, true), (11, true), (5, false), (6, false), (12, false), (13, false), (14, true)] (by kernel_rfl) (by kernel_rfl) (HC.out.2 _ (HR.out.md.drew)) ?_
            iterate 3 (refine pc_pure rfl rfl (fun K hK => ?_); go_simp; refine hK _ ?_; clear hK K)
            refine pc_take (.pointer (some ⟨gE, oE + j * 3, none⟩)) rfl rfl (fun w' hS => exec_elem (P := Try.prog) (g := gE) (off := oE) (q := j) 79 (.tmp 114) (.tmp 115) rfl 69 3 Try.underlying79 size_deed3 rfl rfl hjn) (fun K hK => ?_); go_simp; refine hK _ ?_; clear hK K
            refine pc_take (.agg d.cells.toArray) rfl rfl (fun w' hS => exec_load_cells (P := Try.prog) (b := gE) (off := oE + j * 3) (cs := d.cells) 69 (.tmp 116) rfl rfl hS Try.underlying69 rfl size_deed3) (fun K hK => ?_); go_simp; refine hK _ ?_; clear hK K
            iterate 3 (refine pc_pure rfl rfl (fun K hK => ?_); go_simp; refine hK _ ?_; clear hK K)
            refine pc_take (.pointer (some ⟨gE, oE + j * 3, none⟩)) rfl rfl (fun w' hS => exec_elem (P := Try.prog) (g := gE) (off := oE) (q := j) 79 (.tmp 121) (.tmp 122) rfl 69 3 Try.underlying79 size_deed3 rfl rfl hjn) (fun K hK => ?_); go_simp; refine hK _ ?_; clear hK K
            refine pc_take (.agg d.cells.toArray) rfl rfl (fun w' hS => exec_load_cells (P := Try.prog) (b := gE) (off := oE + j * 3) (cs := d.cells) 69 (.tmp 123) rfl rfl hS Try.underlying69 rfl size_deed3) (fun K hK => ?_); go_simp; refine hK _ ?_; clear hK K
            refine pc_call rfl rfl (fun K hK => ?_); go_simp; refine ⟨_, _, ⟨rfl, rfl⟩, hK _ _ _ ?_⟩; clear hK K
            refine (entry16_any _ d.kd d.n d.v d.hv).mono ?_
            rintro r w5 ⟨rfl, m5⟩
            have H5 := Lib.hid (HR.out.nn m5.of_drew)
            clear m5
            refine ⟨_, rfl, HC.out.2 _ H5.out.md, ?_⟩
            refine pc_call rfl rfl (fun K hK => ?_); go_simp; refine ⟨_, _, ⟨rfl, rfl⟩, hK _ _ _ ?_⟩; clear hK K
            refine (tset_any H5.out.a (en_len _ _) (en_lt (pk_spec d.n).2 d.hv) (by have := HLB.out; have := HN.out; omega)).mono ?_
            rintro r w6 ⟨rfl, Ga6, ht6, hGa6, m6⟩
            have md6 : Mod Nn w w6 := H5.out.md.then_ m6 (fun g hg hx => by have := (H5.out.ga g hx).1; omega)
            have H6 := Lib.hid (And.intro ht6 (And.intro hGa6 (And.intro m6 (And.intro md6 (H5.out.mid m6)))))
            clear ht6 hGa6 m6 md6
            refine ⟨_, rfl, HC.out.2 _ H6.out.2.2.2.1, ?_⟩
            refine pc_call rfl rfl (fun K hK => ?_); go_simp; refine ⟨_, _, ⟨rfl, rfl⟩, hK _ _ _ ?_⟩; clear hK K
            refine (entry16_any _ d.kd d.n d.v d.hv).mono ?_
            rintro r w7 ⟨rfl, m7⟩
            have H7 := Lib.hid (And.intro m7 (H6.out.2.2.2.2.nn m7))
            clear m7
            refine ⟨_, rfl, HC.out.2 _ (H6.out.2.2.2.1.nn_ H7.out.1), ?_⟩
            refine pc_call rfl rfl (fun K hK => ?_); go_simp; refine ⟨_, _, ⟨rfl, rfl⟩, hK _ _ _ ?_⟩; clear hK K
            refine (tset_any H7.out.2 (en_len _ _) (en_lt (pk_spec d.n).2 d.hv) (by have := HLB.out; have := HN.out; omega)).mono ?_
            rintro r w8 ⟨rfl, Gb8, ht8, hGb8, m8⟩
            have hT8 := H5.out.both H6.out.1 H6.out.2.1 H6.out.2.2.1 H7.out.1 ht8 hGb8 m8
            rw [show ins (runB L (Es.take j)) (en (pk d.n) d.v) = runB L (Es.take (j + 1)) from by rw [HC.out.1]; unfold stepB; rw [if_neg (by rw [HP.out]; exact hp2)]] at hT8
            have H8 := Lib.hid hT8
            clear ht8 hGb8 m8 hT8
            refine ⟨_, rfl, HC.out.2 _ H8.out.md, ?_⟩
            iterate 1 (refine pc_pure rfl rfl (fun K hK => ?_); go_simp; refine hK _ ?_; clear hK K)
            refine pc_nil ?_
            go_wp2
            exact ⟨⟨j + 1, Ga6, Gb8, by omega, by go_num, H8⟩, by simp [intOf]; omega⟩
        · have hje : j = m := by omega
          subst hje
          have hrl := runB_len Es HTS.out j
          generalize runB L (Es.take j) = L2 at *
          have hL2 : L2.length ≤ 700 := by have := HN.out; omega
          clear hrl
          obtain ⟨M, hM⟩ : ∃ M, L2.length = M := ⟨_, rfl⟩
          have HM := Lib.hid hM
          rw [hM] at hL2
          clear hM
          go_wp2_with fail
          refine (all16_any HR.out.a (by rw [HM.out]; omega)).mono ?_
          rintro r w13 ⟨va, rfl, oa, m13⟩
          have H13 := Lib.hid (And.intro (HR.out.nn m13) oa)
          clear m13 oa
          go_wp2_with fail
          refine (all16_any H13.out.1.b (by rw [HM.out]; omega)).mono ?_
          rintro r w14 ⟨vb, rfl, ob, m14⟩
          have oa := H13.out.2.nn m14
          obtain ⟨A1, c1, rfl, -, -, r1, -⟩ := oa.slice
          obtain ⟨A2, c2, rfl, -, -, r2, -⟩ := ob.slice
          rw [HM.out] at r1 r2
          rw [HM.out]
          have H14 := Lib.hid (And.intro (H13.out.1.nn m14) (And.intro r1 r2))
          clear m14 oa ob r1 r2 H13 HR
          go_wp2_with fail
          -- zzJ
          go_loopw [14] (fun i wr => ∃ (q : Nat), 1 ≤ q ∧ i = .int .i64 (q : Int) ∧ Hid (Mod Nn w14 wr)) (fun i _ => M - (intOf i).toNat)
          case atStart => exact ⟨1, Nat.le_refl _, rfl, Lib.hid (Mod.refl _ _)⟩
          case round =>
            obtain ⟨q, hq1, rfl, HQ⟩ := hrel
            by_cases hq : q < M
            · obtain ⟨p, rfl⟩ : ∃ p, q = p + 1 := ⟨q - 1, by omega⟩
              have hq' : (p : Int) + 1 < (M : Int) := by omega
              obtain ⟨x, hx⟩ : ∃ x, L2[p]? = some x := ⟨_, List.getElem?_eq_getElem (by rw [HM.out]; omega)⟩
              obtain ⟨y, hy⟩ : ∃ y, L2[p + 1]? = some y := ⟨_, List.getElem?_eq_getElem (by rw [HM.out]; omega)⟩
              have hrows := H14.out.1.a.rows
              have hxl := hrows x (List.mem_of_getElem? hx)
              have hyl := hrows y (List.mem_of_getElem? hy)
              have hklt : klt (keyOf x) (keyOf y) := by
                obtain ⟨h1, rfl⟩ := List.getElem?_eq_some_iff.1 hx
                obtain ⟨h2, rfl⟩ := List.getElem?_eq_some_iff.1 hy
                exact List.pairwise_iff_getElem.1 H14.out.1.a.srt p (p + 1) h1 h2 (by omega)
              obtain ⟨gA, oA, rfl, -⟩ := H14.out.2.1.2 (by omega)
              have cx := H14.out.2.1.rowAt hrows hx (by omega)
              have cy := H14.out.2.1.rowAt hrows hy (by omega)
              have rdk : ∀ (e : List Nat) (i : Nat), e.length = 80 → (∀ j v, (bv e)[j]? = some v → w14.cell? ⟨gA, oA + i * 80 + j, none⟩ = some v) → ∀ w', Mod Nn w14 w' → Rd w' (some ⟨gA, oA + i * 80, none⟩) 40 (bv (keyOf e)) := fun e i hel hc w' hm => by
                refine ⟨by rw [bv_len]; unfold keyOf; rw [List.length_take, hel]; rfl, fun _ => ⟨gA, oA + i * 80, rfl, fun j v hv => ?_⟩⟩
                have hj : j < 40 := by have := (List.getElem?_eq_some_iff.1 hv).1; rw [bv_len] at this; unfold keyOf at this; rw [List.length_take] at this; omega
                have h1 := hc j v (by
                  rw [← hv]; unfold keyOf bv; rw [List.map_take, List.getElem?_take_of_lt hj])
                rw [hm.cell (p := ⟨gA, oA + i * 80 + j, none⟩) (World.block_lt_of_cell? w14 _ h1) (fun f => f)]
                exact h1
              have HX := Lib.hid (And.intro (rdk x p hxl.1 cx) (And.intro (rdk y (p + 1) hyl.1 cy) (And.intro (show ∀ z ∈ keyOf x, z < 256 from fun z hz => hxl.2 z (List.mem_of_mem_take hz)) (And.intro (show ∀ z ∈ keyOf y, z < 256 from fun z hz => hyl.2 z (List.mem_of_mem_take hz)) hklt))))
              clear hx hy hrows hxl hyl hklt cx cy rdk
              have hpM : p < M := by omega
              go_wp2_with fail
              refine wp_region_planC (fun w' => Mod Nn w14 w') [(0, true), (1, true), (2, true), (3, true), (4, true), (5, true), (6, true), (7, true), (8, true), (9, true), (10, true), (11, true), (12, true), (13, true)] (by kernel_rfl) (by kernel_rfl) HQ.out.drew ?_
              iterate 3 (refine pc_pure rfl rfl (fun K hK => ?_); go_simp; refine hK _ ?_; clear hK K)
              rw [show IntKind.i64.wrap (p : Int) = (p : Int) from by rw [IntKind.wrap_i64]; omega]
              refine pc_take (.pointer (some ⟨gA, oA + p * 80, none⟩)) rfl rfl (fun w' hS => exec_elem (P := Try.prog) (g := gA) (off := oA) (q := p) 40 (.tmp 138) (.tmp 140) rfl 28 80 uuE sizeE rfl rfl hpM) (fun K hK => ?_); go_simp; refine hK _ ?_; clear hK K
              iterate 2 (refine pc_pure rfl rfl (fun K hK => ?_); go_simp; refine hK _ ?_; clear hK K)
              refine pc_take (.string (bstrT (keyOf x))) rfl rfl (fun w' hS => exec_conv_str (P := Try.prog) 97 5 9 (.tmp 143) rfl Try.underlying97 Try.underlying5 Try.underlying9 rfl (HX.out.1 w' hS)) (fun K hK => ?_); go_simp; refine hK _ ?_; clear hK K
              iterate 2 (refine pc_pure rfl rfl (fun K hK => ?_); go_simp; refine hK _ ?_; clear hK K)
              refine pc_take (.pointer (some ⟨gA, oA + (p + 1) * 80, none⟩)) rfl rfl (fun w' hS => exec_elem (P := Try.prog) (g := gA) (off := oA) (q := p + 1) 40 (.tmp 145) (.tmp 146) rfl 28 80 uuE sizeE rfl rfl hq) (fun K hK => ?_); go_simp; refine hK _ ?_; clear hK K
              iterate 2 (refine pc_pure rfl rfl (fun K hK => ?_); go_simp; refine hK _ ?_; clear hK K)
              refine pc_take (.string (bstrT (keyOf y))) rfl rfl (fun w' hS => exec_conv_str (P := Try.prog) 97 5 9 (.tmp 149) rfl Try.underlying97 Try.underlying5 Try.underlying9 rfl (HX.out.2.1 w' hS)) (fun K hK => ?_); go_simp; refine hK _ ?_; clear hK K
              refine pc_take (.bool false) rfl rfl (fun w' hS => exec_geq_no (P := Try.prog) _ _ (.tmp 144) (.tmp 150) rfl rfl rfl HX.out.2.2.1 HX.out.2.2.2.1 HX.out.2.2.2.2) (fun K hK => ?_); go_simp; refine hK _ ?_; clear hK K
              refine pc_nil ?_
              -- zzK
              have HQ2 := Lib.hid HQ.out.drew
              go_wp2
              exact ⟨⟨p + 1 + 1, by omega, by go_num, HQ2⟩, by simp [intOf]; omega⟩
            · have hq' : ¬ (q : Int) < (M : Int) := by omega
              have H15 := Lib.hid (And.intro (H14.out.1.nn HQ.out) (And.intro (H14.out.2.1.md (by omega) HQ.out (fun _ _ f => f)) (H14.out.2.2.md (by omega) HQ.out (fun _ _ f => f))))
              go_wp2_with fail
              -- zzM
              refine (tlen_any H15.out.1.a).mono ?_
              rintro r w16 ⟨rfl, m16⟩
              rw [HM.out]
              have H16 := Lib.hid (And.intro (H15.out.1.nn m16) (And.intro (H15.out.2.1.md (by omega) m16 (fun _ _ f => f)) (H15.out.2.2.md (by omega) m16 (fun _ _ f => f))))
              clear m16
              go_wp2_with fail
              refine (sameE_yes H16.out.2.1 H16.out.2.2 H16.out.1.a.rows HM.out (by omega)).mono ?_
              rintro r w17 ⟨rfl, m17⟩
              have H17 := Lib.hid (H16.out.1.md.nn_ m17)
              clear m17
              go_wp2
              go_ret
              exact ⟨rfl, H17.out⟩
end
end Go.Proofs.Ytkcpmkeckcnobaa
