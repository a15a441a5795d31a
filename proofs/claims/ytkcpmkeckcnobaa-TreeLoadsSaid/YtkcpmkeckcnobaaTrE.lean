/- Own lemmas of several kinds, put together: Tr6, Tr7, Tr8, Tr9, Tr10. -/
import Derived.Test.YtkcpmkeckcnobaaTrD
import Derived.Test.YtkcpmkeckcnobaaKitF
/- What is set and deleted in a leaf, and in a kid, in plain words; an inner part one of whose kids was changed. -/
namespace Go.Proofs.Ytkcpmkeckcnobaa
open Go.RowKit

/-! ## a leaf -/
section
variable {L : List (List Nat)} {k e : List Nat} {i : Nat}
theorem getD_key (L : List (List Nat)) (j : Nat) (h : j < L.length) : (L.map keyOf).getD j [] = keyOf L[j] := by
  rw [List.getD_eq_getElem?_getD, List.getElem?_map, List.getElem?_eq_getElem h]; rfl
theorem place_cut (h : Place (L.map keyOf) k i) : Cut L k (L.take i) (L.drop i) := by
  have hle := h.le
  rw [List.length_map] at hle
  refine ⟨(List.take_append_drop i L).symm, fun r hr => ?_, fun r hr => ?_⟩
  · obtain ⟨j, hj, rfl⟩ := List.getElem_of_mem hr
    rw [List.length_take] at hj
    have := h.lo j (by omega)
    rw [getD_key L j (by omega)] at this
    rw [List.getElem_take]; exact this
  · obtain ⟨j, hj, rfl⟩ := List.getElem_of_mem hr
    rw [List.length_drop] at hj
    have := h.hi (i + j) (by omega) (by rw [List.length_map]; omega)
    rw [getD_key L (i + j) (by omega)] at this
    rw [List.getElem_drop]; exact this
theorem place_there (h : Place (L.map keyOf) k i) (hs : Srt L) (hi : i < L.length) (hk : (L.map keyOf).getD i [] = k) :
    lows L k = L.take i ∧ highs L k = L.drop (i + 1) ∧ has L k = true ∧ aft L k true = some L[i] ∧ aft L k false = L[i + 1]? := by
  have hc := place_cut h
  rw [List.drop_eq_getElem_cons hi] at hc
  rw [getD_key L i hi] at hk
  obtain ⟨h1, h2, h3, h4, h5, _⟩ := hc.there hs hk
  exact ⟨h1, h2, h3, h4, by rw [h5, List.head?_drop]⟩
theorem place_not (h : Place (L.map keyOf) k i) (hs : Srt L) (hk : ¬ (i < L.length ∧ (L.map keyOf).getD i [] = k)) :
    lows L k = L.take i ∧ highs L k = L.drop i ∧ has L k = false ∧ ∀ w, aft L k w = L[i]? := by
  have hc := place_cut h
  obtain ⟨h1, h2, h3, h4, _⟩ := hc.not_there hs (fun r hr e => by
    rw [List.head?_drop] at hr
    obtain ⟨hi, rfl⟩ := List.getElem?_eq_some_iff.1 hr
    exact hk ⟨hi, by rw [getD_key L i hi]; exact e⟩)
  exact ⟨h1, h2, h3, fun w => by rw [h4 w, List.head?_drop]⟩
/-! ## a kid -/
theorem kid_split {ks : List (List Nat)} {ts : List Kid} (hk : kidx ks k i) (hs : Sep ks ts) (hl : ks.length + 1 = ts.length) :
    ∃ X t Y, ts = X ++ t :: Y ∧ X.length = i ∧ Ahead (entsOf X) k ∧ Behind (entsOf Y) k := by
  have hit : i < ts.length := by have := hk.1; omega
  refine ⟨ts.take i, ts[i], ts.drop (i + 1), ?_, ?_, ?_, ?_⟩
  · rw [← List.drop_eq_getElem_cons hit, List.take_append_drop]
  · rw [List.length_take]; omega
  · rcases Nat.eq_zero_or_pos i with rfl | hp
    · intro r hr; rw [List.take_zero] at hr; cases hr
    · obtain ⟨j, rfl⟩ : ∃ j, i = j + 1 := ⟨i - 1, by omega⟩
      have hj : j < ks.length := by have := hk.1; omega
      have h1 := (hs j ks[j] (List.getElem?_eq_getElem hj)).1
      have h2 := hk.2.1 j (by omega)
      rw [List.getD_eq_getElem?_getD, List.getElem?_eq_getElem hj] at h2
      exact fun r hr => klt_of_lt_le (h1 r hr) h2
  · by_cases hj : i < ks.length
    · have h1 := (hs i ks[i] (List.getElem?_eq_getElem hj)).2
      have h2 := hk.2.2 i (Nat.le_refl _) hj
      rw [List.getD_eq_getElem?_getD, List.getElem?_eq_getElem hj] at h2
      exact fun r hr => klt_of_lt_le h2 (h1 r hr)
    · intro r hr
      rw [List.drop_of_length_le (by omega)] at hr
      cases hr
theorem kidx_get {ks : List (List Nat)} (hk : kidx ks k i) {j : Nat} {y : List Nat} (hj : ks[j]? = some y) : (j < i → ¬ klt k y) ∧ (i ≤ j → klt k y) := by
  obtain ⟨hl, rfl⟩ := List.getElem?_eq_some_iff.1 hj
  refine ⟨fun h => ?_, fun h => ?_⟩
  · have := hk.2.1 j h
    rwa [List.getD_eq_getElem?_getD, List.getElem?_eq_getElem hl] at this
  · have := hk.2.2 j h hl
    rwa [List.getD_eq_getElem?_getD, List.getElem?_eq_getElem hl] at this
theorem sep_swap {ks : List (List Nat)} {X Y : List Kid} {t t' : Kid} (hs : Sep ks (X ++ t :: Y)) (h : ∀ j y, ks[j]? = some y → ∀ r ∈ t'.L, (X.length ≤ j → klt (keyOf r) y) ∧ (j < X.length → ¬ klt (keyOf r) y)) : Sep ks (X ++ t' :: Y) := by
  intro j y hj
  obtain ⟨s1, s2⟩ := hs j y hj
  have ht := h j y hj
  by_cases hx : X.length ≤ j
  · obtain ⟨m, hm⟩ : ∃ m, j + 1 - X.length = m + 1 := ⟨j - X.length, by omega⟩
    rw [List.take_append, List.take_of_length_le (by omega), hm, List.take_succ_cons, entsOf_append, entsOf_cons] at s1
    rw [List.drop_append, List.drop_of_length_le (by omega), hm, List.drop_succ_cons, List.nil_append] at s2
    rw [List.take_append, List.take_of_length_le (by omega), List.drop_append, List.drop_of_length_le (by omega), hm, List.take_succ_cons, List.drop_succ_cons, List.nil_append, entsOf_append, entsOf_cons]
    refine ⟨fun r hr => ?_, s2⟩
    rcases List.mem_append.1 hr with hr | hr
    · exact s1 r (List.mem_append_left _ hr)
    · rcases List.mem_append.1 hr with hr | hr
      · exact (ht r hr).1 hx
      · exact s1 r (List.mem_append_right _ (List.mem_append_right _ hr))
  · rw [List.take_append_of_le_length (by omega)] at s1 ⊢
    rw [List.drop_append_of_le_length (by omega), entsOf_append, entsOf_cons] at s2 ⊢
    refine ⟨s1, fun r hr => ?_⟩
    rcases List.mem_append.1 hr with hr | hr
    · exact s2 r (List.mem_append_left _ hr)
    · rcases List.mem_append.1 hr with hr | hr
      · exact (ht r hr).2 (by omega)
      · exact s2 r (List.mem_append_right _ (List.mem_append_right _ hr))
theorem sep_ins {ks : List (List Nat)} {X Y : List Kid} {t t' : Kid} (hs : Sep ks (X ++ t :: Y)) (hk : kidx ks (keyOf e) X.length) (ht : t'.L = ins t.L e) : Sep ks (X ++ t' :: Y) :=
  sep_swap hs (fun j y hj r hr => by
    rw [ht] at hr
    rcases mem_ins hr with h | rfl
    · exact ⟨fun hx => sep_ahead hs hj hx r h, fun hx => sep_behind hs hj hx r h⟩
    · exact ⟨(kidx_get hk hj).2, (kidx_get hk hj).1⟩)
theorem sep_dele {ks : List (List Nat)} {X Y : List Kid} {t t' : Kid} (hs : Sep ks (X ++ t :: Y)) (ht : t'.L = dele t.L k) : Sep ks (X ++ t' :: Y) :=
  sep_swap hs (fun j y hj r hr => by
    rw [ht] at hr
    have h := mem_dele hr
    exact ⟨fun hx => sep_ahead hs hj hx r h, fun hx => sep_behind hs hj hx r h⟩)
end
section
variable {w w' : World} {ks : List (List Nat)} {X Y : List Kid} {t t' : Kid} {d b kc cc : Nat} {F : List Nat} {K C : Option Addr}
theorem InnerAt.lt' (h : InnerAt (TreeAt w d) w b ks (X ++ t :: Y) F K kc C cc) : ∀ g ∈ F, g < w.heap.size := fun g hg => by
  rcases h.mem.1 hg with rfl | hg | hg | ⟨t, ht, hg⟩
  · exact h.blk.lt
  · exact h.krow.lt hg
  · exact h.crow.lt hg
  · exact (h.kids t ht).lt g hg
theorem InnerAt.swap (h : InnerAt (TreeAt w d) w b ks (X ++ t :: Y) F K kc C cc) (hm : Mod (· ∈ t.F) w w') (hv : t'.v = t.v) (ht : TreeAt w' d t'.v t'.L t'.k t'.F) (hF : ∀ g ∈ t'.F, g ∈ t.F ∨ w.heap.size ≤ g)
    (hs : Srt (entsOf (X ++ t' :: Y))) (hp : Sep ks (X ++ t' :: Y)) : InnerAt (TreeAt w' d) w' b ks (X ++ t' :: Y) (b :: (blks K ++ (blks C ++ foot (X ++ t' :: Y)))) K kc C cc ∧ ∀ g ∈ (b :: (blks K ++ (blks C ++ foot (X ++ t' :: Y)))), g ∈ F ∨ w.heap.size ≤ g := by
  have ap := h.ap
  have hlt := h.lt'
  have htf : ∀ g ∈ t.F, g ∈ foot (X ++ t :: Y) := fun g hg => mem_foot.2 ⟨t, by simp, hg⟩
  have hmF : ∀ g, g = b ∨ Of K g ∨ Of C g ∨ g ∈ foot (X ++ t :: Y) → g ∈ F := fun g hg => h.mem.2 (hg.elim .inl (fun e => .inr (e.elim .inl (fun e => .inr (e.elim .inl (fun e => .inr (mem_foot.1 e)))))))
  have hl1 : (X ++ t :: Y).length = (X ++ t' :: Y).length := by simp
  have hl2 : (X ++ t :: Y).map (·.v) = (X ++ t' :: Y).map (·.v) := by simp [hv]
  have hfoot : ∀ g ∈ foot (X ++ t' :: Y), g ∈ foot (X ++ t :: Y) ∨ w.heap.size ≤ g := fun g hg => by
    rw [foot_append, foot_cons] at hg ⊢
    rcases List.mem_append.1 hg with hg | hg
    · exact .inl (List.mem_append_left _ hg)
    · rcases List.mem_append.1 hg with hg | hg
      · exact (hF g hg).imp (fun h => List.mem_append_right _ (List.mem_append_left _ h)) id
      · exact .inl (List.mem_append_right _ (List.mem_append_right _ hg))
  have hnd : (foot (X ++ ([t'] ++ Y))).Nodup := foot_swap ap.f (fun g hg => hlt g (hmF g (.inr (.inr (.inr hg))))) (by simpa [foot] using ht.nodup) (fun g hg => hF g (by simpa [foot] using hg))
  refine ⟨⟨?_, h.krow.mod hm (fun g hg e => ap.Kf g hg (htf g e)), h.krows, h.ksrt, ?_, by rw [h.len, hl1], ?_, hs, hp, rfl, ?_⟩, ?_⟩
  · have := h.blk.mod hm (fun e => ap.hb b (.inr (.inr (htf b e))) rfl)
    rwa [hl1] at this
  · have := h.crow.mod hm (fun g hg e => ap.Cf g hg (htf g e))
    rwa [hl1, hl2] at this
  · have hold : ∀ u ∈ X ++ Y, TreeAt w' d u.v u.L u.k u.F := fun u hu => (h.kids u (by
      rcases List.mem_append.1 hu with e | e
      · exact List.mem_append_left _ e
      · exact List.mem_append_right _ (List.mem_cons_of_mem _ e))).mod hm (fun g hg => kid_apart ap.f u hu g hg)
    intro u hu
    rcases List.mem_append.1 hu with hu | hu
    · exact hold u (List.mem_append_left _ hu)
    · rcases List.mem_cons.1 hu with rfl | hu
      · exact ht
      · exact hold u (List.mem_append_right _ hu)
  · refine inner_nd (fun g hg e => ?_) ap.KC (fun g h1 h2 => ?_) (fun g h1 h2 => ?_) hnd
    · rcases hg with h1 | h1 | h1
      · exact ap.hb g (.inl h1) e
      · exact ap.hb g (.inr (.inl h1)) e
      · rcases hfoot g h1 with h2 | h2
        · exact ap.hb g (.inr (.inr h2)) e
        · have := hlt b (hmF b (.inl rfl)); omega
    · rcases hfoot g h2 with h3 | h3
      · exact ap.Kf g h1 h3
      · have := hlt g (hmF g (.inr (.inl h1))); omega
    · rcases hfoot g h2 with h3 | h3
      · exact ap.Cf g h1 h3
      · have := hlt g (hmF g (.inr (.inr (.inl h1)))); omega
  · intro g hg
    rcases List.mem_cons.1 hg with rfl | hg
    · exact .inl (hmF _ (.inl rfl))
    · rcases List.mem_append.1 hg with hg | hg
      · exact .inl (hmF g (.inr (.inl (mem_blks.1 hg))))
      · rcases List.mem_append.1 hg with hg | hg
        · exact .inl (hmF g (.inr (.inr (.inl (mem_blks.1 hg)))))
        · exact (hfoot g hg).imp (fun e => hmF g (.inr (.inr (.inr e)))) id
end
end Go.Proofs.Ytkcpmkeckcnobaa

/- tree.set. -/
namespace Go.Proofs.Ytkcpmkeckcnobaa
open Go.RowKit

/-- what set tells -/
def SetP (w : World) (d : Nat) (v : Value) (L : List (List Nat)) (k : Nat) (F : List Nat) (e : List Nat) (r : Ending) (w' : World) : Prop :=
  r = .returned (.bool (!has L (keyOf e))) ∧ ∃ k' F', TreeAt w' d v (ins L e) k' F' ∧ k ≤ k' ∧ k' ≤ k + 1 ∧ (∀ g ∈ F', g ∈ F ∨ w.heap.size ≤ g) ∧ Mod (· ∈ F) w w'
theorem size_ente {l : List Nat} (h : l.length = 80) : (Try.prog.info? 28).map (·.size) = some (bv l).toArray.size := by rw [bv_size, h]; exact size_entT
theorem info_ent80 : (Try.prog.info? 28).map (fun i => (i.zero, i.size)) = some (some (.agg (bv (List.replicate 80 0)).toArray), 80) := by kernel_rfl
theorem key_cells {w : World} {g : Nat} {e : List Nat} (h : Blk w g 28 (bv e).toArray) : ∀ j v, (bv (keyOf e))[j]? = some v → w.cell? ⟨g, 0 + j, none⟩ = some v := fun j v hj => by
  rw [Nat.zero_add, h.cell j]
  unfold keyOf at hj
  rw [← bv_take, List.getElem?_take] at hj
  split at hj
  · simpa using hj
  · cases hj
section
variable {w : World} {v : Value} {L : List (List Nat)} {k b c : Nat} {F e : List Nat} {A : Option Addr}
set_option maxRecDepth 100000 in
set_option maxHeartbeats 6400000 in
theorem set_leaf (h : LeafAt w v L k F b A c) (hn : L.length ≤ 549755813888) (he : e.length = 80) (hez : ∀ z ∈ e, z < 256) : Calls Try.prog 44 #[v, .agg (bv e).toArray] w (SetP w 0 v L k F e) := by
  obtain ⟨rfl, hb, hrow, hrows, hsrt, rfl, rfl, hnd⟩ := h
  have hle := hrow.le
  have hke := keyOf_len he
  have hkz := keyOf_lt hez
  have HB := Lib.hid (And.intro hb (And.intro hrow (And.intro hrows (And.intro hsrt hnd))))
  have HE := Lib.hid (And.intro hkz hez)
  clear hb hrow hrows hsrt hnd hkz hez
  generalize hXX : leafV b = XX
  have HX := Lib.hid hXX
  unfold leafV at hXX
  subst hXX
  go_enter Try.func44, Try.ntmps44
  go_wp2_with (first
    | (with_reducible change wpList _ _ _ (⟨some 3, Op.box _ _, _, _, _, _⟩ :: _) _ _
       go_must (refine wpList_box_var 28 _ rfl rfl (bv e).toArray rfl ?_)
       intro w1 b1 m1 z1
       clear z1
       have hs1 : w.heap.size < w1.heap.size := b1.lt
       have H1 := Lib.hid (And.intro m1 b1)
       clear m1 b1)
    | (with_reducible change wpList _ _ _ (⟨some 12, _, _, _, _, _⟩ :: _) _ _
       go_must (refine wpList_val rfl (exec_assert_yes (P := Try.prog) _ _ _ _ rfl rfl Try.underlying109) ?_)
       rw [if_pos rfl])
    | (with_reducible change wpList _ _ _ (⟨some 18, _, _, _, _, _⟩ :: _) _ _
       go_must (refine wpList_val rfl (exec_load_cells (P := Try.prog) (b := w.heap.size) (off := 0) (cs := bv (keyOf e)) 23 _ rfl rfl (key_cells H1.out.2) Try.underlying23 rfl (by rw [bv_len, hke]; exact size_keyT)) ?_)))
  refine (place_any (HB.out.1.mod H1.out.1 (fun f => f)) (HB.out.2.1.nn H1.out.1).rd HB.out.2.2.1 rfl hke HE.out.1 (by omega) (by rw [List.pairwise_map]; exact HB.out.2.2.2.1)).mono ?_
  rintro r w2 ⟨i, rfl, hpl, m2⟩
  have hil := hpl.le
  rw [List.length_map] at hil
  have hs2 : w1.heap.size ≤ w2.heap.size := m2.size
  have H2 := Lib.hid (And.intro (H1.out.1.nn_ m2) (And.intro (H1.out.2.mod m2 (fun f => f)) hpl))
  clear m2 hpl
  have hbw : b < w.heap.size := HB.out.1.lt
  have hbne : b ≠ w.heap.size := by omega
  have hAb : ∀ g, Of A g → g ≠ b := fun g hg ee => by
    have := HB.out.2.2.2.2
    rw [List.nodup_cons] at this
    exact this.1 (mem_blks.2 (ee ▸ hg))
  have hAw : ∀ g, Of A g → g < w.heap.size := fun g hg => HB.out.2.1.lt hg
  have hA := Lib.hid (And.intro hAb hAw)
  clear hAb hAw
  by_cases hc : i < L.length ∧ (L.map keyOf).getD i [] = keyOf e
  · have hi := hc.1
    rw [decide_eq_true hc]
    have HC := Lib.hid (place_there H2.out.2.2 HB.out.2.2.2.1 hi hc.2)
    clear hc
    obtain ⟨ga, rfl⟩ := HB.out.2.1.of_ (by omega)
    -- zzA
    go_wp2_with fail
    have hB2 : Blk w2 b 111 #[.slice (some ⟨ga, 0, none⟩) L.length c] := HB.out.1.mod H2.out.1 (fun f => f)
    obtain ⟨cur, hbc, hsz, hput⟩ := ((HB.out.2.1.nn H2.out.1).nn (Mod.refl Nn w2).drew).put hi (show (bv e).length = 80 by rw [bv_len, he])
    have HP := Lib.hid (And.intro hbc hput)
    have HS := Lib.hid (And.intro hB2 H2.out.2.1)
    clear hB2 hbc hput
    refine wp_region_planT (fun w' => Blk w' b 111 #[.slice (some ⟨ga, 0, none⟩) L.length c] ∧ Blk w' w.heap.size 28 (bv e).toArray) 7 [(0, 0), (1, 0), (2, 0), (3, 1), (4, 0), (5, 1), (6, 0), (7, 2)] (by kernel_rfl) (by kernel_rfl) ⟨HS.out.1.drew, HS.out.2.drew⟩ ?_
    iterate 3 (refine pt_pure rfl rfl (fun K hK => ?_); go_simp; refine hK _ ?_; clear hK K)
    refine pt_take (.slice (some ⟨ga, 0, none⟩) L.length c) rfl rfl (fun w' hS => exec_load1 (P := Try.prog) 40 (.tmp 25) rfl rfl (hS.1.cell 0) Try.underlying40 rfl) (fun K hK => ?_); go_simp; refine hK _ ?_; clear hK K
    iterate 1 (refine pt_pure rfl rfl (fun K hK => ?_); go_simp; refine hK _ ?_; clear hK K)
    refine pt_take (.agg (bv e).toArray) rfl rfl (fun w' hS => exec_load_row (P := Try.prog) (g := w.heap.size) (cs := (bv e).toArray) 28 (.tmp 3) rfl rfl hS.2 Try.underlying28 rfl (size_ente he)) (fun K hK => ?_); go_simp; refine hK _ ?_; clear hK K
    refine pt_is (.pointer (some ⟨ga, 0 + i * 80, none⟩)) rfl rfl (fun w' => exec_elem (P := Try.prog) (g := ga) (off := 0) (q := i) 40 (.tmp 26) (.tmp 27) rfl 28 80 uuE sizeE rfl rfl hi) (fun K hK => ?_); go_simp; refine hK _ ?_; clear hK K
    have hsz' : i * 80 + (bv e).toArray.size ≤ cur.size := by rw [bv_size, he]; exact hsz
    refine pt_unit rfl rfl (exec_store_at (P := Try.prog) (g := ga) (off := i * 80) (cells := (bv e).toArray) (cur := cur) 28 (.tmp 29) (.tmp 28) rfl rfl rfl HP.out.1 (size_ente he) hsz' (bv_all _)) (fun h => by simp at h) (fun K hK => ?_); go_simp; refine hK _ ?_; clear hK K
    refine pt_nil ?_
    have hb3 := HP.out.2 _ (HP.out.1.setRow_ (cur.toList.take (i * 80) ++ bv e ++ cur.toList.drop (i * 80 + 80)).toArray)
    have hm3 : Mod (At ga) w2 (w2.drew.setRow ga (cur.toList.take (i * 80) ++ bv e ++ cur.toList.drop (i * 80 + 80)).toArray) := (Mod.refl Nn w2).drew.nn.trans (Mod.rowAt _ _ _)
    have hsze : (bv e).toArray.size = 80 := by rw [bv_size, he]
    rw [hsze]
    generalize w2.drew.setRow ga (cur.toList.take (i * 80) ++ (bv e).toArray.toList ++ cur.toList.drop (i * 80 + 80)).toArray = w3 at *
    have H3 := Lib.hid (And.intro hb3 hm3)
    clear hb3 hm3 hsze hsz'
    -- zzA2
    go_wp2
    go_ret
    have hC := HC.out
    have hins : ins L e = L.take i ++ e :: L.drop (i + 1) := by unfold ins; rw [hC.1, hC.2.1]
    have hlen : (ins L e).length = L.length := by rw [hins, List.length_append, List.length_cons, List.length_take, List.length_drop]; omega
    have hfl : (bv L.flatten).take (i * 80) ++ bv e ++ (bv L.flatten).drop (i * 80 + 80) = bv (ins L e).flatten := by
      rw [hins, show i * 80 + 80 = (i + 1) * 80 from by omega, bv_take, rows_take (fun r hr => (HB.out.2.2.1 r hr).1), bv_drop, rows_drop (fun r hr => (HB.out.2.2.1 r hr).1), ← bv_append, ← bv_append, List.flatten_append, List.flatten_cons, List.append_assoc]
    refine ⟨by rw [hC.2.2.1]; rfl, L.length, b :: blks (some ⟨ga, 0, none⟩), ⟨b, some ⟨ga, 0, none⟩, c, rfl, ?_, ?_, rows_ins HB.out.2.2.1 ⟨he, HE.out.2⟩, srt_ins HB.out.2.2.2.1 e, hlen.symm, rfl, HB.out.2.2.2.2⟩, Nat.le_refl _, by omega, fun g hg => .inl hg, (H2.out.1.nn).trans (H3.out.2.mono (fun g _ ee => ?_))⟩
    · rw [hlen]
      exact HS.out.1.mod H3.out.2 (fun ee => hA.out.1 ga ⟨_, rfl, rfl⟩ ee.symm)
    · rw [hlen, ← hfl]
      exact H3.out.1
    · have ee : g = ga := ee
      rw [ee]; simp [blks]
  · rw [decide_eq_false hc]
    have HC := Lib.hid (place_not H2.out.2.2 HB.out.2.2.2.1 hc)
    clear hc
    -- zzB
    go_wp2_with fail
    have hB2 : Blk w2 b 111 #[.slice A L.length c] := HB.out.1.mod H2.out.1 (fun f => f)
    have HS := Lib.hid (And.intro hB2 (And.intro H2.out.2.1 (HB.out.2.1.nn H2.out.1)))
    clear hB2
    refine wp_region_planT (fun w' => Blk w' b 111 #[.slice A L.length c] ∧ Blk w' w.heap.size 28 (bv e).toArray) 11 [(0, 0), (1, 0), (2, 0), (3, 0), (4, 1), (5, 0), (6, 1), (7, 2), (8, 2), (9, 0), (10, 0), (11, 2)] (by kernel_rfl) (by kernel_rfl) ⟨HS.out.1.drew, HS.out.2.1.drew⟩ ?_
    iterate 4 (refine pt_pure rfl rfl (fun K hK => ?_); go_simp; refine hK _ ?_; clear hK K)
    refine pt_take (.slice A L.length c) rfl rfl (fun w' hS => exec_load1 (P := Try.prog) 40 (.tmp 33) rfl rfl (hS.1.cell 0) Try.underlying40 rfl) (fun K hK => ?_); go_simp; refine hK _ ?_; clear hK K
    iterate 1 (refine pt_pure rfl rfl (fun K hK => ?_); go_simp; refine hK _ ?_; clear hK K)
    refine pt_take (.agg (bv e).toArray) rfl rfl (fun w' hS => exec_load_row (P := Try.prog) (g := w.heap.size) (cs := (bv e).toArray) 28 (.tmp 3) rfl rfl hS.2 Try.underlying28 rfl (size_ente he)) (fun K hK => ?_); go_simp; refine hK _ ?_; clear hK K
    refine pt_mk1 (ys := bv e) (v := .agg (bv e).toArray) 40 28 (.tmp 36) rfl rfl rfl uuE info_ent80 (by omega) (by omega) rfl rfl (by rw [bv_len, he]) (fun w4 b4 m4 => ⟨fun _ => ⟨HS.out.1.mod (Mod.of_drew m4) (fun f => f), HS.out.2.1.mod (Mod.of_drew m4) (fun f => f)⟩, ?_⟩)
    refine (fun K hK => ?_); go_simp; refine hK _ ?_; clear hK K
    have m4' := m4.of_drew
    have hs4 : w2.heap.size < w4.heap.size := b4.lt
    have H4 := Lib.hid (And.intro m4' b4)
    clear m4 m4' b4
    refine pt_call rfl rfl (fun K hK => ?_); go_simp; refine ⟨_, _, ⟨rfl, rfl⟩, hK _ _ _ ?_⟩; clear hK K
    refine (sinsE_any (HS.out.2.2.nn H4.out.1) hil H4.out.2 (by rw [bv_len, he]) (bv_one _) (bv_one _) (fun g hg ee => by have ee : g = w2.heap.size := ee; have := hA.out.2 g hg; omega) (by omega)).mono ?_
    rintro r w5 ⟨A5, c5, rfl, h5, m5, hA5⟩
    have hs5 : w4.heap.size ≤ w5.heap.size := m5.size
    have hB5 := (HS.out.1.mod H4.out.1 (fun f => f)).mod m5 (fun h => hA.out.1 b h rfl)
    have H5 := Lib.hid (And.intro m5 (And.intro h5 (And.intro hA5 hB5)))
    refine ⟨_, rfl, fun _ => ⟨hB5, (HS.out.2.1.mod H4.out.1 (fun f => f)).mod m5 (fun h => by have := hA.out.2 _ h; omega)⟩, ?_⟩
    clear m5 h5 hA5 hB5
    iterate 2 (refine pt_pure rfl rfl (fun K hK => ?_); go_simp; refine hK _ ?_; clear hK K)
    refine pt_unit rfl rfl (exec_store1 (P := Try.prog) (ad := ⟨b, 0, none⟩) (v := .slice A5 (L.length + 1) c5) (u := .slice A L.length c) 40 (.tmp 40) (.tmp 38) rfl rfl rfl (H5.out.2.2.2.cell 0) (H5.out.2.2.2.frozen 0) rfl rfl rfl size_slE) (fun h => by simp at h) (fun K hK => ?_); go_simp; refine hK _ ?_; clear hK K
    refine pt_nil ?_
    have b6 : Blk (w5.setCell ⟨b, 0, none⟩ (.slice A5 (L.length + 1) c5)) b 111 #[.slice A5 (L.length + 1) c5] := H5.out.2.2.2.set_ 0 _
    have m6 : Mod (At b) w5 (w5.setCell ⟨b, 0, none⟩ (.slice A5 (L.length + 1) c5)) := Mod.cellAt _ _ _ _
    generalize w5.setCell ⟨b, 0, none⟩ (.slice A5 (L.length + 1) c5) = w6 at *
    have H6 := Lib.hid (And.intro b6 m6)
    clear b6 m6
    -- zzB2
    go_wp2
    go_ret
    have hC := HC.out
    have hins : ins L e = L.take i ++ e :: L.drop i := by unfold ins; rw [hC.1, hC.2.1]
    have hlen : (ins L e).length = L.length + 1 := by rw [hins, List.length_append, List.length_cons, List.length_take, List.length_drop]; omega
    have hfl : (bv L.flatten).take (i * 80) ++ bv e ++ (bv L.flatten).drop (i * 80) = bv (ins L e).flatten := by
      rw [hins, bv_take, rows_take (fun r hr => (HB.out.2.2.1 r hr).1), bv_drop, rows_drop (fun r hr => (HB.out.2.2.1 r hr).1), ← bv_append, ← bv_append, List.flatten_append, List.flatten_cons, List.append_assoc]
    have hA5c : ∀ g, Of A5 g → Of A g ∨ w4.heap.size ≤ g := H5.out.2.2.1
    have hbA5 : ¬ Of A5 b := fun h => (hA5c b h).elim (fun h => hA.out.1 b h rfl) (fun h => by omega)
    refine ⟨by rw [hC.2.2.1]; rfl, L.length + 1, b :: blks A5, ⟨b, A5, c5, rfl, ?_, ?_, rows_ins HB.out.2.2.1 ⟨he, HE.out.2⟩, srt_ins HB.out.2.2.2.1 e, hlen.symm, rfl, ?_⟩, Nat.le_succ _, Nat.le_refl _, fun g hg => ?_, ?_⟩
    · rw [hlen]; exact H6.out.1
    · rw [hlen, ← hfl]
      exact H5.out.2.1.mod H6.out.2 (fun g hg ee => by have ee : g = b := ee; exact hbA5 (ee ▸ hg))
    · exact List.nodup_cons.2 ⟨fun h => hbA5 (mem_blks.1 h), blks_nodup _⟩
    · rcases List.mem_cons.1 hg with rfl | hg
      · exact .inl List.mem_cons_self
      · exact (hA5c g (mem_blks.1 hg)).imp (fun h => List.mem_cons_of_mem _ (mem_blks.2 h)) (fun h => by omega)
    · exact H2.out.1.nn.trans (H4.out.1.nn.trans ((H5.out.1.mono (fun g _ h => List.mem_cons_of_mem _ (mem_blks.2 h))).trans (H6.out.2.mono (fun g _ h => by have h : g = b := h; rw [h]; exact List.mem_cons_self))))
end
end Go.Proofs.Ytkcpmkeckcnobaa

/- tree.set of any part. -/
namespace Go.Proofs.Ytkcpmkeckcnobaa
open Go.RowKit

section
variable {b c kc cc d : Nat} {e : List Nat}
/-- a kid's value is read -/
theorem kid_cell {w : World} {ks : List (List Nat)} {X Y : List Kid} {t : Kid} {F : List Nat} {K C : Option Addr} (h : InnerAt (TreeAt w d) w b ks (X ++ t :: Y) F K kc C cc) : ∃ gC, C = some ⟨gC, 0, none⟩ ∧ ∀ w', Mod Nn w w' → w'.cell? ⟨gC, X.length, none⟩ = some t.v := by
  obtain ⟨gC, rfl⟩ := h.crow.of_ (by have := h.len; omega)
  refine ⟨gC, rfl, fun w' hm => ?_⟩
  obtain ⟨g, off, e, hc⟩ := (h.crow.nn hm).rd.2 (by have := h.len; omega)
  injection e with e; injection e with e1 e2 _; subst e1; subst e2
  have := hc X.length t.v (by simp)
  rwa [Nat.zero_add] at this
set_option maxRecDepth 100000 in
set_option maxHeartbeats 6400000 in
theorem set_any (he : e.length = 80) (hez : ∀ z ∈ e, z < 256) : ∀ (d : Nat) (w : World) (v : Value) (L : List (List Nat)) (k : Nat) (F : List Nat), TreeAt w d v L k F → k ≤ 274877906944 → Calls Try.prog 44 #[v, .agg (bv e).toArray] w (SetP w d v L k F e) := by
  intro d
  induction d with
  | zero =>
    rintro w v L k F ⟨b, A, c, h⟩ hk
    exact set_leaf h (by rw [← h.ke]; omega) he hez
  | succ d ih =>
    rintro w v L k F ⟨b, ks, ts, K, kc, C, cc, h, rfl, rfl, rfl, hbd⟩ hk
    have hke := keyOf_len he
    have hkz := keyOf_lt hez
    have hkl := h.len
    have HB := Lib.hid (And.intro h (And.intro hbd (And.intro hkz ih)))
    clear h hbd hkz ih
    generalize hXX : innerV b = XX
    have HX := Lib.hid hXX
    unfold innerV at hXX
    subst hXX
    go_enter Try.func44, Try.ntmps44
    go_wp2_with (first
      | (with_reducible change wpList _ _ _ (⟨some 3, Op.box _ _, _, _, _, _⟩ :: _) _ _
         go_must (refine wpList_box_var 28 _ rfl rfl (bv e).toArray rfl ?_)
         intro w1 b1 m1 z1
         clear z1
         have hs1 : w.heap.size < w1.heap.size := b1.lt
         have H1 := Lib.hid (And.intro m1 b1)
         clear m1 b1)
      | (with_reducible change wpList _ _ _ (⟨some 12, _, _, _, _, _⟩ :: _) _ _
         go_must (refine wpList_val rfl (exec_assert_no (P := Try.prog) _ _ _ rfl rfl (by decide) Try.underlying109 info_pleaf) ?_))
      | (with_reducible change wpList _ _ _ (⟨some 41, _, _, _, _, _⟩ :: _) _ _
         go_must (refine wpList_val rfl (exec_assert_yes (P := Try.prog) _ _ _ _ rfl rfl Try.underlying103) ?_)
         rw [if_pos rfl])
      | (with_reducible change wpList _ _ _ (⟨some 46, _, _, _, _, _⟩ :: _) _ _
         go_must (refine wpList_val rfl (exec_load_cells (P := Try.prog) (b := w.heap.size) (off := 0) (cs := bv (keyOf e)) 23 _ rfl rfl (key_cells H1.out.2) Try.underlying23 rfl (by rw [bv_len, hke]; exact size_keyT)) ?_)))
    refine (kid_any (HB.out.1.blk.mod H1.out.1 (fun f => f)) (HB.out.1.krow.nn H1.out.1).rd HB.out.1.krows rfl hke HB.out.2.2.1 (by omega) HB.out.1.ksrt).mono ?_
    rintro r w2 ⟨i, rfl, hkx, m2⟩
    obtain ⟨X, t, Y, rfl, rfl, hXk, hYk⟩ := kid_split hkx HB.out.1.sep hkl
    obtain ⟨gC, rfl, hct⟩ := kid_cell HB.out.1
    have hs2 : w1.heap.size ≤ w2.heap.size := m2.size
    obtain ⟨p, hp⟩ : ∃ p, X.length = p := ⟨_, rfl⟩
    obtain ⟨N, hN⟩ : ∃ N, (X ++ t :: Y).length = N := ⟨_, rfl⟩
    have hpN : p < N := by rw [← hN, ← hp]; simp
    have hI2 : InnerAt (TreeAt w2 d) w2 b ks (X ++ t :: Y) F K kc (some ⟨gC, 0, none⟩) cc := HB.out.1.mod (H1.out.1.nn_ m2) (fun _ _ f => f) (fun u hu hq => hq.nn (H1.out.1.nn_ m2))
    have hb2 := hI2.blk
    rw [hN] at hb2
    have H2 := Lib.hid (And.intro (H1.out.1.nn_ m2) (And.intro (H1.out.2.mod m2 (fun f => f)) (And.intro hkx (And.intro hXk (And.intro hYk (And.intro hct (And.intro hp (And.intro hN (And.intro hI2 hb2)))))))))
    clear m2 hkx hXk hYk hct hI2 hb2
    rw [hN] at hkl hk
    rw [hp]
    clear hp hN
    -- zzA
    go_wp2_with fail
    refine wp_region_planT (fun w' => Mod Nn w2 w') 8 [(0, 0), (1, 0), (2, 0), (3, 1), (4, 0), (5, 0), (6, 1), (7, 1), (8, 2), (9, 0)] (by kernel_rfl) (by kernel_rfl) (Mod.refl Nn w2).drew ?_
    iterate 3 (refine pt_pure rfl rfl (fun K hK => ?_); go_simp; refine hK _ ?_; clear hK K)
    refine pt_take (.slice (some ⟨gC, 0, none⟩) N cc) rfl rfl (fun w' hS => exec_load1 (P := Try.prog) 104 (.tmp 50) rfl rfl ((H2.out.2.2.2.2.2.2.2.2.2.mod hS (fun f => f)).cell 1) Try.underlying104 rfl) (fun K hK => ?_); go_simp; refine hK _ ?_; clear hK K
    iterate 1 (refine pt_pure rfl rfl (fun K hK => ?_); go_simp; refine hK _ ?_; clear hK K)
    refine pt_is (.pointer (some ⟨gC, 0 + p * 1, none⟩)) rfl rfl (fun w' => exec_elem (P := Try.prog) (g := gC) (off := 0) (q := p) 104 (.tmp 51) (.tmp 52) rfl 37 1 uuP sizeP rfl rfl hpN) (fun K hK => ?_); go_simp; refine hK _ ?_; clear hK K
    refine pt_take t.v rfl rfl (fun w' hS => exec_load1 (P := Try.prog) (ad := ⟨gC, p, none⟩) 37 (.tmp 53) rfl rfl (H2.out.2.2.2.2.2.2.1 ▸ H2.out.2.2.2.2.2.1 w' (H2.out.1.nn_ hS)) Try.underlying37 rfl) (fun K hK => ?_); go_simp; refine hK _ ?_; clear hK K
    refine pt_take (.agg (bv e).toArray) rfl rfl (fun w' hS => exec_load_row (P := Try.prog) (g := w.heap.size) (cs := (bv e).toArray) 28 (.tmp 3) rfl rfl (H2.out.2.1.mod hS (fun f => f)) Try.underlying28 rfl (size_ente he)) (fun K hK => ?_); go_simp; refine hK _ ?_; clear hK K
    refine pt_call rfl rfl (fun K hK => ?_); go_simp; refine ⟨_, _, ⟨rfl, rfl⟩, hK _ _ _ ?_⟩; clear hK K
    have hkb : loB d ≤ t.k ∧ t.k ≤ hiB d := HB.out.2.1 t (by simp)
    have hbig : hiB d ≤ 20 ∧ 12 ≤ hiB d := by cases d <;> simp [hiB]
    have htt : TreeAt w2.drew d t.v t.L t.k t.F := (H2.out.2.2.2.2.2.2.2.2.1.kids t (by simp)).nn (Mod.refl Nn w2).drew
    refine (HB.out.2.2.2 w2.drew t.v t.L t.k t.F htt (by omega)).mono ?_
    rintro r w3 ⟨rfl, k', F', ht3, hk1, hk2, hF3, m3⟩
    have hdr : w2.drew.heap.size = w2.heap.size := rfl
    refine ⟨_, rfl, fun h => by simp at h, ?_⟩
    iterate 1 (refine pt_pure rfl rfl (fun K hK => ?_); go_simp; refine hK _ ?_; clear hK K)
    refine pt_nil ?_
    have hsw := H2.out.2.2.2.2.2.2.2.2.1.swap (w' := w3) (t' := ⟨t.v, ins t.L e, k', F'⟩) ((Mod.refl Nn w2).drew.nn.trans m3) rfl ht3 hF3 (by
      rw [entsOf_append, entsOf_cons]
      show Srt (entsOf X ++ (ins t.L e ++ entsOf Y))
      rw [← ins_mid H2.out.2.2.2.1 H2.out.2.2.2.2.1, ← entsOf_cons, ← entsOf_append]
      exact srt_ins HB.out.1.srt e) (sep_ins HB.out.1.sep H2.out.2.2.1 rfl)
    have H3 := Lib.hid (And.intro hsw ((Mod.refl Nn w2).drew.nn.trans m3 : Mod (· ∈ t.F) w2 w3))
    clear hsw m3 ht3 hF3 htt
    -- zzB
    go_wp2_with fail
    have hNl : (X ++ (⟨t.v, ins t.L e, k', F'⟩ : Kid) :: Y).length = N := by have := H2.out.2.2.2.2.2.2.2.1; simp at this ⊢; omega
    have hcut := icut_any (kc := kc) (cc := cc) H3.out.1.1 (fun u hu => HB.out.2.1 u (by
      rcases List.mem_append.1 hu with hu | hu
      · exact List.mem_append_left _ hu
      · exact List.mem_append_right _ (List.mem_cons_of_mem _ hu))) (show loB d ≤ k' by omega) (show k' ≤ 2 * hiB d by omega) (by rw [hNl]; omega)
    rw [H2.out.2.2.2.2.2.2.1] at hcut
    refine hcut.mono ?_
    clear hcut
    rintro r w4 ⟨rfl, ks', ts', F2, K2, kc2, C2, cc2, hI4, hen, hb4, hn1, hn2, hF4, m4⟩
    rw [hNl] at hn1 hn2
    have H4 := Lib.hid (And.intro hI4 (And.intro hen (And.intro hb4 (And.intro hF4 m4))))
    clear hI4 hen hb4 hF4 m4
    -- zzC
    go_wp2
    go_ret
    have hNo := H2.out.2.2.2.2.2.2.2.1
    have hhas : has (entsOf (X ++ t :: Y)) (keyOf e) = has t.L (keyOf e) := by
      rw [entsOf_append, entsOf_cons]; exact has_mid H2.out.2.2.2.1 H2.out.2.2.2.2.1
    have hents : entsOf (X ++ (⟨t.v, ins t.L e, k', F'⟩ : Kid) :: Y) = ins (entsOf (X ++ t :: Y)) e := by
      rw [entsOf_append, entsOf_cons, entsOf_append, entsOf_cons]; exact (ins_mid H2.out.2.2.2.1 H2.out.2.2.2.2.1).symm
    have hs23 : w2.heap.size ≤ w3.heap.size := H3.out.2.size
    have hs02 : w.heap.size ≤ w2.heap.size := H2.out.1.size
    refine ⟨by rw [hhas]; rfl, ts'.length, F2, ⟨b, ks', ts', K2, kc2, C2, cc2, H4.out.1, rfl, by rw [H4.out.2.1, hents], rfl, H4.out.2.2.1⟩, by rw [hNo]; exact hn1, by rw [hNo]; exact hn2, fun g hg => ?_, ?_⟩
    · rcases H4.out.2.2.2.1 g hg with h | h
      · exact (H3.out.1.2 g h).imp id (fun h => by omega)
      · exact .inr (by omega)
    · have htF : ∀ g ∈ t.F, g ∈ F := fun g hg => HB.out.1.mem.2 (.inr (.inr (.inr ⟨t, by simp, hg⟩)))
      refine H2.out.1.nn.then_ ((H3.out.2.mono (T := fun g => g ∈ F ∨ w2.heap.size ≤ g) (fun g _ h => .inl (htF g h))).then_ H4.out.2.2.2.2 (fun g _ h => H3.out.1.2 g h)) (fun g hg h => h.elim id (fun h => by omega))
end
end Go.Proofs.Ytkcpmkeckcnobaa

/- tree.join. -/
namespace Go.Proofs.Ytkcpmkeckcnobaa
open Go.RowKit

/-! ## two neighbours put together, in plain words -/
section
variable {ks1 ks2 : List (List Nat)} {ts1 ts2 : List Kid} {κ : List Nat}
theorem join_lo (hs : Sep ks1 ts1) (hl : ks1.length + 1 = ts1.length) (hne : ∀ t ∈ ts1, t.L ≠ []) (ha : Ahead (entsOf ts1) κ) : ∀ y ∈ ks1, klt y κ := fun y hy => by
  obtain ⟨j, hj, rfl⟩ := List.getElem_of_mem hy
  have hjj : ks1[j]? = some ks1[j] := List.getElem?_eq_getElem hj
  obtain ⟨t, ht⟩ : ∃ t, ts1.drop (j + 1) = t :: ts1.drop (j + 1 + 1) := ⟨_, List.drop_eq_getElem_cons (by omega)⟩
  have htm : t ∈ ts1 := List.mem_of_mem_drop (by rw [ht]; exact List.mem_cons_self)
  obtain ⟨r, hr⟩ := List.exists_mem_of_ne_nil _ (hne t htm)
  have h1 := (hs j _ hjj).2 r (by rw [ht]; exact mem_ents.2 ⟨t, List.mem_cons_self, hr⟩)
  exact klt_of_le h1 (ha r (mem_ents.2 ⟨t, htm, hr⟩))
theorem join_hi (hs : Sep ks2 ts2) (hl : ks2.length + 1 = ts2.length) (hne : ∀ t ∈ ts2, t.L ≠ []) (hb : ∀ r ∈ entsOf ts2, ¬ klt (keyOf r) κ) : ∀ y ∈ ks2, klt κ y := fun y hy => by
  obtain ⟨j, hj, rfl⟩ := List.getElem_of_mem hy
  have hjj : ks2[j]? = some ks2[j] := List.getElem?_eq_getElem hj
  cases ts2 with
  | nil => simp at hl
  | cons t ts =>
    obtain ⟨r, hr⟩ := List.exists_mem_of_ne_nil _ (hne t List.mem_cons_self)
    have h1 := (hs j _ hjj).1 r (mem_ents.2 ⟨t, by rw [List.take_succ_cons]; exact List.mem_cons_self, hr⟩)
    exact klt_of_le (hb r (mem_ents.2 ⟨t, List.mem_cons_self, hr⟩)) h1
theorem join_keys (hk1 : ks1.Pairwise klt) (hk2 : ks2.Pairwise klt) (hlo : ∀ y ∈ ks1, klt y κ) (hhi : ∀ y ∈ ks2, klt κ y) : (ks1 ++ κ :: ks2).Pairwise klt :=
  List.pairwise_append.2 ⟨hk1, List.pairwise_cons.2 ⟨hhi, hk2⟩, fun x hx y hy => by
    rcases List.mem_cons.1 hy with rfl | hy
    · exact hlo x hx
    · exact klt_trans (hlo x hx) (hhi y hy)⟩
theorem join_sep (hs1 : Sep ks1 ts1) (hs2 : Sep ks2 ts2) (hl1 : ks1.length + 1 = ts1.length) (hlo : ∀ y ∈ ks1, klt y κ) (hhi : ∀ y ∈ ks2, klt κ y) (ha : Ahead (entsOf ts1) κ) (hb : ∀ r ∈ entsOf ts2, ¬ klt (keyOf r) κ) :
    Sep (ks1 ++ κ :: ks2) (ts1 ++ ts2) := by
  intro j y hj
  rcases Nat.lt_trichotomy j ks1.length with hjx | hjx | hjx
  · rw [List.getElem?_append_left hjx] at hj
    have hy := hlo y (List.mem_of_getElem? hj)
    obtain ⟨s1, s2⟩ := hs1 j y hj
    rw [List.take_append_of_le_length (by omega), List.drop_append_of_le_length (by omega), entsOf_append]
    refine ⟨s1, fun r hr => ?_⟩
    rcases List.mem_append.1 hr with hr | hr
    · exact s2 r hr
    · exact fun e => hb r hr (klt_trans e hy)
  · subst hjx
    rw [List.getElem?_append_right (Nat.le_refl _), Nat.sub_self] at hj
    injection hj with hj; subst hj
    rw [hl1, List.take_left, List.drop_left]
    exact ⟨ha, hb⟩
  · obtain ⟨m, rfl⟩ : ∃ m, j = ks1.length + 1 + m := ⟨j - ks1.length - 1, by omega⟩
    rw [List.getElem?_append_right (by omega), show ks1.length + 1 + m - ks1.length = m + 1 from by omega, List.getElem?_cons_succ] at hj
    obtain ⟨s1, s2⟩ := hs2 m y hj
    have hy := hhi y (List.mem_of_getElem? hj)
    rw [List.take_append, List.take_of_length_le (by omega), List.drop_append, List.drop_of_length_le (by omega), show ks1.length + 1 + m + 1 - ts1.length = m + 1 from by omega, List.nil_append, entsOf_append]
    refine ⟨fun r hr => ?_, s2⟩
    rcases List.mem_append.1 hr with hr | hr
    · exact klt_trans (ha r hr) hy
    · exact s1 r hr
end
/-- what join brings about -/
def JoinP (w : World) (d : Nat) (v : Value) (L : List (List Nat)) (k : Nat) (F1 F2 : List Nat) (r : Ending) (w' : World) : Prop :=
  r = .returned (.tuple #[]) ∧ ∃ F', TreeAt w' d v L k F' ∧ (∀ g ∈ F', g ∈ F1 ∨ g ∈ F2 ∨ w.heap.size ≤ g) ∧ Mod (· ∈ F1) w w'
section
variable {w : World} {v1 v2 : Value} {L1 L2 : List (List Nat)} {k1 k2 b1 b2 c1 c2 : Nat} {F1 F2 κ : List Nat} {A1 A2 : Option Addr}
set_option maxRecDepth 100000 in
set_option maxHeartbeats 6400000 in
theorem join_leaf (h1 : LeafAt w v1 L1 k1 F1 b1 A1 c1) (h2 : LeafAt w v2 L2 k2 F2 b2 A2 c2) (hnd : ∀ g ∈ F1, g ∉ F2) (hs : Srt (L1 ++ L2)) (hn : k1 + k2 ≤ 549755813888) (hκ : κ.length = 40) : Calls Try.prog 99 #[v1, v2, .agg (bv κ).toArray] w (JoinP w 0 v1 (L1 ++ L2) (k1 + k2) F1 F2) := by
  obtain ⟨rfl, hb1, hrow1, hrows1, hsrt1, rfl, rfl, hnd1⟩ := h1
  obtain ⟨rfl, hb2, hrow2, hrows2, hsrt2, rfl, rfl, hnd2⟩ := h2
  have hA1b : ∀ g, Of A1 g → g ≠ b1 := fun g hg ee => by
    rw [List.nodup_cons] at hnd1
    exact hnd1.1 (mem_blks.2 (ee ▸ hg))
  have hA1b2 : ∀ g, Of A1 g → g ≠ b2 := fun g hg ee => hnd g (List.mem_cons_of_mem _ (mem_blks.2 hg)) (by rw [ee]; exact List.mem_cons_self)
  have hA12 : ∀ g, Of A1 g → ¬ Of A2 g := fun g hg h => hnd g (List.mem_cons_of_mem _ (mem_blks.2 hg)) (List.mem_cons_of_mem _ (mem_blks.2 h))
  have HB := Lib.hid (And.intro hb1 (And.intro hrow1 (And.intro hrows1 (And.intro hb2 (And.intro hrow2 (And.intro hrows2 (And.intro hs (And.intro hA1b (And.intro hA1b2 hA12)))))))))
  have hle1 := hrow1.le
  clear hb1 hrow1 hrows1 hsrt1 hnd1 hb2 hrow2 hrows2 hsrt2 hnd2 hs hA1b hA1b2 hA12 hnd
  generalize hXX : leafV b1 = XX
  have HX := Lib.hid hXX
  unfold leafV at hXX
  subst hXX
  generalize hYY : leafV b2 = YY
  have HY := Lib.hid hYY
  unfold leafV at hYY
  subst hYY
  go_enter Try.func99, Try.ntmps99
  go_wp2_with (first
    | (with_reducible change wpList _ _ _ (⟨some 5, Op.box _ _, _, _, _, _⟩ :: _) _ _
       go_must (refine wpList_box_var 23 _ rfl rfl (bv κ).toArray rfl ?_)
       intro w1 b1' m1 z1
       clear z1
       have hs1 : w.heap.size < w1.heap.size := b1'.lt
       have H1 := Lib.hid m1
       clear m1 b1')
    | (with_reducible change wpList _ _ _ (⟨some 10, _, _, _, _, _⟩ :: _) _ _
       go_must (refine wpList_val rfl (exec_assert_yes (P := Try.prog) _ _ _ _ rfl rfl Try.underlying109) ?_)
       rw [if_pos rfl]))
  have HS := Lib.hid (And.intro (HB.out.1.mod H1.out (fun f => f)) (And.intro (HB.out.2.2.2.1.mod H1.out (fun f => f)) (And.intro (HB.out.2.1.nn (H1.out.nn_ (Mod.refl Nn w1).drew)) (HB.out.2.2.2.2.1.nn (H1.out.nn_ (Mod.refl Nn w1).drew)))))
  -- zzA
  refine wp_region_planT (fun w' => Blk w' b1 111 #[.slice A1 L1.length c1] ∧ Blk w' b2 111 #[.slice A2 L2.length c2]) 13 [(0, 0), (1, 0), (2, 0), (3, 0), (4, 1), (5, 0), (6, 1), (7, 0), (8, 0), (9, 1), (10, 2), (11, 0), (12, 0), (13, 2)] (by kernel_rfl) (by kernel_rfl) ⟨HS.out.1.drew, HS.out.2.1.drew⟩ ?_
  iterate 4 (refine pt_pure rfl rfl (fun K hK => ?_); go_simp; refine hK _ ?_; clear hK K)
  refine pt_take (.slice A1 L1.length c1) rfl rfl (fun w' hS => exec_load1 (P := Try.prog) 40 (.tmp 16) rfl rfl (hS.1.cell 0) Try.underlying40 rfl) (fun K hK => ?_); go_simp; refine hK _ ?_; clear hK K
  iterate 1 (refine pt_pure rfl rfl (fun K hK => ?_); go_simp; refine hK _ ?_; clear hK K)
  refine pt_take (.pointer (some ⟨b2, 0, none⟩)) rfl rfl (fun w' hS => (exec_assert_yes (P := Try.prog) (.tmp 18) _ _ false rfl rfl Try.underlying109).trans rfl) (fun K hK => ?_); go_simp; refine hK _ ?_; clear hK K
  iterate 2 (refine pt_pure rfl rfl (fun K hK => ?_); go_simp; refine hK _ ?_; clear hK K)
  refine pt_take (.slice A2 L2.length c2) rfl rfl (fun w' hS => exec_load1 (P := Try.prog) 40 (.tmp 21) rfl rfl (hS.2.cell 0) Try.underlying40 rfl) (fun K hK => ?_); go_simp; refine hK _ ?_; clear hK K
  refine pt_append_hold 80 40 (.tmp 17) (.tmp 22) rfl rfl rfl zE 80 uuE infoE zsE (by omega) rfl HS.out.2.2.1 rfl HS.out.2.2.2.rd (bv_one _) (by omega) (by omega) (fun A3 c3 w3 h3 m3 hA3 => ⟨fun _ => ⟨HS.out.1.drew.mod m3 (fun h => HB.out.2.2.2.2.2.2.2.1 _ h rfl), HS.out.2.1.drew.mod m3 (fun h => HB.out.2.2.2.2.2.2.2.2.1 _ h rfl)⟩, ?_⟩)
  refine (fun K hK => ?_); go_simp; refine hK _ ?_; clear hK K
  have hb3 := HS.out.1.drew.mod m3 (fun h => HB.out.2.2.2.2.2.2.2.1 _ h rfl)
  have H3 := Lib.hid (And.intro h3 (And.intro ((Mod.refl Nn w1).drew.nn.trans m3 : Mod (Of A1) w1 w3) (And.intro (show ∀ g, Of A3 g → Of A1 g ∨ w1.heap.size ≤ g from hA3) hb3)))
  clear h3 m3 hA3 hb3
  iterate 2 (refine pt_pure rfl rfl (fun K hK => ?_); go_simp; refine hK _ ?_; clear hK K)
  refine pt_unit rfl rfl (exec_store1 (P := Try.prog) (ad := ⟨b1, 0, none⟩) (v := .slice A3 (L1.length + L2.length) c3) (u := .slice A1 L1.length c1) 40 (.tmp 25) (.tmp 23) rfl rfl rfl (H3.out.2.2.2.cell 0) (H3.out.2.2.2.frozen 0) rfl rfl rfl size_slE) (fun h => by simp at h) (fun K hK => ?_); go_simp; refine hK _ ?_; clear hK K
  refine pt_nil ?_
  have b4 : Blk (w3.setCell ⟨b1, 0, none⟩ (.slice A3 (L1.length + L2.length) c3)) b1 111 #[.slice A3 (L1.length + L2.length) c3] := H3.out.2.2.2.set_ 0 _
  have m4 : Mod (At b1) w3 (w3.setCell ⟨b1, 0, none⟩ (.slice A3 (L1.length + L2.length) c3)) := Mod.cellAt _ _ _ _
  generalize w3.setCell ⟨b1, 0, none⟩ (.slice A3 (L1.length + L2.length) c3) = w4 at *
  have H4 := Lib.hid (And.intro b4 m4)
  clear b4 m4
  -- zzB
  go_wp2
  go_end0
  have hb1w : b1 < w.heap.size := HB.out.1.lt
  have hbA3 : ¬ Of A3 b1 := fun h => (H3.out.2.2.1 b1 h).elim (fun h => HB.out.2.2.2.2.2.2.2.1 _ h rfl) (fun h => by omega)
  refine ⟨rfl, b1 :: blks A3, ⟨b1, A3, c3, rfl, ?_, ?_, ?_, HB.out.2.2.2.2.2.2.1, by rw [List.length_append], rfl, ?_⟩, fun g hg => ?_, ?_⟩
  · rw [List.length_append]; exact H4.out.1
  · rw [List.length_append, List.flatten_append, bv_append]
    exact H3.out.1.mod H4.out.2 (fun g hg ee => by have ee : g = b1 := ee; exact hbA3 (ee ▸ hg))
  · intro r hr
    rcases List.mem_append.1 hr with hr | hr
    · exact HB.out.2.2.1 r hr
    · exact HB.out.2.2.2.2.2.1 r hr
  · exact List.nodup_cons.2 ⟨fun h => hbA3 (mem_blks.1 h), blks_nodup _⟩
  · rcases List.mem_cons.1 hg with rfl | hg
    · exact .inl List.mem_cons_self
    · exact (H3.out.2.2.1 g (mem_blks.1 hg)).imp (fun h => List.mem_cons_of_mem _ (mem_blks.2 h)) (fun h => .inr (by omega))
  · exact H1.out.nn.trans ((H3.out.2.1.mono (fun g _ h => List.mem_cons_of_mem _ (mem_blks.2 h))).trans (H4.out.2.mono (fun g _ h => by have h : g = b1 := h; rw [h]; exact List.mem_cons_self)))
end
end Go.Proofs.Ytkcpmkeckcnobaa

/- tree.join of inner parts, of any. -/
namespace Go.Proofs.Ytkcpmkeckcnobaa
open Go.RowKit

section
variable {w : World} {ks1 ks2 : List (List Nat)} {ts1 ts2 : List Kid} {d b1 b2 kc1 kc2 cc1 cc2 : Nat} {F1 F2 κ : List Nat} {K1 K2 C1 C2 : Option Addr}
set_option maxRecDepth 100000 in
set_option maxHeartbeats 6400000 in
theorem join_inner (h1 : InnerAt (TreeAt w d) w b1 ks1 ts1 F1 K1 kc1 C1 cc1) (h2 : InnerAt (TreeAt w d) w b2 ks2 ts2 F2 K2 kc2 C2 cc2) (hbd1 : ∀ t ∈ ts1, loB d ≤ t.k ∧ t.k ≤ hiB d) (hbd2 : ∀ t ∈ ts2, loB d ≤ t.k ∧ t.k ≤ hiB d)
    (hnd : ∀ g ∈ F1, g ∉ F2) (hs : Srt (entsOf ts1 ++ entsOf ts2)) (hn : ts1.length + ts2.length ≤ 549755813888) (hκ : κ.length = 40) (hκz : ∀ z ∈ κ, z < 256) (ha : Ahead (entsOf ts1) κ) (hb : ∀ r ∈ entsOf ts2, ¬ klt (keyOf r) κ) :
    Calls Try.prog 99 #[innerV b1, innerV b2, .agg (bv κ).toArray] w (JoinP w (d + 1) (innerV b1) (entsOf ts1 ++ entsOf ts2) (ts1.length + ts2.length) F1 F2) := by
  have hl1 := h1.len
  have hl2 := h2.len
  have hne1 : ∀ t ∈ ts1, t.L ≠ [] := fun t ht => (h1.kids t ht).ne (by have := (hbd1 t ht).1; cases d <;> simp [loB] at this <;> omega)
  have hne2 : ∀ t ∈ ts2, t.L ≠ [] := fun t ht => (h2.kids t ht).ne (by have := (hbd2 t ht).1; cases d <;> simp [loB] at this <;> omega)
  have hlo := join_lo h1.sep hl1 hne1 ha
  have hhi := join_hi h2.sep hl2 hne2 hb
  have ap1 := h1.ap
  have ap2 := h2.ap
  have hlt1 : ∀ g ∈ F1, g < w.heap.size := fun g hg => TreeAt.lt (d := d + 1) (v := innerV b1) (L := entsOf ts1) (k := ts1.length) ⟨b1, ks1, ts1, K1, kc1, C1, cc1, h1, rfl, rfl, rfl, hbd1⟩ g hg
  have hlt2 : ∀ g ∈ F2, g < w.heap.size := fun g hg => TreeAt.lt (d := d + 1) (v := innerV b2) (L := entsOf ts2) (k := ts2.length) ⟨b2, ks2, ts2, K2, kc2, C2, cc2, h2, rfl, rfl, rfl, hbd2⟩ g hg
  have hm1 : ∀ g, g = b1 ∨ Of K1 g ∨ Of C1 g ∨ g ∈ foot ts1 → g ∈ F1 := fun g hg => h1.mem.2 (hg.elim .inl (fun e => .inr (e.elim .inl (fun e => .inr (e.elim .inl (fun e => .inr (mem_foot.1 e)))))))
  have hm2 : ∀ g, g = b2 ∨ Of K2 g ∨ Of C2 g ∨ g ∈ foot ts2 → g ∈ F2 := fun g hg => h2.mem.2 (hg.elim .inl (fun e => .inr (e.elim .inl (fun e => .inr (e.elim .inl (fun e => .inr (mem_foot.1 e)))))))
  have HB := Lib.hid (And.intro h1 (And.intro h2 (And.intro hbd1 (And.intro hbd2 (And.intro hnd (And.intro hs (And.intro hκz (And.intro ha (And.intro hb (And.intro hlo (And.intro hhi (And.intro ap1 ap2))))))))))))
  have HF := Lib.hid (And.intro hlt1 (And.intro hlt2 (And.intro hm1 hm2)))
  clear h1 h2 hbd1 hbd2 hnd hs hκz ha hb hlo hhi ap1 ap2 hlt1 hlt2 hm1 hm2 hne1 hne2
  generalize hXX : innerV b1 = XX
  have HX := Lib.hid hXX
  unfold innerV at hXX
  subst hXX
  generalize hYY : innerV b2 = YY
  have HY := Lib.hid hYY
  unfold innerV at hYY
  subst hYY
  go_enter Try.func99, Try.ntmps99
  go_wp2_with (first
    | (with_reducible change wpList _ _ _ (⟨some 5, Op.box _ _, _, _, _, _⟩ :: _) _ _
       go_must (refine wpList_box_var 23 _ rfl rfl (bv κ).toArray rfl ?_)
       intro w1 b1' m1 z1
       clear z1
       have hs1 : w.heap.size < w1.heap.size := b1'.lt
       have H1 := Lib.hid (And.intro m1 b1')
       clear m1 b1')
    | (with_reducible change wpList _ _ _ (⟨some 10, _, _, _, _, _⟩ :: _) _ _
       go_must (refine wpList_val rfl (exec_assert_no (P := Try.prog) _ _ _ rfl rfl (by decide) Try.underlying109 info_pleaf) ?_))
    | (with_reducible change wpList _ _ _ (⟨some 26, _, _, _, _, _⟩ :: _) _ _
       go_must (refine wpList_val rfl (exec_assert_yes (P := Try.prog) _ _ _ _ rfl rfl Try.underlying103) ?_)
       rw [if_pos rfl])
    | (with_reducible change wpList _ _ _ (⟨some 30, _, _, _, _, _⟩ :: _) _ _
       go_must (refine wpList_val rfl ((exec_assert_yes (P := Try.prog) _ _ _ false rfl rfl Try.underlying103).trans rfl) ?_)))
  have hI1 := HB.out.1.mod (S := Nn) (w' := w1) (Q' := TreeAt w1 d) H1.out.1 (fun _ _ f => f) (fun t _ hq => hq.nn H1.out.1)
  have hI2 := HB.out.2.1.mod (S := Nn) (w' := w1) (Q' := TreeAt w1 d) H1.out.1 (fun _ _ f => f) (fun t _ hq => hq.nn H1.out.1)
  have HS := Lib.hid (And.intro hI1 hI2)
  clear hI1 hI2
  have ap1 := HB.out.2.2.2.2.2.2.2.2.2.2.2.1
  have ap2 := HB.out.2.2.2.2.2.2.2.2.2.2.2.2
  have hx : ∀ g, (g = b1 ∨ Of K1 g ∨ Of C1 g ∨ g ∈ foot ts1) → ¬ (g = b2 ∨ Of K2 g ∨ Of C2 g ∨ g ∈ foot ts2) := fun g h h' => HB.out.2.2.2.2.1 g (HF.out.2.2.1 g h) (HF.out.2.2.2 g h')
  have hw1 : ∀ g, (g = b1 ∨ Of K1 g ∨ Of C1 g ∨ g ∈ foot ts1) → g < w.heap.size := fun g h => HF.out.1 g (HF.out.2.2.1 g h)
  have hw2 : ∀ g, (g = b2 ∨ Of K2 g ∨ Of C2 g ∨ g ∈ foot ts2) → g < w.heap.size := fun g h => HF.out.2.1 g (HF.out.2.2.2 g h)
  have hb12 : b1 ≠ b2 := fun e => hx b1 (.inl rfl) (.inl e)
  have HZ := Lib.hid (And.intro ap1 (And.intro ap2 (And.intro hx (And.intro hw1 hw2))))
  clear ap1 ap2 hx hw1 hw2
  -- zzA
  refine wp_region_planT (fun w' => Blk w' b1 106 #[.slice K1 ks1.length kc1, .slice C1 ts1.length cc1] ∧ Blk w' b2 106 #[.slice K2 ks2.length kc2, .slice C2 ts2.length cc2] ∧ Blk w' w.heap.size 23 (bv κ).toArray) 15 [(0, 0), (1, 0), (2, 0), (3, 0), (4, 1), (5, 1), (8, 0), (9, 0), (10, 0), (11, 1), (6, 2), (7, 2), (12, 2), (13, 0), (14, 0), (15, 2)] (by kernel_rfl) (by kernel_rfl) ⟨HS.out.1.blk.drew, HS.out.2.blk.drew, H1.out.2.drew⟩ ?_
  iterate 4 (refine pt_pure rfl rfl (fun K hK => ?_); go_simp; refine hK _ ?_; clear hK K)
  refine pt_take (.slice K1 ks1.length kc1) rfl rfl (fun w' hS => exec_load1 (P := Try.prog) 75 (.tmp 34) rfl rfl (hS.1.cell 0) Try.underlying75 rfl) (fun K hK => ?_); go_simp; refine hK _ ?_; clear hK K
  refine pt_take (.agg (bv κ).toArray) rfl rfl (fun w' hS => exec_load_row (P := Try.prog) (g := w.heap.size) (cs := (bv κ).toArray) 23 (.tmp 5) rfl rfl hS.2.2 Try.underlying23 rfl (size_keyk hκ)) (fun K hK => ?_); go_simp; refine hK _ ?_; clear hK K
  iterate 3 (refine pt_pure rfl rfl (fun K hK => ?_); go_simp; refine hK _ ?_; clear hK K)
  refine pt_take (.slice K2 ks2.length kc2) rfl rfl (fun w' hS => exec_load1 (P := Try.prog) 75 (.tmp 41) rfl rfl (hS.2.1.cell 0) Try.underlying75 rfl) (fun K hK => ?_); go_simp; refine hK _ ?_; clear hK K
  refine pt_mk1 (ys := bv κ) (v := .agg (bv κ).toArray) 75 23 (.tmp 36) rfl rfl rfl uuK info_key40 (by omega) (by omega) rfl rfl (by rw [bv_len, hκ]) (fun w4 b4 m4 => ⟨fun _ => ⟨HS.out.1.blk.mod (Mod.of_drew m4) (fun f => f), HS.out.2.blk.mod (Mod.of_drew m4) (fun f => f), H1.out.2.mod (Mod.of_drew m4) (fun f => f)⟩, ?_⟩)
  refine (fun K hK => ?_); go_simp; refine hK _ ?_; clear hK K
  have m4' := m4.of_drew
  have hs4 : w1.heap.size < w4.heap.size := b4.lt
  have H4 := Lib.hid (And.intro m4' b4)
  clear m4 m4' b4
  refine pt_append_hold 40 75 (.tmp 35) (.tmp 37) rfl rfl rfl zK 40 uuK infoK zsK (by omega) rfl (HS.out.1.krow.nn H4.out.1) rfl (RdC.of_blk H4.out.2 (by rw [bv_len, hκ])) (bv_one _) (by omega) (by omega) (fun K5 k5 w5 h5 m5 hK5 => ⟨fun _ => ⟨(HS.out.1.blk.mod H4.out.1 (fun f => f)).mod m5 (fun h => HZ.out.1.hb _ (.inl h) rfl), (HS.out.2.blk.mod H4.out.1 (fun f => f)).mod m5 (fun h => HZ.out.2.2.1 _ (.inr (.inl h)) (.inl rfl)), (H1.out.2.mod H4.out.1 (fun f => f)).mod m5 (fun h => by have := HZ.out.2.2.2.1 _ (.inr (.inl h)); omega)⟩, ?_⟩)
  refine (fun K hK => ?_); go_simp; refine hK _ ?_; clear hK K
  have hs5 : w4.heap.size ≤ w5.heap.size := m5.size
  rw [hl1] at h5
  have hK2 := (HS.out.2.krow.nn H4.out.1).mod m5 (fun g hg h => HZ.out.2.2.1 g (.inr (.inl h)) (.inr (.inl hg)))
  have hb5 := (HS.out.1.blk.mod H4.out.1 (fun f => f)).mod m5 (fun h => HZ.out.1.hb _ (.inl h) rfl)
  have hb5' := (HS.out.2.blk.mod H4.out.1 (fun f => f)).mod m5 (fun h => HZ.out.2.2.1 _ (.inr (.inl h)) (.inl rfl))
  have hq5 := (H1.out.2.mod H4.out.1 (fun f => f)).mod m5 (fun h => by have := HZ.out.2.2.2.1 _ (.inr (.inl h)); omega)
  have hK5n : ∀ g, Of K5 g → Of K1 g ∨ w4.heap.size ≤ g := hK5
  have H5 := Lib.hid (And.intro h5 (And.intro m5 (And.intro hK5n (And.intro hK2 (And.intro hb5 (And.intro hb5' hq5))))))
  clear h5 m5 hK5 hK2 hb5 hb5' hq5 hK5n
  have hbK5 : ¬ Of K5 b1 := fun h => (H5.out.2.2.1 _ h).elim (fun h => HZ.out.1.hb _ (.inl h) rfl) (fun h => by have := HZ.out.2.2.2.1 b1 (.inl rfl); omega)
  have hbK5' : ¬ Of K5 b2 := fun h => (H5.out.2.2.1 _ h).elim (fun h => HZ.out.2.2.1 _ (.inr (.inl h)) (.inl rfl)) (fun h => by have := HZ.out.2.2.2.2 b2 (.inl rfl); omega)
  have hqK5 : ¬ Of K5 w.heap.size := fun h => (H5.out.2.2.1 _ h).elim (fun h => by have := HZ.out.2.2.2.1 _ (.inr (.inl h)); omega) (fun h => by omega)
  refine pt_append_hold 40 75 (.tmp 38) (.tmp 42) rfl rfl rfl zK 40 uuK infoK zsK (by omega) rfl H5.out.1 rfl H5.out.2.2.2.1.rd (bv_one _) (by omega) (by omega) (fun K6 k6 w6 h6 m6 hK6 => ⟨fun _ => ⟨H5.out.2.2.2.2.1.mod m6 hbK5, H5.out.2.2.2.2.2.1.mod m6 hbK5', H5.out.2.2.2.2.2.2.mod m6 hqK5⟩, ?_⟩)
  refine (fun K hK => ?_); go_simp; refine hK _ ?_; clear hK K
  have hs6 : w5.heap.size ≤ w6.heap.size := m6.size
  have hb6 := H5.out.2.2.2.2.1.mod m6 hbK5
  have hb6' := H5.out.2.2.2.2.2.1.mod m6 hbK5'
  have hK6n : ∀ g, Of K6 g → Of K1 g ∨ w4.heap.size ≤ g := fun g hg => (hK6 g hg).elim (H5.out.2.2.1 g) (fun h => .inr (by omega))
  have hm46 : Mod (fun g => Of K1 g ∨ w4.heap.size ≤ g) w4 w6 := (H5.out.2.1.mono (fun g _ h => .inl h)).then_ m6 (fun g _ h => H5.out.2.2.1 g h)
  have H6 := Lib.hid (And.intro h6 (And.intro hm46 (And.intro hK6n (And.intro hb6 hb6'))))
  clear h6 m6 hK6 hm46 hK6n hb6 hb6'
  iterate 2 (refine pt_pure rfl rfl (fun K hK => ?_); go_simp; refine hK _ ?_; clear hK K)
  refine pt_unit rfl rfl (exec_store1 (P := Try.prog) (ad := ⟨b1, 0, none⟩) (v := .slice K6 (ts1.length + ks2.length) k6) (u := .slice K1 ks1.length kc1) 75 (.tmp 45) (.tmp 43) rfl rfl rfl (H6.out.2.2.2.1.cell 0) (H6.out.2.2.2.1.frozen 0) rfl rfl rfl size_slK) (fun h => by simp at h) (fun K hK => ?_); go_simp; refine hK _ ?_; clear hK K
  refine pt_nil ?_
  have b7 : Blk (w6.setCell ⟨b1, 0, none⟩ (.slice K6 (ts1.length + ks2.length) k6)) b1 106 #[.slice K6 (ts1.length + ks2.length) k6, .slice C1 ts1.length cc1] := H6.out.2.2.2.1.set_ 0 _
  have m7 : Mod (At b1) w6 (w6.setCell ⟨b1, 0, none⟩ (.slice K6 (ts1.length + ks2.length) k6)) := Mod.cellAt _ _ _ _
  generalize w6.setCell ⟨b1, 0, none⟩ (.slice K6 (ts1.length + ks2.length) k6) = w7 at *
  have hbK6 : ∀ g, Of K6 g → g ≠ b1 := fun g hg e => (H6.out.2.2.1 g hg).elim (fun h => HZ.out.1.hb _ (.inl h) e) (fun h => by have := HZ.out.2.2.2.1 b1 (.inl rfl); omega)
  have hb7' := H6.out.2.2.2.2.mod m7 (fun h => hb12 h.symm)
  have hs7 : w6.heap.size ≤ w7.heap.size := m7.size
  -- everything of the two parts, at w7
  have hm17 : Mod (fun g => g = b1 ∨ Of K1 g) w1 w7 := H4.out.1.nn.then_ ((H6.out.2.1.mono (T := fun g => g = b1 ∨ Of K1 g ∨ w4.heap.size ≤ g) (fun g _ h => .inr h)).trans (m7.mono (fun g _ h => .inl h))) (fun g hg h => h.elim .inl (fun h => h.elim .inr (fun h => by omega)))
  have hC1 := HS.out.1.crow.mod hm17 (fun g hg h => h.elim (HZ.out.1.hb g (.inr (.inl hg))) (fun h => HZ.out.1.KC g h hg))
  have hC2 := HS.out.2.crow.mod hm17 (fun g hg h => h.elim (fun h => HZ.out.2.2.1 g (.inl h) (.inr (.inr (.inl hg)))) (fun h => HZ.out.2.2.1 g (.inr (.inl h)) (.inr (.inr (.inl hg)))))
  have hK7 := H6.out.1.mod m7 (fun g hg h => hbK6 g hg h)
  have H7 := Lib.hid (And.intro b7 (And.intro hb7' (And.intro hm17 (And.intro hC1 (And.intro hC2 hK7)))))
  clear b7 hb7' hm17 hC1 hC2 hK7 m7
  -- zzB
  go_wp2_with fail
  refine wp_region_planT (fun w' => Blk w' b1 106 #[.slice K6 (ts1.length + ks2.length) k6, .slice C1 ts1.length cc1] ∧ Blk w' b2 106 #[.slice K2 ks2.length kc2, .slice C2 ts2.length cc2]) 12 [(0, 0), (1, 0), (2, 0), (3, 0), (4, 1), (5, 0), (6, 0), (7, 0), (8, 1), (9, 2), (10, 0), (11, 0), (12, 2)] (by kernel_rfl) (by kernel_rfl) ⟨H7.out.1.drew, H7.out.2.1.drew⟩ ?_
  iterate 4 (refine pt_pure rfl rfl (fun K hK => ?_); go_simp; refine hK _ ?_; clear hK K)
  refine pt_take (.slice C1 ts1.length cc1) rfl rfl (fun w' hS => exec_load1 (P := Try.prog) 104 (.tmp 49) rfl rfl (hS.1.cell 1) Try.underlying104 rfl) (fun K hK => ?_); go_simp; refine hK _ ?_; clear hK K
  iterate 3 (refine pt_pure rfl rfl (fun K hK => ?_); go_simp; refine hK _ ?_; clear hK K)
  refine pt_take (.slice C2 ts2.length cc2) rfl rfl (fun w' hS => exec_load1 (P := Try.prog) 104 (.tmp 53) rfl rfl (hS.2.cell 1) Try.underlying104 rfl) (fun K hK => ?_); go_simp; refine hK _ ?_; clear hK K
  have hone : ∀ u ∈ ts2.map (·.v), u.oneCell' = true := fun u hu => by
    obtain ⟨t, ht, rfl⟩ := List.mem_map.1 hu
    exact tree_one (HB.out.2.1.kids t ht)
  refine pt_append_hold 1 104 (.tmp 50) (.tmp 54) rfl rfl rfl zP 16 uuP infoP zsP (by omega) rfl (H7.out.2.2.2.1.nn (Mod.refl Nn w7).drew) rfl (H7.out.2.2.2.2.1.nn (Mod.refl Nn w7).drew).rd hone (by omega) (by omega) (fun C8 c8 w8 h8 m8 hC8 => ⟨fun _ => ⟨H7.out.1.drew.mod m8 (fun h => HZ.out.1.hb _ (.inr (.inl h)) rfl), H7.out.2.1.drew.mod m8 (fun h => HZ.out.2.2.1 _ (.inr (.inr (.inl h))) (.inl rfl))⟩, ?_⟩)
  refine (fun K hK => ?_); go_simp; refine hK _ ?_; clear hK K
  clear hone
  have hb8 := H7.out.1.drew.mod m8 (fun h => HZ.out.1.hb _ (.inr (.inl h)) rfl)
  have hm8 : Mod (Of C1) w7 w8 := (Mod.refl Nn w7).drew.nn.trans m8
  have hs8 : w7.heap.size ≤ w8.heap.size := hm8.size
  have hC8n : ∀ g, Of C8 g → Of C1 g ∨ w7.heap.size ≤ g := hC8
  have H8 := Lib.hid (And.intro h8 (And.intro hm8 (And.intro hC8n hb8)))
  clear h8 m8 hC8 hb8 hm8 hC8n
  iterate 2 (refine pt_pure rfl rfl (fun K hK => ?_); go_simp; refine hK _ ?_; clear hK K)
  refine pt_unit rfl rfl (exec_store1 (P := Try.prog) (ad := ⟨b1, 1, none⟩) (v := .slice C8 (ts1.length + ts2.length) c8) (u := .slice C1 ts1.length cc1) 104 (.tmp 57) (.tmp 55) rfl rfl rfl (H8.out.2.2.2.cell 1) (H8.out.2.2.2.frozen 1) rfl rfl rfl size_slP) (fun h => by simp at h) (fun K hK => ?_); go_simp; refine hK _ ?_; clear hK K
  refine pt_nil ?_
  have b9 : Blk (w8.setCell ⟨b1, 1, none⟩ (.slice C8 (ts1.length + ts2.length) c8)) b1 106 #[.slice K6 (ts1.length + ks2.length) k6, .slice C8 (ts1.length + ts2.length) c8] := H8.out.2.2.2.set_ 1 _
  have m9 : Mod (At b1) w8 (w8.setCell ⟨b1, 1, none⟩ (.slice C8 (ts1.length + ts2.length) c8)) := Mod.cellAt _ _ _ _
  generalize w8.setCell ⟨b1, 1, none⟩ (.slice C8 (ts1.length + ts2.length) c8) = w9 at *
  have H9 := Lib.hid (And.intro b9 m9)
  clear b9 m9
  -- zzC
  go_wp2
  go_end0
  have hI1 := HB.out.1
  have hI2 := HB.out.2.1
  have ap1 := HZ.out.1
  have ap2 := HZ.out.2.1
  have hx := HZ.out.2.2.1
  have hw1 := HZ.out.2.2.2.1
  have hw2 := HZ.out.2.2.2.2
  have hm79 : Mod (fun g => g = b1 ∨ Of C1 g) w7 w9 := (H8.out.2.1.mono (fun g _ h => .inr h)).trans (H9.out.2.mono (fun g _ h => .inl h))
  have hm19 : Mod (fun g => g = b1 ∨ Of K1 g ∨ Of C1 g) w1 w9 := (H7.out.2.2.1.mono (fun g _ h => h.imp id .inl)).trans (hm79.mono (fun g _ h => h.imp id .inr))
  have hkl : (ks1 ++ κ :: ks2).length = ts1.length + ks2.length := by simp; omega
  have hK6lt : ∀ g, Of K6 g → g < w7.heap.size := fun g hg => H7.out.2.2.2.2.2.lt hg
  have hf : foot (ts1 ++ ts2) = foot ts1 ++ foot ts2 := foot_append _ _
  have hff : ∀ g ∈ foot (ts1 ++ ts2), (g ∈ foot ts1 ∨ g ∈ foot ts2) ∧ g < w.heap.size := fun g hg => by
    rw [hf] at hg
    rcases List.mem_append.1 hg with h | h
    · exact ⟨.inl h, hw1 g (.inr (.inr (.inr h)))⟩
    · exact ⟨.inr h, hw2 g (.inr (.inr (.inr h)))⟩
  refine ⟨rfl, b1 :: (blks K6 ++ (blks C8 ++ foot (ts1 ++ ts2))), ⟨b1, ks1 ++ κ :: ks2, ts1 ++ ts2, K6, k6, C8, c8, ⟨?_, ?_, ?_, ?_, ?_, ?_, ?_, ?_, ?_, rfl, ?_⟩, rfl, ?_, ?_, ?_⟩, ?_, ?_⟩
  · rw [hkl, List.length_append]; exact H9.out.1
  · have e3 : bv ks1.flatten ++ bv κ ++ bv ks2.flatten = bv (ks1 ++ κ :: ks2).flatten := by
      rw [← bv_append, ← bv_append, List.flatten_append, List.flatten_cons, List.append_assoc]
    rw [hkl, ← e3]
    exact H7.out.2.2.2.2.2.mod hm79 (fun g hg h => h.elim (hbK6 g hg) (fun h => (H6.out.2.2.1 g hg).elim (fun h' => ap1.KC g h' h) (fun h' => by have := hw1 g (.inr (.inr (.inl h))); omega)))
  · intro r hr
    rcases List.mem_append.1 hr with hr | hr
    · exact hI1.krows r hr
    · rcases List.mem_cons.1 hr with rfl | hr
      · exact ⟨hκ, HB.out.2.2.2.2.2.2.1⟩
      · exact hI2.krows r hr
  · exact join_keys hI1.ksrt hI2.ksrt HB.out.2.2.2.2.2.2.2.2.2.1 HB.out.2.2.2.2.2.2.2.2.2.2.1
  · rw [List.length_append, List.map_append]
    exact H8.out.1.mod H9.out.2 (fun g hg h => (H8.out.2.2.1 g hg).elim (fun h' => ap1.hb g (.inr (.inl h')) h) (fun h' => by have h : g = b1 := h; have := hw1 b1 (.inl rfl); omega))
  · rw [hkl, List.length_append]; omega
  · intro t ht
    rcases List.mem_append.1 ht with h | h
    · exact (HS.out.1.kids t h).mod hm19 (fun g hg e => by
        have hgf : g ∈ foot ts1 := mem_foot.2 ⟨t, h, hg⟩
        exact e.elim (ap1.hb g (.inr (.inr hgf))) (fun e => e.elim (fun e => ap1.Kf g e hgf) (fun e => ap1.Cf g e hgf)))
    · exact (HS.out.2.kids t h).mod hm19 (fun g hg e => by
        have hgf : g ∈ foot ts2 := mem_foot.2 ⟨t, h, hg⟩
        exact hx g (e.imp id (fun e => e.imp id .inl)) (.inr (.inr (.inr hgf))))
  · rw [entsOf_append]; exact HB.out.2.2.2.2.2.1
  · exact join_sep hI1.sep hI2.sep hl1 HB.out.2.2.2.2.2.2.2.2.2.1 HB.out.2.2.2.2.2.2.2.2.2.2.1 HB.out.2.2.2.2.2.2.2.1 HB.out.2.2.2.2.2.2.2.2.1
  · refine inner_nd (fun g hg e => ?_) (fun g h1 h2 => ?_) (fun g h1 h2 => ?_) (fun g h1 h2 => ?_) ?_
    · rcases hg with h | h | h
      · exact hbK6 g h e
      · exact (H8.out.2.2.1 g h).elim (fun h' => ap1.hb g (.inr (.inl h')) e) (fun h' => by have := hw1 b1 (.inl rfl); omega)
      · rcases (hff g h).1 with h' | h'
        · exact ap1.hb g (.inr (.inr h')) e
        · exact hx b1 (.inl rfl) (.inr (.inr (.inr (e ▸ h'))))
    · rcases H8.out.2.2.1 g h2 with h' | h'
      · rcases H6.out.2.2.1 g h1 with h'' | h''
        · exact ap1.KC g h'' h'
        · have := hw1 g (.inr (.inr (.inl h'))); omega
      · have := hK6lt g h1; omega
    · rcases H6.out.2.2.1 g h1 with h' | h'
      · rcases (hff g h2).1 with h'' | h''
        · exact ap1.Kf g h' h''
        · exact hx g (.inr (.inl h')) (.inr (.inr (.inr h'')))
      · have := (hff g h2).2; omega
    · rcases H8.out.2.2.1 g h1 with h' | h'
      · rcases (hff g h2).1 with h'' | h''
        · exact ap1.Cf g h' h''
        · exact hx g (.inr (.inr (.inl h'))) (.inr (.inr (.inr h'')))
      · have := (hff g h2).2; omega
    · rw [hf]
      exact nodup_apart ap1.f ap2.f (fun x hx1 y hy1 e => hx x (.inr (.inr (.inr hx1))) (.inr (.inr (.inr (e ▸ hy1)))))
  · rw [entsOf_append]
  · rw [List.length_append]
  · intro t ht
    rcases List.mem_append.1 ht with h | h
    · exact HB.out.2.2.1 t h
    · exact HB.out.2.2.2.1 t h
  · intro g hg
    rcases List.mem_cons.1 hg with rfl | hg
    · exact .inl (HF.out.2.2.1 _ (.inl rfl))
    · rcases List.mem_append.1 hg with hg | hg
      · exact (H6.out.2.2.1 g (mem_blks.1 hg)).elim (fun h => .inl (HF.out.2.2.1 g (.inr (.inl h)))) (fun h => .inr (.inr (by omega)))
      · rcases List.mem_append.1 hg with hg | hg
        · exact (H8.out.2.2.1 g (mem_blks.1 hg)).elim (fun h => .inl (HF.out.2.2.1 g (.inr (.inr (.inl h))))) (fun h => .inr (.inr (by omega)))
        · exact (hff g hg).1.elim (fun h => .inl (HF.out.2.2.1 g (.inr (.inr (.inr h))))) (fun h => .inr (.inl (HF.out.2.2.2 g (.inr (.inr (.inr h))))))
  · exact H1.out.1.nn.trans (hm19.mono (fun g _ h => HF.out.2.2.1 g (h.imp id (fun h => h.imp id .inl))))
end
end Go.Proofs.Ytkcpmkeckcnobaa
