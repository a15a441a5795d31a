/- Own lemmas of several kinds, put together: Tr20, Tr21. -/
import Derived.Test.YtkcpmkeckcnobaaTrG
import Derived.Test.YtkcpmkeckcnobaaKitF
import Derived.Deep.Cut
import Derived.Deep.DeepCutAuto
/- (*tree.Tree).Set; Get. -/
namespace Go.Proofs.Ytkcpmkeckcnobaa
open Go.RowKit

theorem Hold.of_blk {w : World} {g s n : Nat} {e : TypeId} {xs : List Value} (hb : Blk w g e xs.toArray) (hl : xs.length = n * s) (hn : n ≤ maxLen) : Hold w e s (some ⟨g, 0, none⟩) n n xs :=
  ⟨hl, .inr ⟨g, _, rfl, hb, Nat.le_refl _, hn, by simp [hl], by rw [← hl]; exact List.take_length⟩⟩
/-- a new root over two parts -/
theorem root_two {w : World} {d : Nat} {v u : Value} {κ : List Nat} {L1 L2 : List (List Nat)} {k1 k2 : Nat} {F1 F2 : List Nat} {g1 g2 g3 : Nat} (h1 : TreeAt w d v L1 k1 F1) (h2 : TreeAt w d u L2 k2 F2) (hnd : (F1 ++ F2).Nodup)
    (hb1 : loB d ≤ k1 ∧ k1 ≤ hiB d) (hb2 : loB d ≤ k2 ∧ k2 ≤ hiB d) (bK : Blk w g1 23 (bv κ).toArray) (bC : Blk w g2 37 #[v, u])
    (bI : Blk w g3 106 #[.slice (some ⟨g1, 0, none⟩) 1 1, .slice (some ⟨g2, 0, none⟩) 2 2]) (hκ : κ.length = 40) (hκz : ∀ z ∈ κ, z < 256) (ha : Ahead L1 κ) (hb : ∀ r ∈ L2, ¬ klt (keyOf r) κ) (hs : Srt (L1 ++ L2))
    (hf : ∀ g ∈ F1 ++ F2, g ≠ g1 ∧ g ≠ g2 ∧ g ≠ g3) (h12 : g1 ≠ g2) (h13 : g1 ≠ g3) (h23 : g2 ≠ g3) : ∃ F, TreeAt w (d + 1) (innerV g3) (L1 ++ L2) 2 F ∧ ∀ g ∈ F, g ∈ F1 ++ F2 ∨ g = g1 ∨ g = g2 ∨ g = g3 := by
  have hfo : foot [⟨v, L1, k1, F1⟩, ⟨u, L2, k2, F2⟩] = F1 ++ F2 := by simp [foot]
  have hen : entsOf [⟨v, L1, k1, F1⟩, ⟨u, L2, k2, F2⟩] = L1 ++ L2 := by simp [entsOf]
  have hin : InnerAt (TreeAt w d) w g3 [κ] [⟨v, L1, k1, F1⟩, ⟨u, L2, k2, F2⟩] (g3 :: (blks (some ⟨g1, 0, none⟩) ++ (blks (some ⟨g2, 0, none⟩) ++ foot [⟨v, L1, k1, F1⟩, ⟨u, L2, k2, F2⟩]))) (some ⟨g1, 0, none⟩) 1 (some ⟨g2, 0, none⟩) 2 := by
    refine ⟨bI, ?_, ?_, List.pairwise_singleton _ _, ?_, rfl, ?_, by rw [hen]; exact hs, ?_, rfl, ?_⟩
    · exact Hold.of_blk (by simpa using bK) (by simp [bv_len, hκ]) (by unfold maxLen; simp)
    · intro r hr
      rw [List.mem_singleton] at hr; subst hr; exact ⟨hκ, hκz⟩
    · exact Hold.of_blk bC rfl (by simp [maxLen])
    · intro t ht
      simp only [List.mem_cons, List.not_mem_nil, or_false] at ht
      rcases ht with rfl | rfl
      · exact h1
      · exact h2
    · intro i x hx
      cases i with
      | zero =>
        simp only [List.getElem?_cons_zero, Option.some.injEq] at hx
        subst hx
        refine ⟨?_, ?_⟩
        · simpa [entsOf] using ha
        · simpa [entsOf] using hb
      | succ i => simp at hx
    · rw [hfo]
      refine List.nodup_cons.2 ⟨?_, ?_⟩
      · simp only [blks, List.mem_append, List.mem_cons, List.not_mem_nil, or_false]
        rintro (h | h | h | h)
        · exact h13 h.symm
        · exact h23 h.symm
        · exact (hf g3 (List.mem_append_left _ h)).2.2 rfl
        · exact (hf g3 (List.mem_append_right _ h)).2.2 rfl
      · show (g1 :: (g2 :: (F1 ++ F2))).Nodup
        refine List.nodup_cons.2 ⟨?_, List.nodup_cons.2 ⟨fun h => (hf g2 h).2.1 rfl, hnd⟩⟩
        intro h
        rcases List.mem_cons.1 h with h | h
        · exact h12 h
        · exact (hf g1 h).1 rfl
  refine ⟨_, ⟨g3, [κ], [⟨v, L1, k1, F1⟩, ⟨u, L2, k2, F2⟩], _, 1, _, 2, hin, rfl, hen.symm, rfl, ?_⟩, fun g hg => ?_⟩
  · intro t ht
    simp only [List.mem_cons, List.not_mem_nil, or_false] at ht
    rcases ht with rfl | rfl
    · exact hb1
    · exact hb2
  · rw [hfo] at hg
    simp only [blks, List.mem_append, List.mem_cons, List.not_mem_nil, or_false] at hg
    rcases hg with h | h | h | h | h
    · exact .inr (.inr (.inr h))
    · exact .inr (.inl h)
    · exact .inr (.inr (.inl h))
    · exact .inl (List.mem_append_left _ h)
    · exact .inl (List.mem_append_right _ h)
theorem exec_box_agg {P : Program} {w : World} {o : Oper} {a : Act} {cs : Array Value} (T : TypeId) (x : Operand) (ho : o.op = .box T x) (hx : a.eval x = .agg cs) :
    (execOp a.eval o).run P w = .ok (.value (.pointer (some ⟨w.heap.size, 0, none⟩))) (w.alloc (.cells cs T)) := by
  have hr := exec_box (P := P) (w := w) (a := a) T x ho
  rw [hx] at hr; exact hr
theorem exec_bparts {w : World} {o : Oper} {a : Act} {x y : Operand} {v u : Value} (ho : o.op = .buildSlice 104 2 #[(0, x), (1, y)]) (hx : a.eval x = v) (hy : a.eval y = u) (hv : v.cells = #[v]) (hu : u.cells = #[u]) :
    (execOp a.eval o).run Try.prog w = .ok (.value (.slice (some ⟨w.heap.size, 0, none⟩) 2 2)) (w.alloc (.cells #[v, u] 37)) := by
  have := exec_bsliceN (P := Try.prog) (w := w) (a := a) 104 37 2 _ [v, u] ho uuP info_partz (by omega) (by omega) (by simp [hx, hy, List.zipIdx]) rfl (by intro q hq; simp only [List.mem_cons, List.not_mem_nil, or_false] at hq; rcases hq with rfl | rfl <;> simp [hv, hu])
  simpa [hv, hu] using this
theorem part_cells {w : World} {d : Nat} {v : Value} {L : List (List Nat)} {k : Nat} {F : List Nat} (h : TreeAt w d v L k F) : v.cells = #[v] := by
  obtain ⟨T, g, rfl⟩ := tree_iface h
  rfl
/-! ## Set -/
def SetT (w : World) (b : Nat) (L : List (List Nat)) (G : List Nat) (r : Ending) (w' : World) : Prop :=
  r = .returned (.int .i64 0) ∧ ∃ G', TrAt w' b L G' ∧ (∀ g ∈ G', g ∈ G ∨ w.heap.size ≤ g) ∧ Mod (· ∈ G) w w'
/-- a tree whose count is known -/
def TrN (w : World) (b : Nat) (v : Value) (d : Nat) (L : List (List Nat)) (k n : Nat) (F : List Nat) : Prop := Blk w b 39 #[v, .int .i64 n] ∧ TreeAt w d v L k F ∧ b ∉ F
section
variable {w : World} {b : Nat} {L : List (List Nat)} {G : List Nat} {e : List Nat}
theorem tset_no {p : Value} (he : e.length = 80) (ht : ∀ w', Mod Nn w w' → Calls Try.prog 43 #[p] w' fun e w'' => e = .returned (.bool false) ∧ Mod Nn w' w'') : Calls Try.prog 22 #[p, .agg (bv e).toArray] w fun r w' => r = .returned (.int .i64 1) ∧ Mod Nn w w' := by
  have HT := Lib.hid ht
  clear ht
  go_enter Try.func22, Try.ntmps22
  go_wp2_with (first
    | (with_reducible change wpList _ _ _ (⟨some 3, Op.box _ _, _, _, _, _⟩ :: _) _ _
       go_must (refine wpList_box_var 28 _ rfl rfl (bv e).toArray rfl ?_)
       intro w1 b1 m1 z1
       clear z1 b1
       have H1 := Lib.hid m1
       clear m1))
  refine (HT.out w1 H1.out).mono ?_
  rintro e w3 ⟨rfl, m3⟩
  have H3 := Lib.hid (H1.out.nn_ m3)
  clear m3
  go_wp2
  go_ret
  exact ⟨rfl, H3.out⟩
set_option maxRecDepth 100000 in
set_option maxHeartbeats 6400000 in
theorem tset_any (h : TrAt w b L G) (he : e.length = 80) (hez : ∀ z ∈ e, z < 256) (hn : L.length ≤ 1099511627776) : Calls Try.prog 22 #[.pointer (some ⟨b, 0, none⟩), .agg (bv e).toArray] w (SetT w b (ins L e) G) := by
  have hsr := h.srt
  have hli := len_ins (e := e) hsr
  obtain ⟨v, d, k, F, h1, h2, h3, h4, rfl, h6⟩ := h
  have hk : k ≤ 20 := by cases d <;> simp [hiB] at h3 <;> omega
  obtain ⟨N, hN⟩ : ∃ N, L.length = N := ⟨_, rfl⟩
  rw [hN] at h1 hn hli
  have HB := Lib.hid (And.intro h1 (And.intro h2 (And.intro (tree_iface h2) (And.intro hez (And.intro hsr (And.intro h6 (And.intro h3 h4)))))))
  have HN := Lib.hid (And.intro hN hli)
  clear h1 h2 h3 h4 h6 hez hsr hN hli
  go_enter Try.func22, Try.ntmps22
  go_wp2_with (first
    | (with_reducible change wpList _ _ _ (⟨some 3, Op.box _ _, _, _, _, _⟩ :: _) _ _
       go_must (refine wpList_box_var 28 _ rfl rfl (bv e).toArray rfl ?_)
       intro w1 b1 m1 z1
       clear z1
       have hs1 : w.heap.size < w1.heap.size := b1.lt
       have H1 := Lib.hid (And.intro m1 b1)
       clear m1 b1))
  refine (there_yes (HB.out.1.mod H1.out.1 (fun f => f)) HB.out.2.2.1).mono ?_
  rintro r w3 ⟨rfl, m3⟩
  have hs3 : w1.heap.size ≤ w3.heap.size := m3.size
  have H3 := Lib.hid (And.intro (H1.out.1.nn_ m3) (And.intro (H1.out.2.mod m3 (fun f => f)) (HB.out.1.mod (H1.out.1.nn_ m3) (fun f => f))))
  clear m3
  go_wp2_with fail
  refine wp_region_planT (fun w' => Mod Nn w3 w') 5 [(0, 0), (1, 0), (2, 0), (3, 1), (4, 1), (5, 2)] (by kernel_rfl) (by kernel_rfl) (Mod.refl Nn w3).drew ?_
  iterate 3 (refine pt_pure rfl rfl (fun K hK => ?_); go_simp; refine hK _ ?_; clear hK K)
  refine pt_take v rfl rfl (fun w' hS => exec_load1 (P := Try.prog) 37 (.tmp 12) rfl rfl ((H3.out.2.2.mod hS (fun f => f)).cell 0) Try.underlying37 rfl) (fun K hK => ?_); go_simp; refine hK _ ?_; clear hK K
  refine pt_take (.agg (bv e).toArray) rfl rfl (fun w' hS => exec_load_row (P := Try.prog) (g := w.heap.size) (cs := (bv e).toArray) 28 (.tmp 3) rfl rfl (H3.out.2.1.mod hS (fun f => f)) Try.underlying28 rfl (size_ente he)) (fun K hK => ?_); go_simp; refine hK _ ?_; clear hK K
  refine pt_call rfl rfl (fun K hK => ?_); go_simp; refine ⟨_, _, ⟨rfl, rfl⟩, hK _ _ _ ?_⟩; clear hK K
  refine (set_any he HB.out.2.2.2.1 d w3.drew v L k F (HB.out.2.1.nn (H3.out.1.nn_ (Mod.refl Nn w3).drew)) (by omega)).mono ?_
  rintro r w5 ⟨rfl, k', F', ht5, hk1, hk2, hF5, m5⟩
  refine ⟨_, rfl, fun h => by simp at h, ?_⟩
  refine pt_nil ?_
  have hdr : w3.drew.heap.size = w3.heap.size := rfl
  have hbF5 : b ∉ F' := fun hc => by
    rcases hF5 b hc with h | h
    · exact HB.out.2.2.2.2.2.1 h
    · have := HB.out.1.lt; omega
  have H5 := Lib.hid (And.intro ((H3.out.1.nn (S := (· ∈ F))).trans m5.of_drew) (And.intro (H3.out.2.2.mod m5.of_drew (fun h => HB.out.2.2.2.2.2.1 h)) (And.intro ht5 (And.intro (fun g hg => (hF5 g hg).imp id (fun h => by omega) : ∀ g ∈ F', g ∈ F ∨ w.heap.size ≤ g) hbF5))))
  have hc1 : w5.cell? ⟨b, 1, none⟩ = some (.int .i64 N) := H5.out.2.1.cell 1
  have hf1 : w5.frozen? ⟨b, 1, none⟩ = false := H5.out.2.1.frozen 1
  clear ht5 hF5 m5 hbF5
  obtain ⟨B, hB⟩ : ∃ B, (!has L (keyOf e)) = B := ⟨_, rfl⟩
  have HH := Lib.hid hB
  rw [hB]
  clear hB
  obtain ⟨M, hM⟩ : ∃ M, (ins L e).length = M := ⟨_, rfl⟩
  have HM := Lib.hid hM
  clear hM
  -- zzA
  go_upto_if 15 with fail
  go_cut [4] from 16 to 22 (fun x wx => x = .int .i64 0 ∧ Blk wx b 39 #[v, .int .i64 M] ∧ Mod (At b) w5 wx)
  case first =>
    cases B
    · have hMN : M = N := by rw [← HM.out, HN.out.2, if_pos (by simpa using HH.out), Nat.add_zero]
      go_wp2
      go_meet
      exact ⟨rfl, by rw [hMN]; exact H5.out.2.1, Mod.refl _ _⟩
    · have hMN : (M : Int) = (N : Int) + 1 := by
        have : M = N + 1 := by rw [← HM.out, HN.out.2, if_neg (by simpa using HH.out)]
        omega
      have HMN := Lib.hid hMN
      clear hMN
      have hw1 : IntKind.i64.wrap ((N : Int) + 1) = (N : Int) + 1 := by rw [IntKind.wrap_i64]; omega
      go_wp2
      go_meet
      rw [HMN.out]
      exact ⟨rfl, H5.out.2.1.set_ 1 _, Mod.cellAt _ _ _ _⟩
  case rest =>
    -- zzR
    obtain ⟨rfl, hbc, hmc⟩ := hcut
    have htc : TreeAt wc d v (ins L e) k' F' := H5.out.2.2.1.mod hmc (fun g hg e => H5.out.2.2.2.2 (by have e : g = b := e; exact e ▸ hg))
    have hmw : Mod (· ∈ b :: F) w wc := (H5.out.1.mono (fun g _ h => List.mem_cons_of_mem _ h)).then_ hmc (fun g _ h => by have e : g = b := h; rw [e]; exact List.mem_cons_self)
    have hs5 : w.heap.size ≤ w5.heap.size := H5.out.1.size
    have hsc : w5.heap.size ≤ wc.heap.size := hmc.size
    have HC := Lib.hid (And.intro hbc (And.intro htc hmw))
    have hc0 : wc.cell? ⟨b, 0, none⟩ = some v := hbc.cell 0
    clear hbc htc hmc hmw hc1 hf1
    go_wp2_with fail
    have hlo : k ≤ hiB d := HB.out.2.2.2.2.2.2.1
    have hor : d = 0 ∨ 2 ≤ k := HB.out.2.2.2.2.2.2.2
    refine (cut_any HC.out.2.1 (by omega)).mono ?_
    rintro r w6 (⟨hle, rfl, m6⟩ | ⟨hgt, u, κ, L1, L2, F1, F2, rfl, hL, t1, t2, hnd, hsub, m6, hκ1, hκ2, hκ3, hκ4⟩)
    · clear hc0
      have H6 := Lib.hid (HC.out.2.2.nn_ m6)
      have HC6 := Lib.hid (And.intro (HC.out.1.mod m6 (fun f => f)) (HC.out.2.1.nn m6))
      have hs6 : wc.heap.size ≤ w6.heap.size := m6.size
      clear m6
      go_wp2_with (first
        | (with_reducible change wpList _ _ _ (⟨some 6, Op.alloc _, _, _, _, _⟩ :: _) _ _
           go_must (refine wpList_alloc_var 23 rfl rfl info_keyz ?_)
           intro w7 b7 m7 z7
           clear z7
           have H7 := Lib.hid (And.intro m7 b7)
           clear b7 m7)
        | (with_reducible change wpList _ _ _ (⟨none, Op.store _ (Operand.tmp 6) _, _, _, _, _⟩ :: _) _ _
           go_must (refine wpList_store_var 23 _ _ rfl rfl w6.heap.size (bv zk).toArray _ _ rfl rfl H7.out.2 (size_keyk zk_len) rfl (bv_all _) ?_)
           intro w8 b8 m8 z8
           clear z8 b8
           have H8 := Lib.hid (H7.out.1.new_ m8 (Nat.le_refl _))
           clear m8))
      go_ret
      refine ⟨rfl, b :: F', ⟨v, d, k', F', by rw [HM.out]; exact HC6.out.1.mod H8.out (fun f => f), HC6.out.2.nn H8.out, hle, by omega, rfl, H5.out.2.2.2.2⟩, fun g hg => ?_, H6.out.nn_ H8.out⟩
      rcases List.mem_cons.1 hg with rfl | hg
      · exact .inl List.mem_cons_self
      · exact (H5.out.2.2.2.1 g hg).imp (List.mem_cons_of_mem _) id
    · have huc := part_cells t2
      have hvc := part_cells t1
      have hd1 : k' = hiB d + 1 := by omega
      have hd2 : 6 ≤ loB d := by cases d <;> simp [loB]
      obtain ⟨Tu, gu, hu⟩ := tree_iface t2
      have hs6 : wc.heap.size ≤ w6.heap.size := m6.size
      have hsub' : ∀ g ∈ F1 ++ F2, g ∈ F ∨ w.heap.size ≤ g := fun g hg => (hsub g hg).elim (H5.out.2.2.2.1 g) (fun h => .inr (by omega))
      have hbF' : b ∉ F' := H5.out.2.2.2.2
      have hm6 : Mod (· ∈ b :: F) w w6 := (HC.out.2.2.mono (T := fun g => g ∈ b :: F ∨ w.heap.size ≤ g) (fun g _ h => .inl h)).then_ m6 (fun g hg h => (H5.out.2.2.2.1 g h).elim (fun h => .inl (List.mem_cons_of_mem _ h)) .inr) |>.mono (fun g hg h => h.elim id (fun h => by omega))
      have H6 := Lib.hid (And.intro hm6 (And.intro (HC.out.1.mod m6 hbF') (And.intro t1 (And.intro t2 (And.intro trivial (And.intro hnd hsub'))))))
      have HK := Lib.hid (And.intro hκ2 (And.intro hκ3 hκ4))
      have HL := Lib.hid (And.intro hL hgt)
      have HV := Lib.hid (And.intro hvc huc)
      clear hm6 t1 t2 hnd hsub hsub' hbF' m6 hκ2 hκ3 hκ4 hL hgt hc0 hvc huc
      subst hu
      go_wp2_with (first
        | (with_reducible change wpList _ _ _ (⟨some 6, Op.alloc _, _, _, _, _⟩ :: _) _ _
           go_must (refine wpList_alloc_var 23 rfl rfl info_keyz ?_)
           intro w7a b7 m7 z7
           clear z7
           have H7a := Lib.hid (And.intro m7 b7)
           clear b7 m7)
        | (with_reducible change wpList _ _ _ (⟨none, Op.store _ (Operand.tmp 6) _, _, _, _, _⟩ :: _) _ _
           go_must (refine wpList_store_var 23 _ _ rfl rfl w6.heap.size (bv κ).toArray _ _ rfl rfl H7a.out.2 (size_keyk hκ1) (by rw [bv_size, hκ1]; rfl) (bv_all _) ?_)
           intro w7 b7 m7 z7
           clear z7
           have H7b := Lib.hid (And.intro (H7a.out.1.new_ m7 (Nat.le_refl _)) b7)
           clear m7 b7))
      have hs7 : w6.heap.size ≤ w7.heap.size := H7b.out.1.size
      have hk7 := H7b.out.2
      have H7 := Lib.hid (And.intro (H6.out.1.nn_ H7b.out.1) (And.intro (H6.out.2.1.mod H7b.out.1 (fun f => f)) (And.intro (H6.out.2.2.1.nn H7b.out.1) (And.intro (H6.out.2.2.2.1.nn H7b.out.1) (And.intro hk7 (And.intro H6.out.2.2.2.2.2.1 (And.intro H6.out.2.2.2.2.2.2 trivial)))))))
      clear hk7
      -- zzF
      refine wp_region_planV (fun w' => Mod Nn w7 w') 14 (.pure 0 (.read 1 (.pure 3 (.pure 4 (.pure 5 (.read 6 (.pure 7 (.fork 2 8 (.alone 8 (.pure 9 (.alone 10 (.pure 11 (.pure 12 (.pure 13 (.alone 14 .nil))))))) (.alone 2 (.pure 9 (.alone 10 (.pure 11 (.pure 12 (.pure 13 (.alone 14 .nil))))))))))))))) (by kernel_rfl) (by kernel_rfl) (Mod.refl Nn w7).drew ?_
      iterate 1 (refine pv_pure rfl rfl (fun K hK => ?_); go_simp; refine hK _ ?_; clear hK K)
      refine pv_take (.agg (bv κ).toArray) rfl rfl (fun w' hS => exec_load_row (P := Try.prog) (g := w6.heap.size) (cs := (bv κ).toArray) 23 (.tmp 6) rfl rfl (H7.out.2.2.2.2.1.mod hS (fun f => f)) Try.underlying23 rfl (size_keyk hκ1)) (fun K hK => ?_); go_simp; refine hK _ ?_; clear hK K
      iterate 3 (refine pv_pure rfl rfl (fun K hK => ?_); go_simp; refine hK _ ?_; clear hK K)
      refine pv_take v rfl rfl (fun w' hS => exec_load1 (P := Try.prog) 37 (.tmp 38) rfl rfl ((H7.out.2.1.mod hS (fun f => f)).cell 0) Try.underlying37 rfl) (fun K hK => ?_); go_simp; refine hK _ ?_; clear hK K
      iterate 1 (refine pv_pure rfl rfl (fun K hK => ?_); go_simp; refine hK _ ?_; clear hK K)
      refine pv_fork ?_ ?_
      · refine pv_val rfl rfl (exec_bslice1 (P := Try.prog) 75 23 (.tmp 34) rfl (s := 40) uuK info_key40 (by omega) (by omega) (X := (bv κ).toArray) rfl rfl (by rw [bv_size, hκ1])) (fun _ => (Mod.refl Nn w7).drew.alloc _) (fun K hK => ?_); go_simp; refine hK _ ?_; clear hK K
        refine pv_val rfl rfl (exec_bparts (v := v) (u := .iface Tu (.pointer (some ⟨gu, 0, none⟩))) rfl rfl rfl HV.out.1 HV.out.2) (fun _ => ((Mod.refl Nn w7).drew.alloc _).alloc _) (fun K hK => ?_); go_simp; refine hK _ ?_; clear hK K
        obtain ⟨g1, hg1⟩ : ∃ g1, w7.heap.size = g1 := ⟨_, rfl⟩
        obtain ⟨g2, hg2⟩ : ∃ g2, g1 + 1 = g2 := ⟨_, rfl⟩
        have hbk : Blk (w7.drew.alloc (.cells (bv κ).toArray 23)) w7.heap.size 23 (bv κ).toArray := Blk.new w7.drew _ _
        have hbc : Blk ((w7.drew.alloc (.cells (bv κ).toArray 23)).alloc (.cells #[v, .iface Tu (.pointer (some ⟨gu, 0, none⟩))] 37)) (w7.drew.alloc (.cells (bv κ).toArray 23)).heap.size 37 #[v, .iface Tu (.pointer (some ⟨gu, 0, none⟩))] := Blk.new _ _ _
        have hsz : (w7.drew.alloc (.cells (bv κ).toArray 23)).heap.size = w7.heap.size + 1 := by simp
        rw [hsz, hg1, hg2] at hbc
        rw [hg1] at hbk
        have H8 := Lib.hid (And.intro ((((Mod.refl Nn w7).drew.alloc (.cells (bv κ).toArray 23))).alloc (.cells #[v, .iface Tu (.pointer (some ⟨gu, 0, none⟩))] 37)) (And.intro (hbk.alloc (.cells #[v, .iface Tu (.pointer (some ⟨gu, 0, none⟩))] 37)) hbc))
        clear hbk hbc hsz
        rw [hg1, hg2]
        generalize (w7.drew.alloc (.cells (bv κ).toArray 23)).alloc (.cells #[v, .iface Tu (.pointer (some ⟨gu, 0, none⟩))] 37) = w8 at *
        have hs8 : w7.heap.size ≤ w8.heap.size := H8.out.1.size
        iterate 1 (refine pv_pure rfl rfl (fun K hK => ?_); go_simp; refine hK _ ?_; clear hK K)
        refine pv_val rfl rfl (exec_box_agg (P := Try.prog) (cs := #[.slice (some ⟨g1, 0, none⟩) 1 1, .slice (some ⟨g2, 0, none⟩) 2 2]) 106 (.tmp 42) rfl rfl) (fun _ => H8.out.1.alloc _) (fun K hK => ?_); go_simp; refine hK _ ?_; clear hK K
        have b9 : Blk (w8.alloc (.cells #[.slice (some ⟨g1, 0, none⟩) 1 1, .slice (some ⟨g2, 0, none⟩) 2 2] 106)) w8.heap.size 106 #[.slice (some ⟨g1, 0, none⟩) 1 1, .slice (some ⟨g2, 0, none⟩) 2 2] := Blk.new _ _ _
        have H9 := Lib.hid (And.intro ((Mod.refl Nn w8).alloc (.cells #[.slice (some ⟨g1, 0, none⟩) 1 1, .slice (some ⟨g2, 0, none⟩) 2 2] 106)) b9)
        clear b9
        -- zzT
        generalize w8.alloc (.cells #[.slice (some ⟨g1, 0, none⟩) 1 1, .slice (some ⟨g2, 0, none⟩) 2 2] 106) = w9 at *
        obtain ⟨g3, hg3⟩ : ∃ g3, w8.heap.size = g3 := ⟨_, rfl⟩
        have hg3' := hg3
        rw [hg3] at H9 ⊢
        clear hg3
        iterate 3 (refine pv_pure rfl rfl (fun K hK => ?_); go_simp; refine hK _ ?_; clear hK K)
        have hb9 := H7.out.2.1.mod (H8.out.1.nn_ H9.out.1) (fun f => f)
        refine pv_unit rfl rfl (exec_store1 (P := Try.prog) (ad := ⟨b, 0, none⟩) (v := innerV g3) (u := v) 37 (.tmp 46) (.tmp 44) rfl rfl rfl (hb9.cell 0) (hb9.frozen 0) rfl rfl rfl sizeP) (fun h => by simp at h) (fun K hK => ?_); go_simp; refine hK _ ?_; clear hK K
        refine pv_nil ?_
        have b10 : Blk (w9.setCell ⟨b, 0, none⟩ (innerV g3)) b 39 #[innerV g3, .int .i64 M] := hb9.set_ 0 _
        have m10 : Mod (At b) w9 (w9.setCell ⟨b, 0, none⟩ (innerV g3)) := Mod.cellAt _ _ _ _
        generalize w9.setCell ⟨b, 0, none⟩ (innerV g3) = w10 at *
        have H10 := Lib.hid (And.intro b10 m10)
        clear b10 m10 hb9
        go_wp2
        go_ret
        have hbw : b < w.heap.size := HB.out.1.lt
        have hnb : ∀ g, w.heap.size ≤ g → ¬ At b g := fun g hg e => by have e : g = b := e; omega
        have hm79 : Mod Nn w7 w9 := H8.out.1.nn_ H9.out.1
        have hlt7 : ∀ g ∈ F1 ++ F2, g < w7.heap.size := fun g hg => by
          rcases List.mem_append.1 hg with hg | hg
          · exact H7.out.2.2.1.lt g hg
          · exact H7.out.2.2.2.1.lt g hg
        have hnotb : ∀ g ∈ F1 ++ F2, ¬ At b g := fun g hg e => by
          have e : g = b := e
          rcases H7.out.2.2.2.2.2.2.1 g hg with h | h
          · exact HB.out.2.2.2.2.2.1 (e ▸ h)
          · omega
        have T1 := (H7.out.2.2.1.nn hm79).mod H10.out.2 (fun g hg => hnotb g (List.mem_append_left _ hg))
        have T2 := (H7.out.2.2.2.1.nn hm79).mod H10.out.2 (fun g hg => hnotb g (List.mem_append_right _ hg))
        obtain ⟨Fr, hFr, hFs⟩ := root_two T1 T2 H7.out.2.2.2.2.2.1 (by cases d <;> simp [hiB, loB] at hd1 hd2 ⊢ <;> omega) (by cases d <;> simp [hiB, loB] at hd1 hd2 ⊢ <;> omega)
          ((H8.out.2.1.mod H9.out.1 (fun f => f)).mod H10.out.2 (hnb g1 (by omega))) ((H8.out.2.2.mod H9.out.1 (fun f => f)).mod H10.out.2 (hnb g2 (by omega))) (H9.out.2.mod H10.out.2 (hnb g3 (by omega)))
          hκ1 HK.out.1 HK.out.2.1 HK.out.2.2 (by rw [← HL.out.1]; exact srt_ins HB.out.2.2.2.2.1 e) (fun g hg => by have := hlt7 g hg; omega) (by omega) (by have := H8.out.2.1.lt; omega) (by have := H8.out.2.2.lt; omega)
        rw [← HL.out.1] at hFr
        refine ⟨rfl, b :: Fr, ⟨innerV g3, d + 1, 2, Fr, by rw [HM.out]; exact H10.out.1, hFr, by simp [hiB], .inr (Nat.le_refl _), rfl, fun hc => ?_⟩, fun g hg => ?_, ?_⟩
        · rcases hFs b hc with h | h | h | h
          · exact hnotb b h rfl
          · omega
          · omega
          · omega
        · rcases List.mem_cons.1 hg with rfl | hg
          · exact .inl List.mem_cons_self
          · rcases hFs g hg with h | h | h | h
            · exact (H7.out.2.2.2.2.2.2.1 g h).imp (List.mem_cons_of_mem _) id
            · exact .inr (by omega)
            · exact .inr (by omega)
            · exact .inr (by omega)
        · exact ((H7.out.1.nn_ hm79).mono (fun g _ h => h)).then_ H10.out.2 (fun g _ h => by have e : g = b := h; rw [e]; exact List.mem_cons_self)
      · refine pv_val rfl rfl (exec_bparts (v := v) (u := .iface Tu (.pointer (some ⟨gu, 0, none⟩))) rfl rfl rfl HV.out.1 HV.out.2) (fun _ => (Mod.refl Nn w7).drew.alloc _) (fun K hK => ?_); go_simp; refine hK _ ?_; clear hK K
        refine pv_val rfl rfl (exec_bslice1 (P := Try.prog) 75 23 (.tmp 34) rfl (s := 40) uuK info_key40 (by omega) (by omega) (X := (bv κ).toArray) rfl rfl (by rw [bv_size, hκ1])) (fun _ => ((Mod.refl Nn w7).drew.alloc _).alloc _) (fun K hK => ?_); go_simp; refine hK _ ?_; clear hK K
        obtain ⟨g2, hg2⟩ : ∃ g2, w7.heap.size = g2 := ⟨_, rfl⟩
        obtain ⟨g1, hg1⟩ : ∃ g1, g2 + 1 = g1 := ⟨_, rfl⟩
        have hbc : Blk (w7.drew.alloc (.cells #[v, .iface Tu (.pointer (some ⟨gu, 0, none⟩))] 37)) w7.heap.size 37 #[v, .iface Tu (.pointer (some ⟨gu, 0, none⟩))] := Blk.new w7.drew _ _
        have hbk : Blk ((w7.drew.alloc (.cells #[v, .iface Tu (.pointer (some ⟨gu, 0, none⟩))] 37)).alloc (.cells (bv κ).toArray 23)) (w7.drew.alloc (.cells #[v, .iface Tu (.pointer (some ⟨gu, 0, none⟩))] 37)).heap.size 23 (bv κ).toArray := Blk.new _ _ _
        have hsz : (w7.drew.alloc (.cells #[v, .iface Tu (.pointer (some ⟨gu, 0, none⟩))] 37)).heap.size = w7.heap.size + 1 := by simp
        rw [hsz, hg2, hg1] at hbk
        rw [hg2] at hbc
        have H8 := Lib.hid (And.intro ((((Mod.refl Nn w7).drew.alloc (.cells #[v, .iface Tu (.pointer (some ⟨gu, 0, none⟩))] 37))).alloc (.cells (bv κ).toArray 23)) (And.intro hbk (hbc.alloc (.cells (bv κ).toArray 23))))
        clear hbk hbc hsz
        rw [hg2, hg1]
        generalize (w7.drew.alloc (.cells #[v, .iface Tu (.pointer (some ⟨gu, 0, none⟩))] 37)).alloc (.cells (bv κ).toArray 23) = w8 at *
        have hs8 : w7.heap.size ≤ w8.heap.size := H8.out.1.size
        iterate 1 (refine pv_pure rfl rfl (fun K hK => ?_); go_simp; refine hK _ ?_; clear hK K)
        refine pv_val rfl rfl (exec_box_agg (P := Try.prog) (cs := #[.slice (some ⟨g1, 0, none⟩) 1 1, .slice (some ⟨g2, 0, none⟩) 2 2]) 106 (.tmp 42) rfl rfl) (fun _ => H8.out.1.alloc _) (fun K hK => ?_); go_simp; refine hK _ ?_; clear hK K
        have b9 : Blk (w8.alloc (.cells #[.slice (some ⟨g1, 0, none⟩) 1 1, .slice (some ⟨g2, 0, none⟩) 2 2] 106)) w8.heap.size 106 #[.slice (some ⟨g1, 0, none⟩) 1 1, .slice (some ⟨g2, 0, none⟩) 2 2] := Blk.new _ _ _
        have H9 := Lib.hid (And.intro ((Mod.refl Nn w8).alloc (.cells #[.slice (some ⟨g1, 0, none⟩) 1 1, .slice (some ⟨g2, 0, none⟩) 2 2] 106)) b9)
        clear b9
        -- zzT
        generalize w8.alloc (.cells #[.slice (some ⟨g1, 0, none⟩) 1 1, .slice (some ⟨g2, 0, none⟩) 2 2] 106) = w9 at *
        obtain ⟨g3, hg3⟩ : ∃ g3, w8.heap.size = g3 := ⟨_, rfl⟩
        have hg3' := hg3
        rw [hg3] at H9 ⊢
        clear hg3
        iterate 3 (refine pv_pure rfl rfl (fun K hK => ?_); go_simp; refine hK _ ?_; clear hK K)
        have hb9 := H7.out.2.1.mod (H8.out.1.nn_ H9.out.1) (fun f => f)
        refine pv_unit rfl rfl (exec_store1 (P := Try.prog) (ad := ⟨b, 0, none⟩) (v := innerV g3) (u := v) 37 (.tmp 46) (.tmp 44) rfl rfl rfl (hb9.cell 0) (hb9.frozen 0) rfl rfl rfl sizeP) (fun h => by simp at h) (fun K hK => ?_); go_simp; refine hK _ ?_; clear hK K
        refine pv_nil ?_
        have b10 : Blk (w9.setCell ⟨b, 0, none⟩ (innerV g3)) b 39 #[innerV g3, .int .i64 M] := hb9.set_ 0 _
        have m10 : Mod (At b) w9 (w9.setCell ⟨b, 0, none⟩ (innerV g3)) := Mod.cellAt _ _ _ _
        generalize w9.setCell ⟨b, 0, none⟩ (innerV g3) = w10 at *
        have H10 := Lib.hid (And.intro b10 m10)
        clear b10 m10 hb9
        go_wp2
        go_ret
        have hbw : b < w.heap.size := HB.out.1.lt
        have hnb : ∀ g, w.heap.size ≤ g → ¬ At b g := fun g hg e => by have e : g = b := e; omega
        have hm79 : Mod Nn w7 w9 := H8.out.1.nn_ H9.out.1
        have hlt7 : ∀ g ∈ F1 ++ F2, g < w7.heap.size := fun g hg => by
          rcases List.mem_append.1 hg with hg | hg
          · exact H7.out.2.2.1.lt g hg
          · exact H7.out.2.2.2.1.lt g hg
        have hnotb : ∀ g ∈ F1 ++ F2, ¬ At b g := fun g hg e => by
          have e : g = b := e
          rcases H7.out.2.2.2.2.2.2.1 g hg with h | h
          · exact HB.out.2.2.2.2.2.1 (e ▸ h)
          · omega
        have T1 := (H7.out.2.2.1.nn hm79).mod H10.out.2 (fun g hg => hnotb g (List.mem_append_left _ hg))
        have T2 := (H7.out.2.2.2.1.nn hm79).mod H10.out.2 (fun g hg => hnotb g (List.mem_append_right _ hg))
        obtain ⟨Fr, hFr, hFs⟩ := root_two T1 T2 H7.out.2.2.2.2.2.1 (by cases d <;> simp [hiB, loB] at hd1 hd2 ⊢ <;> omega) (by cases d <;> simp [hiB, loB] at hd1 hd2 ⊢ <;> omega)
          ((H8.out.2.1.mod H9.out.1 (fun f => f)).mod H10.out.2 (hnb g1 (by omega))) ((H8.out.2.2.mod H9.out.1 (fun f => f)).mod H10.out.2 (hnb g2 (by omega))) (H9.out.2.mod H10.out.2 (hnb g3 (by omega)))
          hκ1 HK.out.1 HK.out.2.1 HK.out.2.2 (by rw [← HL.out.1]; exact srt_ins HB.out.2.2.2.2.1 e) (fun g hg => by have := hlt7 g hg; omega) (by omega) (by have := H8.out.2.1.lt; omega) (by have := H8.out.2.2.lt; omega)
        rw [← HL.out.1] at hFr
        refine ⟨rfl, b :: Fr, ⟨innerV g3, d + 1, 2, Fr, by rw [HM.out]; exact H10.out.1, hFr, by simp [hiB], .inr (Nat.le_refl _), rfl, fun hc => ?_⟩, fun g hg => ?_, ?_⟩
        · rcases hFs b hc with h | h | h | h
          · exact hnotb b h rfl
          · omega
          · omega
          · omega
        · rcases List.mem_cons.1 hg with rfl | hg
          · exact .inl List.mem_cons_self
          · rcases hFs g hg with h | h | h | h
            · exact (H7.out.2.2.2.2.2.2.1 g h).imp (List.mem_cons_of_mem _) id
            · exact .inr (by omega)
            · exact .inr (by omega)
            · exact .inr (by omega)
        · exact ((H7.out.1.nn_ hm79).mono (fun g _ h => h)).then_ H10.out.2 (fun g _ h => by have e : g = b := h; rw [e]; exact List.mem_cons_self)
end
end Go.Proofs.Ytkcpmkeckcnobaa

/- (*tree.Tree).Del, Get. -/
namespace Go.Proofs.Ytkcpmkeckcnobaa
open Go.RowKit

def DelT (w : World) (b : Nat) (L : List (List Nat)) (G : List Nat) (κ : List Nat) (r : Ending) (w' : World) : Prop :=
  r = .returned (.int .i64 (if has L κ then 0 else 6)) ∧ ∃ G', TrAt w' b (dele L κ) G' ∧ (∀ g ∈ G', g ∈ G ∨ w.heap.size ≤ g) ∧ Mod (· ∈ G) w w'
section
variable {w : World} {b : Nat} {L : List (List Nat)} {G : List Nat} {κ : List Nat}
theorem tdel_no {p : Value} (he : κ.length = 40) (ht : ∀ w', Mod Nn w w' → Calls Try.prog 43 #[p] w' fun e w'' => e = .returned (.bool false) ∧ Mod Nn w' w'') : Calls Try.prog 24 #[p, .agg (bv κ).toArray] w fun r w' => r = .returned (.int .i64 1) ∧ Mod Nn w w' := by
  have HT := Lib.hid ht
  clear ht
  go_enter Try.func24, Try.ntmps24
  go_wp2_with (first
    | (with_reducible change wpList _ _ _ (⟨some 3, Op.box _ _, _, _, _, _⟩ :: _) _ _
       go_must (refine wpList_box_var 23 _ rfl rfl (bv κ).toArray rfl ?_)
       intro w1 b1 m1 z1
       clear z1 b1
       have H1 := Lib.hid m1
       clear m1))
  refine (HT.out w1 H1.out).mono ?_
  rintro e w3 ⟨rfl, m3⟩
  have H3 := Lib.hid (H1.out.nn_ m3)
  clear m3
  go_wp2
  go_ret
  exact ⟨rfl, H3.out⟩
set_option maxRecDepth 100000 in
set_option maxHeartbeats 6400000 in
theorem tdel_any (h : TrAt w b L G) (he : κ.length = 40) (hez : ∀ z ∈ κ, z < 256) (hn : L.length ≤ 1099511627776) : Calls Try.prog 24 #[.pointer (some ⟨b, 0, none⟩), .agg (bv κ).toArray] w (DelT w b L G κ) := by
  have hsr := h.srt
  have hli := len_dele (k := κ) hsr
  obtain ⟨v, d, k, F, h1, h2, h3, h4, rfl, h6⟩ := h
  have hk : k ≤ 20 := by cases d <;> simp [hiB] at h3 <;> omega
  have hhl : has L κ = true → 0 < L.length := fun h => by
    cases L with
    | nil => simp [has] at h
    | cons r L => simp
  obtain ⟨N, hN⟩ : ∃ N, L.length = N := ⟨_, rfl⟩
  rw [hN] at h1 hn hli hhl
  have HB := Lib.hid (And.intro h1 (And.intro h2 (And.intro (tree_iface h2) (And.intro hez (And.intro hsr (And.intro h6 (And.intro h3 (And.intro h4 hhl))))))))
  have HN := Lib.hid (And.intro hN hli)
  clear h1 h2 h3 h4 h6 hez hsr hN hli hhl
  go_enter Try.func24, Try.ntmps24
  go_wp2_with (first
    | (with_reducible change wpList _ _ _ (⟨some 3, Op.box _ _, _, _, _, _⟩ :: _) _ _
       go_must (refine wpList_box_var 23 _ rfl rfl (bv κ).toArray rfl ?_)
       intro w1 b1 m1 z1
       clear z1
       have hs1 : w.heap.size < w1.heap.size := b1.lt
       have H1 := Lib.hid (And.intro m1 b1)
       clear m1 b1))
  refine (there_yes (HB.out.1.mod H1.out.1 (fun f => f)) HB.out.2.2.1).mono ?_
  rintro r w3 ⟨rfl, m3⟩
  have hs3 : w1.heap.size ≤ w3.heap.size := m3.size
  have H3 := Lib.hid (And.intro (H1.out.1.nn_ m3) (And.intro (H1.out.2.mod m3 (fun f => f)) (HB.out.1.mod (H1.out.1.nn_ m3) (fun f => f))))
  clear m3
  go_wp2_with fail
  refine wp_region_planT (fun w' => Mod Nn w3 w') 5 [(0, 0), (1, 0), (2, 0), (3, 1), (4, 1), (5, 2), (6, 0)] (by kernel_rfl) (by kernel_rfl) (Mod.refl Nn w3).drew ?_
  iterate 3 (refine pt_pure rfl rfl (fun K hK => ?_); go_simp; refine hK _ ?_; clear hK K)
  refine pt_take v rfl rfl (fun w' hS => exec_load1 (P := Try.prog) 37 (.tmp 12) rfl rfl ((H3.out.2.2.mod hS (fun f => f)).cell 0) Try.underlying37 rfl) (fun K hK => ?_); go_simp; refine hK _ ?_; clear hK K
  refine pt_take (.agg (bv κ).toArray) rfl rfl (fun w' hS => exec_load_row (P := Try.prog) (g := w.heap.size) (cs := (bv κ).toArray) 23 (.tmp 3) rfl rfl (H3.out.2.1.mod hS (fun f => f)) Try.underlying23 rfl (size_keyk he)) (fun K hK => ?_); go_simp; refine hK _ ?_; clear hK K
  refine pt_call rfl rfl (fun K hK => ?_); go_simp; refine ⟨_, _, ⟨rfl, rfl⟩, hK _ _ _ ?_⟩; clear hK K
  refine (del_any he HB.out.2.2.2.1 d w3.drew v L k F (HB.out.2.1.nn (H3.out.1.nn_ (Mod.refl Nn w3).drew)) HB.out.2.2.2.2.2.2.2.1 (by omega)).mono ?_
  rintro r w5 ⟨rfl, k', F', ht5, hk1, hk2, hF5, m5, hk3⟩
  refine ⟨_, rfl, fun h => by simp at h, ?_⟩
  iterate 1 (refine pt_pure rfl rfl (fun K hK => ?_); go_simp; refine hK _ ?_; clear hK K)
  refine pt_nil ?_
  have hdr : w3.drew.heap.size = w3.heap.size := rfl
  have hbF5 : b ∉ F' := fun hc => by
    rcases hF5 b hc with h | h
    · exact HB.out.2.2.2.2.2.1 h
    · have := HB.out.1.lt; omega
  have hs5 : w3.heap.size ≤ w5.heap.size := m5.size
  have H5 := Lib.hid (And.intro ((H3.out.1.nn (S := (· ∈ F))).trans m5.of_drew) (And.intro (H3.out.2.2.mod m5.of_drew (fun h => HB.out.2.2.2.2.2.1 h)) (And.intro ht5 (And.intro (fun g hg => (hF5 g hg).imp id (fun h => by omega) : ∀ g ∈ F', g ∈ F ∨ w.heap.size ≤ g) hbF5))))
  have hc1 : w5.cell? ⟨b, 1, none⟩ = some (.int .i64 N) := H5.out.2.1.cell 1
  have hf1 : w5.frozen? ⟨b, 1, none⟩ = false := H5.out.2.1.frozen 1
  have HK3 := Lib.hid hk3
  clear ht5 hF5 m5 hbF5 hk3
  obtain ⟨B, hB⟩ : ∃ B, has L κ = B := ⟨_, rfl⟩
  obtain ⟨M, hM⟩ : ∃ M, (dele L κ).length = M := ⟨_, rfl⟩
  have HH := Lib.hid (And.intro hB hM)
  have hlo : k ≤ hiB d := HB.out.2.2.2.2.2.2.1
  have hor : d = 0 ∨ 2 ≤ k := HB.out.2.2.2.2.2.2.2.1
  have HL := Lib.hid (And.intro hlo hor)
  clear hlo hor
  rw [hB]
  clear hB hM
  cases B
  · have HMN := Lib.hid (show M = N by rw [← HH.out.2, HN.out.2, HH.out.1]; rfl)
    have hkk : d = 0 ∨ 2 ≤ k' := by rw [HK3.out HH.out.1]; exact HL.out.2
    go_wp2
    go_ret
    refine ⟨by rw [HH.out.1]; rfl, b :: F', ⟨v, d, k', F', by rw [HH.out.2, HMN.out]; exact H5.out.2.1, H5.out.2.2.1, by have := HL.out.1; omega, hkk, rfl, H5.out.2.2.2.2⟩, fun g hg => ?_, H5.out.1.mono (fun g _ h => List.mem_cons_of_mem _ h)⟩
    rcases List.mem_cons.1 hg with rfl | hg
    · exact .inl List.mem_cons_self
    · exact (H5.out.2.2.2.1 g hg).imp (List.mem_cons_of_mem _) id
  · have hN1 : 0 < N := HB.out.2.2.2.2.2.2.2.2 HH.out.1
    have HMN := Lib.hid (show (M : Int) = (N : Int) - 1 by
      have : M = N - 1 := by rw [← HH.out.2, HN.out.2, HH.out.1]; rfl
      omega)
    have hw1 : IntKind.i64.wrap ((N : Int) - 1) = (N : Int) - 1 := by rw [IntKind.wrap_i64]; omega
    have b6 : Blk (w5.setCell ⟨b, 1, none⟩ (.int .i64 M)) b 39 #[v, .int .i64 M] := H5.out.2.1.set_ 1 _
    have m6 : Mod (At b) w5 (w5.setCell ⟨b, 1, none⟩ (.int .i64 M)) := Mod.cellAt _ _ _ _
    generalize hw6 : w5.setCell ⟨b, 1, none⟩ (.int .i64 M) = w6 at b6 m6
    have hw6' : w5.setCell ⟨b, 1, none⟩ (.int .i64 ((N : Int) - 1)) = w6 := by rw [← HMN.out]; exact hw6
    have ht6 : TreeAt w6 d v (dele L κ) k' F' := H5.out.2.2.1.mod m6 (fun g hg e => H5.out.2.2.2.2 (by have e : g = b := e; exact e ▸ hg))
    have hm6 : Mod (· ∈ b :: F) w w6 := (H5.out.1.mono (fun g _ h => List.mem_cons_of_mem _ h)).then_ m6 (fun g _ h => by have e : g = b := h; rw [e]; exact List.mem_cons_self)
    have HW := Lib.hid hw6'
    have hc0 : w6.cell? ⟨b, 0, none⟩ = some v := b6.cell 0
    have H6 := Lib.hid (And.intro b6 (And.intro hm6 m6))
    clear b6 m6 hw6 hm6 hw6'
    cases d with
    | zero =>
      obtain ⟨bb, A, c, hl⟩ := ht6
      have hv := hl.ve
      have HT := Lib.hid hl
      clear hl
      unfold leafV at hv
      subst hv
      go_wp2_with (first
        | (with_reducible change wpList _ _ _ (⟨none, Op.store _ (Operand.tmp 23) _, _, _, _, _⟩ :: _) _ _
           go_must (refine wpList_unit rfl (exec_store1 (P := Try.prog) (ad := ⟨b, 1, none⟩) (v := .int .i64 ((N : Int) - 1)) (u := .int .i64 N) 3 _ _ rfl rfl rfl (H5.out.2.1.cell 1) (H5.out.2.1.frozen 1) rfl rfl rfl (by kernel_rfl)) ?_)
           rw [HW.out]
           clear hc1 hf1)
        | (with_reducible change wpList _ _ _ (⟨some 29, _, _, _, _, _⟩ :: _) _ _
           go_must (refine wpList_val rfl (exec_assert_no (P := Try.prog) _ _ _ rfl rfl (by decide) Try.underlying103 info_pinner) ?_)))
      go_ret
      refine ⟨by rw [HH.out.1]; rfl, b :: F', ⟨leafV bb, 0, k', F', by rw [HH.out.2]; exact H6.out.1, ⟨bb, A, c, HT.out⟩, by have := HL.out.1; omega, .inl rfl, rfl, H5.out.2.2.2.2⟩, fun g hg => ?_, H6.out.2.1⟩
      rcases List.mem_cons.1 hg with rfl | hg
      · exact .inl List.mem_cons_self
      · exact (H5.out.2.2.2.1 g hg).imp (List.mem_cons_of_mem _) id
    | succ d =>
      obtain ⟨bb, ks, ts, K, kc, C, cc, hI, hv, hen, hkt, hbd⟩ := ht6
      have hcC : w6.cell? ⟨bb, 1, none⟩ = some (.slice C ts.length cc) := hI.blk.cell 1
      have hlen := hI.len
      obtain ⟨gC, rfl⟩ := hI.crow.of_ (by omega)
      have hct : ∀ t, ts[0]? = some t → w6.cell? ⟨gC, 0, none⟩ = some t.v := fun t ht => by
        obtain ⟨g, off, e, hc⟩ := hI.crow.rd.2 (by omega)
        injection e with e; injection e with e1 e2 _; subst e1; subst e2
        have := hc 0 t.v (by rw [List.getElem?_map, ht]; rfl)
        simpa using this
      have HT := Lib.hid (And.intro hI (And.intro hen (And.intro hkt (And.intro hbd hct))))
      clear hI hen hkt hbd hct
      unfold innerV at hv
      subst hv
      by_cases hone : ts.length = 1
      · have hq : ((ts.length : Int) == 1) = true := by simp [hone]
        obtain ⟨t, hts⟩ : ∃ t, ts = [t] := by
          cases ts with
          | nil => simp at hone
          | cons t ts => cases ts with
            | nil => exact ⟨t, rfl⟩
            | cons u ts => simp at hone
        have HS := Lib.hid hts
        have hlt : 0 < ts.length := by omega
        have hct0 : w6.cell? ⟨gC, 0, none⟩ = some t.v := HT.out.2.2.2.2 t (by rw [hts]; rfl)
        have htt : TreeAt w6 d t.v t.L t.k t.F := HT.out.1.kids t (by rw [hts]; simp)
        have b7 : Blk (w6.setCell ⟨b, 0, none⟩ t.v) b 39 #[t.v, .int .i64 M] := H6.out.1.set_ 0 _
        have m7 : Mod (At b) w6 (w6.setCell ⟨b, 0, none⟩ t.v) := Mod.cellAt _ _ _ _
        generalize hw7 : w6.setCell ⟨b, 0, none⟩ t.v = w7 at *
        have H7 := Lib.hid (And.intro b7 (And.intro m7 (And.intro htt hw7)))
        have hvo := part_cells htt
        have hvo2 : t.v.oneCell' = true := tree_one htt
        clear b7 m7 htt hw7 hts
        go_wp2_with (first
          | (with_reducible change wpList _ _ _ (⟨none, Op.store _ (Operand.tmp 23) _, _, _, _, _⟩ :: _) _ _
             go_must (refine wpList_unit rfl (exec_store1 (P := Try.prog) (ad := ⟨b, 1, none⟩) (v := .int .i64 ((N : Int) - 1)) (u := .int .i64 N) 3 _ _ rfl rfl rfl (H5.out.2.1.cell 1) (H5.out.2.1.frozen 1) rfl rfl rfl (by kernel_rfl)) ?_)
             rw [HW.out]
             clear hc1 hf1)
          | (with_reducible change wpList _ _ _ (⟨some 29, _, _, _, _, _⟩ :: _) _ _
             go_must (refine wpList_val rfl (exec_assert_yes (P := Try.prog) _ _ _ _ rfl rfl Try.underlying103) ?_)
             rw [if_pos rfl])
          | (with_reducible change wpList _ _ _ (⟨some 46, _, _, _, _, _⟩ :: _) _ _
             go_must (refine wpList_val rfl (exec_elem (P := Try.prog) (g := gC) (off := 0) (q := 0) 104 (.tmp 45) (.const (.int .i64 0)) rfl 37 1 uuP sizeP rfl rfl (by omega)) ?_)
             rw [Nat.zero_add, Nat.zero_mul])
          | (with_reducible change wpList _ _ _ (⟨some 47, _, _, _, _, _⟩ :: _) _ _
             go_must (refine wpList_val rfl (exec_load1 (P := Try.prog) (ad := ⟨gC, 0, none⟩) 37 (.tmp 46) rfl rfl hct0 Try.underlying37 rfl) ?_))
          | (with_reducible change wpList _ _ _ (⟨none, Op.store _ (Operand.tmp 49) _, _, _, _, _⟩ :: _) _ _
             go_must (refine wpList_unit rfl (exec_store1 (P := Try.prog) (ad := ⟨b, 0, none⟩) (v := t.v) (u := innerV bb) 37 _ _ rfl rfl rfl (H6.out.1.cell 0) (H6.out.1.frozen 0) rfl hvo2 hvo sizeP) ?_)
             rw [H7.out.2.2.2]
             clear hc0 hcC hct0))
        go_ret
        have hdl : dele L κ = t.L := by rw [HT.out.2.1, HS.out]; simp [entsOf]
        have htb := HT.out.2.2.2.1 t (by rw [HS.out]; simp)
        have htF : ∀ g ∈ t.F, g ∈ F' := fun g hg => HT.out.1.mem.2 (.inr (.inr (.inr ⟨t, by rw [HS.out]; simp, hg⟩)))
        have hbt : b ∉ t.F := fun hc => H5.out.2.2.2.2 (htF b hc)
        refine ⟨by rw [HH.out.1]; rfl, b :: t.F, ⟨t.v, d, t.k, t.F, by rw [HH.out.2]; exact H7.out.1, by rw [hdl]; exact H7.out.2.2.1.mod H7.out.2.1 (fun g hg e => hbt (by have e : g = b := e; exact e ▸ hg)), htb.2, .inr (by cases d <;> simp [loB] at htb <;> omega), rfl, hbt⟩, fun g hg => ?_, ?_⟩
        · rcases List.mem_cons.1 hg with rfl | hg
          · exact .inl List.mem_cons_self
          · exact (H5.out.2.2.2.1 g (htF g hg)).imp (List.mem_cons_of_mem _) id
        · exact H6.out.2.1.then_ H7.out.2.1 (fun g _ h => by have e : g = b := h; rw [e]; exact List.mem_cons_self)
      · have hq : ((ts.length : Int) == 1) = false := by
          simp only [beq_eq_false_iff_ne]; omega
        have HO := Lib.hid hone
        clear hone
        go_wp2_with (first
          | (with_reducible change wpList _ _ _ (⟨none, Op.store _ (Operand.tmp 23) _, _, _, _, _⟩ :: _) _ _
             go_must (refine wpList_unit rfl (exec_store1 (P := Try.prog) (ad := ⟨b, 1, none⟩) (v := .int .i64 ((N : Int) - 1)) (u := .int .i64 N) 3 _ _ rfl rfl rfl (H5.out.2.1.cell 1) (H5.out.2.1.frozen 1) rfl rfl rfl (by kernel_rfl)) ?_)
             rw [HW.out]
             clear hc1 hf1)
          | (with_reducible change wpList _ _ _ (⟨some 29, _, _, _, _, _⟩ :: _) _ _
             go_must (refine wpList_val rfl (exec_assert_yes (P := Try.prog) _ _ _ _ rfl rfl Try.underlying103) ?_)
             rw [if_pos rfl]))
        go_ret
        refine ⟨by rw [HH.out.1]; rfl, b :: F', ⟨innerV bb, d + 1, k', F', by rw [HH.out.2]; exact H6.out.1, ⟨bb, ks, ts, K, kc, _, cc, HT.out.1, rfl, HT.out.2.1, HT.out.2.2.1, HT.out.2.2.2.1⟩, by have := HL.out.1; omega, .inr (by have := HT.out.2.2.1; have := HO.out; omega), rfl, H5.out.2.2.2.2⟩, fun g hg => ?_, H6.out.2.1⟩
        rcases List.mem_cons.1 hg with rfl | hg
        · exact .inl List.mem_cons_self
        · exact (H5.out.2.2.2.1 g hg).imp (List.mem_cons_of_mem _) id
end
end Go.Proofs.Ytkcpmkeckcnobaa
