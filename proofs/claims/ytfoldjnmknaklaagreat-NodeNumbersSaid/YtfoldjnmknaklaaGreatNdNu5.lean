/- peatbanklaw15.NodeNumbers: the walk. -/
import Derived.Test.YtfoldjnmknaklaaGreatNdNuB
import Derived.Test.YtfoldjnmknaklaaGreatBytesC
namespace Go.Proofs.YtfoldjnmknaklaaGreat
open Go.RowKit

theorem wp_val {P : Program} {o : Oper} {a : Act} {w w' : World} {next : Act → World → Prop} {Q : Exit → Act → World → Prop} {v : Value} (hrun : (execOp a.eval o).run P w = .ok (.value v) w') (h : next (a.put o.dst v) w') : o.wp P a w next Q := by
  unfold Oper.wp
  rw [hrun]; exact h
theorem nodeF_put (i : Nat) : (nodeF i).perr = 0 ∧ (nodeF i).pbytes = (nodeF i).bytes := by
  unfold Nd.perr Nd.pbytes
  rw [if_pos (nodeF_right i), if_pos (nodeF_right i)]
  exact ⟨rfl, rfl⟩

structure At5 (w : World) (B i : Nat) (N : Nd) (EA : Option Addr) (en ec : Nat) (KA : Option Addr) (kn kc : Nat) (CA : Option Addr) (cn cc : Nat) : Prop where
  cells : ∀ j v, [Value.bool N.leaf, .slice EA en ec, .slice KA kn kc, .slice CA cn cc][j]? = some v → w.cell? ⟨B, i * 4 + j, none⟩ = some v
  r : NdR w N EA en KA kn CA cn
  lt : B < w.heap.size
theorem At5.nn {w w' : World} {B i : Nat} {N : Nd} {EA KA CA : Option Addr} {en ec kn kc cn cc : Nat} (h : At5 w B i N EA en ec KA kn kc CA cn cc) (hm : Mod Nn w w') : At5 w' B i N EA en ec KA kn kc CA cn cc :=
  ⟨fun j v hv => (hm.cell (p := ⟨B, _, none⟩) h.lt (fun f => f)).trans (h.cells j v hv), h.r.nn hm, by have := h.lt; have := hm.size; omega⟩
theorem At5.q {w : World} {B i : Nat} {N : Nd} {EA KA CA : Option Addr} {en ec kn kc cn cc : Nat} (h : At5 w B i N EA en ec KA kn kc CA cn cc) : NdQ w N EA en KA kn CA cn :=
  ⟨h.r.e, h.r.k, h.r.c, h.r.el, h.r.kl, h.r.cl, h.r.ok⟩
/-- all that is wanted of the k-th node -/
theorem node5 {w1 : World} {B k : Nat} (h : FourP w1 B) (hk : k < 4) : ∃ N : Nd, (∀ w', Mod Nn w1 w' → ∃ EA en ec KA kn kc CA cn cc, At5 w' B k N EA en ec KA kn kc CA cn cc) ∧
    (isNd N.bytes ∧ N.bytes.length = 1024 ∧ (∀ z ∈ N.bytes, z < 256)) ∧ (N.perr = 0 ∧ N.pbytes = N.bytes) ∧ N.right = true ∧ ∀ j, j < 1024 → ¬ isNd (N.bytes.set j ((N.bytes.getD j 0 + 1) % 256)) :=
  ⟨nodeF k, fun w' hm => by
    obtain ⟨EA, en, ec, KA, kn, kc, CA, cn, cc, h4⟩ := h.nn hm k hk
    exact ⟨EA, en, ec, KA, kn, kc, CA, cn, cc, ⟨h4.cells, h4.r, h4.lt⟩⟩, nodeF_page k, nodeF_put k, nodeF_right k, fun j hj => nodeF_turned k hj⟩

set_option maxRecDepth 100000 in
set_option maxHeartbeats 102400000 in
theorem nnumbers_any (w : World) : Calls Tryz.prog 3 #[] w fun e w' => e = .returned (.bool true) ∧ Mod Nn w w' := by
  go_enter Tryz.func3, Tryz.ntmps3
  go_wp2_with fail
  refine full_four.mono ?_
  rintro r w1 ⟨B, rfl, four, m1⟩
  have F4 := Lib.hid four; clear four
  go_wp2
  go_loopw [2] (fun i wr => ∃ k : Nat, k ≤ 4 ∧ i = .int .i64 k ∧ Mod Nn w1 wr) (fun i _ => 4 - (intOf i).toNat)
  case atStart => exact ⟨0, by omega, rfl, Mod.refl _ _⟩
  case round =>
    obtain ⟨k, hk, rfl, hmr⟩ := hrel
    obtain ⟨wo, rfl⟩ : ∃ wo : World, wo = wr := ⟨_, rfl⟩
    by_cases hlt : k < 4
    · have hlt' : (k : Int) < 4 := by omega
      obtain ⟨N7, hf7, hb, hnp, hr7, ht7⟩ := node5 F4.out hlt
      have HF7 := Lib.hid (And.intro hf7 (And.intro hr7 ht7)); clear hf7 hr7 ht7
      obtain ⟨EA, en, ec, KA, kn, kc, CA, cn, cc, at4⟩ := HF7.out.1 _ hmr
      have AT := Lib.hid at4; clear at4
      have HN := Lib.hid (And.intro hb hnp); clear hb hnp
      go_wp2_with (first
        | (with_reducible change wpList _ _ _ (⟨some 22, _, _, _, _, _⟩ :: _) _ _
           go_must (refine wpList_val rfl (exec_load_cells (P := Tryz.prog) 32 _ rfl (cs := [.bool N7.leaf, .slice EA en ec, .slice KA kn kc, .slice CA cn cc]) rfl AT.out.cells Tryz.underlying32 rfl size_node) ?_)))
      refine (nput_all AT.out.r).mono ?_
      rintro r w2 ⟨A', c', rfl, own2, m2⟩
      rw [HN.out.2.1]
      rw [HN.out.2.2, HN.out.1.2.1] at own2
      rw [HN.out.2.2, HN.out.1.2.1]
      obtain ⟨g, cap, cur, e2, hg2, hb2, hcap, hcapm, hcs, htk⟩ := own_blk own2 (by omega)
      injection e2 with e21 e22 e23; subst e21; subst e23
      have rb2 : Rd w2 (some ⟨g, 0, none⟩) 1024 (bv N7.bytes) := Rd.of_own own2
      have AT2 := Lib.hid (AT.out.nn m2)
      have M2 := hmr.nn_ m2
      have HR2 := Lib.hid (And.intro rb2 (And.intro hb2 (And.intro htk hg2)))
      clear rb2 hb2 htk hg2 own2 m2 hmr AT
      try dsimp only
      repeat' (first
        | (fail_if_success (with_reducible change Oper.wp _ ⟨some 37, _, _, _, _, _⟩ _ _ _ _)
           first | go_values | go_skip | go_guarded | go_step | go_upon | go_back))
      refine wp_val (exec_load_cells (P := Tryz.prog) 32 _ rfl (cs := [.bool N7.leaf, .slice EA en ec, .slice KA kn kc, .slice CA cn cc]) rfl AT2.out.cells Tryz.underlying32 rfl size_node) ?_
      go_wp2_with fail
      refine (nright_any AT2.out.r).mono ?_
      rintro r w3 ⟨rfl, m3⟩
      rw [HF7.out.2.1]
      have AT3 := Lib.hid (AT2.out.nn m3)
      have M3 := M2.nn_ m3
      have rb3 := HR2.out.1.mod m3 (fun _ _ f => f)
      clear M2 m3 AT2
      try dsimp only
      repeat' (first
        | (fail_if_success (with_reducible change Oper.wp _ ⟨some 43, _, _, _, _, _⟩ _ _ _ _)
           first | go_values | go_skip | go_guarded | go_step | go_upon | go_back))
      refine wp_val (exec_sub_h (P := Tryz.prog) 24 _ _ rfl 5 1 Tryz.underlying24 (by kernel_rfl) (A := some ⟨g, 0, none⟩) (n := 1024) (c := c') (h := 1023) rfl rfl (by omega)) ?_
      have rp3 := rb3.pre (c := c') 1023 (by omega) hcap
      rw [show (bv N7.bytes).take 1023 = bv (N7.bytes.take 1023) from by unfold bv; rw [List.map_take]] at rp3
      go_wp2_with fail
      refine (ngets_any rp3 (by omega) (fun z hz => HN.out.1.2.2 z (List.mem_of_mem_take hz)) (by omega)).mono ?_
      rintro r w4 ⟨rfl, m4⟩
      have AT4 := Lib.hid (AT3.out.nn m4)
      have M4 := M3.nn_ m4
      have rb4 := rb3.mod m4 (fun _ _ f => f)
      have hxs : (N7.bytes.map (fun z : Nat => (z : Int))).map (Value.int .u8) = bv N7.bytes := by unfold bv; rw [List.map_map]; rfl
      have HX := Lib.hid hxs; clear hxs
      have rc4 : Rd w4 (some ⟨g, 0, none⟩) 1024 ((N7.bytes.map (fun z : Nat => (z : Int))).map (Value.int .u8)) := by rw [HX.out]; exact rb4
      clear rb3 rp3 m4 M3 AT3
      go_wp2_with fail
      refine (copy_any rc4 (by omega)).mono ?_
      rintro r w5 ⟨v5, rfl, own5, m5⟩
      rw [HX.out] at own5
      have z5 := m5.size
      clear rc4
      have mA : Mod Nn w5 (w5.alloc (.cells #[.int .u8 0] 5)) := (Mod.refl Nn w5).alloc _
      have hsz : (w5.alloc (.cells #[.int .u8 0] 5)).heap.size = w5.heap.size + 1 := by simp
      obtain ⟨v6, w6, hap, own6, gr6, -⟩ := run_append_rd (P := Tryz.prog) (w5.alloc (.cells #[.int .u8 0] 5)) w4.heap.size 24 24 5 (.int .u8 0) 1 1 Tryz.underlying24 info_u8 rfl (by omega) v5 1024 _ (own_mod own5 mA (fun _ _ f => f)) (some ⟨w5.heap.size, 0, none⟩) 1 1 (bv [0]) (Rd.of_blk0 (Blk.new w5 5 #[.int .u8 0]) rfl).toC (fun u hu => by simp [bv] at hu; subst hu; rfl) (by omega) (by omega) (by omega)
      rw [show bv N7.bytes ++ bv [0] = bv (N7.bytes ++ [0]) from by simp [bv]] at own6
      have m6 : Mod Nn w4 w6 := (m5.nn_ mA).grown gr6 (fun g h => .inl (by have := own_ge own5 g h; omega))
      have AT6 := Lib.hid (AT4.out.nn m6)
      have M6 := M4.nn_ m6
      have rb6 := rb4.mod m6 (fun _ _ f => f)
      obtain ⟨A6, c6, rfl, hc6, -⟩ := own_form own6
      have rd6 : Rd w6 A6 (1024 + 1) (bv (N7.bytes ++ [0])) := Rd.of_own own6
      have HAP := Lib.hid hap
      clear hap own5 own6 gr6 mA hsz m6 M4 AT4 rb4 m5
      try dsimp only
      repeat' (first
        | (fail_if_success (with_reducible change Oper.wp _ ⟨some 51, _, _, _, _, _⟩ _ _ _ _)
           first | go_values | go_skip | go_guarded | go_step | go_upon | go_back))
      refine wp_app 24 (.tmp 49) (.tmp 50) rfl _ _ HAP.out ?_
      clear HAP
      go_wp2_with fail
      refine (ngets_any rd6 hc6 (fun z hz => by
        rcases List.mem_append.1 hz with h | h
        · exact HN.out.1.2.2 z h
        · simp only [List.mem_singleton] at h; omega) (by omega)).mono ?_
      rintro r w7 ⟨rfl, m7⟩
      have AT7 := Lib.hid (AT6.out.nn m7)
      have M7 := M6.nn_ m7
      have rb7 := rb6.mod m7 (fun _ _ f => f)
      clear rd6 hc6 m7 M6 AT6 rb6
      try dsimp only
      repeat' (first
        | (fail_if_success (with_reducible change Oper.wp _ ⟨some 59, _, _, _, _, _⟩ _ _ _ _)
           first | go_values | go_skip | go_guarded | go_step | go_upon | go_back))
      refine wp_val (exec_load_cells (P := Tryz.prog) 32 _ rfl (cs := [.bool N7.leaf, .slice EA en ec, .slice KA kn kc, .slice CA cn cc]) rfl AT7.out.cells Tryz.underlying32 rfl size_node) ?_
      go_wp2_with fail
      refine (nputs_any AT7.out.q (by have := AT7.out.r.be; have := AT7.out.r.bk; have := AT7.out.r.bc; omega)).mono ?_
      rintro r w8 ⟨rfl, m8⟩
      have M8 := M7.nn_ m8
      have rb8 := Lib.hid (rb7.mod m8 (fun _ _ f => f))
      have HCAP := Lib.hid hcap
      clear AT7 M7 rb7 m8 z5 HR2 hcap hcapm
      go_wp2
      -- zzLOOP
      go_loopw [5] (fun i wr => ∃ j : Nat, j ≤ 1024 ∧ i = .int .i64 j ∧ Mod Nn w8 wr) (fun i _ => 1024 - (intOf i).toNat)
      case atStart => exact ⟨0, by omega, rfl, Mod.refl _ _⟩
      case round =>
        obtain ⟨j, hj, rfl, hmr⟩ := hrel
        obtain ⟨wo2, rfl⟩ : ∃ wo : World, wo = wr := ⟨_, rfl⟩
        by_cases hjl : j < 1024
        · have hjl' : (j : Int) < 1024 := by omega
          have rbj := rb8.out.mod hmr (fun _ _ f => f)
          have rcj : Rd wo2 (some ⟨g, 0, none⟩) 1024 ((N7.bytes.map (fun z : Nat => (z : Int))).map (Value.int .u8)) := by rw [HX.out]; exact rbj
          go_wp2_with fail
          refine (copy_any rcj (by omega)).mono ?_
          rintro r w9 ⟨v9, rfl, own9, m9⟩
          rw [HX.out] at own9
          obtain ⟨g9, cap9, cur9, rfl, hg9, -, hcap9, -, -, -⟩ := own_blk own9 (by omega)
          have hnt := HF7.out.2.2 j hjl
          have hln : N7.bytes.length = 1024 := HN.out.1.2.1
          have hzj : N7.bytes.getD j 0 < 256 := getD_lt7 HN.out.1.2.2 j
          have cj : w9.cell? ⟨g9, j, none⟩ = some (.int .u8 ((N7.bytes.getD j 0 : Nat) : Int)) := own_cell own9 (by rw [bv_at, List.getElem?_eq_getElem (by omega), List.getD_eq_getElem?_getD, List.getElem?_eq_getElem (by omega)]; rfl)
          have fj := own_free own9 j
          have hset := own_set own9 j (.int .u8 (((N7.bytes.getD j 0 + 1) % 256 : Nat) : Int))
          rw [show (bv N7.bytes).set j (.int .u8 (((N7.bytes.getD j 0 + 1) % 256 : Nat) : Int)) = bv (N7.bytes.set j ((N7.bytes.getD j 0 + 1) % 256)) from by unfold bv; rw [List.map_set]] at hset
          have hzs : ∀ z ∈ N7.bytes.set j ((N7.bytes.getD j 0 + 1) % 256), z < 256 := fun z hz => by
            rcases List.mem_or_eq_of_mem_set hz with h | h
            · exact HN.out.1.2.2 z h
            · omega
          have hls : (N7.bytes.set j ((N7.bytes.getD j 0 + 1) % 256)).length = 1024 := by rw [List.length_set]; exact hln
          generalize N7.bytes.set j ((N7.bytes.getD j 0 + 1) % 256) = turned at *
          generalize hzz : N7.bytes.getD j 0 = zz at *
          obtain ⟨zy, hzy⟩ : ∃ zy : Nat, zy = (zz + 1) % 256 := ⟨_, rfl⟩
          rw [← hzy] at hset
          have hzI : ((zz : Int) + 1) % 256 = (zy : Int) := by omega
          have m10 : Mod Nn wo2 (w9.setCell ⟨g9, j, none⟩ (.int .u8 (zy : Int))) := m9.new_ (Mod.cellAt w9 g9 j _) hg9
          have HS := Lib.hid (And.intro hset (And.intro m10 (And.intro hnt (And.intro hzs hls))))
          have HC9 := Lib.hid hcap9
          have HF := Lib.hid (And.intro cj fj)
          clear own9 m9 hset m10 hnt hzs hls hln hzz rcj rbj hcap9 cj fj hzy
          go_wp2_with (first
            | (with_reducible change wpList _ _ _ (⟨some 74, _, _, _, _, _⟩ :: _) _ _
               go_must (refine wpList_val rfl (exec_load1 (P := Tryz.prog) 5 _ rfl rfl HF.out.1 Tryz.underlying5 rfl) ?_))
            | (with_reducible change wpList _ _ _ (⟨none, Op.store _ (Operand.tmp 76) _, _, _, _, _⟩ :: _) _ _
               rw [hzI]
               go_must (refine wpList_unit rfl (exec_store1 (P := Tryz.prog) (v := .int .u8 (zy : Int)) 5 _ _ rfl rfl rfl HF.out.1 HF.out.2 rfl rfl rfl size_u8n) ?_)
               dsimp only [Act.put]))
          -- zzGET
          refine (nget_any (Rd.of_own HS.out.1) HC9.out HS.out.2.2.2.1).mono ?_
          intro r w11 hget
          rcases hget with ⟨hisnd, -⟩ | ⟨-, rfl, m11⟩
          · exact absurd hisnd HS.out.2.2.1
          have own11 := own_mod HS.out.1 m11 (fun _ _ f => f)
          have M11 := HS.out.2.1.nn_ m11
          have HO11 := Lib.hid own11
          have HLZ := Lib.hid (And.intro HS.out.2.2.2.1 HS.out.2.2.2.2)
          clear m11 own11 HS HF
          by_cases h20 : j < 1020
          · have h20' : (j : Int) < 1020 := by omega
            go_wp2_with fail
            -- zzSUM
            have own12 := own_mod HO11.out ((Mod.refl Nn w11).alloc (.cells #[.bool false, .slice none 0 0, .slice none 0 0, .slice none 0 0] 32)) (fun _ _ f => f)
            refine (summed_any own12 HLZ.out.2 HLZ.out.1 HC9.out).mono ?_
            rintro r w13 ⟨rfl, own13, m13⟩
            have M13 : Mod Nn wo2 w13 := (M11.alloc (.cells #[.bool false, .slice none 0 0, .slice none 0 0, .slice none 0 0] 32)).new_ m13 hg9
            have rd13 := Rd.of_own own13
            clear own12 own13 m13 M11
            go_wp2_with fail
            refine (ngets_any rd13 HC9.out (fun z hz => (List.mem_append.1 hz).elim (fun h => HLZ.out.1 z (List.mem_of_mem_take h)) (fun h => num_lt 4 _ z h)) (by omega)).mono ?_
            rintro r w14 ⟨rfl, m14⟩
            have M14 := hmr.nn_ (M13.nn_ m14)
            clear M13 m14 rd13
            go_wp2
            exact ⟨⟨j + 1, by omega, by go_num, M14⟩, by simp [intOf]; omega⟩
          · have h20' : ¬ (j : Int) < 1020 := by omega
            go_wp2
            -- zzEND
            exact ⟨⟨j + 1, by omega, by go_num, hmr.nn_ (M11.alloc _)⟩, by simp [intOf]; omega⟩
        · have hjl' : ¬ (j : Int) < 1024 := by omega
          have M9 := Lib.hid (M8.nn_ hmr)
          clear rb8 HCAP hmr HX M8
          go_wp2
          -- zzN
          go_loopw [9] (fun i wr => ∃ q : Int, 0 ≤ q ∧ q ≤ 9 ∧ i = .int .i64 q ∧ Mod Nn wo2 wr) (fun i _ => 9 - (intOf i).toNat)
          case atStart => exact ⟨0, by omega, by omega, rfl, Mod.refl _ _⟩
          case round =>
            obtain ⟨q, hq0, hq9, rfl, hmq⟩ := hrel
            obtain ⟨wo3, rfl⟩ : ∃ wo : World, wo = wr := ⟨_, rfl⟩
            by_cases hql : q < 9
            · obtain ⟨EA1, en1, ec1, KA1, kn1, kc1, CA1, cn1, cc1, at5⟩ := HF7.out.1 _ (M9.out.nn_ hmq)
              have AT5 := Lib.hid at5
              have HMQ := Lib.hid hmq
              clear at5 hmq
              go_wp2_with (first
                | (with_reducible change wpList _ _ _ (⟨some 99, _, _, _, _, _⟩ :: _) _ _
                   go_must (refine wpList_val rfl (exec_load_cells (P := Tryz.prog) 32 _ rfl (cs := [.bool N7.leaf, .slice EA1 en1 ec1, .slice KA1 kn1 kc1, .slice CA1 cn1 cc1]) rfl AT5.out.cells Tryz.underlying32 rfl size_node) ?_)))
              -- zzQQ
              refine (copyN_any AT5.out.r).mono ?_
              rintro r w9 ⟨ev, kv, cv, rfl, hc9, m9⟩
              obtain ⟨EA9, ec9, rfl, he9, -⟩ := own_form hc9.e
              obtain ⟨KA9, kc9, rfl, hk9, -⟩ := own_form hc9.k
              obtain ⟨CA9, cc9, rfl, hcc9, -⟩ := own_form hc9.c
              have HLN := Lib.hid (And.intro AT5.out.r.el (And.intro AT5.out.r.kl AT5.out.r.cl))
              have HB9 := Lib.hid (And.intro AT5.out.r.be (And.intro AT5.out.r.bk AT5.out.r.bc))
              have hbm := m9.size
              obtain ⟨ln, hln⟩ : ∃ l, l = min 1 N7.kids.length := ⟨_, rfl⟩
              have HL := Lib.hid hln
              clear hln
              have HC9 := Lib.hid (And.intro hc9 (And.intro m9 AT5.out.r.ok))
              clear hc9 AT5
              have hq : q = 0 ∨ q = 1 ∨ q = 2 ∨ q = 3 ∨ q = 4 ∨ q = 5 ∨ q = 6 ∨ q = 7 ∨ q = 8 := by omega
              rcases hq with rfl | rfl | rfl | rfl | rfl | rfl | rfl | rfl | rfl
              · -- zzQ0
                go_wp2_with (first
                  | (with_reducible change wpList _ _ _ (⟨some 10, Op.alloc _, _, _, _, _⟩ :: _) _ _
                     go_must (refine wpList_alloc_var 32 rfl rfl info_node ?_)
                     intro w10 b10 m10 z10)
                  | (with_reducible change wpList _ _ _ (⟨none, Op.store _ (.tmp 10) _, _, _, _, _⟩ :: _) _ _
                     go_must (refine wpList_store_var 32 _ _ rfl rfl w9.heap.size #[.bool N7.leaf, .slice EA9 N7.ents.length ec9, .slice KA9 N7.keys.length kc9, .slice CA9 N7.kids.length cc9] _ _ rfl rfl b10 size_node rfl (one_nd _ _ _ _ _ _ _ _ _ _) ?_)
                     intro w11 b11 m11 z11
                     have hc : Cop wo3 w11 w9.heap.size N7.leaf N7 wo3.heap.size (.slice EA9 N7.ents.length ec9) (.slice KA9 N7.keys.length kc9) (.slice CA9 N7.kids.length cc9) := cop_of HC9.out m10 m11 b11
                     have C0 := b11.cell 0; have C1 := b11.cell 1; have C2 := b11.cell 2; have C3 := b11.cell 3
                     have F0 := b11.frozen 0; have F1 := b11.frozen 1; have F2 := b11.frozen 2; have F3 := b11.frozen 3
                     have HC := Lib.hid hc
                     clear hc b10 m10 b11 m11))
                have HK := Lib.hid (HC.out.leaf (!N7.leaf))
                refine (nputs_any HK.out.ndq (by have := HLN.out; have := HB9.out; omega)).mono ?_
                rintro r w13 ⟨rfl, m13⟩
                have M13 := HMQ.out.nn_ (HK.out.md.nn_ m13)
                clear HK m13
                go_wp2
                exact ⟨⟨1, by omega, by omega, by go_num, M13⟩, by simp [intOf]⟩
              · -- zzQ1
                go_wp2_with (first
                  | (with_reducible change wpList _ _ _ (⟨some 10, Op.alloc _, _, _, _, _⟩ :: _) _ _
                     go_must (refine wpList_alloc_var 32 rfl rfl info_node ?_)
                     intro w10 b10 m10 z10)
                  | (with_reducible change wpList _ _ _ (⟨none, Op.store _ (.tmp 10) _, _, _, _, _⟩ :: _) _ _
                     go_must (refine wpList_store_var 32 _ _ rfl rfl w9.heap.size #[.bool N7.leaf, .slice EA9 N7.ents.length ec9, .slice KA9 N7.keys.length kc9, .slice CA9 N7.kids.length cc9] _ _ rfl rfl b10 size_node rfl (one_nd _ _ _ _ _ _ _ _ _ _) ?_)
                     intro w11 b11 m11 z11
                     have hc : Cop wo3 w11 w9.heap.size N7.leaf N7 wo3.heap.size (.slice EA9 N7.ents.length ec9) (.slice KA9 N7.keys.length kc9) (.slice CA9 N7.kids.length cc9) := cop_of HC9.out m10 m11 b11
                     have C0 := b11.cell 0; have C1 := b11.cell 1; have C2 := b11.cell 2; have C3 := b11.cell 3
                     have F0 := b11.frozen 0; have F1 := b11.frozen 1; have F2 := b11.frozen 2; have F3 := b11.frozen 3
                     have HC := Lib.hid hc
                     clear hc b10 m10 b11 m11)
                  | (with_reducible change wpList _ _ _ (⟨some 128, _, _, _, _, _⟩ :: _) _ _
                     go_must (refine wpList_val rfl (exec_build_byte (P := Tryz.prog) 40 5 39 _ rfl Tryz.underlying40 (by kernel_rfl) (by kernel_rfl) (b := 255) rfl) ?_))
                  | (with_reducible change wpList _ _ _ (⟨some 129, _, _, _, _, _⟩ :: _) _ _
                     go_must (refine wpList_val rfl (exec_build_first (P := Tryz.prog) 43 _ rfl (n := 40) (by kernel_rfl) Tryz.underlying43 (by kernel_rfl) (l := 255 :: List.replicate 39 0) rfl (by rw [List.length_cons, List.length_replicate])) ?_)
                     rw [two_app rfl])
                  | (with_reducible change wpList _ _ _ (⟨some 130, _, _, _, _, _⟩ :: _) _ _
                     go_must (refine wpList_val rfl (exec_bslice1 (P := Tryz.prog) 28 43 _ rfl (s := 80) Tryz.underlying28 info_ent (by omega) (by omega) rfl (X := (bv (255 :: List.replicate 79 0)).toArray) rfl (by simp [bv])) ?_))
                  | (with_reducible change wpList _ _ _ (⟨some 131, _, _, _, _, _⟩ :: _) _ _
                     have bA := Blk.new w11 43 (bv (255 :: List.replicate 79 0)).toArray
                     have mA : Mod Nn w11 (w11.alloc (.cells (bv (255 :: List.replicate 79 0)).toArray 43)) := (Mod.refl Nn w11).alloc _
                     obtain ⟨A7, c7, w6, hap, hk, G1, F7⟩ := (HC.out.nn mA).appE hbm (m := 1) (c := 1) (R := [255 :: List.replicate 79 0]) (RdC.of_blk (by simpa using bA) rfl) rows_one80 rfl (by have := HLN.out; have := HB9.out; omega) 28
                     have HK := Lib.hid hk
                     clear hk
                     have D0 := HK.out.box.cell 0; have D1 := HK.out.box.cell 1; have D2 := HK.out.box.cell 2; have D3 := HK.out.box.cell 3
                     go_must (refine wpList_val rfl (exec_app 28 (.tmp 127) (.tmp 130) rfl _ _ hap) ?_)
                     clear hap mA bA))
                refine (nputs_any HK.out.ndq (by have := HLN.out; have := HB9.out; omega)).mono ?_
                rintro r w13 ⟨rfl, m13⟩
                have M13 := HMQ.out.nn_ (HK.out.md.nn_ m13)
                clear HK m13
                go_wp2
                exact ⟨⟨2, by omega, by omega, by go_num, M13⟩, by simp [intOf]⟩
              · -- zzQ2
                go_wp2_with (first
                  | (with_reducible change wpList _ _ _ (⟨some 10, Op.alloc _, _, _, _, _⟩ :: _) _ _
                     go_must (refine wpList_alloc_var 32 rfl rfl info_node ?_)
                     intro w10 b10 m10 z10)
                  | (with_reducible change wpList _ _ _ (⟨none, Op.store _ (.tmp 10) _, _, _, _, _⟩ :: _) _ _
                     go_must (refine wpList_store_var 32 _ _ rfl rfl w9.heap.size #[.bool N7.leaf, .slice EA9 N7.ents.length ec9, .slice KA9 N7.keys.length kc9, .slice CA9 N7.kids.length cc9] _ _ rfl rfl b10 size_node rfl (one_nd _ _ _ _ _ _ _ _ _ _) ?_)
                     intro w11 b11 m11 z11
                     have hc : Cop wo3 w11 w9.heap.size N7.leaf N7 wo3.heap.size (.slice EA9 N7.ents.length ec9) (.slice KA9 N7.keys.length kc9) (.slice CA9 N7.kids.length cc9) := cop_of HC9.out m10 m11 b11
                     have C0 := b11.cell 0; have C1 := b11.cell 1; have C2 := b11.cell 2; have C3 := b11.cell 3
                     have F0 := b11.frozen 0; have F1 := b11.frozen 1; have F2 := b11.frozen 2; have F3 := b11.frozen 3
                     have HC := Lib.hid hc
                     clear hc b10 m10 b11 m11)
                  | (with_reducible change wpList _ _ _ (⟨some 137, _, _, _, _, _⟩ :: _) _ _
                     go_must (refine wpList_val rfl (exec_bslice1 (P := Tryz.prog) 30 3 _ rfl (s := 1) Tryz.underlying30 info_int2_ (by omega) (by omega) rfl (X := #[.int .i64 (0)]) rfl rfl) ?_))
                  | (with_reducible change wpList _ _ _ (⟨some 138, _, _, _, _, _⟩ :: _) _ _
                     have bA := Blk.new w11 3 #[.int .i64 0]
                     have mA : Mod Nn w11 (w11.alloc (.cells #[.int .i64 0] 3)) := (Mod.refl Nn w11).alloc _
                     obtain ⟨A6, c6, w6, hap, hk, G3, F6⟩ := (HC.out.nn mA).appC hbm (m := 1) (c := 1) (R := [0]) (Rd.of_blk0 bA rfl) rfl (by have := HLN.out; have := HB9.out; omega) 30
                     have HK := Lib.hid hk
                     clear hk
                     have D0 := HK.out.box.cell 0; have D1 := HK.out.box.cell 1; have D2 := HK.out.box.cell 2; have D3 := HK.out.box.cell 3
                     go_must (refine wpList_val rfl (exec_app 30 (.tmp 136) (.tmp 137) rfl _ _ hap) ?_)
                     clear hap mA bA))
                refine (nputs_any HK.out.ndq (by have := HLN.out; have := HB9.out; omega)).mono ?_
                rintro r w13 ⟨rfl, m13⟩
                have M13 := HMQ.out.nn_ (HK.out.md.nn_ m13)
                clear HK m13
                go_wp2
                exact ⟨⟨3, by omega, by omega, by go_num, M13⟩, by simp [intOf]⟩
              · -- zzQ3
                go_wp2_with (first
                  | (with_reducible change wpList _ _ _ (⟨some 10, Op.alloc _, _, _, _, _⟩ :: _) _ _
                     go_must (refine wpList_alloc_var 32 rfl rfl info_node ?_)
                     intro w10 b10 m10 z10)
                  | (with_reducible change wpList _ _ _ (⟨none, Op.store _ (.tmp 10) _, _, _, _, _⟩ :: _) _ _
                     go_must (refine wpList_store_var 32 _ _ rfl rfl w9.heap.size #[.bool N7.leaf, .slice EA9 N7.ents.length ec9, .slice KA9 N7.keys.length kc9, .slice CA9 N7.kids.length cc9] _ _ rfl rfl b10 size_node rfl (one_nd _ _ _ _ _ _ _ _ _ _) ?_)
                     intro w11 b11 m11 z11
                     have hc : Cop wo3 w11 w9.heap.size N7.leaf N7 wo3.heap.size (.slice EA9 N7.ents.length ec9) (.slice KA9 N7.keys.length kc9) (.slice CA9 N7.kids.length cc9) := cop_of HC9.out m10 m11 b11
                     have C0 := b11.cell 0; have C1 := b11.cell 1; have C2 := b11.cell 2; have C3 := b11.cell 3
                     have F0 := b11.frozen 0; have F1 := b11.frozen 1; have F2 := b11.frozen 2; have F3 := b11.frozen 3
                     have HC := Lib.hid hc
                     clear hc b10 m10 b11 m11)
                  | (with_reducible change wpList _ _ _ (⟨some 144, _, _, _, _, _⟩ :: _) _ _
                     go_must (refine wpList_val rfl (exec_build_byte (P := Tryz.prog) 40 5 39 _ rfl Tryz.underlying40 (by kernel_rfl) (by kernel_rfl) (b := 255) rfl) ?_))
                  | (with_reducible change wpList _ _ _ (⟨some 145, _, _, _, _, _⟩ :: _) _ _
                     go_must (refine wpList_val rfl (exec_bslice1 (P := Tryz.prog) 29 40 _ rfl (s := 40) Tryz.underlying29 info_tk (by omega) (by omega) rfl (X := (bv (255 :: List.replicate 39 0)).toArray) rfl (by simp [bv])) ?_))
                  | (with_reducible change wpList _ _ _ (⟨some 146, _, _, _, _, _⟩ :: _) _ _
                     have bA := Blk.new w11 40 (bv (255 :: List.replicate 39 0)).toArray
                     have mA : Mod Nn w11 (w11.alloc (.cells (bv (255 :: List.replicate 39 0)).toArray 40)) := (Mod.refl Nn w11).alloc _
                     obtain ⟨A7, c7, w6, hap, hk, G2, F7⟩ := (HC.out.nn mA).appK hbm (m := 1) (c := 1) (R := [255 :: List.replicate 39 0]) (RdC.of_blk (by simpa using bA) rfl) rows_one40 rfl (by have := HLN.out; have := HB9.out; show N7.keys.length + 1 ≤ 10000000000; omega) 29
                     have HK := Lib.hid hk
                     clear hk
                     have D0 := HK.out.box.cell 0; have D1 := HK.out.box.cell 1; have D2 := HK.out.box.cell 2; have D3 := HK.out.box.cell 3
                     go_must (refine wpList_val rfl (exec_app 29 (.tmp 143) (.tmp 145) rfl _ _ hap) ?_)
                     clear hap mA bA))
                refine (nputs_any HK.out.ndq (by have := HLN.out; have := HB9.out; omega)).mono ?_
                rintro r w13 ⟨rfl, m13⟩
                have M13 := HMQ.out.nn_ (HK.out.md.nn_ m13)
                clear HK m13
                go_wp2
                exact ⟨⟨4, by omega, by omega, by go_num, M13⟩, by simp [intOf]⟩
              · -- zzQ4
                go_wp2_with (first
                  | (with_reducible change wpList _ _ _ (⟨some 10, Op.alloc _, _, _, _, _⟩ :: _) _ _
                     go_must (refine wpList_alloc_var 32 rfl rfl info_node ?_)
                     intro w10 b10 m10 z10)
                  | (with_reducible change wpList _ _ _ (⟨none, Op.store _ (.tmp 10) _, _, _, _, _⟩ :: _) _ _
                     go_must (refine wpList_store_var 32 _ _ rfl rfl w9.heap.size #[.bool N7.leaf, .slice EA9 N7.ents.length ec9, .slice KA9 N7.keys.length kc9, .slice CA9 N7.kids.length cc9] _ _ rfl rfl b10 size_node rfl (one_nd _ _ _ _ _ _ _ _ _ _) ?_)
                     intro w11 b11 m11 z11
                     have hc : Cop wo3 w11 w9.heap.size N7.leaf N7 wo3.heap.size (.slice EA9 N7.ents.length ec9) (.slice KA9 N7.keys.length kc9) (.slice CA9 N7.kids.length cc9) := cop_of HC9.out m10 m11 b11
                     have C0 := b11.cell 0; have C1 := b11.cell 1; have C2 := b11.cell 2; have C3 := b11.cell 3
                     have F0 := b11.frozen 0; have F1 := b11.frozen 1; have F2 := b11.frozen 2; have F3 := b11.frozen 3
                     have HC := Lib.hid hc
                     clear hc b10 m10 b11 m11)
                  | (with_reducible change wpList _ _ _ (⟨some 152, _, _, _, _, _⟩ :: _) _ _
                     go_must (refine wpList_val rfl (exec_bslice1 (P := Tryz.prog) 30 3 _ rfl (s := 1) Tryz.underlying30 info_int2_ (by omega) (by omega) rfl (X := #[.int .i64 (1048576)]) rfl rfl) ?_))
                  | (with_reducible change wpList _ _ _ (⟨some 153, _, _, _, _, _⟩ :: _) _ _
                     have bA := Blk.new w11 3 #[.int .i64 1048576]
                     have mA : Mod Nn w11 (w11.alloc (.cells #[.int .i64 1048576] 3)) := (Mod.refl Nn w11).alloc _
                     obtain ⟨A6, c6, w6, hap, hk, G3, F6⟩ := (HC.out.nn mA).appC hbm (m := 1) (c := 1) (R := [1048576]) (Rd.of_blk0 bA rfl) rfl (by have := HLN.out; have := HB9.out; omega) 30
                     have HK4 := Lib.hid hk
                     clear hk
                     have D0 := HK4.out.box.cell 0; have D1 := HK4.out.box.cell 1; have D2 := HK4.out.box.cell 2; have D3 := HK4.out.box.cell 3
                     go_must (refine wpList_val rfl (exec_app 30 (.tmp 151) (.tmp 152) rfl _ _ hap) ?_)
                     clear hap mA bA)
                  | (with_reducible change wpList _ _ _ (⟨some 157, _, _, _, _, _⟩ :: _) _ _
                     generalize w6.setCell ⟨w9.heap.size, 3, none⟩ (.slice A6 (N7.kids.length + 1) c6) = w7 at *
                     go_must (refine wpList_val rfl (exec_build_byte (P := Tryz.prog) 40 5 39 _ rfl Tryz.underlying40 (by kernel_rfl) (by kernel_rfl) (b := 255) rfl) ?_))
                  | (with_reducible change wpList _ _ _ (⟨some 158, _, _, _, _, _⟩ :: _) _ _
                     go_must (refine wpList_val rfl (exec_bslice1 (P := Tryz.prog) 29 40 _ rfl (s := 40) Tryz.underlying29 info_tk (by omega) (by omega) rfl (X := (bv (255 :: List.replicate 39 0)).toArray) rfl (by simp [bv])) ?_))
                  | (with_reducible change wpList _ _ _ (⟨some 159, _, _, _, _, _⟩ :: _) _ _
                     have bA := Blk.new w7 40 (bv (255 :: List.replicate 39 0)).toArray
                     have mA : Mod Nn w7 (w7.alloc (.cells (bv (255 :: List.replicate 39 0)).toArray 40)) := (Mod.refl Nn w7).alloc _
                     obtain ⟨A7, c7, w8, hap, hk, G2, F7⟩ := (HK4.out.nn mA).appK hbm (m := 1) (c := 1) (R := [255 :: List.replicate 39 0]) (RdC.of_blk (by simpa using bA) rfl) rows_one40 rfl (by have := HLN.out; have := HB9.out; show N7.keys.length + 1 ≤ 10000000000; omega) 29
                     have HK := Lib.hid hk
                     clear hk
                     have D0 := HK.out.box.cell 0; have D1 := HK.out.box.cell 1; have D2 := HK.out.box.cell 2; have D3 := HK.out.box.cell 3
                     go_must (refine wpList_val rfl (exec_app 29 (.tmp 156) (.tmp 158) rfl _ _ hap) ?_)
                     clear hap mA bA))
                refine (nputs_any HK.out.ndq (by have := HLN.out; have := HB9.out; omega)).mono ?_
                rintro r w13 ⟨rfl, m13⟩
                have M13 := HMQ.out.nn_ (HK.out.md.nn_ m13)
                clear HK m13
                go_wp2
                exact ⟨⟨5, by omega, by omega, by go_num, M13⟩, by simp [intOf]⟩
              · -- zzQ5
                go_wp2_with (first
                  | (with_reducible change wpList _ _ _ (⟨some 10, Op.alloc _, _, _, _, _⟩ :: _) _ _
                     go_must (refine wpList_alloc_var 32 rfl rfl info_node ?_)
                     intro w10 b10 m10 z10)
                  | (with_reducible change wpList _ _ _ (⟨none, Op.store _ (.tmp 10) _, _, _, _, _⟩ :: _) _ _
                     go_must (refine wpList_store_var 32 _ _ rfl rfl w9.heap.size #[.bool N7.leaf, .slice EA9 N7.ents.length ec9, .slice KA9 N7.keys.length kc9, .slice CA9 N7.kids.length cc9] _ _ rfl rfl b10 size_node rfl (one_nd _ _ _ _ _ _ _ _ _ _) ?_)
                     intro w11 b11 m11 z11
                     have hc : Cop wo3 w11 w9.heap.size N7.leaf N7 wo3.heap.size (.slice EA9 N7.ents.length ec9) (.slice KA9 N7.keys.length kc9) (.slice CA9 N7.kids.length cc9) := cop_of HC9.out m10 m11 b11
                     have C0 := b11.cell 0; have C1 := b11.cell 1; have C2 := b11.cell 2; have C3 := b11.cell 3
                     have F0 := b11.frozen 0; have F1 := b11.frozen 1; have F2 := b11.frozen 2; have F3 := b11.frozen 3
                     have HC := Lib.hid hc
                     clear hc b10 m10 b11 m11)
                  | (with_reducible change wpList _ _ _ (⟨some 163, _, _, _, _, _⟩ :: _) _ _
                     go_must (refine wpList_val rfl (exec_bslice1 (P := Tryz.prog) 30 3 _ rfl (s := 1) Tryz.underlying30 info_int2_ (by omega) (by omega) rfl (X := #[.int .i64 (1048577)]) rfl rfl) ?_))
                  | (with_reducible change wpList _ _ _ (⟨some 169, _, _, _, _, _⟩ :: _) _ _
                     go_must (refine wpList_val rfl (exec_min_one 3 (.const (.int .i64 1)) (.tmp 168) rfl (n := N7.kids.length) HL.out rfl rfl) ?_))
                  | (with_reducible change wpList _ _ _ (⟨some 170, _, _, _, _, _⟩ :: _) _ _
                     go_must (refine wpList_val rfl (exec_sub_l (P := Tryz.prog) 30 _ _ rfl 3 1 Tryz.underlying30 (by kernel_rfl) (A := CA9) (n := N7.kids.length) (c := cc9) (l := ln) rfl rfl (by have := HL.out; omega)) ?_))
                  | (with_reducible change wpList _ _ _ (⟨some 171, _, _, _, _, _⟩ :: _) _ _
                     obtain ⟨A7, c7, w6, hap, hk, G3, F7⟩ := HC.out.newC (z := 1048577) (l := ln) hbm (by have := HL.out; omega) rfl hcc9 (by have := HLN.out; have := HB9.out; omega) 30
                     rw [show w11.heap.size = w9.heap.size + 1 from by omega] at hap
                     have HK := Lib.hid hk
                     clear hk
                     have D0 := HK.out.box.cell 0; have D1 := HK.out.box.cell 1; have D2 := HK.out.box.cell 2; have D3 := HK.out.box.cell 3
                     go_must (refine wpList_val rfl (exec_app 30 (.tmp 163) (.tmp 170) rfl _ _ hap) ?_)
                     clear hap))
                refine (nputs_any HK.out.ndq (by have := HLN.out; have := HB9.out; omega)).mono ?_
                rintro r w13 ⟨rfl, m13⟩
                have M13 := HMQ.out.nn_ (HK.out.md.nn_ m13)
                clear HK m13
                go_wp2
                exact ⟨⟨6, by omega, by omega, by go_num, M13⟩, by simp [intOf]⟩
              · -- zzQ6
                go_wp2_with (first
                  | (with_reducible change wpList _ _ _ (⟨some 10, Op.alloc _, _, _, _, _⟩ :: _) _ _
                     go_must (refine wpList_alloc_var 32 rfl rfl info_node ?_)
                     intro w10 b10 m10 z10)
                  | (with_reducible change wpList _ _ _ (⟨none, Op.store _ (.tmp 10) _, _, _, _, _⟩ :: _) _ _
                     go_must (refine wpList_store_var 32 _ _ rfl rfl w9.heap.size #[.bool N7.leaf, .slice EA9 N7.ents.length ec9, .slice KA9 N7.keys.length kc9, .slice CA9 N7.kids.length cc9] _ _ rfl rfl b10 size_node rfl (one_nd _ _ _ _ _ _ _ _ _ _) ?_)
                     intro w11 b11 m11 z11
                     have hc : Cop wo3 w11 w9.heap.size N7.leaf N7 wo3.heap.size (.slice EA9 N7.ents.length ec9) (.slice KA9 N7.keys.length kc9) (.slice CA9 N7.kids.length cc9) := cop_of HC9.out m10 m11 b11
                     have C0 := b11.cell 0; have C1 := b11.cell 1; have C2 := b11.cell 2; have C3 := b11.cell 3
                     have F0 := b11.frozen 0; have F1 := b11.frozen 1; have F2 := b11.frozen 2; have F3 := b11.frozen 3
                     have HC := Lib.hid hc
                     clear hc b10 m10 b11 m11)
                  | (with_reducible change wpList _ _ _ (⟨some 175, _, _, _, _, _⟩ :: _) _ _
                     go_must (refine wpList_val rfl (exec_bslice1 (P := Tryz.prog) 30 3 _ rfl (s := 1) Tryz.underlying30 info_int2_ (by omega) (by omega) rfl (X := #[.int .i64 (-1)]) rfl rfl) ?_))
                  | (with_reducible change wpList _ _ _ (⟨some 181, _, _, _, _, _⟩ :: _) _ _
                     go_must (refine wpList_val rfl (exec_min_one 3 (.const (.int .i64 1)) (.tmp 180) rfl (n := N7.kids.length) HL.out rfl rfl) ?_))
                  | (with_reducible change wpList _ _ _ (⟨some 182, _, _, _, _, _⟩ :: _) _ _
                     go_must (refine wpList_val rfl (exec_sub_l (P := Tryz.prog) 30 _ _ rfl 3 1 Tryz.underlying30 (by kernel_rfl) (A := CA9) (n := N7.kids.length) (c := cc9) (l := ln) rfl rfl (by have := HL.out; omega)) ?_))
                  | (with_reducible change wpList _ _ _ (⟨some 183, _, _, _, _, _⟩ :: _) _ _
                     obtain ⟨A7, c7, w6, hap, hk, G3, F7⟩ := HC.out.newC (z := -1) (l := ln) hbm (by have := HL.out; omega) rfl hcc9 (by have := HLN.out; have := HB9.out; omega) 30
                     rw [show w11.heap.size = w9.heap.size + 1 from by omega] at hap
                     have HK := Lib.hid hk
                     clear hk
                     have D0 := HK.out.box.cell 0; have D1 := HK.out.box.cell 1; have D2 := HK.out.box.cell 2; have D3 := HK.out.box.cell 3
                     go_must (refine wpList_val rfl (exec_app 30 (.tmp 175) (.tmp 182) rfl _ _ hap) ?_)
                     clear hap))
                refine (nputs_any HK.out.ndq (by have := HLN.out; have := HB9.out; omega)).mono ?_
                rintro r w13 ⟨rfl, m13⟩
                have M13 := HMQ.out.nn_ (HK.out.md.nn_ m13)
                clear HK m13
                go_wp2
                exact ⟨⟨7, by omega, by omega, by go_num, M13⟩, by simp [intOf]⟩
              · -- zzQ7
                go_wp2_with (first
                  | (with_reducible change wpList _ _ _ (⟨some 10, Op.alloc _, _, _, _, _⟩ :: _) _ _
                     go_must (refine wpList_alloc_var 32 rfl rfl info_node ?_)
                     intro w10 b10 m10 z10)
                  | (with_reducible change wpList _ _ _ (⟨none, Op.store _ (.tmp 10) _, _, _, _, _⟩ :: _) _ _
                     go_must (refine wpList_store_var 32 _ _ rfl rfl w9.heap.size #[.bool N7.leaf, .slice EA9 N7.ents.length ec9, .slice KA9 N7.keys.length kc9, .slice CA9 N7.kids.length cc9] _ _ rfl rfl b10 size_node rfl (one_nd _ _ _ _ _ _ _ _ _ _) ?_)
                     intro w11 b11 m11 z11
                     have hc : Cop wo3 w11 w9.heap.size N7.leaf N7 wo3.heap.size (.slice EA9 N7.ents.length ec9) (.slice KA9 N7.keys.length kc9) (.slice CA9 N7.kids.length cc9) := cop_of HC9.out m10 m11 b11
                     have C0 := b11.cell 0; have C1 := b11.cell 1; have C2 := b11.cell 2; have C3 := b11.cell 3
                     have F0 := b11.frozen 0; have F1 := b11.frozen 1; have F2 := b11.frozen 2; have F3 := b11.frozen 3
                     have HC := Lib.hid hc
                     clear hc b10 m10 b11 m11))
                obtain ⟨le, hle⟩ : ∃ l, l = min 1 N7.ents.length := ⟨_, rfl⟩
                have HLE := Lib.hid hle
                clear hle
                refine wp_region_planT (fun w' => w'.cell? ⟨w9.heap.size, 1, none⟩ = some (.slice EA9 N7.ents.length ec9)) 11 [(0, 0), (1, 1), (2, 0), (3, 1), (4, 0), (5, 1), (6, 0), (7, 0), (8, 0), (9, 2), (10, 0), (11, 2)] (by kernel_rfl) (by kernel_rfl) C1 ?_
                iterate 1 (refine pt_pure rfl rfl (fun K hK => ?_); go_simp; refine hK _ ?_; clear hK K)
                refine pt_take _ rfl rfl (fun w' hS => exec_load1 (P := Tryz.prog) 28 _ rfl rfl hS Tryz.underlying28 rfl) (fun K hK => ?_); go_simp; refine hK _ ?_; clear hK K
                iterate 1 (refine pt_pure rfl rfl (fun K hK => ?_); go_simp; refine hK _ ?_; clear hK K)
                refine pt_take _ rfl rfl (fun w' hS => exec_load1 (P := Tryz.prog) 28 _ rfl rfl hS Tryz.underlying28 rfl) (fun K hK => ?_); go_simp; refine hK _ ?_; clear hK K
                iterate 1 (refine pt_pure rfl rfl (fun K hK => ?_); go_simp; refine hK _ ?_; clear hK K)
                refine pt_take _ rfl rfl (fun w' hS => exec_load1 (P := Tryz.prog) 28 _ rfl rfl hS Tryz.underlying28 rfl) (fun K hK => ?_); go_simp; refine hK _ ?_; clear hK K
                iterate 1 (refine pt_pure rfl rfl (fun K hK => ?_); go_simp; refine hK _ ?_; clear hK K)
                refine pt_is (.int .i64 (le : Int)) rfl rfl (fun w' => exec_min_one 3 (.const (.int .i64 1)) (.tmp 193) rfl (n := N7.ents.length) HLE.out rfl rfl) (fun K hK => ?_); go_simp; refine hK _ ?_; clear hK K
                refine pt_is (.slice (subA EA9 ec9 0 80) le ec9) rfl rfl (fun w' => exec_sub_h (P := Tryz.prog) 28 _ _ rfl 43 80 Tryz.underlying28 (by kernel_rfl) (A := EA9) (n := N7.ents.length) (c := ec9) (h := le) rfl rfl (by have := HLE.out; omega)) (fun K hK => ?_); go_simp; refine hK _ ?_; clear hK K
                obtain ⟨A7, c7, w6, hap, hk, G1, F7⟩ := (HC.out.nn (Mod.refl Nn w11).drew).appE7 hbm he9 (l := le) (by have := HLE.out; omega) (by have := HLN.out; have := HB9.out; omega) 28
                have HK := Lib.hid hk
                clear hk
                refine pt_val (w1 := w6) rfl rfl (exec_app 28 (.tmp 188) (.tmp 195) rfl _ _ hap) (fun _ => G1) (fun K hK => ?_); go_simp; refine hK _ ?_; clear hK K
                iterate 1 (refine pt_pure rfl rfl (fun K hK => ?_); go_simp; refine hK _ ?_; clear hK K)
                refine pt_unit (w1 := w6.setCell ⟨w9.heap.size, 1, none⟩ (.slice A7 (N7.ents.length + le) c7)) rfl rfl (exec_store1 (P := Tryz.prog) 28 _ _ rfl rfl rfl G1 F7 rfl rfl rfl (by kernel_rfl)) (fun h => by simp at h) (fun K hK => ?_); go_simp; refine hK _ ?_; clear hK K
                refine pt_nil ?_
                clear hap G1 F7
                have D0 := HK.out.box.cell 0; have D1 := HK.out.box.cell 1; have D2 := HK.out.box.cell 2; have D3 := HK.out.box.cell 3
                generalize w6.setCell ⟨w9.heap.size, 1, none⟩ (.slice A7 (N7.ents.length + le) c7) = w7 at *
                have hle1 : le ≤ 1 := by have := HLE.out; omega
                go_wp2_with fail
                refine (nputs_any HK.out.ndq (by have := HLN.out; have := HB9.out; omega)).mono ?_
                rintro r w13 ⟨rfl, m13⟩
                have M13 := HMQ.out.nn_ (HK.out.md.nn_ m13)
                clear HK m13
                go_wp2
                exact ⟨⟨8, by omega, by omega, by go_num, M13⟩, by simp [intOf]⟩
              · -- zzQ8
                go_wp2_with (first
                  | (with_reducible change wpList _ _ _ (⟨some 10, Op.alloc _, _, _, _, _⟩ :: _) _ _
                     go_must (refine wpList_alloc_var 32 rfl rfl info_node ?_)
                     intro w10 b10 m10 z10)
                  | (with_reducible change wpList _ _ _ (⟨none, Op.store _ (.tmp 10) _, _, _, _, _⟩ :: _) _ _
                     go_must (refine wpList_store_var 32 _ _ rfl rfl w9.heap.size #[.bool N7.leaf, .slice EA9 N7.ents.length ec9, .slice KA9 N7.keys.length kc9, .slice CA9 N7.kids.length cc9] _ _ rfl rfl b10 size_node rfl (one_nd _ _ _ _ _ _ _ _ _ _) ?_)
                     intro w11 b11 m11 z11
                     have hc : Cop wo3 w11 w9.heap.size N7.leaf N7 wo3.heap.size (.slice EA9 N7.ents.length ec9) (.slice KA9 N7.keys.length kc9) (.slice CA9 N7.kids.length cc9) := cop_of HC9.out m10 m11 b11
                     have C0 := b11.cell 0; have C1 := b11.cell 1; have C2 := b11.cell 2; have C3 := b11.cell 3
                     have F0 := b11.frozen 0; have F1 := b11.frozen 1; have F2 := b11.frozen 2; have F3 := b11.frozen 3
                     have HC := Lib.hid hc
                     clear hc b10 m10 b11 m11))
                obtain ⟨lk, hlk⟩ : ∃ l, l = min 1 N7.keys.length := ⟨_, rfl⟩
                have HLK := Lib.hid hlk
                clear hlk
                refine wp_region_planT (fun w' => w'.cell? ⟨w9.heap.size, 2, none⟩ = some (.slice KA9 N7.keys.length kc9)) 16 [(0, 0), (1, 1), (2, 0), (3, 1), (4, 0), (5, 0), (6, 0), (7, 0), (8, 1), (9, 0), (10, 1), (11, 0), (12, 0), (13, 0), (14, 2), (15, 0), (16, 2)] (by kernel_rfl) (by kernel_rfl) C2 ?_
                iterate 1 (refine pt_pure rfl rfl (fun K hK => ?_); go_simp; refine hK _ ?_; clear hK K)
                refine pt_take _ rfl rfl (fun w' hS => exec_load1 (P := Tryz.prog) 29 _ rfl rfl hS Tryz.underlying29 rfl) (fun K hK => ?_); go_simp; refine hK _ ?_; clear hK K
                iterate 1 (refine pt_pure rfl rfl (fun K hK => ?_); go_simp; refine hK _ ?_; clear hK K)
                refine pt_take _ rfl rfl (fun w' hS => exec_load1 (P := Tryz.prog) 29 _ rfl rfl hS Tryz.underlying29 rfl) (fun K hK => ?_); go_simp; refine hK _ ?_; clear hK K
                iterate 1 (refine pt_pure rfl rfl (fun K hK => ?_); go_simp; refine hK _ ?_; clear hK K)
                refine pt_is (.int .i64 (lk : Int)) rfl rfl (fun w' => exec_min_one 3 (.const (.int .i64 1)) (.tmp 106) rfl (n := N7.keys.length) HLK.out rfl rfl) (fun K hK => ?_); go_simp; refine hK _ ?_; clear hK K
                refine pt_is (.slice (subA KA9 kc9 lk 40) (N7.keys.length - lk) (kc9 - lk)) rfl rfl (fun w' => exec_sub_l (P := Tryz.prog) 29 _ _ rfl 40 40 Tryz.underlying29 (by kernel_rfl) (A := KA9) (n := N7.keys.length) (c := kc9) (l := lk) rfl rfl (by have := HLK.out; omega)) (fun K hK => ?_); go_simp; refine hK _ ?_; clear hK K
                iterate 1 (refine pt_pure rfl rfl (fun K hK => ?_); go_simp; refine hK _ ?_; clear hK K)
                refine pt_take _ rfl rfl (fun w' hS => exec_load1 (P := Tryz.prog) 29 _ rfl rfl hS Tryz.underlying29 rfl) (fun K hK => ?_); go_simp; refine hK _ ?_; clear hK K
                iterate 1 (refine pt_pure rfl rfl (fun K hK => ?_); go_simp; refine hK _ ?_; clear hK K)
                refine pt_take _ rfl rfl (fun w' hS => exec_load1 (P := Tryz.prog) 29 _ rfl rfl hS Tryz.underlying29 rfl) (fun K hK => ?_); go_simp; refine hK _ ?_; clear hK K
                iterate 1 (refine pt_pure rfl rfl (fun K hK => ?_); go_simp; refine hK _ ?_; clear hK K)
                refine pt_is (.int .i64 (lk : Int)) rfl rfl (fun w' => exec_min_one 3 (.const (.int .i64 1)) (.tmp 113) rfl (n := N7.keys.length) HLK.out rfl rfl) (fun K hK => ?_); go_simp; refine hK _ ?_; clear hK K
                refine pt_is (.slice (subA KA9 kc9 0 40) lk kc9) rfl rfl (fun w' => exec_sub_h (P := Tryz.prog) 29 _ _ rfl 40 40 Tryz.underlying29 (by kernel_rfl) (A := KA9) (n := N7.keys.length) (c := kc9) (h := lk) rfl rfl (by have := HLK.out; omega)) (fun K hK => ?_); go_simp; refine hK _ ?_; clear hK K
                refine rot_at (HC.out.nn (Mod.refl Nn w11).drew) hbm hk9 HLK.out (by have := HLN.out; have := HB9.out; omega) (.tmp 108) (.tmp 115) rfl rfl rfl rfl rfl ?_
                rintro A7 c7 w6 G1 F7 hk
                have HK := Lib.hid hk
                clear hk
                refine ⟨fun _ => G1, fun K hK => ?_⟩; go_simp; refine hK _ ?_; clear hK K
                iterate 1 (refine pt_pure rfl rfl (fun K hK => ?_); go_simp; refine hK _ ?_; clear hK K)
                refine pt_unit (w1 := w6.setCell ⟨w9.heap.size, 2, none⟩ (.slice A7 N7.keys.length c7)) rfl rfl (exec_store1 (P := Tryz.prog) 29 _ _ rfl rfl rfl G1 F7 rfl rfl rfl (by kernel_rfl)) (fun h => by simp at h) (fun K hK => ?_); go_simp; refine hK _ ?_; clear hK K
                refine pt_nil ?_
                clear G1 F7
                have D0 := HK.out.box.cell 0; have D1 := HK.out.box.cell 1; have D2 := HK.out.box.cell 2; have D3 := HK.out.box.cell 3
                generalize w6.setCell ⟨w9.heap.size, 2, none⟩ (.slice A7 N7.keys.length c7) = w7 at *
                go_wp2_with fail
                refine (nputs_any HK.out.q (by have := HLN.out; have := HB9.out; omega)).mono ?_
                rintro r w13 ⟨rfl, m13⟩
                have M13 := HMQ.out.nn_ (HK.out.md.nn_ m13)
                clear HK m13
                go_wp2
                exact ⟨⟨9, by omega, by omega, by go_num, M13⟩, by simp [intOf]⟩
            · have hql' : ¬ (q : Int) < 9 := by omega
              go_wp2
              -- zzNEND
              exact ⟨⟨k + 1, by omega, by go_num, M9.out.nn_ hmq⟩, by simp [intOf]; omega⟩
    · have hlt' : ¬ (k : Int) < 4 := by omega
      have hq1 : NdQ (wo.alloc (.cells #[.int .i64 5] 3)) ⟨false, [], [], [5]⟩ none 0 none 0 (some ⟨wo.heap.size, 0, none⟩) 1 :=
        ⟨⟨rfl, fun h => absurd h (by omega)⟩, ⟨rfl, fun h => absurd h (by omega)⟩, Rd.of_blk0 (Blk.new _ _ _) rfl, rfl, rfl, rfl, ⟨(fun r hr => by cases hr), (fun r hr => by cases hr)⟩⟩
      have HQ1 := Lib.hid (And.intro hq1 ((m1.nn_ hmr).alloc (.cells #[.int .i64 5] 3))); clear hq1 hmr
      go_wp2_with fail
      -- zzD1
      refine (nputs_any (ec := 0) (kc := 0) (cc := 1) HQ1.out.1 (by omega)).mono ?_
      rintro r w2 ⟨rfl, m2⟩
      have M2 := HQ1.out.2.nn_ m2
      clear m2 HQ1
      go_wp2_with fail
      -- zzD2
      have hq2 : NdQ (w2.alloc (.cells (bv (5 :: List.replicate 39 0)).toArray 40)) ⟨false, [], [5 :: List.replicate 39 0], []⟩ none 0 (some ⟨w2.heap.size, 0, none⟩) 1 none 0 :=
        ⟨⟨rfl, fun h => absurd h (by omega)⟩, RdC.of_blk (by have := Blk.new w2 40 (bv (5 :: List.replicate 39 0)).toArray; simpa using this) rfl, Rd.nil _ _, rfl, rfl, rfl, ⟨(fun r hr => by cases hr), (fun r hr => by simp only [List.mem_singleton] at hr; subst hr; exact ⟨rfl, by decide⟩)⟩⟩
      have HQ2 := Lib.hid (And.intro hq2 (M2.alloc (.cells (bv (5 :: List.replicate 39 0)).toArray 40))); clear hq2 M2
      refine (nputs_any (ec := 0) (kc := 1) (cc := 0) HQ2.out.1 (by omega)).mono ?_
      rintro r w3 ⟨rfl, m3⟩
      have M3 := HQ2.out.2.nn_ m3
      clear m3 HQ2
      try dsimp only
      try go_simp
      try dsimp only
      repeat' (first
        | (fail_if_success (with_reducible change Oper.wp _ ⟨some 211, _, _, _, _, _⟩ _ _ _ _)
           first | go_values | go_skip | go_guarded | go_step | go_upon | go_back))
      refine wp_val (exec_make1 (P := Tryz.prog) 24 _ _ rfl 5 (.int .u8 0) 1 Tryz.underlying24 info_u8 rfl 1024 1024 rfl rfl (by omega) (by omega) (by omega)) ?_
      -- zzD4
      have hz1 : Array.replicate 1024 (Value.int .u8 0) = (bv (List.replicate 1024 0)).toArray := by unfold bv; rw [List.map_replicate, List.toArray_replicate]; rfl
      rw [hz1]
      have HZ := Lib.hid (And.intro (Rd.of_blk0 (Blk.new w3 5 (bv (List.replicate 1024 0)).toArray) (n := 1024) (by simp [bv])) (M3.alloc (.cells (bv (List.replicate 1024 0)).toArray 5)))
      clear M3 hz1
      generalize w3.alloc (.cells (bv (List.replicate 1024 0)).toArray 5) = w4 at *
      go_wp2_with fail
      refine (ngets_any (l := List.replicate 1024 0) HZ.out.1 (Nat.le_refl _) (fun z hz => by rw [(List.mem_replicate.1 hz).2]; omega) (by omega)).mono ?_
      rintro r w5 ⟨rfl, m5⟩
      have M5 := HZ.out.2.nn_ m5
      clear HZ m5
      go_wp2_with fail
      refine (ngets_any (l := []) (Rd.nil _ none) (Nat.le_refl 0) (fun z hz => by cases hz) (by omega)).mono ?_
      rintro r w6 ⟨rfl, m6⟩
      have M6 := M5.nn_ m6
      clear M5 m6
      go_wp2_with fail
      refine (nd_awake _).mono ?_
      rintro r w7 ⟨rfl, m7⟩
      have M7 := M6.nn_ m7
      clear M6 m7
      go_wp2
      go_ret
      exact ⟨rfl, M7⟩
end Go.Proofs.YtfoldjnmknaklaaGreat
