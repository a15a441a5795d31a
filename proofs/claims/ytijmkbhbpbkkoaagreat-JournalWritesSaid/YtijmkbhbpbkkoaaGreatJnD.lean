/- Own lemmas of several kinds, put together: Jn9, Jn10. -/
import Derived.Test.YtijmkbhbpbkkoaaGreatJnC
import Derived.Test.YtijmkbhbpbkkoaaGreatKitF
/- journal.Open of no cache, and of what may not be; peatbanklaw21: small, begun; journals of one's own (printed by wip/gen/jn9.py). -/
namespace Go.Proofs.YtijmkbhbpbkkoaaGreat
open Go.RowKit Go.Shelf
attribute [local go_sem] Oper.semAt_some

section
variable {w : World} {c b ms mo mk : Nat} {D : Dk} {most now hits misses : Int} {l : KL} {T : TL}
set_option maxRecDepth 100000 in
set_option maxHeartbeats 3200000 in
theorem open_nil (g : Geo) (ep : Int) (w : World) : Calls Tryz.prog 11 #[.pointer none, gV g, .int .i64 ep] w fun e w' => e = .returned (.tuple #[.pointer none, .slice none 0 0, .int .i64 1]) ∧ Mod Nn w w' := by
  have m1 : Mod Nn w (w.alloc (.cells (gC g) 23)) := (Mod.refl Nn w).alloc _
  have b1 : Blk (w.alloc (.cells (gC g) 23)) w.heap.size 23 (gC g) := Blk.new _ _ _
  have H1 := Lib.hid (And.intro m1 b1)
  have HR := Lib.hid (jmay_nil g ep (w.alloc (.cells (gC g) 23)))
  clear m1 b1
  unfold gV gC at *
  refine (callsIn_wide (n := 3)).1 ?_
  refine callsIn_of_wp_marks Tryz.func11 rfl trivial ?_ rfl
  simp only [Tryz.ntmps11, List.size_toArray, List.length_cons, List.length_nil, Nat.reduceAdd, Nat.reduceSub, Array.replicate_succ, Array.replicate_zero, List.push_toArray, List.append_toArray, List.nil_append, List.cons_append]
  refine wpIn_wide.2 ?_
  go_wp2_with (first
    | (with_reducible change wpList _ _ _ (⟨some 17, Op.load _ _, _, _, _, _⟩ :: _) _ _
       go_must (refine wpList_load_var 23 _ rfl rfl w.heap.size #[.int .i64 g.v, .int .i64 g.S, .int .i64 g.s, .int .i64 g.u, .int .i64 g.j] _ _ rfl H1.out.2 Tryz.underlying23 rfl size_geo ?_)))
  refine HR.out.mono ?_
  rintro r w2 ⟨rfl, m2⟩
  have M := H1.out.1.nn_ m2
  clear m2
  go_wp2
  exact ⟨.tuple #[.pointer none, .slice none 0 0, .int .i64 1], by simp [results, Tryz.results11, go_sem], rfl, M⟩
set_option maxRecDepth 100000 in
set_option maxHeartbeats 3200000 in
theorem open_no (h : CAt w c b ms mo mk D most now hits misses l T) (g : Geo) (ep : Int) (hn : ¬ jmay g ep D.n) : Calls Tryz.prog 11 #[.pointer (some ⟨c, 0, none⟩), gV g, .int .i64 ep] w fun e w' => e = .returned (.tuple #[.pointer none, .slice none 0 0, .int .i64 2]) ∧ Mod Nn w w' := by
  have m1 : Mod Nn w (w.alloc (.cells (gC g) 23)) := (Mod.refl Nn w).alloc _
  have b1 : Blk (w.alloc (.cells (gC g) 23)) w.heap.size 23 (gC g) := Blk.new _ _ _
  have H1 := Lib.hid (And.intro m1 b1)
  have hr := jmay_any (h.quiet m1) g ep
  rw [mayE_no hn] at hr
  have HR := Lib.hid hr; clear hr h hn
  clear m1 b1
  unfold gV gC at *
  refine (callsIn_wide (n := 3)).1 ?_
  refine callsIn_of_wp_marks Tryz.func11 rfl trivial ?_ rfl
  simp only [Tryz.ntmps11, List.size_toArray, List.length_cons, List.length_nil, Nat.reduceAdd, Nat.reduceSub, Array.replicate_succ, Array.replicate_zero, List.push_toArray, List.append_toArray, List.nil_append, List.cons_append]
  refine wpIn_wide.2 ?_
  go_wp2_with (first
    | (with_reducible change wpList _ _ _ (⟨some 17, Op.load _ _, _, _, _, _⟩ :: _) _ _
       go_must (refine wpList_load_var 23 _ rfl rfl w.heap.size #[.int .i64 g.v, .int .i64 g.S, .int .i64 g.s, .int .i64 g.u, .int .i64 g.j] _ _ rfl H1.out.2 Tryz.underlying23 rfl size_geo ?_)))
  refine HR.out.mono ?_
  rintro r w2 ⟨rfl, m2⟩
  have M := H1.out.1.nn_ m2
  clear m2
  go_wp2
  exact ⟨.tuple #[.pointer none, .slice none 0 0, .int .i64 2], by simp [results, Tryz.results11, go_sem], rfl, M⟩
end
/-- the document's example -/
def sm : Geo := ⟨64, 4, 32, 1, 8⟩
theorem zero_geo : (Tryz.prog.info? 23).map (fun i => (i.zero, i.size)) = some (some (.agg #[.int .i64 0, .int .i64 0, .int .i64 0, .int .i64 0, .int .i64 0]), 5) := by kernel_rfl
set_option maxRecDepth 100000 in
theorem small_any (w : World) : Calls Tryz.prog 21 #[] w fun e w' => e = .returned (gV sm) ∧ Mod Nn w w' := by
  go_enter Tryz.func21, Tryz.ntmps21
  go_wp2_with (first
    | (with_reducible change wpList _ _ _ (⟨some 0, Op.alloc _, _, _, _, _⟩ :: _) _ _
       go_must (refine wpList_alloc_var 23 rfl rfl zero_geo ?_)
       intro w2 b2 m2 z2
       have H2 := Lib.hid (And.intro m2 b2)
       clear b2 m2 z2)
    | (with_reducible change wpList _ _ _ (⟨none, Op.store _ (Operand.tmp 0) _, _, _, _, _⟩ :: _) _ _
       go_must (refine wpList_store_var 23 _ _ rfl rfl w.heap.size #[.int .i64 64, .int .i64 4, .int .i64 32, .int .i64 1, .int .i64 8] _ _ rfl rfl H2.out.2 size_geo rfl (by simp [Value.oneCell']) ?_)
       intro w3 b3 m3 z3
       have H3 := Lib.hid (H2.out.1.new_ m3 (Nat.le_refl _))
       clear m3 z3))
  exact bodyPost_ret (results_cell_row (P := Tryz.prog) rfl _ w3 _ _ _ (0, 0) _ rfl b3 Tryz.underlying23 rfl size_geo) rfl ⟨rfl, H3.out⟩
theorem sm_right : sm.right := by decide
theorem sm_sec : sm.sectors = 362 := by decide
section
variable {w0 w w' : World} {c b ms mo mk jb : Nat} {D D' : Dk} {most now hits misses : Int} {l l' : KL} {T : TL} {at_ size ep n seq : Int}
set_option maxRecDepth 100000 in
set_option maxHeartbeats 1600000 in
theorem begun_any (g : Geo) (w : World) (hg : g.right) : Calls Tryz.prog 20 #[gV g] w fun e w' => ∃ c b ms mo mk, e = .returned (.tuple #[.pointer (some ⟨b, 0, none⟩), .pointer (some ⟨c, 0, none⟩)]) ∧ OwnC w w' c b ms mo mk (Dk.new g.sectors) 8 0 0 0 [] [] := by
  have m1 : Mod Nn w (w.alloc (.cells (gC g) 23)) := (Mod.refl Nn w).alloc _
  have b1 : Blk (w.alloc (.cells (gC g) 23)) w.heap.size 23 (gC g) := Blk.new _ _ _
  have H1 := Lib.hid (And.intro m1 b1)
  have hb := Geo.sec_bound hg
  have hs := fun w => r11sectors_any g w
  rw [show g.nsec = g.sectors from if_pos hg] at hs
  have HSC := Lib.hid hs; clear hs m1 b1
  have HB := Lib.hid (show 1 ≤ g.sectors ∧ g.sectors ≤ 262144 by omega)
  clear hb
  generalize g.sectors = X at *
  unfold gV gC at *
  go_enter Tryz.func20, Tryz.ntmps20
  go_wp2_with (first
    | (with_reducible change wpList _ _ _ (⟨some 5, Op.load _ _, _, _, _, _⟩ :: _) _ _
       go_must (refine wpList_load_var 23 _ rfl rfl w.heap.size #[.int .i64 g.v, .int .i64 g.S, .int .i64 g.s, .int .i64 g.u, .int .i64 g.j] _ _ rfl H1.out.2 Tryz.underlying23 rfl size_geo ?_)))
  refine (HSC.out _).mono ?_
  rintro r w2 ⟨rfl, m2⟩
  have M2 := H1.out.1.nn_ m2
  clear m2
  go_wp2_with fail
  refine (new_any X _ HB.out.1 HB.out.2).mono ?_
  rintro r w3 ⟨b, ms, mo, rfl, hd3, m3, hfr3⟩
  go_wp2_with fail
  refine (cnew_any hd3 8 (by omega)).mono ?_
  rintro r w4 ⟨c, mk, rfl, hC4, m4, hc4, hmk4⟩
  have hO : OwnC w w4 c b ms mo mk (Dk.new X) 8 0 0 0 [] [] := ⟨hC4, M2.nn_ (m3.nn_ m4), fun k hk => by
    have hz := m3.size
    have hz2 := M2.size
    rcases hk with (rfl | rfl | ⟨e, he, -⟩) | hk
    · omega
    · omega
    · cases he
    · exact Nat.le_trans hz2 (hfr3 k hk)⟩
  clear hd3 m3 hfr3 hC4 m4 hc4 hmk4 M2
  go_wp2
  go_ret2
  exact ⟨c, b, ms, mo, mk, rfl, hO⟩
/-- a journal of one's own -/
structure JO (w0 w : World) (c b ms mo mk : Nat) (l : KL) (jb : Nat) (at_ size ep n seq : Int) : Prop where
  s : Blk w jb 69 (jC c at_ size ep n seq)
  fr : w0.heap.size ≤ jb
  sep : ¬ InA c b ms mo mk l jb
theorem JO.nn (h : JO w0 w c b ms mo mk l jb at_ size ep n seq) (hm : Mod Nn w w') : JO w0 w' c b ms mo mk l jb at_ size ep n seq := ⟨h.s.mod hm (fun f => f), h.fr, h.sep⟩
theorem JO.cto (h : JO w0 w c b ms mo mk l jb at_ size ep n seq) (hT : CTo w w' c b ms mo mk l l') : JO w0 w' c b ms mo mk l' jb at_ size ep n seq :=
  ⟨h.s.mod hT.md (fun hin => h.sep (inA_of hin)), h.fr, fun hk => by
    rcases hT.A hk with h1 | h1
    · exact h.sep h1
    · have := h.s.lt; omega⟩
theorem oj_open (h : OwnC w0 w c b ms mo mk D most now hits misses l T) (g : Geo) (ep : Int) (hm : jmay g ep D.n) (hd : D.down = false) (hnow : now ≤ 1000000000) {lb : List Nat} (hlb : rowsL D (g.half ep) g.j.toNat = natsn lb) (hlt : ∀ z ∈ lb, z < 256) {n : Nat} {R : List (List Nat)} (hall : AllRecs lb ep n R) :
    Calls Tryz.prog 11 #[.pointer (some ⟨c, 0, none⟩), gV g, .int .i64 ep] w fun e w' => ∃ jb v now' hits' misses' l' T', e = .returned (.tuple #[.pointer (some ⟨jb, 0, none⟩), v, .int .i64 0]) ∧ OwnC w0 w' c b ms mo mk D most now' hits' misses' l' T' ∧ CTo w w' c b ms mo mk l l' ∧ now' ≤ now + 1024 ∧
      JO w0 w' c b ms mo mk l' jb (g.half ep) g.j ep (n : Int) (R.length : Int) ∧ RowsOf w' w.heap.size v R := by
  refine (open_ok h.at_ g ep hm hd hnow hlb hlt).mono fun e w' ⟨jb, v, n2, R2, now', hits', misses', l', T', he, hall2, hC, hT, hn, hj, hjb, hsep, hr⟩ => ?_
  obtain ⟨rfl, rfl⟩ := hall.uniq hall2
  exact ⟨jb, v, now', hits', misses', l', T', he, h.step hC hT, hT, hn, ⟨hj, Nat.le_trans h.md.size hjb, hsep⟩, hr⟩
theorem oj_append {seq : Nat} (h : OwnC w0 w c b ms mo mk D most now hits misses l T) (hj : JO w0 w c b ms mo mk l jb at_ size ep n seq) {A : Option Addr} {m cc : Nat} {Dt : List Nat} (hr : Rd w A m (bv Dt)) (hl : ∀ z ∈ Dt, z < 256) (he0 : 0 ≤ ep) (he1 : ep ≤ 1099511627776) (hq : seq ≤ 1099511627776) (hm : m ≤ 32768)
    (h0 : 0 ≤ n) (h1 : n ≤ size) (h2 : size ≤ 1000000) (hf : fsec m ≤ size - n) (ha0 : 0 ≤ at_) (ha1 : at_ ≤ 1000000) (hnow : now ≤ 1000000000000) (hw : bwrite D (at_ + n) (natsn (recB ep seq Dt)) = (0, D')) :
    Calls Tryz.prog 14 #[.pointer (some ⟨jb, 0, none⟩), .slice A m cc] w fun e w' => ∃ now' l' T', e = .returned (.int .i64 0) ∧ OwnC w0 w' c b ms mo mk D' most now' hits misses l' T' ∧ JO w0 w' c b ms mo mk l' jb at_ size ep (n + fsec m) ((seq + 1 : Nat) : Int) ∧ Mod (fun k => InW c b ms mo mk k ∨ k = jb) w w' ∧ now' ≤ now + fsec m := by
  refine (append_ok h.at_ hj.s hj.sep hr hl he0 he1 hq hm h0 h1 h2 hf ha0 ha1 hnow hw).mono fun e w' ⟨now', l', T', he, hC, hb, hM, hG, hn⟩ => ?_
  have hA : ∀ k, InA c b ms mo mk l' k → InA c b ms mo mk l k ∨ w.heap.size ≤ k := fun k hk => by
    rcases hk with (hk | hk | ⟨e, he, hk⟩) | hk
    · exact .inl (.inl (.inl hk))
    · exact .inl (.inl (.inr (.inl hk)))
    · rcases hG e he k hk with ⟨x, hx, hxk⟩ | h1
      · exact .inl (.inl (.inr (.inr ⟨x, hx, hxk⟩)))
      · exact .inr h1
    · exact .inl (.inr hk)
  refine ⟨now', l', T', he, ⟨hC, h.md.then_ hM (fun k hk hin => ?_), fun k hk => ?_⟩, ⟨hb, hj.fr, fun hk => ?_⟩, hM, hn⟩
  · rcases hin with hin | hin
    · have := h.fr k (inA_of hin); omega
    · have := hj.fr; omega
  · rcases hA k hk with h3 | h3
    · exact h.fr k h3
    · have := h.md.size; omega
  · rcases hA jb hk with h3 | h3
    · exact hj.sep h3
    · have := hj.s.lt; omega
end
end Go.Proofs.YtijmkbhbpbkkoaaGreat

/- peatbanklaw21.awake. -/
namespace Go.Proofs.YtijmkbhbpbkkoaaGreat
open Go.RowKit

theorem recB_at {i : Nat} (h : i < 29) : (recB 3 0 [7])[i]? = (Fr.mk 2 3 0 [7]).body[i]? := by
  unfold recB Fr.bytes
  rw [List.getElem?_append_left (by rw [List.length_append, Fr.body_len, num_len]; show i < 28 + 1 + 4; omega), List.getElem?_append_left (by rw [Fr.body_len]; exact h)]
  rfl
theorem recB_cells : (recB 3 0 [7])[0]? = some 112 ∧ (recB 3 0 [7])[4]? = some 2 ∧ (recB 3 0 [7])[15]? = some 3 ∧ (recB 3 0 [7])[28]? = some 7 :=
  ⟨(recB_at (by omega)).trans rfl, (recB_at (by omega)).trans rfl, (recB_at (by omega)).trans rfl, (recB_at (by omega)).trans rfl⟩
theorem recB_512 : (recB 3 0 [7]).length = 512 := recB_len _ _ _
theorem bv_ns7 (l : List Nat) : (natsn l).map (Value.int .u8) = bv l := bv_natsn l
theorem recB7_lt : ∀ z ∈ recB 3 0 [7], z < 256 := fun z hz => Fr.bytes_lt _ (by decide) z hz
theorem bv_at7 {l : List Nat} {i z : Nat} (h : l[i]? = some z) : (bv l)[i]? = some (.int .u8 z) := by unfold bv; rw [List.getElem?_map, h]; rfl
theorem seven : ∀ z ∈ [7], z < 256 := by decide
theorem aw_all : AllRecs (List.replicate 4096 0) 3 0 [] := jrow_all 3 (by omega) [] (by simp) (fun r hr => by cases hr) 4096
theorem aw_row : jrow 3 0 [[7]] = recB 3 0 [7] := by show (Fr.mk 2 3 0 [7]).bytes ++ [] = _; rw [List.append_nil]; rfl
theorem aw_all2 : AllRecs (recB 3 0 [7] ++ List.replicate 3584 0) 3 1 [[7]] := by
  have := jrow_all 3 (by omega) [[7]] (by simp) (fun r hr => by simp at hr; subst hr; decide) 3584
  rw [aw_row] at this
  exact this
theorem aw_devB (hok : (Dk.new 362).ok) (B : List Nat) (hB : B.length = 512) : ∃ D1, bwrite (Dk.new 362) (10 + ((0 : Nat) : Int)) (natsn B) = (0, D1) ∧ D1.down = false ∧ D1.n = 362 ∧ rowsL D1 10 8 = natsn (B ++ List.replicate 3584 0) ∧ D1.latest 10 = natsn B := by
  obtain ⟨D1, h1, h2, h3, h4, -⟩ := half_write (D := Dk.new 362) (hf := 10) (J := 8) (n := 0) (k := 1) (P := []) (Z := List.replicate 4096 0) (B := B) hok ⟨rfl, rfl⟩ (by omega) (by show (10 : Int) + 8 ≤ 362; omega) (rowsL_zero 0 362 10 8) rfl hB (by omega)
  rw [List.nil_append, List.drop_replicate] at h4
  refine ⟨D1, h1, h2.1, h3, h4, ?_⟩
  obtain ⟨D2, g1, -, -, g4⟩ := bwrite_up (D := Dk.new 362) (a := 10 + ((0 : Nat) : Int)) (bs := natsn B) (k := 1) ⟨rfl, rfl⟩ (by omega) (by show (10 : Int) + 0 + 1 ≤ 362; omega) (by rw [natsn_len, hB])
  rw [h1] at g1
  injection g1 with _ g1
  subst g1
  have g5 := g4 10
  rw [if_pos (by omega), show (10 - (10 + ((0 : Nat) : Int))).toNat = 0 from by omega, Nat.mul_zero, List.drop_zero, List.take_of_length_le (by rw [natsn_len, hB]; exact Nat.le_refl _)] at g5
  exact g5
theorem aw_dev (hok : (Dk.new 362).ok) : ∃ D1, bwrite (Dk.new 362) (10 + ((0 : Nat) : Int)) (natsn (recB 3 0 [7])) = (0, D1) ∧ D1.down = false ∧ D1.n = 362 ∧ rowsL D1 10 8 = natsn (recB 3 0 [7] ++ List.replicate 3584 0) ∧ D1.latest 10 = natsn (recB 3 0 [7]) :=
  aw_devB hok _ recB_512
theorem wp_valJ {P : Program} {o : Oper} {a : Act} {w w' : World} {next : Act → World → Prop} {Q : Exit → Act → World → Prop} {v : Value} (hrun : (execOp a.eval o).run P w = .ok (.value v) w') (h : next (a.put o.dst v) w') : o.wp P a w next Q := by
  unfold Oper.wp
  rw [hrun]; exact h
theorem sm_half : sm.half 3 = 10 := by decide
theorem fsec_1 : fsec 1 = 1 := by decide
theorem fsec_4000 : fsec 4000 = 8 := by decide
set_option maxRecDepth 100000 in
set_option maxHeartbeats 6400000 in
theorem jawake_any (w : World) : Calls Tryz.prog 4 #[] w fun e w' => e = .returned (.bool true) ∧ Mod Nn w w' := by
  go_enter Tryz.func4, Tryz.ntmps4
  go_wp2_with fail
  refine (small_any _).mono ?_
  rintro r w1 ⟨rfl, m1⟩
  go_wp2_with fail
  refine (begun_any sm w1 sm_right).mono ?_
  rintro r w2 ⟨c, b, ms, mo, mk, rfl, hO⟩
  rw [sm_sec] at hO
  obtain ⟨D1, hw1, hd1, hn1, hr1, hl1⟩ := aw_dev hO.at_.d.ok
  have hmay1 : D1.may 10 = 0 := by unfold Dk.may; rw [if_neg (by rw [hd1]; exact Bool.false_ne_true), if_neg (by omega)]
  have hrd1 : D1.read 10 = natsn (recB 3 0 [7]) := by unfold Dk.read; rw [if_pos hmay1, hl1]
  have HD := Lib.hid (And.intro hw1 (And.intro hd1 (And.intro hn1 (And.intro hr1 (And.intro hmay1 hrd1)))))
  clear hw1 hd1 hn1 hr1 hl1 hmay1 hrd1
  go_wp2_with fail
  refine (small_any _).mono ?_
  rintro r w3 ⟨rfl, m3⟩
  have h3 := hO.quiet m3
  go_wp2_with fail
  refine (oj_open h3 sm 3 (by show jmay sm 3 362; decide) rfl (by omega) (lb := List.replicate 4096 0) (by rw [sm_half]; exact rowsL_zero 0 362 10 8) (fun z hz => by rw [(List.mem_replicate.1 hz).2]; omega) aw_all).mono ?_
  rintro r w4 ⟨jb, v4, now4, hits4, misses4, l4, T4, rfl, h4, hT4, hn4, j4, ⟨vs4, ow4, -⟩⟩
  obtain ⟨A4, c4, rfl, -, -⟩ := own_form ow4
  rw [sm_half] at j4
  have j4' : JO w1 w4 c b ms mo mk l4 jb 10 8 3 0 ((0 : Nat) : Int) := j4
  have h5 := h4.quiet ((Mod.refl Nn w4).alloc (.cells #[.int .u8 7] 5))
  have j5 := j4'.nn ((Mod.refl Nn w4).alloc (.cells #[.int .u8 7] 5))
  have rd5 : Rd (w4.alloc (.cells #[.int .u8 7] 5)) (some ⟨w4.heap.size, 0, none⟩) 1 (bv [7]) := Rd.of_blk0 (Blk.new w4 5 #[.int .u8 7]) rfl
  have H5 := Lib.hid (And.intro h5 (And.intro j5 (And.intro rd5 hn4)))
  have hn4' := hn4
  clear m3 hO h3 h4 hT4 hn4 j4 j4' h5 j5 rd5 ow4 vs4
  go_wp2_with fail
  refine (oj_append (seq := 0) (n := 0) H5.out.1 H5.out.2.1 H5.out.2.2.1 seven (by omega) (by omega) (by omega) (by omega) (by omega) (by omega) (by omega) (by rw [fsec_1]; omega) (by omega) (by omega) (by have := H5.out.2.2.2; omega) (by have := HD.out.1; exact this)).mono ?_
  rintro r w6 ⟨now6, l6, T6, rfl, h6, j6, -, hn6⟩
  rw [fsec_1] at j6
  have j6' : JO w1 w6 c b ms mo mk l6 jb 10 8 3 (1 : Int) ((1 : Nat) : Int) := j6
  have H6 := Lib.hid (And.intro h6 (And.intro j6' hn6))
  clear h6 j6 j6' hn6 H5
  go_wp2_with fail
  refine (read_any H6.out.1.at_.d 10).mono ?_
  rintro r w7 ⟨v7, rfl, ow7, m7⟩
  rw [HD.out.2.2.2.2.1]
  rw [HD.out.2.2.2.2.2, bv_ns7, natsn_len, recB_512] at ow7
  obtain ⟨g7, cap7, cur7, rfl, hg7, -, hcap7, hcapm7, -, -⟩ := own_blk ow7 (by omega)
  have h7 := H6.out.1.quiet m7
  have j7 := H6.out.2.1.nn m7
  have hn7 := H6.out.2.2
  have hz7 := m7.size
  have H7 := Lib.hid (And.intro h7 (And.intro j7 (And.intro hn7 (And.intro ow7 (And.intro (Nat.le_refl w7.heap.size) (And.intro hg7 hcap7))))))
  have hq7 : ¬ InA c b ms mo mk l6 g7 := fun hk => by have := H6.out.1.at_.lt _ hk; omega
  have HQ7 := Lib.hid hq7
  clear H6 m7 ow7 h7 j7 hn7 hz7 hg7 hcap7 hcapm7 hq7
  go_wp2_with fail
  refine (small_any _).mono ?_
  rintro r w8 ⟨rfl, m8⟩
  have h8 := H7.out.1.quiet m8
  have j8 := H7.out.2.1.nn m8
  have ow8 := own_mod H7.out.2.2.2.1 m8 (fun _ _ f => f)
  have H8 := Lib.hid (And.intro h8 (And.intro j8 (And.intro H7.out.2.2.1 ow8)))
  clear m8 h8 j8 ow8 H7
  go_wp2_with fail
  refine (oj_open H8.out.1 sm 3 (by rw [HD.out.2.2.1]; decide) HD.out.2.1 (by have h1 := H8.out.2.2.1; have h2 := hn4'; rw [fsec_1] at h1; omega) (lb := recB 3 0 [7] ++ List.replicate 3584 0) (by rw [sm_half]; exact HD.out.2.2.2.1) (fun z hz => by
    rcases List.mem_append.1 hz with h | h
    · exact recB7_lt z h
    · rw [(List.mem_replicate.1 h).2]; omega) aw_all2).mono ?_
  rintro r w9 ⟨jb9, v9, now9, hits9, misses9, l9, T9, rfl, h9, hT9, hn9, j9, hr9⟩
  have ow9 := own_mod H8.out.2.2.2 hT9.md (fun g' hg' hin => by injection hg' with e; subst e; exact HQ7.out (inA_of hin))
  have j9b := H8.out.2.1.cto hT9
  obtain ⟨vs9, owv, hvs⟩ := hr9
  obtain ⟨A0, c0, e0, ow0⟩ := hvs 0 [7] rfl
  obtain ⟨gv, capv, curv, rfl, -, -, -, -, -, -⟩ := own_blk owv (by decide)
  have hc0 : w9.cell? ⟨gv, 0, none⟩ = some (.slice A0 1 c0) := own_cell owv e0
  have k0 : w9.cell? ⟨g7, 0, none⟩ = some (.int .u8 112) := own_cell ow9 (bv_at7 recB_cells.1)
  have k4 : w9.cell? ⟨g7, 4, none⟩ = some (.int .u8 2) := own_cell ow9 (bv_at7 recB_cells.2.1)
  have k15 : w9.cell? ⟨g7, 15, none⟩ = some (.int .u8 3) := own_cell ow9 (bv_at7 recB_cells.2.2.1)
  have k28 : w9.cell? ⟨g7, 28, none⟩ = some (.int .u8 7) := own_cell ow9 (bv_at7 recB_cells.2.2.2)
  have H9 := Lib.hid (And.intro h9.md (And.intro j9b.s m1))
  clear ow9 j9b owv hvs ow0 e0 H8 HQ7 h9 hT9 hn9 j9 hn4'
  go_wp2_with fail
  refine (room_any H9.out.2.1 (by omega) (by omega) (by omega)).mono ?_
  rintro r w10 ⟨rfl, m10⟩
  rw [show (8 : Int) - 1 = 7 from rfl]
  have HA := Lib.hid (And.intro (H9.out.1.then_ m10 (fun _ _ f => f.elim)) (H9.out.2.1.mod m10 (fun f => f)))
  clear m10 hc0 k0 k4 k15 k28
  (try dsimp only); (try go_simp); repeat' (first | ((fail_if_success (with_reducible change Oper.wp _ ⟨some 102, _, _, _, _, _⟩ _ _ _ _)); first | go_values | go_skip | go_guarded | go_step | go_upon | go_back))
  refine wp_valJ (exec_make1 (P := Tryz.prog) 29 _ _ rfl 5 (.int .u8 0) 1 Tryz.underlying29 info_byte rfl 4000 4000 rfl rfl (Nat.le_refl _) (by omega) (by omega)) ?_
  have bM := Blk.new w10 5 (Array.replicate 4000 (.int .u8 0))
  have mM : Mod Nn w10 (w10.alloc (.cells (Array.replicate 4000 (.int .u8 0)) 5)) := (Mod.refl Nn w10).alloc _
  have HM := Lib.hid (And.intro bM mM)
  clear bM mM
  go_wp2_with fail
  refine (append_full (Dt := List.replicate 4000 0) (n := 1) (size := 8) (HA.out.2.mod HM.out.2 (fun f => f)) (Rd.of_blk0 HM.out.1 (by simp [bv])) (fun z hz => by rw [(List.mem_replicate.1 hz).2]; omega) (by omega) (by omega) (by omega) (by omega) (by omega) (by omega) (by omega) (by rw [fsec_4000]; omega)).mono ?_
  rintro r w11 ⟨rfl, m11⟩
  go_wp2
  go_ret
  exact ⟨rfl, m1.nn_ ((HA.out.1.nn_ HM.out.2).nn_ m11)⟩
end Go.Proofs.YtijmkbhbpbkkoaaGreat
