/- peatbanklaw17: awake (printed by wip/gen/wkawake.py). -/
import Derived.Test.YtkcpmkeckcnobaaWkA
namespace Go.Proofs.Ytkcpmkeckcnobaa
open Go.RowKit

def awE : List (List Nat) := [oneR 5, oneR 1, oneR 3]
def awL0 : List (List Nat) := ordR awE
def awL1 : List (List Nat) := ins awL0 (oneR 4)
theorem aw1 : nxt awL0 (oneK 2) true (oneK 5) = some (oneR 3) := by kernel_rfl
theorem aw2 : nxt awL0 (keyOf (oneR 3)) false (oneK 5) = none := by kernel_rfl
theorem aw3 : nxt awL1 (keyOf (oneR 3)) false (oneK 5) = some (oneR 4) := by kernel_rfl
theorem aw4 : nxt awL1 (keyOf (oneR 4)) false (oneK 5) = none := by kernel_rfl
theorem aw5 : nxt awL1 (oneK 1) true (oneK 1) = none := by kernel_rfl
theorem aw6 : awL1.length = 4 := by kernel_rfl
theorem aw7 : awL1[0]? = some (oneR 1) := by kernel_rfl
theorem aw8 : awL0.length = 3 := by kernel_rfl
theorem aw_rows : Rows 80 awE := fun r hr => by
  simp only [awE, List.mem_cons, List.not_mem_nil, or_false] at hr
  rcases hr with rfl | rfl | rfl <;> exact ⟨oneR_len _, oneR_lt (by omega)⟩
theorem aw_take : awE.take 200 = awE := rfl
theorem okK {k : Nat} (h : k < 256) : (oneK k).length = 40 ∧ ∀ z ∈ oneK k, z < 256 := ⟨oneK_len k, oneK_lt h⟩
theorem aw_flat : awE.flatten = oneR 5 ++ (oneR 1 ++ oneR 3) := by simp [awE]
theorem exec_three {w : World} {o : Oper} {a : Act} {x y z : Operand} {l m n : List Nat} (ho : o.op = .buildSlice 40 3 #[(0, x), (1, y), (2, z)]) (hx : a.eval x = .agg (bv l).toArray) (hy : a.eval y = .agg (bv m).toArray) (hz : a.eval z = .agg (bv n).toArray) (hl : l.length = 80) (hm : m.length = 80) (hn : n.length = 80) :
    (execOp a.eval o).run Try.prog w = .ok (.value (.slice (some ⟨w.heap.size, 0, none⟩) 3 3)) (w.alloc (.cells (bv (l ++ (m ++ n))).toArray 28)) := by
  have := exec_bsliceN (P := Try.prog) (w := w) (a := a) 40 28 3 _ [.agg (bv l).toArray, .agg (bv m).toArray, .agg (bv n).toArray] ho uuE infoE2 (by omega) (by omega) (by simp [hx, hy, hz, List.zipIdx]) rfl (by
    intro q hq
    simp only [List.mem_cons, List.not_mem_nil, or_false] at hq
    rcases hq with rfl | rfl | rfl
    · rw [Value.cells, bv_size, hl]
    · rw [Value.cells, bv_size, hm]
    · rw [Value.cells, bv_size, hn])
  have e : ([Value.agg (bv l).toArray, .agg (bv m).toArray, .agg (bv n).toArray].flatMap (fun v => v.cells.toList)) = bv (l ++ (m ++ n)) := by
    simp [Value.cells, bv_append]
  rwa [e] at this
set_option maxRecDepth 100000 in
set_option maxHeartbeats 6400000 in
theorem walk_awake (w : World) : Calls Try.prog 12 #[] w fun r w' => r = .returned (.bool true) ∧ Mod Nn w w' := by
  go_enter Try.func12, Try.ntmps12
  go_wp2_with fail
  refine (one_any w 5).mono ?_
  rintro r w1 ⟨rfl, m1⟩
  have H1 := Lib.hid m1
  clear m1
  go_wp2_with fail
  refine (one_any w1 1).mono ?_
  rintro r w2 ⟨rfl, m2⟩
  have H2 := Lib.hid (H1.out.nn_ m2)
  clear m2
  go_wp2_with fail
  refine (one_any w2 3).mono ?_
  rintro r w3 ⟨rfl, m3⟩
  have H3 := Lib.hid (H2.out.nn_ m3)
  clear m3
  have hs3 : w.heap.size ≤ w3.heap.size := H3.out.size
  have l5 := oneR_len 5
  have l1 := oneR_len 1
  have l3 := oneR_len 3
  go_wp2_with (first
    | (with_reducible change wpList _ _ _ (⟨some 19, _, _, _, _, _⟩ :: _) _ _
       go_must (refine wpList_val rfl (exec_three (l := oneR 5) (m := oneR 1) (n := oneR 3) rfl rfl rfl rfl l5 l1 l3) ?_)
       have b4 : Blk (w3.alloc (.cells (bv (oneR 5 ++ (oneR 1 ++ oneR 3))).toArray 28)) w3.heap.size 28 (bv (oneR 5 ++ (oneR 1 ++ oneR 3))).toArray := Blk.new _ _ _
       have m4 : Mod Nn w (w3.alloc (.cells (bv (oneR 5 ++ (oneR 1 ++ oneR 3))).toArray 28)) := H3.out.alloc _
       generalize w3.alloc (.cells (bv (oneR 5 ++ (oneR 1 ++ oneR 3))).toArray 28) = w4 at *
       rw [← aw_flat] at b4
       have hra : RowsAt w4 (some ⟨w3.heap.size, 0, none⟩) 3 awE := ⟨RdC.of_blk b4 (by rw [bv_len, aw_flat]; simp [oneR_len]), aw_rows, rfl⟩
       have H4 := Lib.hid (And.intro m4 hra)
       clear b4 m4 hra))
  refine (planted_any H4.out.2).mono ?_
  rintro r w5 ⟨b, G, v2, rfl, ht5, -, hG5, m5⟩
  rw [aw_take] at ht5
  have H5 := Lib.hid (And.intro (show TrAt w5 b awL0 G from ht5) (And.intro (H4.out.1.nn_ m5) (fun x hx => (hG5 x hx).1)))
  have hs4 : w.heap.size ≤ w4.heap.size := H4.out.1.size
  clear ht5 hG5 m5
  go_wp2_with (first
    | (with_reducible change wpList _ _ _ (⟨some 24, _, _, _, _, _⟩ :: _) _ _
       go_must (refine wpList_val rfl (exec_build_byte (P := Try.prog) 23 5 39 _ rfl Try.underlying23 size_u8t zero_keyz' (b := 2) rfl) ?_))
    | (with_reducible change wpList _ _ _ (⟨some 25, _, _, _, _, _⟩ :: _) _ _
       go_must (refine wpList_val rfl (exec_build_byte (P := Try.prog) 23 5 39 _ rfl Try.underlying23 size_u8t zero_keyz' (b := 5) rfl) ?_)))
  refine (wnew_any (κ := oneK 2) (μ := oneK 5) (okK (by omega)) (okK (by omega))).mono ?_
  rintro r w6 ⟨c, rfl, hc6, hcs, m6⟩
  have H6 := Lib.hid (And.intro hc6 (And.intro (H5.out.1.nn m6) (And.intro (H5.out.2.1.nn_ m6) (fun x hx => by have := H5.out.1.lt x hx; omega : ∀ x ∈ G, x < c))))
  have hs5 : w.heap.size ≤ w5.heap.size := H5.out.2.1.size
  have hcw : w.heap.size ≤ c := by omega
  clear hc6 m6 hcs
  have HS6 := Lib.hid (And.intro H6.out.1 (And.intro H6.out.2.1 (And.intro H6.out.2.2.1 (fun x hx => by have := H6.out.2.2.2 x hx; omega : ∀ x ∈ G, x ≠ c))))
  have hcl6 : c < w6.heap.size := H6.out.1.blk.lt
  go_wp2_with fail
  refine (next_any HS6.out.1 HS6.out.2.1).mono ?_
  rintro r w10 ⟨rfl, m10, hn10, hx10⟩
  rw [aw1] at hn10 hx10 ⊢
  have H10 := Lib.hid (And.intro (hx10 _ rfl) (And.intro (HS6.out.2.1.mod m10 (fun x hx hh => by have hh : x = c := hh; exact absurd hh (HS6.out.2.2.2 x hx))) (And.intro (HS6.out.2.2.1.new_ m10 hcw) HS6.out.2.2.2)))
  have hm10 := Lib.hid m10
  clear m10 hn10 hx10
  unfold optV
  have hs10 : w.heap.size ≤ w10.heap.size := H10.out.2.2.1.size
  go_wp2_with (first
    | (with_reducible change wpList _ _ _ (⟨some 4, Op.alloc _, _, _, _, _⟩ :: _) _ _
       go_must (refine wpList_alloc_var 28 rfl rfl info_entz ?_)
       intro w11 b11 m11 z11
       clear z11
       have H11 := Lib.hid (And.intro m11 b11)
       clear m11 b11)
    | (with_reducible change wpList _ _ _ (⟨none, Op.store _ (Operand.tmp 4) _, _, _, _, _⟩ :: _) _ _
       go_must (refine wpList_store_var 28 _ _ rfl rfl w10.heap.size (bv (oneR 3)).toArray _ _ rfl rfl H11.out.2 (size_ente (oneR_len 3)) (by rw [bv_size, (oneR_len 3)]; rfl) (bv_all _) ?_)
       intro w12 b12 m12 z12
       clear z12
       have H12 := Lib.hid (And.intro (H11.out.1.new_ m12 (Nat.le_refl _)) b12)
       clear m12 b12))
  have HS12 := Lib.hid (And.intro (H10.out.1.mod H12.out.1 (fun f => f)) (And.intro (H10.out.2.1.nn H12.out.1) (And.intro (H10.out.2.2.1.nn_ H12.out.1) H10.out.2.2.2)))
  have hs12 : w10.heap.size < w12.heap.size := H12.out.2.lt
  go_wp2_with fail
  refine (next_any HS12.out.1 HS12.out.2.1).mono ?_
  rintro r w20 ⟨rfl, m20, hn20, hx20⟩
  rw [aw2] at hn20 hx20 ⊢
  have H20 := Lib.hid (And.intro (hn20 rfl) (And.intro (HS12.out.2.1.mod m20 (fun x hx hh => by have hh : x = c := hh; exact absurd hh (HS12.out.2.2.2 x hx))) (And.intro (HS12.out.2.2.1.new_ m20 hcw) HS12.out.2.2.2)))
  have hm20 := Lib.hid m20
  clear m20 hn20 hx20
  unfold optV
  have hs20 : w.heap.size ≤ w20.heap.size := H20.out.2.2.1.size
  go_wp2_with (first
    | (with_reducible change wpList _ _ _ (⟨some 6, Op.alloc _, _, _, _, _⟩ :: _) _ _
       go_must (refine wpList_alloc_var 28 rfl rfl info_entz ?_)
       intro w21 b21 m21 z21
       clear z21
       have H21 := Lib.hid (And.intro m21 b21)
       clear m21 b21)
    | (with_reducible change wpList _ _ _ (⟨none, Op.store _ (Operand.tmp 6) _, _, _, _, _⟩ :: _) _ _
       go_must (refine wpList_store_var 28 _ _ rfl rfl w20.heap.size (bv ze).toArray _ _ rfl rfl H21.out.2 (size_ente ze_len) (by rw [bv_size, ze_len]; rfl) (bv_all _) ?_)
       intro w22 b22 m22 z22
       clear z22
       have H22 := Lib.hid (And.intro (H21.out.1.new_ m22 (Nat.le_refl _)) b22)
       clear m22 b22))
  have HS22 := Lib.hid (And.intro (H20.out.1.mod H22.out.1 (fun f => f)) (And.intro (H20.out.2.1.nn H22.out.1) (And.intro (H20.out.2.2.1.nn_ H22.out.1) H20.out.2.2.2)))
  have hs22 : w20.heap.size < w22.heap.size := H22.out.2.lt
  have hG22 : ∀ x ∈ G, x < c := H6.out.2.2.2
  have hs10c : w6.heap.size ≤ w10.heap.size := hm10.out.size
  have ha22 : Blk w22 w10.heap.size 28 (bv (oneR 3)).toArray := (H12.out.2.mod hm20.out (fun e => by have e : w10.heap.size = c := e; omega)).mod H22.out.1 (fun f => f)
  have HA22 := Lib.hid (And.intro ha22 hG22)
  clear ha22 hG22
  go_wp2_with fail
  refine (one_any w22 4).mono ?_
  rintro r w23 ⟨rfl, m23⟩
  have H23 := Lib.hid (And.intro (HS22.out.1.mod m23 (fun f => f)) (And.intro (HS22.out.2.1.nn m23) (And.intro (HS22.out.2.2.1.nn_ m23) (HA22.out.1.mod m23 (fun f => f)))))
  have hs23 : w22.heap.size ≤ w23.heap.size := m23.size
  have hs20c : w12.heap.size ≤ w20.heap.size := hm20.out.size
  clear m23
  go_wp2_with fail
  refine (tset_any H23.out.2.1 (oneR_len 4) (oneR_lt (by omega)) (by rw [aw8]; omega)).mono ?_
  rintro r w24 ⟨rfl, G2, ht24, hG24, m24⟩
  have hcG : c ∉ G := fun h => HS6.out.2.2.2 c h rfl
  have HS24 := Lib.hid (And.intro (H23.out.1.mod m24 hcG) (And.intro (show TrAt w24 b awL1 G2 from ht24) (And.intro (H23.out.2.2.1.then_ m24 (fun x hx h => by have := H5.out.2.2 x h; omega)) (fun x hx => (hG24 x hx).elim (fun h => HS6.out.2.2.2 x h) (fun h => by omega) : ∀ x ∈ G2, x ≠ c))))
  have HA24 := Lib.hid (And.intro (H23.out.2.2.2.mod m24 (fun h => by have := HA22.out.2 _ h; omega) : Blk w24 w10.heap.size 28 (bv (oneR 3)).toArray) (fun x hx => (hG24 x hx).elim (fun h => by have := H5.out.2.2 x h; omega) (fun h => by omega) : ∀ x ∈ G2, w.heap.size ≤ x))
  have hs24 : w23.heap.size ≤ w24.heap.size := m24.size
  clear ht24 hG24 m24 hcG
  go_wp2_with fail
  refine (next_any HS24.out.1 HS24.out.2.1).mono ?_
  rintro r w30 ⟨rfl, m30, hn30, hx30⟩
  rw [aw3] at hn30 hx30 ⊢
  have H30 := Lib.hid (And.intro (hx30 _ rfl) (And.intro (HS24.out.2.1.mod m30 (fun x hx hh => by have hh : x = c := hh; exact absurd hh (HS24.out.2.2.2 x hx))) (And.intro (HS24.out.2.2.1.new_ m30 hcw) HS24.out.2.2.2)))
  have hm30 := Lib.hid m30
  clear m30 hn30 hx30
  unfold optV
  have hs30 : w.heap.size ≤ w30.heap.size := H30.out.2.2.1.size
  go_wp2_with (first
    | (with_reducible change wpList _ _ _ (⟨some 8, Op.alloc _, _, _, _, _⟩ :: _) _ _
       go_must (refine wpList_alloc_var 28 rfl rfl info_entz ?_)
       intro w31 b31 m31 z31
       clear z31
       have H31 := Lib.hid (And.intro m31 b31)
       clear m31 b31)
    | (with_reducible change wpList _ _ _ (⟨none, Op.store _ (Operand.tmp 8) _, _, _, _, _⟩ :: _) _ _
       go_must (refine wpList_store_var 28 _ _ rfl rfl w30.heap.size (bv (oneR 4)).toArray _ _ rfl rfl H31.out.2 (size_ente (oneR_len 4)) (by rw [bv_size, (oneR_len 4)]; rfl) (bv_all _) ?_)
       intro w32 b32 m32 z32
       clear z32
       have H32 := Lib.hid (And.intro (H31.out.1.new_ m32 (Nat.le_refl _)) b32)
       clear m32 b32))
  have HS32 := Lib.hid (And.intro (H30.out.1.mod H32.out.1 (fun f => f)) (And.intro (H30.out.2.1.nn H32.out.1) (And.intro (H30.out.2.2.1.nn_ H32.out.1) H30.out.2.2.2)))
  have hs32 : w30.heap.size < w32.heap.size := H32.out.2.lt
  go_wp2_with fail
  refine (next_any HS32.out.1 HS32.out.2.1).mono ?_
  rintro r w40 ⟨rfl, m40, hn40, hx40⟩
  rw [aw4] at hn40 hx40 ⊢
  have H40 := Lib.hid (And.intro (hn40 rfl) (And.intro (HS32.out.2.1.mod m40 (fun x hx hh => by have hh : x = c := hh; exact absurd hh (HS32.out.2.2.2 x hx))) (And.intro (HS32.out.2.2.1.new_ m40 hcw) HS32.out.2.2.2)))
  have hm40 := Lib.hid m40
  clear m40 hn40 hx40
  unfold optV
  have hs40 : w.heap.size ≤ w40.heap.size := H40.out.2.2.1.size
  go_wp2_with (first
    | (with_reducible change wpList _ _ _ (⟨some 10, Op.alloc _, _, _, _, _⟩ :: _) _ _
       go_must (refine wpList_alloc_var 28 rfl rfl info_entz ?_)
       intro w41 b41 m41 z41
       clear z41
       have H41 := Lib.hid (And.intro m41 b41)
       clear m41 b41)
    | (with_reducible change wpList _ _ _ (⟨none, Op.store _ (Operand.tmp 10) _, _, _, _, _⟩ :: _) _ _
       go_must (refine wpList_store_var 28 _ _ rfl rfl w40.heap.size (bv ze).toArray _ _ rfl rfl H41.out.2 (size_ente ze_len) (by rw [bv_size, ze_len]; rfl) (bv_all _) ?_)
       intro w42 b42 m42 z42
       clear z42
       have H42 := Lib.hid (And.intro (H41.out.1.new_ m42 (Nat.le_refl _)) b42)
       clear m42 b42))
  have HS42 := Lib.hid (And.intro (H40.out.1.mod H42.out.1 (fun f => f)) (And.intro (H40.out.2.1.nn H42.out.1) (And.intro (H40.out.2.2.1.nn_ H42.out.1) H40.out.2.2.2)))
  have hs42 : w40.heap.size < w42.heap.size := H42.out.2.lt
  have hs24c : w24.heap.size ≤ w30.heap.size := hm30.out.size
  have hs32c : w32.heap.size ≤ w40.heap.size := hm40.out.size
  have ha42 : Blk w42 w10.heap.size 28 (bv (oneR 3)).toArray := (((HA24.out.1.mod hm30.out (fun e => by have e : w10.heap.size = c := e; omega)).mod H32.out.1 (fun f => f)).mod hm40.out (fun e => by have e : w10.heap.size = c := e; omega)).mod H42.out.1 (fun f => f)
  have hb42 : Blk w42 w30.heap.size 28 (bv (oneR 4)).toArray := (H32.out.2.mod hm40.out (fun e => by have e : w30.heap.size = c := e; omega)).mod H42.out.1 (fun f => f)
  have HA42 := Lib.hid (And.intro ha42 hb42)
  clear ha42 hb42
  go_wp2_with (first
    | (with_reducible change wpList _ _ _ (⟨some 52, _, _, _, _, _⟩ :: _) _ _
       go_must (refine wpList_val rfl (exec_build_byte (P := Try.prog) 23 5 39 _ rfl Try.underlying23 size_u8t zero_keyz' (b := 1) rfl) ?_))
    | (with_reducible change wpList _ _ _ (⟨some 53, _, _, _, _, _⟩ :: _) _ _
       go_must (refine wpList_val rfl (exec_build_byte (P := Try.prog) 23 5 39 _ rfl Try.underlying23 size_u8t zero_keyz' (b := 1) rfl) ?_)))
  refine (wnew_any (κ := oneK 1) (μ := oneK 1) (okK (by omega)) (okK (by omega))).mono ?_
  rintro r w44 ⟨c2, rfl, hc44, hcs44, m44⟩
  have H44 := Lib.hid (And.intro hc44 (And.intro (HS42.out.2.1.nn m44) (And.intro (HS42.out.2.2.1.nn_ m44) (And.intro (HA42.out.1.mod m44 (fun f => f)) (HA42.out.2.mod m44 (fun f => f))))))
  have hGc2 : ∀ x ∈ G2, x ≠ c2 := fun x hx => by have := HS42.out.2.1.lt x hx; omega
  have HGc2 := Lib.hid hGc2
  clear hc44 m44 hGc2
  go_wp2_with fail
  refine (next_any H44.out.1 H44.out.2.1).mono ?_
  rintro r w50 ⟨rfl, m50, -, -⟩
  rw [aw5]
  have hs42 : w.heap.size ≤ w42.heap.size := HS42.out.2.2.1.size
  have h1042 : w10.heap.size < w42.heap.size := HA42.out.1.lt
  have h3042 : w30.heap.size < w42.heap.size := HA42.out.2.lt
  have H50 := Lib.hid (And.intro (H44.out.2.1.mod m50 (fun x hx hh => by have hh : x = c2 := hh; exact HGc2.out x hx hh)) (And.intro (H44.out.2.2.1.new_ m50 (by omega)) (And.intro (H44.out.2.2.2.1.mod m50 (fun e => by have e : w10.heap.size = c2 := e; omega)) (H44.out.2.2.2.2.mod m50 (fun e => by have e : w30.heap.size = c2 := e; omega)))))
  have hs50 : w.heap.size ≤ w50.heap.size := H50.out.2.1.size
  clear m50
  unfold optV
  go_wp2_with (first
    | (with_reducible change wpList _ _ _ (⟨some 12, Op.alloc _, _, _, _, _⟩ :: _) _ _
       go_must (refine wpList_alloc_var 28 rfl rfl info_entz ?_)
       intro w51 b51 m51 z51
       clear z51
       have H51 := Lib.hid (And.intro m51 b51)
       clear m51 b51)
    | (with_reducible change wpList _ _ _ (⟨none, Op.store _ (Operand.tmp 12) _, _, _, _, _⟩ :: _) _ _
       go_must (refine wpList_store_var 28 _ _ rfl rfl w50.heap.size (bv ze).toArray _ _ rfl rfl H51.out.2 (size_ente ze_len) (by rw [bv_size, ze_len]; rfl) (bv_all _) ?_)
       intro w52 b52 m52 z52
       clear z52 b52
       have H52 := Lib.hid (H51.out.1.new_ m52 (Nat.le_refl _))
       clear m52))
  have H53 := Lib.hid (And.intro (H50.out.1.nn H52.out) (And.intro (H50.out.2.1.nn_ H52.out) (And.intro (H50.out.2.2.1.mod H52.out (fun f => f)) (H50.out.2.2.2.mod H52.out (fun f => f)))))
  refine (wall_any (p := .pointer (some ⟨b, 0, none⟩)) H53.out.1.srt H53.out.1.rows (by rw [aw6]; omega) (fun wz κ wi hz h1 h2 => tafter_any (H53.out.1.nn hz) h1 h2)).mono ?_
  rintro r w54 ⟨v14, rfl, ho54, m54⟩
  obtain ⟨A14, c14, rfl, hc14, -, hr14, -⟩ := ho54.slice
  rw [aw6] at hr14 hc14 ⊢
  obtain ⟨g14, off14, rfl, hcell14⟩ := hr14.row H53.out.1.rows aw7 (by omega)
  have hat : ∀ w', Mod Nn w54 w' → ∀ q v, (bv (oneR 1))[q]? = some v → w'.cell? ⟨g14, off14 + 0 * 80 + q, none⟩ = some v := fun w' hm q v hq => by
    have h1 := hcell14 q v hq
    rw [hm.cell (p := ⟨g14, off14 + 0 * 80 + q, none⟩) (lt_of_cell_ h1) (fun f => f)]
    exact h1
  have H54 := Lib.hid (And.intro (H53.out.2.1.nn_ m54) (And.intro (H53.out.2.2.1.mod m54 (fun f => f)) (And.intro (H53.out.2.2.2.mod m54 (fun f => f)) hat)))
  clear ho54 m54 hr14 hcell14 hat
  have l4 := oneR_len 4
  have hzz : ∀ k, k < 256 → ∀ z ∈ oneR k, z < 256 := fun k hk => oneR_lt hk
  go_wp2_with fail
  -- zzP
  refine wp_region_planC (fun w' => Mod Nn w54 w') [(0, true), (1, true), (2, true), (3, false), (4, true), (5, true), (6, true), (7, true), (8, true), (9, true), (10, true), (11, true), (12, true), (13, true), (14, true), (15, false), (16, true), (17, true), (18, true), (19, true), (20, true), (21, true), (22, true), (23, true), (24, true), (25, true), (26, true), (27, true), (28, true), (29, true), (30, true), (31, true), (32, true), (33, true), (34, true), (35, false), (36, true), (37, true), (38, true)] (by kernel_rfl) (by kernel_rfl) (Mod.refl Nn w54).drew ?_
  iterate 2 (refine pc_pure rfl rfl (fun K hK => ?_); go_simp; refine hK _ ?_; clear hK K)
  refine pc_take (.agg (bv (oneR 3)).toArray) rfl rfl (fun w' hS => exec_load_row (P := Try.prog) (g := w10.heap.size) (cs := (bv (oneR 3)).toArray) 28 (.tmp 4) rfl rfl (H54.out.2.1.mod hS (fun f => f)) Try.underlying28 rfl (size_ente l3)) (fun K hK => ?_); go_simp; refine hK _ ?_; clear hK K
  refine pc_call rfl rfl (fun K hK => ?_); go_simp; refine ⟨_, _, ⟨rfl, rfl⟩, hK _ _ _ ?_⟩; clear hK K
  refine (one_any _ 3).mono ?_
  rintro r w55 ⟨rfl, m55⟩
  refine ⟨_, rfl, m55.of_drew, ?_⟩
  have H55 := Lib.hid m55.of_drew
  clear m55
  refine pc_take (.bool true) rfl rfl (fun w' _ => exec_eql_agg (P := Try.prog) (b := true) 28 28 _ _ rfl rfl rfl Try.eqGuardType28 (eqE l3 (hzz 3 (by omega)))) (fun K hK => ?_); go_simp; refine hK _ ?_; clear hK K
  iterate 9 (refine pc_pure rfl rfl (fun K hK => ?_); go_simp; refine hK _ ?_; clear hK K)
  refine pc_take (.agg (bv (oneR 4)).toArray) rfl rfl (fun w' hS => exec_load_row (P := Try.prog) (g := w30.heap.size) (cs := (bv (oneR 4)).toArray) 28 (.tmp 8) rfl rfl (H54.out.2.2.1.mod hS (fun f => f)) Try.underlying28 rfl (size_ente l4)) (fun K hK => ?_); go_simp; refine hK _ ?_; clear hK K
  refine pc_call rfl rfl (fun K hK => ?_); go_simp; refine ⟨_, _, ⟨rfl, rfl⟩, hK _ _ _ ?_⟩; clear hK K
  refine (one_any _ 4).mono ?_
  rintro r w56 ⟨rfl, m56⟩
  refine ⟨_, rfl, H55.out.nn_ m56, ?_⟩
  have H56 := Lib.hid (H55.out.nn_ m56)
  clear m56
  refine pc_take (.bool true) rfl rfl (fun w' _ => exec_eql_agg (P := Try.prog) (b := true) 28 28 _ _ rfl rfl rfl Try.eqGuardType28 (eqE l4 (hzz 4 (by omega)))) (fun K hK => ?_); go_simp; refine hK _ ?_; clear hK K
  iterate 16 (refine pc_pure rfl rfl (fun K hK => ?_); go_simp; refine hK _ ?_; clear hK K)
  refine pc_take (.pointer (some ⟨g14, off14 + 0 * 80, none⟩)) rfl rfl (fun w' _ => exec_elem (P := Try.prog) (g := g14) (off := off14) (q := 0) 40 (.tmp 92) (.const (.int .i64 0)) rfl 28 80 uuE sizeE rfl rfl (by omega)) (fun K hK => ?_); go_simp; refine hK _ ?_; clear hK K
  refine pc_take (.agg (bv (oneR 1)).toArray) rfl rfl (fun w' hS => exec_load_cells (P := Try.prog) (b := g14) (off := off14 + 0 * 80) (cs := bv (oneR 1)) 28 (.tmp 93) rfl rfl (H54.out.2.2.2 w' hS) Try.underlying28 rfl (by rw [bv_len, l1]; exact size_entT)) (fun K hK => ?_); go_simp; refine hK _ ?_; clear hK K
  refine pc_call rfl rfl (fun K hK => ?_); go_simp; refine ⟨_, _, ⟨rfl, rfl⟩, hK _ _ _ ?_⟩; clear hK K
  refine (one_any _ 1).mono ?_
  rintro r w57 ⟨rfl, m57⟩
  refine ⟨_, rfl, H56.out.nn_ m57, ?_⟩
  have H57 := Lib.hid (H56.out.nn_ m57)
  clear m57
  refine pc_take (.bool true) rfl rfl (fun w' _ => exec_eql_agg (P := Try.prog) (b := true) 28 28 _ _ rfl rfl rfl Try.eqGuardType28 (eqE l1 (hzz 1 (by omega)))) (fun K hK => ?_); go_simp; refine hK _ ?_; clear hK K
  iterate 2 (refine pc_pure rfl rfl (fun K hK => ?_); go_simp; refine hK _ ?_; clear hK K)
  refine pc_nil ?_
  go_wp2
  go_ret
  exact ⟨rfl, H54.out.1.nn_ H57.out⟩
end Go.Proofs.Ytkcpmkeckcnobaa
