/- Own lemmas of several kinds, put together: Tr30, Tr31. -/
import Derived.Test.YtkcpmkeckcnobaaTrH
import Derived.Test.YtkcpmkeckcnobaaKitF
import Derived.Test.YtkcpmkeckcnobaaBytesP
/- law16's keys and entries, made of numbers. -/
namespace Go.Proofs.Ytkcpmkeckcnobaa
open Go.RowKit

def kn (k : Nat) : List Nat := k / 100 :: (List.replicate 38 0 ++ [k % 100])
def en (k v : Nat) : List Nat := kn k ++ (0 :: 0 :: 0 :: v :: List.replicate 36 0)
def pk (n : Int) : Nat := (pick n 1000).toNat
theorem pk_spec (n : Int) : pick n 1000 = (pk n : Int) ∧ pk n < 1000 := by
  have := pick_range n 1000 (by omega)
  unfold pk; omega
theorem kn_len (k : Nat) : (kn k).length = 40 := by simp [kn]
theorem kn_lt {k : Nat} (h : k < 1000) : ∀ z ∈ kn k, z < 256 := by
  intro z hz
  simp only [kn, List.mem_cons, List.mem_append, List.mem_replicate, List.mem_nil_iff, or_false] at hz
  omega
theorem en_len (k v : Nat) : (en k v).length = 80 := by simp [en, kn_len]
theorem en_lt {k v : Nat} (h : k < 1000) (hv : v < 256) : ∀ z ∈ en k v, z < 256 := by
  intro z hz
  rcases List.mem_append.1 hz with hz | hz
  · exact kn_lt h z hz
  · simp only [List.mem_cons, List.mem_replicate] at hz
    omega
theorem keyOf_en (k v : Nat) : keyOf (en k v) = kn k := by
  unfold keyOf en
  rw [List.take_append_of_le_length (by rw [kn_len]; omega), List.take_of_length_le (by rw [kn_len]; omega)]
theorem kn_inj {a b : Nat} (h : kn a = kn b) : a = b := by
  simp only [kn, List.cons.injEq] at h
  have h2 := List.append_cancel_left h.2
  simp only [List.cons.injEq, and_true] at h2
  have := h.1
  omega
theorem size_u8e : (Try.prog.info? 5).map (·.size) = some 1 := by kernel_rfl
section
set_option maxRecDepth 100000 in
set_option maxHeartbeats 1600000 in
theorem key16_any (w : World) (n : Int) : Calls Try.prog 30 #[.int .i64 n] w fun e w' => e = .returned (.agg (bv (kn (pk n))).toArray) ∧ Mod Nn w w' := by
  obtain ⟨h1, h2⟩ := pk_spec n
  generalize pk n = k at *
  have hq : Int.tdiv (k : Int) 100 = ((k / 100 : Nat) : Int) := rfl
  have hr : Int.tmod (k : Int) 100 = ((k % 100 : Nat) : Int) := rfl
  have HP := Lib.hid h1
  clear h1
  go_enter Try.func30, Try.ntmps30
  go_wp2_with (first
    | (with_reducible change wpList _ _ _ (⟨some 2, Op.alloc _, _, _, _, _⟩ :: _) _ _
       go_must (refine wpList_alloc_var 23 rfl rfl info_keyz ?_)
       intro w2 b2 m2 z2
       clear z2
       have H2 := Lib.hid (And.intro m2 b2)
       clear m2 b2))
  refine (pick_any n 1000 _ (by omega)).mono ?_
  rintro r w3 ⟨rfl, rfl⟩
  rw [HP.out]
  have hs2 : w.heap.size < w2.heap.size := H2.out.2.lt
  go_wp2_with (first
    | (with_reducible change wpList _ _ _ (⟨some 4, Op.alloc _, _, _, _, _⟩ :: _) _ _
       go_must (refine wpList_alloc_var 23 rfl rfl info_keyz ?_)
       intro w4 b4 m4 z4
       clear z4
       have H4 := Lib.hid (And.intro (H2.out.1.nn_ m4) (And.intro (H2.out.2.mod m4 (fun f => f)) b4))
       clear m4 b4)
    | (with_reducible change wpList _ _ _ (⟨none, Op.store _ (Operand.tmp 10) _, _, _, _, _⟩ :: _) _ _
       go_must (refine wpList_unit rfl (exec_store1 (P := Try.prog) (ad := ⟨w2.heap.size, 0, none⟩) (v := .int .u8 ((k / 100 : Nat) : Int)) (u := .int .u8 0) 5 _ _ rfl rfl rfl (H4.out.2.2.cell 0) (H4.out.2.2.frozen 0) rfl rfl rfl size_u8e) ?_)
       have b5 := H4.out.2.2.set_ 0 (.int .u8 ((k / 100 : Nat) : Int))
       have m5 : Mod (At w2.heap.size) w4 (w4.setCell ⟨w2.heap.size, 0, none⟩ (.int .u8 ((k / 100 : Nat) : Int))) := Mod.cellAt _ _ _ _
       generalize w4.setCell ⟨w2.heap.size, 0, none⟩ (.int .u8 ((k / 100 : Nat) : Int)) = w5 at *
       have H5 := Lib.hid (And.intro (H4.out.1.new_ m5 (by omega)) (And.intro (H4.out.2.1.mod m5 (fun e => by have e : w.heap.size = w2.heap.size := e; omega)) b5))
       clear b5 m5)
    | (with_reducible change wpList _ _ _ (⟨none, Op.store _ (Operand.tmp 14) _, _, _, _, _⟩ :: _) _ _
       go_must (refine wpList_unit rfl (exec_store1 (P := Try.prog) (ad := ⟨w2.heap.size, 39, none⟩) (v := .int .u8 ((k % 100 : Nat) : Int)) (u := .int .u8 0) 5 _ _ rfl rfl rfl (H5.out.2.2.cell 39) (H5.out.2.2.frozen 39) rfl rfl rfl size_u8e) ?_)
       have b6 : Blk (w5.setCell ⟨w2.heap.size, 39, none⟩ (.int .u8 ((k % 100 : Nat) : Int))) w2.heap.size 23 (bv (kn k)).toArray := H5.out.2.2.set_ 39 (.int .u8 ((k % 100 : Nat) : Int))
       have m6 : Mod (At w2.heap.size) w5 (w5.setCell ⟨w2.heap.size, 39, none⟩ (.int .u8 ((k % 100 : Nat) : Int))) := Mod.cellAt _ _ _ _
       generalize w5.setCell ⟨w2.heap.size, 39, none⟩ (.int .u8 ((k % 100 : Nat) : Int)) = w6 at *
       have H6 := Lib.hid (And.intro (H5.out.1.new_ m6 (by omega)) (And.intro (H5.out.2.1.mod m6 (fun e => by have e : w.heap.size = w2.heap.size := e; omega)) b6))
       clear b6 m6)
    | (with_reducible change wpList _ _ _ (⟨some 15, _, _, _, _, _⟩ :: _) _ _
       go_must (refine wpList_val rfl (exec_load_row (P := Try.prog) (g := w2.heap.size) (cs := (bv (kn k)).toArray) 23 _ rfl rfl H6.out.2.2 Try.underlying23 rfl (size_keyk (kn_len k))) ?_))
    | (with_reducible change wpList _ _ _ (⟨none, Op.store _ (Operand.tmp 2) _, _, _, _, _⟩ :: _) _ _
       go_must (refine wpList_store_var 23 _ _ rfl rfl w.heap.size (bv (kn k)).toArray _ _ rfl rfl H6.out.2.1 (size_keyk (kn_len k)) (by rw [bv_size, kn_len]; rfl) (bv_all _) ?_)
       intro w7 b7 m7 z7
       clear z7
       have H7 := Lib.hid (And.intro (H6.out.1.new_ m7 (Nat.le_refl _)) b7)
       clear m7 b7))
  exact bodyPost_ret (results_cell_row (P := Try.prog) rfl _ w7 _ _ _ (0, 0) _ rfl H7.out.2 Try.underlying23 rfl (size_keyk (kn_len k))) rfl ⟨rfl, H7.out.1⟩
end
section
def deedV (kd n : Int) (v : Nat) : Value := .agg #[.int .i64 kd, .int .i64 n, .int .u8 (v : Int)]
theorem exec_entK {w : World} {o : Oper} {a : Act} {x : Operand} {κ : List Nat} (ho : o.op = .build 28 #[(0, x)]) (hx : a.eval x = .agg (bv κ).toArray) (hκ : κ.length = 40) : (execOp a.eval o).run Try.prog w = .ok (.value (.agg (bv (κ ++ List.replicate 40 0)).toArray)) w := by
  have hc : cellsOf [Value.agg (bv κ).toArray] = bv κ := by simp [cellsOf, Value.cells]
  have := exec_build_seq (P := Try.prog) (w := w) (a := a) 28 _ [.agg (bv κ).toArray] ho (z := .agg (bv ze).toArray) (by kernel_rfl) (zs := bv ze) rfl (by rw [hc, bv_len, bv_len, hκ]; decide) Try.underlying28 [(0, 40), (40, 40)] (by kernel_rfl)
    (fun i q hq => by
      have e : offs 0 [Value.agg (bv κ).toArray] = [(0, 40)] := by simp [offs, Value.cells, bv_len, hκ]
      rw [e] at hq
      match i, hq with
      | 0, hq => exact hq) (by simp [hx, List.zipIdx])
  rw [hc, bv_len, hκ, bv_drop, ← bv_append] at this
  exact this
end
end Go.Proofs.Ytkcpmkeckcnobaa

/- law16's entry. -/
namespace Go.Proofs.Ytkcpmkeckcnobaa
open Go.RowKit

theorem size_deed : (Try.prog.info? 69).map (·.size) = some 3 := by kernel_rfl
section
set_option maxRecDepth 100000 in
set_option maxHeartbeats 1600000 in
theorem entry16_any (w : World) (kd n : Int) (v : Nat) (hv : v < 256) : Calls Try.prog 29 #[deedV kd n v] w fun e w' => e = .returned (.agg (bv (en (pk n) v)).toArray) ∧ Mod Nn w w' := by
  have h2 := (pk_spec n).2
  obtain ⟨k, hk⟩ : ∃ k, pk n = k := ⟨_, rfl⟩
  rw [hk] at h2 ⊢
  have HK := Lib.hid hk
  clear hk
  unfold deedV
  go_enter Try.func29, Try.ntmps29
  go_wp2_with (first
    | (with_reducible change wpList _ _ _ (⟨some 1, Op.box _ _, _, _, _, _⟩ :: _) _ _
       go_must (refine wpList_box_var 69 _ rfl rfl #[.int .i64 kd, .int .i64 n, .int .u8 (v : Int)] rfl ?_)
       intro w1 b1 m1 z1
       clear z1
       have hs1 : w.heap.size < w1.heap.size := b1.lt
       have H1 := Lib.hid (And.intro m1 b1)
       clear m1 b1)
    | (with_reducible change wpList _ _ _ (⟨some 2, Op.alloc _, _, _, _, _⟩ :: _) _ _
       go_must (refine wpList_alloc_var 28 rfl rfl info_entz ?_)
       intro w2 b2 m2 z2
       clear z2
       have hs2 : w1.heap.size < w2.heap.size := b2.lt
       have H2 := Lib.hid (And.intro (H1.out.1.nn_ m2) (And.intro (H1.out.2.mod m2 (fun f => f)) b2))
       clear m2 b2)
    | (with_reducible change wpList _ _ _ (⟨some 5, _, _, _, _, _⟩ :: _) _ _
       go_must (refine wpList_val rfl (exec_load1 (P := Try.prog) (v := .int .i64 n) (ad := ⟨w.heap.size, 1, none⟩) 3 _ rfl rfl (H2.out.2.1.cell 1) Try.underlying3 rfl) ?_)))
  refine (key16_any w2 n).mono ?_
  rintro r w3 ⟨rfl, m3⟩
  have hs3 : w2.heap.size ≤ w3.heap.size := m3.size
  have H3 := Lib.hid (And.intro (H2.out.1.nn_ m3) (And.intro (H2.out.2.1.mod m3 (fun f => f)) (H2.out.2.2.mod m3 (fun f => f))))
  clear m3
  rw [HK.out]
  go_wp2_with (first
    | (with_reducible change wpList _ _ _ (⟨some 7, _, _, _, _, _⟩ :: _) _ _
       go_must (refine wpList_val rfl (exec_entK (κ := kn k) rfl rfl (kn_len k)) ?_))
    | (with_reducible change wpList _ _ _ (⟨some 3, Op.alloc _, _, _, _, _⟩ :: _) _ _
       go_must (refine wpList_alloc_var 28 rfl rfl info_entz ?_)
       intro w4 b4 m4 z4
       clear z4
       have H4 := Lib.hid (And.intro (H3.out.1.nn_ m4) (And.intro (H3.out.2.1.mod m4 (fun f => f)) (And.intro (H3.out.2.2.mod m4 (fun f => f)) b4)))
       clear m4 b4)
    | (with_reducible change wpList _ _ _ (⟨none, Op.store _ (Operand.tmp 3) _, _, _, _, _⟩ :: _) _ _
       go_must (refine wpList_store_var 28 _ _ rfl rfl w3.heap.size (bv (kn k ++ List.replicate 40 0)).toArray _ _ rfl rfl H4.out.2.2.2 (size_ente (by rw [List.length_append, kn_len]; rfl)) (by rw [bv_size, List.length_append, kn_len]; rfl) (bv_all _) ?_)
       intro w5 b5 m5 z5
       clear z5
       have H5 := Lib.hid (And.intro (H4.out.1.new_ m5 (by omega)) (And.intro (H4.out.2.1.mod m5 (fun e => by have e : w.heap.size = w3.heap.size := e; omega)) (And.intro (H4.out.2.2.1.mod m5 (fun e => by have e : w1.heap.size = w3.heap.size := e; omega)) b5)))
       clear m5 b5)
    | (with_reducible change wpList _ _ _ (⟨some 9, _, _, _, _, _⟩ :: _) _ _
       go_must (refine wpList_val rfl (exec_load1 (P := Try.prog) (v := .int .u8 (v : Int)) (ad := ⟨w.heap.size, 2, none⟩) 5 _ rfl rfl (H5.out.2.1.cell 2) Try.underlying5 rfl) ?_))
    | (with_reducible change wpList _ _ _ (⟨none, Op.store _ (Operand.tmp 11) _, _, _, _, _⟩ :: _) _ _
       go_must (refine wpList_unit rfl (exec_store1 (P := Try.prog) (ad := ⟨w3.heap.size, 43, none⟩) (v := .int .u8 (v : Int)) (u := .int .u8 0) 5 _ _ rfl rfl rfl (H5.out.2.2.2.cell 43) (H5.out.2.2.2.frozen 43) rfl rfl rfl size_u8e) ?_)
       have b6 : Blk (w5.setCell ⟨w3.heap.size, 43, none⟩ (.int .u8 (v : Int))) w3.heap.size 28 (bv (en k v)).toArray := H5.out.2.2.2.set_ 43 (.int .u8 (v : Int))
       have m6 : Mod (At w3.heap.size) w5 (w5.setCell ⟨w3.heap.size, 43, none⟩ (.int .u8 (v : Int))) := Mod.cellAt _ _ _ _
       generalize w5.setCell ⟨w3.heap.size, 43, none⟩ (.int .u8 (v : Int)) = w6 at *
       have H6 := Lib.hid (And.intro (H5.out.1.new_ m6 (by omega)) (And.intro (H5.out.2.2.1.mod m6 (fun e => by have e : w1.heap.size = w3.heap.size := e; omega)) b6))
       clear b6 m6)
    | (with_reducible change wpList _ _ _ (⟨some 12, _, _, _, _, _⟩ :: _) _ _
       go_must (refine wpList_val rfl (exec_load_row (P := Try.prog) (g := w3.heap.size) (cs := (bv (en k v)).toArray) 28 _ rfl rfl H6.out.2.2 Try.underlying28 rfl (size_ente (en_len k v))) ?_))
    | (with_reducible change wpList _ _ _ (⟨none, Op.store _ (Operand.tmp 2) _, _, _, _, _⟩ :: _) _ _
       go_must (refine wpList_store_var 28 _ _ rfl rfl w1.heap.size (bv (en k v)).toArray _ _ rfl rfl H6.out.2.1 (size_ente (en_len k v)) (by rw [bv_size, en_len]; rfl) (bv_all _) ?_)
       intro w7 b7 m7 z7
       clear z7
       have H7 := Lib.hid (And.intro (H6.out.1.new_ m7 (by omega)) b7)
       clear m7 b7))
  exact bodyPost_ret (results_cell_row (P := Try.prog) rfl _ w7 _ _ _ (0, 0) _ rfl H7.out.2 Try.underlying28 rfl (size_ente (en_len k v))) rfl ⟨rfl, H7.out.1⟩
end
end Go.Proofs.Ytkcpmkeckcnobaa
