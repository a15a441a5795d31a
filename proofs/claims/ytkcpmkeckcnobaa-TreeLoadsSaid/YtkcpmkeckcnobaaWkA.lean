/- Own lemmas of several kinds, put together: Wk1, RwEq, Wk2, Wk3, Wk4. -/
import Derived.Test.YtkcpmkeckcnobaaTrH
import Derived.Test.YtkcpmkeckcnobaaWk0
import Derived.Test.YtkcpmkeckcnobaaKitF
import Derived.Deep.Cut
import Derived.Deep.DeepCutAuto
import Derived.Test.YtkcpmkeckcnobaaNdA
/- walk.New; (*walk.Cursor).Next. -/
namespace Go.Proofs.Ytkcpmkeckcnobaa
open Go.RowKit

theorem instr_mkfunc : ∀ (fn : Fn) (first cap : Array Value) (w : World), (Instr.makeFunc fn first cap).run Try.prog w = .ok (.func fn first cap) w := fun _ _ _ _ => rfl
/-- After, of this tree -/
def fnV (p : Value) : Value := .func (.func 36) #[p] #[]
def curL (p : Value) (at_ be : List Nat) (wi : Bool) : List Value := fnV p :: (bv at_ ++ (bv be ++ [.bool wi]))
theorem curL_len {p : Value} {at_ be : List Nat} {wi : Bool} (h : at_.length = 40) (h' : be.length = 40) : (curL p at_ be wi).length = 82 := by simp [curL, bv_len, h, h']
/-- a cursor over what p points to -/
structure CurAt (w : World) (c : Nat) (p : Value) (at_ be : List Nat) (wi : Bool) : Prop where
  blk : Blk w c 33 (curL p at_ be wi).toArray
  al : at_.length = 40 ∧ ∀ z ∈ at_, z < 256
  bl : be.length = 40 ∧ ∀ z ∈ be, z < 256
section
variable {w w' : World} {S : Nat → Prop} {c : Nat} {p : Value} {at_ be : List Nat} {wi : Bool}
theorem CurAt.mod (h : CurAt w c p at_ be wi) (hm : Mod S w w') (hS : ¬ S c) : CurAt w' c p at_ be wi := ⟨h.blk.mod hm hS, h.al, h.bl⟩
theorem CurAt.fn (h : CurAt w c p at_ be wi) : w.cell? ⟨c, 0, none⟩ = some (fnV p) := h.blk.cell 0
theorem CurAt.atc (h : CurAt w c p at_ be wi) : ∀ j v, (bv at_)[j]? = some v → w.cell? ⟨c, 1 + j, none⟩ = some v := fun j v hj => by
  rw [h.blk.cell, List.getElem?_toArray]
  unfold curL
  rw [Nat.add_comm, List.getElem?_cons_succ, List.getElem?_append_left (List.getElem?_eq_some_iff.1 hj).1]
  exact hj
theorem CurAt.bec (h : CurAt w c p at_ be wi) : ∀ j v, (bv be)[j]? = some v → w.cell? ⟨c, 41 + j, none⟩ = some v := fun j v hj => by
  rw [h.blk.cell, List.getElem?_toArray]
  unfold curL
  rw [show 41 + j = (40 + j) + 1 from by omega, List.getElem?_cons_succ, List.getElem?_append_right (by rw [bv_len, h.al.1]; omega), bv_len, h.al.1, Nat.add_sub_cancel_left, List.getElem?_append_left (List.getElem?_eq_some_iff.1 hj).1]
  exact hj
theorem CurAt.wic (h : CurAt w c p at_ be wi) : w.cell? ⟨c, 81, none⟩ = some (.bool wi) := by
  rw [h.blk.cell, List.getElem?_toArray]
  unfold curL
  rw [List.getElem?_cons_succ, List.getElem?_append_right (by rw [bv_len, h.al.1]; omega), bv_len, h.al.1, List.getElem?_append_right (by rw [bv_len, h.bl.1]; omega), bv_len, h.bl.1]
  rfl
end
set_option maxRecDepth 100000
theorem zero_cur : (Try.prog.info? 33).map (·.zero) = some (some (.agg (Value.nilFunc :: bv (List.replicate 80 0) ++ [Value.bool false]).toArray)) := by kernel_rfl
theorem exec_cur {w : World} {o : Oper} {a : Act} {x0 x1 x2 : Operand} {p : Value} {at_ be : List Nat} (ho : o.op = .build 33 #[(0, x0), (1, x1), (2, x2), (3, .const (.bool true))]) (h0 : a.eval x0 = fnV p) (h1 : a.eval x1 = .agg (bv at_).toArray) (h2 : a.eval x2 = .agg (bv be).toArray) (ha : at_.length = 40) (hb : be.length = 40) :
    (execOp a.eval o).run Try.prog w = .ok (.value (.agg (curL p at_ be true).toArray)) w := by
  have hc : cellsOf [fnV p, .agg (bv at_).toArray, .agg (bv be).toArray, .bool true] = curL p at_ be true := by
    simp [cellsOf, curL, Value.cells, fnV]
  have hl := curL_len (p := p) (wi := true) ha hb
  have := exec_build_seq (P := Try.prog) (w := w) (a := a) 33 _ [fnV p, .agg (bv at_).toArray, .agg (bv be).toArray, .bool true] ho zero_cur (zs := Value.nilFunc :: bv (List.replicate 80 0) ++ [Value.bool false]) rfl (by rw [hc, hl]; simp [bv_len]) Try.underlying33 [(0, 1), (1, 40), (41, 40), (81, 1)] (by kernel_rfl)
    (fun i q hq => by
      have e : offs 0 [fnV p, .agg (bv at_).toArray, .agg (bv be).toArray, .bool true] = [(0, 1), (1, 40), (41, 40), (81, 1)] := by
        simp [offs, fnV, Value.cells, bv_len, ha, hb]
      rwa [e] at hq) (by simp [h0, h1, h2, List.zipIdx]; rfl)
  rw [hc, List.drop_of_length_le (by rw [hl]; simp [bv_len])] at this
  simpa using this
section
variable {w : World} {p : Value} {κ μ : List Nat}
set_option maxRecDepth 100000 in
set_option maxHeartbeats 3200000 in
theorem wnew_any {g : Nat} (h1 : κ.length = 40 ∧ ∀ z ∈ κ, z < 256) (h2 : μ.length = 40 ∧ ∀ z ∈ μ, z < 256) : Calls Try.prog 14 #[.pointer (some ⟨g, 0, none⟩), .agg (bv κ).toArray, .agg (bv μ).toArray] w fun r w' => ∃ c, r = .returned (.pointer (some ⟨c, 0, none⟩)) ∧ CurAt w' c (.pointer (some ⟨g, 0, none⟩)) κ μ true ∧ w.heap.size ≤ c ∧ Mod Nn w w' := by
  have hmf := instr_mkfunc
  have H0 := Lib.hid (And.intro h1.2 h2.2)
  have l1 := h1.1
  have l2 := h2.1
  clear h1 h2
  go_enter Try.func14, Try.ntmps14
  go_wp2_with (first
    | (with_reducible change wpList _ _ _ (⟨some 4, Op.box _ _, _, _, _, _⟩ :: _) _ _
       go_must (refine wpList_box_var 23 _ rfl rfl (bv κ).toArray rfl ?_)
       intro w1 b1 m1 z1
       clear z1
       have hs1 : w.heap.size < w1.heap.size := b1.lt
       have H1 := Lib.hid (And.intro m1 b1)
       clear m1 b1)
    | (with_reducible change wpList _ _ _ (⟨some 5, Op.box _ _, _, _, _, _⟩ :: _) _ _
       go_must (refine wpList_box_var 23 _ rfl rfl (bv μ).toArray rfl ?_)
       intro w2 b2 m2 z2
       clear z2
       have hs2 : w1.heap.size < w2.heap.size := b2.lt
       have H2 := Lib.hid (And.intro (H1.out.1.nn_ m2) (And.intro (H1.out.2.mod m2 (fun f => f)) b2))
       clear m2 b2)
    | (with_reducible change wpList _ _ _ (⟨some 11, _, _, _, _, _⟩ :: _) _ _
       go_must (refine wpList_val rfl (exec_load_row (P := Try.prog) (g := w.heap.size) (cs := (bv κ).toArray) 23 _ rfl rfl H2.out.2.1 Try.underlying23 rfl (size_keyk l1)) ?_))
    | (with_reducible change wpList _ _ _ (⟨some 12, _, _, _, _, _⟩ :: _) _ _
       go_must (refine wpList_val rfl (exec_load_row (P := Try.prog) (g := w1.heap.size) (cs := (bv μ).toArray) 23 _ rfl rfl H2.out.2.2 Try.underlying23 rfl (size_keyk l2)) ?_))
    | (with_reducible change wpList _ _ _ (⟨some 13, _, _, _, _, _⟩ :: _) _ _
       go_must (refine wpList_val rfl (exec_cur (p := .pointer (some ⟨g, 0, none⟩)) rfl rfl rfl rfl l1 l2) ?_))
    | (with_reducible change wpList _ _ _ (⟨some 14, Op.box _ _, _, _, _, _⟩ :: _) _ _
       go_must (refine wpList_box_var 33 _ rfl rfl (curL (.pointer (some ⟨g, 0, none⟩)) κ μ true).toArray rfl ?_)
       intro w3 b3 m3 z3
       clear z3
       have H3 := Lib.hid (And.intro (H2.out.1.nn_ m3) b3)
       clear m3 b3))
  go_ret
  exact ⟨w2.heap.size, rfl, ⟨H3.out.2, ⟨l1, H0.out.1⟩, ⟨l2, H0.out.2⟩⟩, by omega, H3.out.1⟩
set_option maxRecDepth 100000 in
set_option maxHeartbeats 3200000 in
theorem wnew_nil (h1 : κ.length = 40) (h2 : μ.length = 40) : Calls Try.prog 14 #[.pointer none, .agg (bv κ).toArray, .agg (bv μ).toArray] w fun r w' => r = .returned (.pointer none) ∧ Mod Nn w w' := by
  go_enter Try.func14, Try.ntmps14
  go_wp2_with (first
    | (with_reducible change wpList _ _ _ (⟨some 4, Op.box _ _, _, _, _, _⟩ :: _) _ _
       go_must (refine wpList_box_var 23 _ rfl rfl (bv κ).toArray rfl ?_)
       intro w1 b1 m1 z1
       clear z1 b1
       have H1 := Lib.hid m1
       clear m1)
    | (with_reducible change wpList _ _ _ (⟨some 5, Op.box _ _, _, _, _, _⟩ :: _) _ _
       go_must (refine wpList_box_var 23 _ rfl rfl (bv μ).toArray rfl ?_)
       intro w2 b2 m2 z2
       clear z2 b2
       have H2 := Lib.hid (H1.out.nn_ m2)
       clear m2))
  go_ret
  exact ⟨rfl, H2.out⟩
/-! ## Next -/
theorem feq0 (w : World) : (binOp .eql 31 .nilFunc .nilFunc).run Try.prog w = .ok (.bool true) w := by kernel_rfl
theorem feq1 (w : World) (p : Value) : (binOp .eql 31 (.func (.func 36) #[p] #[]) .nilFunc).run Try.prog w = .ok (.bool false) w := by kernel_rfl
theorem next_nil : Calls Try.prog 13 #[.pointer none] w (AftT w none) := by
  go_enter Try.func13, Try.ntmps13
  go_wp2_with (first
    | (with_reducible change wpList _ _ _ (⟨some 2, Op.alloc _, _, _, _, _⟩ :: _) _ _
       go_must (refine wpList_alloc_var 28 rfl rfl info_entz ?_)
       intro w2 b2 m2 z2
       clear z2
       have H2 := Lib.hid (And.intro m2 b2)
       clear m2 b2)
    | (with_reducible change wpList _ _ _ (⟨some 15, _, _, _, _, _⟩ :: _) _ _
       go_must (refine wpList_val rfl (exec_zero_ent rfl) ?_))
    | (with_reducible change wpList _ _ _ (⟨none, Op.store _ (Operand.tmp 2) _, _, _, _, _⟩ :: _) _ _
       go_must (refine wpList_store_var 28 _ _ rfl rfl w.heap.size (bv ze).toArray _ _ rfl rfl H2.out.2 (size_ente ze_len) rfl (bv_all _) ?_)
       intro w4 b4 m4 z4
       clear z4
       have H4 := Lib.hid (And.intro (H2.out.1.new_ m4 (Nat.le_refl _)) b4)
       clear m4 b4))
  refine bodyPost_ret (results_cell_tmp_row (P := Try.prog) (g := w.heap.size) rfl _ rfl H4.out.2 Try.underlying28 rfl (size_ente ze_len)) rfl ?_
  exact ⟨rfl, H4.out.1⟩
theorem next_none {c : Nat} {cs : Array Value} (h : Blk w c 33 cs) (h0 : cs[0]? = some .nilFunc) : Calls Try.prog 13 #[.pointer (some ⟨c, 0, none⟩)] w (AftT w none) := by
  have hc := h.cell 0
  rw [h0] at hc
  have hfe := feq0
  have HB := Lib.hid h
  clear h
  go_enter Try.func13, Try.ntmps13
  go_wp2_with (first
    | (with_reducible change wpList _ _ _ (⟨some 2, Op.alloc _, _, _, _, _⟩ :: _) _ _
       go_must (refine wpList_alloc_var 28 rfl rfl info_entz ?_)
       intro w2 b2 m2 z2
       clear z2
       have hc2 : w2.cell? ⟨c, 0, none⟩ = some .nilFunc := ((HB.out.mod m2 (fun f => f)).cell 0).trans h0
       have H2 := Lib.hid (And.intro m2 b2)
       clear m2 b2)
    | (with_reducible change wpList _ _ _ (⟨some 15, _, _, _, _, _⟩ :: _) _ _
       go_must (refine wpList_val rfl (exec_zero_ent rfl) ?_))
    | (with_reducible change wpList _ _ _ (⟨none, Op.store _ (Operand.tmp 2) _, _, _, _, _⟩ :: _) _ _
       go_must (refine wpList_store_var 28 _ _ rfl rfl w.heap.size (bv ze).toArray _ _ rfl rfl H2.out.2 (size_ente ze_len) rfl (bv_all _) ?_)
       intro w4 b4 m4 z4
       clear z4
       have H4 := Lib.hid (And.intro (H2.out.1.new_ m4 (Nat.le_refl _)) b4)
       clear m4 b4))
  refine bodyPost_ret (results_cell_tmp_row (P := Try.prog) (g := w.heap.size) rfl _ rfl H4.out.2 Try.underlying28 rfl (size_ente ze_len)) rfl ?_
  exact ⟨rfl, H4.out.1⟩
/-- what Next tells of a tree's entries -/
def NextP (w : World) (c : Nat) (p : Value) (L : List (List Nat)) (at_ be : List Nat) (wi : Bool) (r : Ending) (w' : World) : Prop :=
  r = .returned (optV (nxt L at_ wi be)) ∧ Mod (At c) w w' ∧ (nxt L at_ wi be = none → CurAt w' c p at_ be wi) ∧ ∀ x, nxt L at_ wi be = some x → CurAt w' c p (keyOf x) be false
theorem ecmp_any {a b : List Nat} (w : World) (ha : a.length = 40) (hb : b.length = 40) (za : ∀ z ∈ a, z < 256) (zb : ∀ z ∈ b, z < 256) : Calls Try.prog 42 #[.agg (bv a).toArray, .agg (bv b).toArray] w fun e w' => e = .returned (.int .i64 (lexc a b)) ∧ Mod Nn w w' := ecompare_any w za zb ha hb
theorem curL_set {p : Value} {at_ be κ : List Nat} {wi : Bool} (ha : at_.length = 40) (hk : κ.length = 40) : (curL p at_ be wi).take 1 ++ bv κ ++ (curL p at_ be wi).drop 41 = curL p κ be wi := by
  unfold curL
  rw [List.take_succ_cons, List.take_zero, List.drop_succ_cons, List.drop_append, List.drop_of_length_le (by rw [bv_len, ha]; omega), bv_len, ha, Nat.sub_self, List.drop_zero]
  simp
theorem curL_wi {p : Value} {at_ be : List Nat} {wi b : Bool} (ha : at_.length = 40) (hb : be.length = 40) : (curL p at_ be wi).toArray.setIfInBounds 81 (.bool b) = (curL p at_ be b).toArray := by
  rw [List.setIfInBounds_toArray]
  congr 1
  unfold curL
  rw [List.set_cons_succ, List.set_append_right _ _ (by rw [bv_len, ha]; omega), bv_len, ha, List.set_append_right _ _ (by rw [bv_len, hb]; omega), bv_len, hb]
  rfl
section
variable {c : Nat} {L : List (List Nat)} {at_ be : List Nat} {wi : Bool}
set_option maxRecDepth 100000 in
set_option maxHeartbeats 6400000 in
theorem next_gen (hc : CurAt w c p at_ be wi) (hrows : Rows 80 L) (ht : ∀ wz κ wi, Mod Nn w wz → κ.length = 40 → (∀ z ∈ κ, z < 256) → Calls Try.prog 36 #[p, .agg (bv κ).toArray, .bool wi] wz (AftT wz (aft L κ wi))) : Calls Try.prog 13 #[.pointer (some ⟨c, 0, none⟩)] w (NextP w c p L at_ be wi) := by
  have HB := Lib.hid (And.intro hc (And.intro ht hrows))
  have hfe := feq1
  clear ht hrows hc
  go_enter Try.func13, Try.ntmps13
  go_wp2_with (first
    | (with_reducible change wpList _ _ _ (⟨some 2, Op.alloc _, _, _, _, _⟩ :: _) _ _
       go_must (refine wpList_alloc_var 28 rfl rfl info_entz ?_)
       intro w2 b2 m2 z2
       clear z2
       have hc2 : w2.cell? ⟨c, 0, none⟩ = some (.func (.func 36) #[p] #[]) := (HB.out.1.mod m2 (fun f => f)).fn
       have hs2 : w.heap.size < w2.heap.size := b2.lt
       have H2 := Lib.hid (And.intro m2 b2)
       clear m2 b2))
  -- zzA
  obtain ⟨eo, heo'⟩ : ∃ eo, (aft L at_ wi).getD ze = eo := ⟨_, rfl⟩
  have heo : eo.length = 80 := by rw [← heo']; exact aft_len HB.out.2.2
  obtain ⟨bo, hbo⟩ : ∃ bo, (aft L at_ wi).isSome = bo := ⟨_, rfl⟩
  have hov : optV (aft L at_ wi) = .tuple #[.agg (bv eo).toArray, .bool bo] := by unfold optV; rw [heo', hbo]
  have hcall : ∀ wz, Mod Nn w2 wz → Calls Try.prog 36 #[p, .agg (bv at_).toArray, .bool wi] wz fun e w' => e = .returned (.tuple #[.agg (bv eo).toArray, .bool bo]) ∧ Mod Nn wz w' := fun wz hz => by
    rw [← hov]
    exact HB.out.2.1 wz at_ wi (H2.out.1.nn_ hz) HB.out.1.al.1 HB.out.1.al.2
  have HO := Lib.hid (And.intro heo' hbo)
  have HF := Lib.hid (And.intro hcall ((HB.out.1.mod H2.out.1 (fun f => f) : CurAt w2 c p at_ be wi)))
  clear heo' hbo hov hcall
  go_cut [4, 5] from 16 to 31 (fun p4 v5 wx => ∃ g, p4 = .pointer (some ⟨g, 0, none⟩) ∧ v5 = .bool bo ∧ Mod Nn w wx ∧ Blk wx g 28 (bv eo).toArray ∧ Blk wx w.heap.size 28 (bv ze).toArray ∧ w2.heap.size ≤ g)
  case first =>
    refine wp_region_planV (fun w' => Mod Nn w2 w') 17 (.pure 0 (.pure 1 (.pure 2 (.read 3 (.pure 4 (.pure 5 (.pure 6 (.read 7 (.pure 8 (.pure 9 (.pure 10 (.read 11 (.fork 12 16 (.pure 13 (.pure 14 (.pure 15 (.alone 16 (.alone 17 (.pure 18 .nil)))))) (.alone 12 (.pure 13 (.pure 14 (.pure 15 (.alone 17 (.pure 18 .nil))))))))))))))))))) (by kernel_rfl) (by kernel_rfl) (Mod.refl Nn w2).drew ?_
    iterate 3 (refine pv_pure rfl rfl (fun K hK => ?_); go_simp; refine hK _ ?_; clear hK K)
    refine pv_take (.func (.func 36) #[p] #[]) rfl rfl (fun w' hS => exec_load1 (P := Try.prog) 31 (.tmp 19) rfl rfl ((HF.out.2.mod hS (fun f => f)).fn) Try.underlying31 rfl) (fun K hK => ?_); go_simp; refine hK _ ?_; clear hK K
    iterate 3 (refine pv_pure rfl rfl (fun K hK => ?_); go_simp; refine hK _ ?_; clear hK K)
    refine pv_take (.agg (bv at_).toArray) rfl rfl (fun w' hS => exec_load_cells (P := Try.prog) (b := c) (off := 1) (cs := bv at_) 23 (.tmp 23) rfl rfl (HF.out.2.mod hS (fun f => f)).atc Try.underlying23 rfl (by rw [bv_len, HB.out.1.al.1]; exact size_keyT)) (fun K hK => ?_); go_simp; refine hK _ ?_; clear hK K
    iterate 3 (refine pv_pure rfl rfl (fun K hK => ?_); go_simp; refine hK _ ?_; clear hK K)
    refine pv_take (.bool wi) rfl rfl (fun w' hS => exec_load1 (P := Try.prog) 4 (.tmp 27) rfl rfl (HF.out.2.mod hS (fun f => f)).wic Try.underlying4 rfl) (fun K hK => ?_); go_simp; refine hK _ ?_; clear hK K
    refine pv_fork ?_ ?_
    · refine pv_call rfl rfl (fun K hK => ?_); go_simp; refine ⟨_, _, ⟨rfl, rfl⟩, hK _ _ _ ?_⟩; clear hK K
      refine (HF.out.1 w2.drew (Mod.refl Nn w2).drew).mono ?_
      rintro e w4 ⟨rfl, m4⟩
      refine ⟨_, rfl, fun _ => m4.of_drew, ?_⟩
      iterate 3 (refine pv_pure rfl rfl (fun K hK => ?_); go_simp; refine hK _ ?_; clear hK K)
      refine pv_val rfl rfl (exec_alloc (P := Try.prog) 28 rfl info_entz) (fun _ => m4.of_drew.alloc _) (fun K hK => ?_); go_simp; refine hK _ ?_; clear hK K
      obtain ⟨g, hg⟩ : ∃ g, w4.heap.size = g := ⟨_, rfl⟩
      have hs5 : w2.heap.size ≤ g := by rw [← hg]; exact m4.of_drew.size
      have H5 := Lib.hid (And.intro (hg ▸ Blk.new w4 28 (Value.agg (bv ze).toArray).cells : Blk (w4.alloc (.cells (Value.agg (bv ze).toArray).cells 28)) g 28 (Value.agg (bv ze).toArray).cells) (m4.of_drew.alloc (.cells (Value.agg (bv ze).toArray).cells 28)))
      rw [hg]
      clear m4 hg
      generalize w4.alloc (.cells (Value.agg (bv ze).toArray).cells 28) = w5 at *
      refine pv_unit rfl rfl (exec_store_row (P := Try.prog) 28 (.tmp 4) (.tmp 30) rfl (g := g) (cells := (bv eo).toArray) rfl rfl H5.out.1 (size_ente heo) (by rw [bv_size, heo]; rfl) (bv_all _)) (fun h => by simp at h) (fun K hK => ?_); go_simp; refine hK _ ?_; clear hK K
      iterate 1 (refine pv_pure rfl rfl (fun K hK => ?_); go_simp; refine hK _ ?_; clear hK K)
      refine pv_nil ?_
      have H6 := Lib.hid (And.intro (H5.out.1.setRow_ (bv eo).toArray) (H5.out.2.new_ (Mod.rowAt w5 g (bv eo).toArray) hs5))
      clear H5
      generalize w5.setRow g (bv eo).toArray = w6 at *
      go_wp2
      go_meet
      exact ⟨g, rfl, rfl, H2.out.1.nn_ H6.out.2, H6.out.1, H2.out.2.mod H6.out.2 (fun f => f), hs5⟩
    · refine pv_val rfl rfl (exec_alloc (P := Try.prog) 28 rfl info_entz) (fun _ => (Mod.refl Nn w2).drew.alloc _) (fun K hK => ?_); go_simp; refine hK _ ?_; clear hK K
      have hb4 : Blk (w2.drew.alloc (.cells (Value.agg (bv ze).toArray).cells 28)) w2.heap.size 28 (Value.agg (bv ze).toArray).cells := Blk.new w2.drew _ _
      obtain ⟨g, hg⟩ : ∃ g, w2.heap.size = g := ⟨_, rfl⟩
      have hs5 : w2.heap.size ≤ g := by omega
      rw [hg] at hb4 ⊢
      have H4b := Lib.hid (And.intro hb4 ((Mod.refl Nn w2).drew.alloc (.cells (Value.agg (bv ze).toArray).cells 28)))
      clear hg hb4
      generalize w2.drew.alloc (.cells (Value.agg (bv ze).toArray).cells 28) = w4 at *
      refine pv_call rfl rfl (fun K hK => ?_); go_simp; refine ⟨_, _, ⟨rfl, rfl⟩, hK _ _ _ ?_⟩; clear hK K
      refine (HF.out.1 w4 H4b.out.2).mono ?_
      rintro e w5 ⟨rfl, m5⟩
      refine ⟨_, rfl, fun _ => H4b.out.2.nn_ m5, ?_⟩
      iterate 3 (refine pv_pure rfl rfl (fun K hK => ?_); go_simp; refine hK _ ?_; clear hK K)
      have H5 := Lib.hid (And.intro (H4b.out.1.mod m5 (fun f => f)) (H4b.out.2.nn_ m5))
      clear m5 H4b
      refine pv_unit rfl rfl (exec_store_row (P := Try.prog) 28 (.tmp 4) (.tmp 30) rfl (g := g) (cells := (bv eo).toArray) rfl rfl H5.out.1 (size_ente heo) (by rw [bv_size, heo]; rfl) (bv_all _)) (fun h => by simp at h) (fun K hK => ?_); go_simp; refine hK _ ?_; clear hK K
      iterate 1 (refine pv_pure rfl rfl (fun K hK => ?_); go_simp; refine hK _ ?_; clear hK K)
      refine pv_nil ?_
      have H6 := Lib.hid (And.intro (H5.out.1.setRow_ (bv eo).toArray) (H5.out.2.new_ (Mod.rowAt w5 g (bv eo).toArray) hs5))
      clear H5
      generalize w5.setRow g (bv eo).toArray = w6 at *
      go_wp2
      go_meet
      exact ⟨g, rfl, rfl, H2.out.1.nn_ H6.out.2, H6.out.1, H2.out.2.mod H6.out.2 (fun f => f), hs5⟩
  case rest =>
    -- zzR
    obtain ⟨g, rfl, rfl, hm, hb, hb2, hg⟩ := hcut
    have hcw : c < w.heap.size := HB.out.1.blk.lt
    have H6 := Lib.hid (And.intro hm (And.intro hb (And.intro hb2 ((HB.out.1.mod hm (fun f => f) : CurAt wc c p at_ be wi)))))
    clear hm hb hb2 hc2 hfe HF
    cases hA : aft L at_ wi with
    | none =>
      have hb0 : bo = false := by rw [← HO.out.2, hA]; rfl
      have HA := Lib.hid (nxt_none (be := be) hA)
      subst hb0
      clear hA
      go_wp2_with fail
      refine wp_region_planC (fun _ => True) [(0, true), (1, true), (2, true), (3, true), (4, true), (5, true), (6, true), (7, true), (8, true), (9, true), (10, true), (11, true)] (by kernel_rfl) (by kernel_rfl) trivial ?_
      iterate 3 (refine pc_pure rfl rfl (fun K hK => ?_); go_simp; refine hK _ ?_; clear hK K)
      iterate 8 (refine pc_skip rfl rfl (fun K hK => ?_); go_simp; refine hK _ ?_; clear hK K)
      iterate 1 (refine pc_pure rfl rfl (fun K hK => ?_); go_simp; refine hK _ ?_; clear hK K)
      refine pc_nil ?_
      have H7 := Lib.hid (And.intro H6.out.1.drew (And.intro H6.out.2.2.1.drew (H6.out.2.2.2.mod (Mod.refl Nn wc).drew (fun f => f))))
      generalize wc.drew = w7 at *
      go_wp2_with (first
        | (with_reducible change wpList _ _ _ (⟨some 44, _, _, _, _, _⟩ :: _) _ _
           go_must (refine wpList_val rfl (exec_zero_ent rfl) ?_))
        | (with_reducible change wpList _ _ _ (⟨none, Op.store _ (Operand.tmp 2) _, _, _, _, _⟩ :: _) _ _
           go_must (refine wpList_store_var 28 _ _ rfl rfl w.heap.size (bv ze).toArray _ _ rfl rfl H7.out.2.1 (size_ente ze_len) rfl (bv_all _) ?_)
           intro w8 b8 m8 z8
           clear z8
           have H8 := Lib.hid (And.intro (H7.out.1.new_ m8 (Nat.le_refl _)) (And.intro b8 m8))
           clear m8 b8))
      refine bodyPost_ret (results_cell_tmp_row (P := Try.prog) (g := w.heap.size) rfl _ rfl H8.out.2.1 Try.underlying28 rfl (size_ente ze_len)) rfl ?_
      refine ⟨by rw [HA.out]; rfl, H8.out.1.nn, fun _ => H7.out.2.2.mod H8.out.2.2 (fun e => by have e : c = w.heap.size := e; omega), fun x hx => by rw [HA.out] at hx; cases hx⟩
    | some r =>
      have hb0 : bo = true := by rw [← HO.out.2, hA]; rfl
      have he0 : eo = r := by rw [← HO.out.1, hA]; rfl
      subst hb0 he0
      have hr80 := HB.out.2.2 eo (aft_mem hA)
      have hke := keyOf_len heo
      have HA := Lib.hid (And.intro hA (And.intro hr80.2 (keyOf_lt hr80.2)))
      clear hA hr80
      obtain ⟨X, hX⟩ : ∃ X, lexc (keyOf eo) be = X := ⟨_, rfl⟩
      have HX := Lib.hid hX
      clear hX
      go_wp2_with fail
      refine wp_region_planT (fun w' => Mod Nn wc w') 9 [(0, 0), (1, 0), (2, 0), (3, 0), (4, 1), (5, 0), (6, 0), (7, 0), (8, 1), (9, 2), (10, 0), (11, 0)] (by kernel_rfl) (by kernel_rfl) (Mod.refl Nn wc).drew ?_
      iterate 4 (refine pt_pure rfl rfl (fun K hK => ?_); go_simp; refine hK _ ?_; clear hK K)
      refine pt_take (.agg (bv (keyOf eo)).toArray) rfl rfl (fun w' hS => exec_load_cells (P := Try.prog) (b := g) (off := 0) (cs := bv (keyOf eo)) 23 (.tmp 35) rfl rfl (key_cells (H6.out.2.1.mod hS (fun f => f))) Try.underlying23 rfl (by rw [bv_len, hke]; exact size_keyT)) (fun K hK => ?_); go_simp; refine hK _ ?_; clear hK K
      iterate 3 (refine pt_pure rfl rfl (fun K hK => ?_); go_simp; refine hK _ ?_; clear hK K)
      refine pt_take (.agg (bv be).toArray) rfl rfl (fun w' hS => exec_load_cells (P := Try.prog) (b := c) (off := 41) (cs := bv be) 23 (.tmp 39) rfl rfl (H6.out.2.2.2.mod hS (fun f => f)).bec Try.underlying23 rfl (by rw [bv_len, HB.out.1.bl.1]; exact size_keyT)) (fun K hK => ?_); go_simp; refine hK _ ?_; clear hK K
      refine pt_call rfl rfl (fun K hK => ?_); go_simp; refine ⟨_, _, ⟨rfl, rfl⟩, hK _ _ _ ?_⟩; clear hK K
      refine (ecmp_any _ hke HB.out.1.bl.1 HA.out.2.2 HB.out.1.bl.2).mono ?_
      rintro e w7 ⟨rfl, m7⟩
      rw [HX.out]
      refine ⟨_, rfl, fun h => by simp at h, ?_⟩
      have H7 := Lib.hid (And.intro (H6.out.1.nn_ m7.of_drew) (And.intro (H6.out.2.1.mod m7.of_drew (fun f => f)) (And.intro (H6.out.2.2.1.mod m7.of_drew (fun f => f)) ((H6.out.2.2.2.mod m7.of_drew (fun f => f) : CurAt w7 c p at_ be wi)))))
      clear m7 H6
      by_cases hk : klt (keyOf eo) be
      · have hX0 : ¬ (0 ≤ X) := by have := HX.out; unfold klt at hk; omega
        have hX1 : X < 0 := by omega
        have HK := Lib.hid (And.intro hk (nxt_of HA.out.1 hk))
        clear hk
        iterate 2 (refine pt_pure rfl rfl (fun K hK => ?_); go_simp; refine hK _ ?_; clear hK K)
        refine pt_nil ?_
        -- zzK
        have hs1 : w.heap.size ≤ w2.heap.size := by omega
        go_wp2_with (first
          | (with_reducible change wpList _ _ _ (⟨some 48, _, _, _, _, _⟩ :: _) _ _
             go_must (refine wpList_val rfl (exec_load_cells (P := Try.prog) (b := g) (off := 0) (cs := bv (keyOf eo)) 23 (.tmp 47) rfl rfl (key_cells H7.out.2.1) Try.underlying23 rfl (by rw [bv_len, hke]; exact size_keyT)) ?_))
          | (with_reducible change wpList _ _ _ (⟨none, Op.store _ (Operand.tmp 50) _, _, _, _, _⟩ :: _) _ _
             go_must (refine wpList_store_at 23 _ _ rfl rfl c 1 (bv (keyOf eo)).toArray (curL p at_ be wi).toArray 33 rfl rfl H7.out.2.2.2.blk (size_keyk hke) (by rw [bv_size, hke, List.size_toArray, curL_len HB.out.1.al.1 HB.out.1.bl.1]; omega) (bv_all _) ?_)
             intro w8 b8 m8 z8
             clear z8
             have b8' : Blk w8 c 33 (curL p (keyOf eo) be wi).toArray := by
               rw [← curL_set HB.out.1.al.1 hke]
               have := b8
               rw [bv_size, hke] at this
               exact this
             have H8 := Lib.hid (And.intro m8 (show CurAt w8 c p (keyOf eo) be wi from ⟨b8', ⟨hke, HA.out.2.2⟩, HB.out.1.bl⟩))
             clear b8 b8' m8)
          | (with_reducible change wpList _ _ _ (⟨none, Op.store _ (Operand.tmp 52) _, _, _, _, _⟩ :: _) _ _
             go_must (refine wpList_unit rfl (exec_store1 (P := Try.prog) (ad := ⟨c, 81, none⟩) (v := .bool false) (u := .bool wi) 4 _ _ rfl rfl rfl H8.out.2.wic (H8.out.2.blk.frozen 81) rfl rfl rfl (by kernel_rfl)) ?_)
             have b9 := H8.out.2.blk.set_ 81 (.bool false)
             rw [curL_wi hke HB.out.1.bl.1] at b9
             have m9 : Mod (At c) w8 (w8.setCell ⟨c, 81, none⟩ (.bool false)) := Mod.cellAt _ _ _ _
             generalize w8.setCell ⟨c, 81, none⟩ (.bool false) = w9 at *
             have H9 := Lib.hid (And.intro (H8.out.1.trans m9) (show CurAt w9 c p (keyOf eo) be false from ⟨b9, ⟨hke, HA.out.2.2⟩, HB.out.1.bl⟩))
             clear b9 m9)
          | (with_reducible change wpList _ _ _ (⟨some 53, _, _, _, _, _⟩ :: _) _ _
             go_must (refine wpList_val rfl (exec_load_row (P := Try.prog) (g := g) (cs := (bv eo).toArray) 28 _ rfl rfl (H7.out.2.1.mod H9.out.1 (fun e => by have e : g = c := e; omega)) Try.underlying28 rfl (size_ente heo)) ?_))
          | (with_reducible change wpList _ _ _ (⟨none, Op.store _ (Operand.tmp 2) _, _, _, _, _⟩ :: _) _ _
             go_must (refine wpList_store_var 28 _ _ rfl rfl w.heap.size (bv eo).toArray _ _ rfl rfl (H7.out.2.2.1.mod H9.out.1 (fun e => by have e : w.heap.size = c := e; omega)) (size_ente heo) (by rw [bv_size, bv_size, heo]; rfl) (bv_all _) ?_)
             intro w10 b10 m10 z10
             clear z10
             have H10 := Lib.hid (And.intro m10 b10)
             clear m10 b10))
        refine bodyPost_ret (results_cell_tmp_row (P := Try.prog) (g := w.heap.size) rfl _ rfl H10.out.2 Try.underlying28 rfl (size_ente heo)) rfl ?_
        refine ⟨by rw [HK.out.2]; rfl, (H7.out.1.nn.trans H9.out.1).new_ H10.out.1 (Nat.le_refl _), fun hx => (by rw [HK.out.2] at hx; cases hx), fun x hx => ?_⟩
        rw [HK.out.2] at hx
        injection hx with hx
        subst hx
        exact H9.out.2.mod H10.out.1 (fun e => by have e : c = w.heap.size := e; omega)
      · have hX0 : 0 ≤ X := by have := HX.out; unfold klt at hk; omega
        have hX1 : ¬ X < 0 := by omega
        have HK := Lib.hid (nxt_past HA.out.1 hk)
        clear hk
        iterate 2 (refine pt_pure rfl rfl (fun K hK => ?_); go_simp; refine hK _ ?_; clear hK K)
        refine pt_nil ?_
        go_wp2_with (first
          | (with_reducible change wpList _ _ _ (⟨some 44, _, _, _, _, _⟩ :: _) _ _
             go_must (refine wpList_val rfl (exec_zero_ent rfl) ?_))
          | (with_reducible change wpList _ _ _ (⟨none, Op.store _ (Operand.tmp 2) _, _, _, _, _⟩ :: _) _ _
             go_must (refine wpList_store_var 28 _ _ rfl rfl w.heap.size (bv ze).toArray _ _ rfl rfl H7.out.2.2.1 (size_ente ze_len) rfl (bv_all _) ?_)
             intro w8 b8 m8 z8
             clear z8
             have H8 := Lib.hid (And.intro (H7.out.1.new_ m8 (Nat.le_refl _)) (And.intro b8 m8))
             clear m8 b8))
        refine bodyPost_ret (results_cell_tmp_row (P := Try.prog) (g := w.heap.size) rfl _ rfl H8.out.2.1 Try.underlying28 rfl (size_ente ze_len)) rfl ?_
        refine ⟨by rw [HK.out]; rfl, H8.out.1.nn, fun _ => H7.out.2.2.2.mod H8.out.2.2 (fun e => by have e : c = w.heap.size := e; omega), fun x hx => by rw [HK.out] at hx; cases hx⟩
theorem next_any {b : Nat} {G : List Nat} (hc : CurAt w c (.pointer (some ⟨b, 0, none⟩)) at_ be wi) (ht : TrAt w b L G) : Calls Try.prog 13 #[.pointer (some ⟨c, 0, none⟩)] w (NextP w c (.pointer (some ⟨b, 0, none⟩)) L at_ be wi) :=
  next_gen hc ht.rows (fun _ _ _ hz h1 h2 => tafter_any (ht.nn hz) h1 h2)
end
end
end Go.Proofs.Ytkcpmkeckcnobaa

/- peatbankkit over rows of api.Entry: SameEntries; entries and keys compared. -/
namespace Go.Proofs.Ytkcpmkeckcnobaa
open Go.RowKit

theorem flds_ent : ∃ f g, Try.prog.underlying 28 = some (.struct #[f, g]) ∧ f.name ≠ "_" ∧ g.name ≠ "_" ∧ f.offset = 0 ∧ g.offset = 40 ∧ f.type = 23 ∧ g.type = 26 := ⟨_, _, Try.underlying28, by decide, by decide, rfl, rfl, rfl, rfl⟩
theorem eqE {w : World} {l : List Nat} (hl : l.length = 80) (hz : ∀ z ∈ l, z < 256) : (Op.equalIn 10000 28 (.agg (bv l).toArray) (.agg (bv l).toArray)).run Try.prog w = .ok true w := by
  obtain ⟨f, g, hu, h1, h2, h3, h4, h5, h6⟩ := flds_ent
  have := equal_pair (P := Try.prog) (w := w) 9997 28 f g 5 40 hu Try.stoodInHeld28 h1 h2 h3 h4 (by rw [h5]; exact Try.underlying23) (by rw [h6]; exact Try.underlying26) (fun w => by rw [h5]; kernel_rfl) (fun w => by rw [h6]; kernel_rfl) Try.underlying5 (fun w => by kernel_rfl) hl hl hz hz
  rwa [decide_eq_true rfl] at this
theorem eqE2 {w : World} {l k : List Nat} (hl : l.length = 80) (hk : k.length = 80) (hz : ∀ z ∈ l, z < 256) (kz : ∀ z ∈ k, z < 256) : (Op.equalIn 10000 28 (.agg (bv l).toArray) (.agg (bv k).toArray)).run Try.prog w = .ok (decide (l = k)) w := by
  obtain ⟨f, g, hu, h1, h2, h3, h4, h5, h6⟩ := flds_ent
  exact equal_pair (P := Try.prog) (w := w) 9997 28 f g 5 40 hu Try.stoodInHeld28 h1 h2 h3 h4 (by rw [h5]; exact Try.underlying23) (by rw [h6]; exact Try.underlying26) (fun w => by rw [h5]; kernel_rfl) (fun w => by rw [h6]; kernel_rfl) Try.underlying5 (fun w => by kernel_rfl) hl hk hz kz
theorem eqK2 {w : World} {l k : List Nat} (hl : l.length = 40) (hk : k.length = 40) (hz : ∀ z ∈ l, z < 256) (kz : ∀ z ∈ k, z < 256) : (Op.equalIn 10000 23 (.agg (bv l).toArray) (.agg (bv k).toArray)).run Try.prog w = .ok (decide (l = k)) w :=
  equal_bytes (P := Try.prog) (w := w) 9998 23 5 40 Try.underlying23 Try.underlying5 (fun w => by kernel_rfl) hl hk hz kz
theorem bvone (l : List Nat) : ∀ u ∈ bv l, u.oneCell' = true := bv_one l
set_option maxRecDepth 100000 in
set_option maxHeartbeats 3200000 in
theorem sameE_yes {w : World} {A B : Option Addr} {n ca cb : Nat} {L : List (List Nat)} (ha : RdC w A n 80 (bv L.flatten)) (hb : RdC w B n 80 (bv L.flatten)) (hr : Rows 80 L) (hL : L.length = n) (hn : n ≤ 1000000000) :
    Calls Try.prog 19 #[.slice A n ca, .slice B n cb] w fun e w' => e = .returned (.bool true) ∧ Mod Nn w w' := by
  have h0 : ((n : Int) != n) = false := by simp
  have HR := Lib.hid (And.intro ha (And.intro hb (And.intro hr hL)))
  clear ha hb hr hL
  go_enter Try.func19, Try.ntmps19
  go_wp2
  go_loopw [5] (fun i wr => ∃ k : Nat, k ≤ n ∧ i = .int .i64 k ∧ Mod Nn w wr) (fun i _ => n - (intOf i).toNat)
  case atStart => exact ⟨0, Nat.zero_le _, rfl, Mod.refl _ _⟩
  case round =>
    obtain ⟨k, hk, rfl, hm⟩ := hrel
    obtain ⟨wo, rfl⟩ : ∃ wo : World, wo = wr := ⟨_, rfl⟩
    by_cases hlt : k < n
    · have hlt' : (k : Int) < n := by omega
      obtain ⟨r, i1⟩ : ∃ r, L[k]? = some r := ⟨_, List.getElem?_eq_getElem (by rw [HR.out.2.2.2]; exact hlt)⟩
      obtain ⟨l1, z1⟩ := HR.out.2.2.1 r (List.mem_of_getElem? i1)
      obtain ⟨g, off, rfl, hc1⟩ := (HR.out.1.mod (by omega) hm (fun _ _ f => f)).row HR.out.2.2.1 i1 (by omega)
      obtain ⟨g', off', rfl, hc2⟩ := (HR.out.2.1.mod (by omega) hm (fun _ _ f => f)).row HR.out.2.2.1 i1 (by omega)
      have HX := Lib.hid (And.intro hc1 hc2)
      have HL := Lib.hid (And.intro l1 z1)
      have HM := Lib.hid hm
      clear hc1 hc2 l1 z1 i1 hm
      go_wp2_with fail
      refine wp_region_planC (fun w' => (∀ j v, (bv r)[j]? = some v → w'.cell? ⟨g, off + k * 80 + j, none⟩ = some v) ∧ (∀ j v, (bv r)[j]? = some v → w'.cell? ⟨g', off' + k * 80 + j, none⟩ = some v)) [(0, true), (1, true), (2, true), (3, true), (4, true), (5, true), (6, true), (7, true), (8, true)] (by kernel_rfl) (by kernel_rfl) HX.out ?_
      iterate 3 (refine pc_pure rfl rfl (fun K hK => ?_); go_simp; refine hK _ ?_; clear hK K)
      refine pc_take _ rfl rfl (fun w' hS => exec_load_cells (P := Try.prog) 28 _ rfl (cs := bv r) rfl hS.1 Try.underlying28 rfl (by rw [size_ent, bv_len, HL.out.1])) (fun K hK => ?_); go_simp; refine hK _ ?_; clear hK K
      iterate 3 (refine pc_pure rfl rfl (fun K hK => ?_); go_simp; refine hK _ ?_; clear hK K)
      refine pc_take _ rfl rfl (fun w' hS => exec_load_cells (P := Try.prog) 28 _ rfl (cs := bv r) rfl hS.2 Try.underlying28 rfl (by rw [size_ent, bv_len, HL.out.1])) (fun K hK => ?_); go_simp; refine hK _ ?_; clear hK K
      refine pc_take (.bool false) rfl rfl (fun w' _ => exec_neq_agg (P := Try.prog) (b := true) 28 28 _ _ rfl rfl rfl Try.eqGuardType28 (eqE HL.out.1 HL.out.2)) (fun K hK => ?_); go_simp; refine hK _ ?_; clear hK K
      refine pc_nil ?_
      clear HX
      go_wp2
      exact ⟨⟨k + 1, by omega, by go_num, HM.out.drew⟩, by simp [intOf]; omega⟩
    · have hlt' : ¬ (k : Int) < n := by omega
      go_wp2
      go_ret
      exact ⟨rfl, hm⟩
end Go.Proofs.Ytkcpmkeckcnobaa

/- walk.All. -/
namespace Go.Proofs.Ytkcpmkeckcnobaa
open Go.RowKit

/-- a row of entries of one's own -/
def OwnE (w : World) (base : Nat) (v : Value) (R : List (List Nat)) : Prop := w.ownsRow base 28 80 v R.length (bv R.flatten)
def lenV : Value → Nat | .slice _ n _ => n | _ => 0
theorem own_lenV {w : World} {base n s : Nat} {e : TypeId} {v : Value} {xs : List Value} (h : w.ownsRow base e s v n xs) : lenV v = n := by
  rcases h.2 with ⟨rfl, rfl⟩ | ⟨g, cap, cur, rfl, _⟩ <;> rfl
theorem OwnE.nil (w : World) (base : Nat) : OwnE w base (.slice none 0 0) [] := World.ownsRow_nil w base 28 80
theorem OwnE.mod {w w' : World} {base : Nat} {v : Value} {R : List (List Nat)} {S : Nat → Prop} (h : OwnE w base v R) (hm : Mod S w w') (hn : ∀ g, v.ownBlock = some g → ¬ S g) : OwnE w' base v R := own_mod h hm hn
theorem OwnE.nn {w w' : World} {base : Nat} {v : Value} {R : List (List Nat)} (h : OwnE w base v R) (hm : Mod Nn w w') : OwnE w' base v R := h.mod hm (fun _ _ f => f)
theorem OwnE.blk {w : World} {base : Nat} {v : Value} {R : List (List Nat)} (h : OwnE w base v R) {g : Nat} (hg : v.ownBlock = some g) : base ≤ g ∧ g < w.heap.size := by
  obtain ⟨_, _, _, h1, h2, _⟩ := own_blk_eq h hg
  exact ⟨h1, h2.lt⟩
theorem OwnE.slice {w : World} {base : Nat} {v : Value} {R : List (List Nat)} (h : OwnE w base v R) : ∃ A c, v = .slice A R.length c ∧ R.length ≤ c ∧ c ≤ maxLen ∧ RdC w A R.length 80 (bv R.flatten) ∧ ∀ g, Of A g → v.ownBlock = some g := by
  rcases h.2 with ⟨rfl, h0⟩ | ⟨g, cap, cur, rfl, _, _, h1, h2, _⟩
  · have h0' : R.length = 0 := h0
    obtain rfl : R = [] := List.eq_nil_of_length_eq_zero h0'
    exact ⟨none, 0, rfl, Nat.le_refl _, Nat.zero_le _, ⟨by simp [bv], fun h => by simp at h⟩, fun g hg => by obtain ⟨_, h, _⟩ := hg; cases h⟩
  · exact ⟨_, cap, rfl, h1, h2, own_rdC h, fun g' hg => by obtain ⟨a, ha, rfl⟩ := hg; injection ha with ha; subst ha; rfl⟩
/-- one entry behind the others -/
theorem OwnE.snoc {w : World} {base n : Nat} {v : Value} {R : List (List Nat)} {e : List Nat} (hn : n = R.length) (h : w.ownsRow base 28 80 v (n + 1) (bv R.flatten ++ bv e)) : OwnE w base v (R ++ [e]) := by
  unfold OwnE
  rw [List.length_append, List.flatten_append, bv_append, ← hn]
  simpa using h
section
variable {w : World} {p : Value} {L : List (List Nat)}
set_option maxRecDepth 100000 in
set_option maxHeartbeats 6400000 in
theorem wall_any (hs : Srt L) (hr : Rows 80 L) (hL : L.length ≤ 1000000) (hA : ∀ wz κ wi, Mod Nn w wz → κ.length = 40 → (∀ z ∈ κ, z < 256) → Calls Try.prog 36 #[p, .agg (bv κ).toArray, .bool wi] wz (AftT wz (aft L κ wi))) :
    Calls Try.prog 15 #[p] w fun r w' => ∃ v, r = .returned v ∧ OwnE w' w.heap.size v L ∧ Mod Nn w w' := by
  have hfirst := aft_first hr
  have hlen : ∀ j : Nat, ((L[j]?).getD ze).length = 80 := fun j => by
    cases h : L[j]? with
    | none => exact ze_len
    | some r => exact (hr r (List.mem_of_getElem? h)).1
  have HB := Lib.hid (And.intro hs (And.intro hr (And.intro hA (And.intro hfirst hlen))))
  clear hs hr hA hfirst hlen
  go_enter Try.func15, Try.ntmps15
  go_wp2_with (first
    | (with_reducible change wpList _ _ _ (⟨some 8, _, _, _, _, _⟩ :: _) _ _
       go_must (refine wpList_val rfl (exec_zero_bytes (P := Try.prog) 23 5 40 rfl Try.underlying23 size_u8t zero_keyz) ?_)))
  have hz40 : ∀ z ∈ List.replicate 40 0, z < 256 := fun z hz => by have := List.eq_of_mem_replicate hz; omega
  refine (HB.out.2.2.1 w (List.replicate 40 0) true (Mod.refl _ _) (List.length_replicate ..) hz40).mono ?_
  rintro r w1 ⟨rfl, m1⟩
  rw [HB.out.2.2.2.1]
  unfold optV
  obtain ⟨e0, he0⟩ : ∃ e0, (L[0]?).getD ze = e0 := ⟨_, rfl⟩
  have hl0 : e0.length = 80 := by rw [← he0]; exact HB.out.2.2.2.2 0
  rw [he0]
  have hs1 : w.heap.size ≤ w1.heap.size := m1.size
  have H1 := Lib.hid (And.intro m1 he0)
  clear m1 he0
  go_wp2_with (first
    | (with_reducible change wpList _ _ _ (⟨some 4, Op.alloc _, _, _, _, _⟩ :: _) _ _
       go_must (refine wpList_alloc_var 28 rfl rfl info_entz ?_)
       intro w2 b2 m2 z2
       clear z2
       have H2 := Lib.hid (And.intro (H1.out.1.nn_ m2) b2)
       clear m2 b2)
    | (with_reducible change wpList _ _ _ (⟨none, Op.store _ (Operand.tmp 4) _, _, _, _, _⟩ :: _) _ _
       go_must (refine wpList_store_var 28 _ _ rfl rfl w1.heap.size (bv e0).toArray _ _ rfl rfl H2.out.2 (size_ente hl0) (by rw [bv_size, hl0]; rfl) (bv_all _) ?_)
       intro w3 b3 m3 z3
       clear z3
       have H3 := Lib.hid (And.intro (H2.out.1.new_ m3 hs1) b3)
       clear m3 b3))
  -- zzL
  go_loopw [3, 4, 5] (fun s q o wr => ∃ (j g : Nat), j ≤ L.length ∧ q = .pointer (some ⟨g, 0, none⟩) ∧ o = .bool (L[j]?).isSome ∧ Hid (OwnE wr w.heap.size s (L.take j) ∧ Blk wr g 28 (bv ((L[j]?).getD ze)).toArray ∧ w.heap.size ≤ g ∧ Mod Nn w wr ∧ ∀ gb, s.ownBlock = some gb → gb ≠ g)) (fun s _ _ _ => L.length - lenV s)
  case atStart => exact ⟨0, w1.heap.size, Nat.zero_le _, rfl, rfl, Lib.hid ⟨OwnE.nil _ _, by rw [H1.out.2]; exact H3.out.2, hs1, H3.out.1, fun gb h => by cases h⟩⟩
  case round =>
    obtain ⟨j, g, hj, rfl, rfl, HR⟩ := hrel
    obtain ⟨bo, hbo⟩ : ∃ bo, (L[j]?).isSome = bo := ⟨_, rfl⟩
    rw [hbo]
    rcases hLj : L[j]? with _ | e
    · have hb0 : bo = false := by rw [← hbo, hLj]; rfl
      clear hbo
      subst hb0
      have hjn : L.take j = L := List.take_of_length_le (List.getElem?_eq_none_iff.1 hLj)
      have HJ := Lib.hid hjn
      clear hjn
      go_wp2
      go_ret
      exact ⟨_, rfl, by have := HR.out.1; rwa [HJ.out] at this, HR.out.2.2.2.1⟩
    · have hb0 : bo = true := by rw [← hbo, hLj]; rfl
      clear hbo
      subst hb0
      rw [hLj] at HR
      have he := HB.out.2.1 e (List.mem_of_getElem? hLj)
      have hel := he.1
      have hjl : j < L.length := (List.getElem?_eq_some_iff.1 hLj).1
      obtain ⟨wo, rfl⟩ : ∃ wo : World, wo = wr := ⟨_, rfl⟩
      have hsr : w.heap.size ≤ wo.heap.size := HR.out.2.2.2.1.size
      have HE := Lib.hid (And.intro he.2 hLj)
      have htl : (L.take j).length = j := by rw [List.length_take]; omega
      have HT := Lib.hid htl
      clear he hLj htl
      go_wp2_with (first
        | (with_reducible change wpList _ _ _ (⟨some 21, _, _, _, _, _⟩ :: _) _ _
           go_must (refine wpList_val rfl (exec_load_row (P := Try.prog) (g := g) (cs := (bv e).toArray) 28 _ rfl rfl HR.out.2.1 Try.underlying28 rfl (size_ente hel)) ?_))
        | (with_reducible change wpList _ _ _ (⟨some 22, _, _, _, _, _⟩ :: _) _ _
           go_must (refine wpList_mk1 (P := Try.prog) 40 28 _ rfl rfl (s := 80) Try.underlying40 infoE2 (by omega) (by omega) (v := .agg (bv e).toArray) (ys := bv e) rfl rfl (by rw [bv_len, hel]) ?_)
           intro w4 b4 m4
           have H4 := Lib.hid (And.intro m4 b4)
           clear b4 m4)
        | (with_reducible change wpList _ _ _ (⟨some 23, _, _, _, _, _⟩ :: _) _ _
           go_must (refine wpList_append_rd 40 _ _ rfl rfl w.heap.size 28 zE 80 80 Try.underlying40 infoE zsE (by omega) _ (L.take j).length (bv (L.take j).flatten) rfl (HR.out.1.nn H4.out.1) (some ⟨wo.heap.size, 0, none⟩) 1 1 (bv e) rfl (RdC.of_blk H4.out.2 (by rw [bv_len, hel])) (bv_one _) (by rw [HT.out]; omega) (by rw [HT.out]; omega) (by have := H4.out.1.size; omega) ?_)
           intro v5 w5 own5 gr5 ob5
           have m5 : Mod (fun x => u3.ownBlock = some x) w4 w5 := (Mod.refl _ _).grown gr5 (fun x h => .inr h)
           have H5 := Lib.hid (And.intro (OwnE.snoc rfl own5) (And.intro m5 ob5))
           clear own5 gr5 ob5 m5)
        | (with_reducible change wpList _ _ _ (⟨some 24, _, _, _, _, _⟩ :: _) _ _
           go_must (refine wpList_val rfl (exec_load_row (P := Try.prog) (g := g) (cs := (bv e).toArray) 28 _ rfl rfl ((HR.out.2.1.mod H4.out.1 (fun f => f)).mod H5.out.2.1 (fun h => HR.out.2.2.2.2 g h rfl)) Try.underlying28 rfl (size_ente hel)) ?_))
        | (with_reducible change wpList _ _ _ (⟨some 4, Op.alloc _, _, _, _, _⟩ :: _) _ _
           go_must (refine wpList_alloc_var 28 rfl rfl info_entz ?_)
           intro w6 b6 m6 z6
           clear z6
           have H6 := Lib.hid (And.intro m6 b6)
           clear m6 b6)
        | (with_reducible change wpList _ _ _ (⟨none, Op.store _ (Operand.tmp 4) _, _, _, _, _⟩ :: _) _ _
           go_must (refine wpList_store_var 28 _ _ rfl rfl w5.heap.size (bv e).toArray _ _ rfl rfl H6.out.2 (size_ente hel) (by rw [bv_size, hel]; rfl) (bv_all _) ?_)
           intro w7 b7 m7 z7
           clear z7
           have H7 := Lib.hid (And.intro (H6.out.1.new_ m7 (Nat.le_refl _)) b7)
           clear m7 b7)
        | (with_reducible change wpList _ _ _ (⟨some 16, _, _, _, _, _⟩ :: _) _ _
           go_must (refine wpList_val rfl (exec_load_cells (P := Try.prog) (b := w5.heap.size) (off := 0) (cs := bv (keyOf e)) 23 _ rfl rfl (key_cells H7.out.2) Try.underlying23 rfl (by rw [bv_len, keyOf_len hel]; exact size_keyT)) ?_)))
      -- zzC
      have hs4 : wo.heap.size < w4.heap.size := H4.out.2.lt
      have hs5 : w4.heap.size ≤ w5.heap.size := H5.out.2.1.size
      have hs7 : w5.heap.size < w7.heap.size := H7.out.2.lt
      have hu3 : ∀ gb, u3.ownBlock = some gb → w.heap.size ≤ gb ∧ gb < wo.heap.size := fun gb h => HR.out.1.blk h
      have hv5 : ∀ gb, v5.ownBlock = some gb → w.heap.size ≤ gb ∧ gb < w5.heap.size := fun gb h => H5.out.1.blk h
      have hm5 : Mod Nn w w5 := (HR.out.2.2.2.1.nn_ H4.out.1).then_ H5.out.2.1 (fun x hx h => by have := hu3 x h; omega)
      have hm7 : Mod Nn w w7 := hm5.nn_ H7.out.1
      have HS := Lib.hid (And.intro hm7 hv5)
      clear hm5 hm7 hu3 hv5
      refine (HB.out.2.2.1 w7 (keyOf e) false HS.out.1 (keyOf_len hel) (keyOf_lt HE.out.1)).mono ?_
      rintro r w8 ⟨rfl, m8⟩
      have hs8 : w7.heap.size ≤ w8.heap.size := m8.size
      rw [aft_step HB.out.1 HE.out.2]
      unfold optV
      obtain ⟨e1, he1⟩ : ∃ e1, (L[j + 1]?).getD ze = e1 := ⟨_, rfl⟩
      have hl1 : e1.length = 80 := by rw [← he1]; exact HB.out.2.2.2.2 (j + 1)
      rw [he1]
      have H8 := Lib.hid (And.intro (HS.out.1.nn_ m8) (And.intro (H7.out.2.mod m8 (fun f => f)) (And.intro ((H5.out.1.nn H7.out.1).nn m8) he1)))
      clear m8 he1
      go_wp2_with (first
        | (with_reducible change wpList _ _ _ (⟨none, Op.store _ (Operand.tmp 4) _, _, _, _, _⟩ :: _) _ _
           go_must (refine wpList_store_var 28 _ _ rfl rfl w5.heap.size (bv e1).toArray _ _ rfl rfl H8.out.2.1 (size_ente hl1) (by rw [bv_size, bv_size, hl1, hel]) (bv_all _) ?_)
           intro w9 b9 m9 z9
           clear z9
           have H9 := Lib.hid (And.intro m9 b9)
           clear m9 b9))
      have hvne : ∀ gb, v5.ownBlock = some gb → gb ≠ w5.heap.size := fun gb h => by have := HS.out.2 gb h; omega
      have hlv3 := own_lenV HR.out.1
      have hlv5 := own_lenV H5.out.1
      have hown9 : OwnE w9 w.heap.size v5 (L.take (j + 1)) := by
        have := H8.out.2.2.1.mod H9.out.1 (fun gb h => hvne gb h)
        rw [List.take_add_one, HE.out.2]
        exact this
      refine ⟨⟨j + 1, w5.heap.size, by omega, rfl, rfl, Lib.hid ⟨hown9, by rw [H8.out.2.2.2]; exact H9.out.2, by omega, H8.out.1.new_ H9.out.1 (by omega), hvne⟩⟩, ?_⟩
      rw [hlv3, hlv5, List.length_append, HT.out]
      simp only [List.length_cons, List.length_nil]
      omega
end
end Go.Proofs.Ytkcpmkeckcnobaa

/- peatbanklaw17: del, set. -/
namespace Go.Proofs.Ytkcpmkeckcnobaa
open Go.RowKit

theorem key_pre {r : List Nat} {j : Nat} {v : Value} (h : (bv (keyOf r))[j]? = some v) : (bv r)[j]? = some v := by
  unfold keyOf at h
  rw [← bv_take, List.getElem?_take] at h
  split at h
  · exact h
  · cases h
theorem zE_cells : zE.cells.size = 80 := zsE
/-- rows that are read, none of them in these blocks -/
def RowsAt (w : World) (A : Option Addr) (n : Nat) (R : List (List Nat)) : Prop := RdC w A n 80 (bv R.flatten) ∧ Rows 80 R ∧ R.length = n
theorem RowsAt.mod {w w' : World} {A : Option Addr} {n : Nat} {R : List (List Nat)} {S : Nat → Prop} (h : RowsAt w A n R) (hm : Mod S w w') (hn : ∀ g, Of A g → ¬ S g) : RowsAt w' A n R := ⟨h.1.md (by omega) hm hn, h.2⟩
theorem RowsAt.nn {w w' : World} {A : Option Addr} {n : Nat} {R : List (List Nat)} (h : RowsAt w A n R) (hm : Mod Nn w w') : RowsAt w' A n R := h.mod hm (fun _ _ f => f)
theorem rdel_take {R : List (List Nat)} {k : List Nat} {j : Nat} {r : List Nat} (h : R[j]? = some r) : rdel (R.take (j + 1)) k = if keyOf r = k then rdel (R.take j) k else rdel (R.take j) k ++ [r] := by
  obtain ⟨h1, rfl⟩ := List.getElem?_eq_some_iff.1 h
  rw [List.take_succ_eq_append_getElem h1, rdel_append]
  by_cases hk : keyOf R[j] = k
  · rw [if_pos hk]; simp [rdel, hk]
  · rw [if_neg hk]; simp [rdel, hk]
section
variable {w : World} {A : Option Addr} {n c : Nat} {R : List (List Nat)} {k e : List Nat}
set_option maxRecDepth 100000 in
set_option maxHeartbeats 6400000 in
theorem ldel_any (h : RowsAt w A n R) (hn : n ≤ 1000000) (hk : k.length = 40) (hkz : ∀ z ∈ k, z < 256) : Calls Try.prog 25 #[.slice A n c, .agg (bv k).toArray] w fun r w' => ∃ v, r = .returned v ∧ OwnE w' w.heap.size v (rdel R k) ∧ Mod Nn w w' := by
  have HB := Lib.hid (And.intro h hkz)
  have hlen := h.2.2
  clear h hkz
  go_enter Try.func25, Try.ntmps25
  go_wp2_with (first
    | (with_reducible change wpList _ _ _ (⟨some 3, Op.box _ _, _, _, _, _⟩ :: _) _ _
       go_must (refine wpList_box_var 23 _ rfl rfl (bv k).toArray rfl ?_)
       intro w1 b1 m1 z1
       clear z1
       have hs1 : w.heap.size < w1.heap.size := b1.lt
       have H1 := Lib.hid (And.intro m1 b1)
       clear m1 b1))
  go_loopw [5, 6] (fun s i wr => ∃ j : Nat, j ≤ n ∧ i = .int .i64 j ∧ Hid (OwnE wr w1.heap.size s (rdel (R.take j) k) ∧ Mod Nn w1 wr)) (fun _ i _ => n - (intOf i).toNat)
  case atStart => exact ⟨0, Nat.zero_le _, rfl, Lib.hid ⟨OwnE.nil _ _, Mod.refl _ _⟩⟩
  case round =>
    obtain ⟨j, hj, rfl, HR⟩ := hrel
    obtain ⟨wo, rfl⟩ : ∃ wo : World, wo = wr := ⟨_, rfl⟩
    by_cases hjn : j < n
    · have hjn' : (j : Int) < n := by omega
      obtain ⟨r, hr⟩ : ∃ r, R[j]? = some r := ⟨_, List.getElem?_eq_getElem (by omega)⟩
      have hr80 := HB.out.1.2.1 r (List.mem_of_getElem? hr)
      have hrl := hr80.1
      have hmw : Mod Nn w wo := H1.out.1.nn_ HR.out.2
      obtain ⟨g, off, rfl, hcell⟩ := (HB.out.1.nn hmw).1.row HB.out.1.2.1 hr (by omega)
      have HC := Lib.hid (And.intro hcell (And.intro hr (And.intro hr80.2 (And.intro hmw (H1.out.2.mod HR.out.2 (fun f => f))))))
      clear hcell hr hr80 hmw
      go_wp2_with fail
      refine wp_region_planC (fun w' => Mod Nn wo w') [(0, true), (1, true), (2, true), (3, true), (4, true), (5, true), (6, true)] (by kernel_rfl) (by kernel_rfl) (Mod.refl Nn wo).drew ?_
      iterate 2 (refine pc_pure rfl rfl (fun K hK => ?_); go_simp; refine hK _ ?_; clear hK K)
      refine pc_take (.pointer (some ⟨g, off + j * 80, none⟩)) rfl rfl (fun w' _ => exec_elem (P := Try.prog) (g := g) (off := off) (q := j) 40 (.tmp 13) (.tmp 14) rfl 28 80 uuE sizeE rfl rfl hjn) (fun K hK => ?_); go_simp; refine hK _ ?_; clear hK K
      iterate 1 (refine pc_pure rfl rfl (fun K hK => ?_); go_simp; refine hK _ ?_; clear hK K)
      refine pc_take (.agg (bv (keyOf r)).toArray) rfl rfl (fun w' hS => exec_load_cells (P := Try.prog) (b := g) (off := off + j * 80) (cs := bv (keyOf r)) 23 (.tmp 16) rfl rfl (fun q v hq => by
        have hq' := key_pre hq
        have := (HB.out.1.nn (HC.out.2.2.2.1.nn_ hS)).1.row HB.out.1.2.1 HC.out.2.1 (by omega)
        obtain ⟨g', off', e, hc⟩ := this
        injection e with e; injection e with e1 e2 _; subst e1; subst e2
        exact hc q v hq') Try.underlying23 rfl (by rw [bv_len, keyOf_len hrl]; exact size_keyT)) (fun K hK => ?_); go_simp; refine hK _ ?_; clear hK K
      refine pc_take (.agg (bv k).toArray) rfl rfl (fun w' hS => exec_load_row (P := Try.prog) (g := w.heap.size) (cs := (bv k).toArray) 23 (.tmp 3) rfl rfl (HC.out.2.2.2.2.mod hS (fun f => f)) Try.underlying23 rfl (size_keyk hk)) (fun K hK => ?_); go_simp; refine hK _ ?_; clear hK K
      refine pc_take (.bool (!decide (keyOf r = k))) rfl rfl (fun w' _ => exec_neq_agg (P := Try.prog) (b := decide (keyOf r = k)) 23 23 _ _ rfl rfl rfl Try.eqGuardType23 (eqK2 (keyOf_len hrl) hk (keyOf_lt HC.out.2.2.1) HB.out.2)) (fun K hK => ?_); go_simp; refine hK _ ?_; clear hK K
      refine pc_nil ?_
      have hmd : Mod Nn wo wo.drew := (Mod.refl Nn wo).drew
      have HD := Lib.hid (And.intro hmd (HR.out.1.nn hmd))
      have hcd := Lib.hid ((fun q v hq => by
        have := (HB.out.1.nn (HC.out.2.2.2.1.nn_ hmd)).1.row HB.out.1.2.1 HC.out.2.1 (by omega)
        obtain ⟨g', off', e, hc⟩ := this
        injection e with e; injection e with e1 e2 _; subst e1; subst e2
        exact hc q v hq) : ∀ q v, (bv r)[q]? = some v → wo.drew.cell? ⟨g, off + j * 80 + q, none⟩ = some v)
      clear hmd
      generalize wo.drew = wd at *
      by_cases hkk : keyOf r = k
      · rw [decide_eq_true hkk]
        have HK := Lib.hid (rdel_take (k := k) HC.out.2.1)
        have HKK := Lib.hid hkk
        clear hkk
        go_wp2
        exact ⟨⟨j + 1, by omega, by go_num, Lib.hid ⟨by rw [HK.out, if_pos HKK.out]; exact HD.out.2, HR.out.2.nn_ HD.out.1⟩⟩, by simp [intOf]; omega⟩
      · rw [decide_eq_false hkk]
        have HK := Lib.hid (rdel_take (k := k) HC.out.2.1)
        have HKK := Lib.hid hkk
        clear hkk
        have hln : (rdel (R.take j) k).length ≤ j := by
          have := rdel_len (R.take j) k
          rw [List.length_take] at this; omega
        have HLN := Lib.hid hln
        clear hln
        go_wp2_with (first
          | (with_reducible change wpList _ _ _ (⟨some 23, _, _, _, _, _⟩ :: _) _ _
             go_must (refine wpList_val rfl (exec_elem (P := Try.prog) (g := g) (off := off) (q := j) 40 (.tmp 21) (.tmp 22) rfl 28 80 uuE sizeE rfl rfl hjn) ?_))
          | (with_reducible change wpList _ _ _ (⟨some 24, _, _, _, _, _⟩ :: _) _ _
             go_must (refine wpList_val rfl (exec_load_cells (P := Try.prog) (b := g) (off := off + j * 80) (cs := bv r) 28 (.tmp 23) rfl rfl hcd.out Try.underlying28 rfl (by rw [bv_len, hrl]; exact size_entT)) ?_))
          | (with_reducible change wpList _ _ _ (⟨some 25, _, _, _, _, _⟩ :: _) _ _
             go_must (refine wpList_mk1 (P := Try.prog) 40 28 _ rfl rfl (s := 80) Try.underlying40 infoE2 (by omega) (by omega) (v := .agg (bv r).toArray) (ys := bv r) rfl rfl (by rw [bv_len, hrl]) ?_)
             intro w4 b4 m4
             have H4 := Lib.hid (And.intro m4 b4)
             clear b4 m4)
          | (with_reducible change wpList _ _ _ (⟨some 26, _, _, _, _, _⟩ :: _) _ _
             go_must (refine wpList_append_rd 40 _ _ rfl rfl w1.heap.size 28 zE 80 80 Try.underlying40 infoE zsE (by omega) _ (rdel (R.take j) k).length (bv (rdel (R.take j) k).flatten) rfl (HD.out.2.nn H4.out.1) (some ⟨wd.heap.size, 0, none⟩) 1 1 (bv r) rfl (RdC.of_blk H4.out.2 (by rw [bv_len, hrl])) (bv_one _) (by have := HLN.out; omega) (by have := HLN.out; omega) (by have := H4.out.1.size; have := HD.out.1.size; have := HR.out.2.size; omega) ?_)
             intro v5 w5 own5 gr5 ob5
             have m5 : Mod (fun x => u5.ownBlock = some x) w4 w5 := (Mod.refl _ _).grown gr5 (fun x h => .inr h)
             have H5 := Lib.hid (And.intro (OwnE.snoc rfl own5) m5)
             clear own5 gr5 ob5 m5))
        have hm5 : Mod Nn w1 w5 := (HR.out.2.nn_ (HD.out.1.nn_ H4.out.1)).then_ H5.out.2 (fun x hx h => by have := HR.out.1.blk h; omega)
        refine ⟨⟨j + 1, by omega, by go_num, Lib.hid ⟨by rw [HK.out, if_neg HKK.out]; exact H5.out.1, hm5⟩⟩, by simp [intOf]; omega⟩
    · have hjn' : ¬ (j : Int) < n := by omega
      have htk : R.take j = R := List.take_of_length_le (by omega)
      have HT := Lib.hid htk
      clear htk
      go_wp2
      go_ret
      exact ⟨_, rfl, by have := HR.out.1; rw [HT.out] at this; exact own_base this (fun g hg => by have := this.blk hg; omega), H1.out.1.nn_ HR.out.2⟩
set_option maxRecDepth 100000 in
set_option maxHeartbeats 6400000 in
theorem lset_any (h : RowsAt w A n R) (hn : n ≤ 1000000) (he : e.length = 80) (hez : ∀ z ∈ e, z < 256) : Calls Try.prog 23 #[.slice A n c, .agg (bv e).toArray] w fun r w' => ∃ v, r = .returned v ∧ OwnE w' w.heap.size v (rset R e) ∧ Mod Nn w w' := by
  have HB := Lib.hid (And.intro h (And.intro hez (keyOf_lt hez)))
  have hke := keyOf_len he
  have hlen := h.2.2
  have hrl : (rdel R (keyOf e)).length ≤ 1000000 := by have := rdel_len R (keyOf e); omega
  clear h hez
  go_enter Try.func23, Try.ntmps23
  go_wp2_with (first
    | (with_reducible change wpList _ _ _ (⟨some 3, Op.box _ _, _, _, _, _⟩ :: _) _ _
       go_must (refine wpList_box_var 28 _ rfl rfl (bv e).toArray rfl ?_)
       intro w1 b1 m1 z1
       clear z1
       have hs1 : w.heap.size < w1.heap.size := b1.lt
       have H1 := Lib.hid (And.intro m1 b1)
       clear m1 b1))
  refine wp_region_planV (fun w' => Mod Nn w1 w') 6 (.pure 0 (.pure 1 (.read 2 (.read 4 (.fork 3 5 (.alone 5 (.alone 6 (.pure 7 .nil))) (.alone 3 (.alone 6 (.pure 7 .nil)))))))) (by kernel_rfl) (by kernel_rfl) (Mod.refl Nn w1).drew ?_
  iterate 2 (refine pv_pure rfl rfl (fun K hK => ?_); go_simp; refine hK _ ?_; clear hK K)
  refine pv_take (.agg (bv (keyOf e)).toArray) rfl rfl (fun w' hS => exec_load_cells (P := Try.prog) (b := w.heap.size) (off := 0) (cs := bv (keyOf e)) 23 (.tmp 6) rfl rfl (key_cells (H1.out.2.mod hS (fun f => f))) Try.underlying23 rfl (by rw [bv_len, hke]; exact size_keyT)) (fun K hK => ?_); go_simp; refine hK _ ?_; clear hK K
  refine pv_take (.agg (bv e).toArray) rfl rfl (fun w' hS => exec_load_row (P := Try.prog) (g := w.heap.size) (cs := (bv e).toArray) 28 (.tmp 3) rfl rfl (H1.out.2.mod hS (fun f => f)) Try.underlying28 rfl (size_ente he)) (fun K hK => ?_); go_simp; refine hK _ ?_; clear hK K
  refine pv_fork ?_ ?_
  · refine pv_call rfl rfl (fun K hK => ?_); go_simp; refine ⟨_, _, ⟨rfl, rfl⟩, hK _ _ _ ?_⟩; clear hK K
    refine (ldel_any (c := c) ((HB.out.1.nn H1.out.1).nn (Mod.refl Nn w1).drew) hn hke HB.out.2.2).mono ?_
    rintro r w3 ⟨v, rfl, ho, m3⟩
    refine ⟨_, rfl, fun _ => m3.of_drew, ?_⟩
    have hdr : w1.drew.heap.size = w1.heap.size := rfl
    have H3 := Lib.hid (And.intro ho m3.of_drew)
    clear ho m3
    refine pv_bslice1 40 28 (.tmp 9) rfl rfl rfl Try.underlying40 infoE2 (by omega) (by omega) (v := .agg (bv e).toArray) (xs := bv e) rfl rfl (by rw [bv_len, he]) (fun w4 rd4 m4 z4 => ⟨fun _ => H3.out.2.nn_ m4, ?_⟩)
    refine (fun K hK => ?_); go_simp; refine hK _ ?_; clear hK K
    obtain ⟨g, hg⟩ : ∃ g, w3.heap.size = g := ⟨_, rfl⟩
    rw [hg] at rd4 ⊢
    have H4 := Lib.hid (And.intro (H3.out.2.nn_ m4) (And.intro (own_base (H3.out.1.nn m4) (fun x hx => by have := H3.out.1.blk hx; omega) : OwnE w4 w.heap.size v (rdel R (keyOf e))) (And.intro rd4 (fun x h => by have := H3.out.1.blk h; omega : ∀ x, v.ownBlock = some x → w.heap.size < x))))
    clear m4 rd4 z4 H3 hg
    refine pv_append 40 (.tmp 8) (.tmp 10) rfl rfl rfl w.heap.size 28 zE 80 80 Try.underlying40 infoE zsE (by omega) v (rdel R (keyOf e)).length (bv (rdel R (keyOf e)).flatten) rfl H4.out.2.1 (some ⟨g, 0, none⟩) 1 1 (bv e) rfl H4.out.2.2.1 (bv_one _) (by omega) (by omega) (by have := H4.out.1.size; omega) (fun v6 w6 own6 gr6 ob6 => ⟨fun h => by simp at h, ?_⟩)
    refine (fun K hK => ?_); go_simp; refine hK _ ?_; clear hK K
    have m6 : Mod (fun x => v.ownBlock = some x) w4 w6 := (Mod.refl _ _).grown gr6 (fun x h => .inr h)
    have H6 := Lib.hid (And.intro (OwnE.snoc rfl own6) m6)
    clear own6 gr6 ob6 m6
    iterate 1 (refine pv_pure rfl rfl (fun K hK => ?_); go_simp; refine hK _ ?_; clear hK K)
    refine pv_nil ?_
    go_wp2
    go_ret
    exact ⟨_, rfl, H6.out.1, (H1.out.1.nn_ H4.out.1).then_ H6.out.2 (fun x hx h => by have := H4.out.2.2.2 x h; omega)⟩
  · refine pv_bslice1 40 28 (.tmp 9) rfl rfl rfl Try.underlying40 infoE2 (by omega) (by omega) (v := .agg (bv e).toArray) (xs := bv e) rfl rfl (by rw [bv_len, he]) (fun w3 rd3 m3 z3 => ⟨fun _ => m3.of_drew, ?_⟩)
    refine (fun K hK => ?_); go_simp; refine hK _ ?_; clear hK K
    have hdr : w1.drew.heap.size = w1.heap.size := rfl
    rw [hdr] at rd3 z3
    obtain ⟨g, hg⟩ : ∃ g, w1.heap.size = g := ⟨_, rfl⟩
    rw [hg] at rd3 ⊢
    have H3 := Lib.hid (And.intro rd3 m3.of_drew)
    clear m3 rd3
    refine pv_call rfl rfl (fun K hK => ?_); go_simp; refine ⟨_, _, ⟨rfl, rfl⟩, hK _ _ _ ?_⟩; clear hK K
    refine (ldel_any (c := c) ((HB.out.1.nn H1.out.1).nn H3.out.2) hn hke HB.out.2.2).mono ?_
    rintro r w4 ⟨v, rfl, ho, m4⟩
    refine ⟨_, rfl, fun _ => H3.out.2.nn_ m4, ?_⟩
    have hs3 : w1.heap.size ≤ w3.heap.size := H3.out.2.size
    have H4 := Lib.hid (And.intro (H3.out.2.nn_ m4) (And.intro (own_base ho (fun x hx => by have := OwnE.blk ho hx; omega) : OwnE w4 w.heap.size v (rdel R (keyOf e))) (And.intro (H3.out.1.md (by omega) m4 (fun _ _ f => f)) (fun x h => by have := OwnE.blk ho h; omega : ∀ x, v.ownBlock = some x → w.heap.size < x))))
    clear ho m4 H3 hg
    refine pv_append 40 (.tmp 8) (.tmp 10) rfl rfl rfl w.heap.size 28 zE 80 80 Try.underlying40 infoE zsE (by omega) v (rdel R (keyOf e)).length (bv (rdel R (keyOf e)).flatten) rfl H4.out.2.1 (some ⟨g, 0, none⟩) 1 1 (bv e) rfl H4.out.2.2.1 (bv_one _) (by omega) (by omega) (by have := H4.out.1.size; omega) (fun v6 w6 own6 gr6 ob6 => ⟨fun h => by simp at h, ?_⟩)
    refine (fun K hK => ?_); go_simp; refine hK _ ?_; clear hK K
    have m6 : Mod (fun x => v.ownBlock = some x) w4 w6 := (Mod.refl _ _).grown gr6 (fun x h => .inr h)
    have H6 := Lib.hid (And.intro (OwnE.snoc rfl own6) m6)
    clear own6 gr6 ob6 m6
    iterate 1 (refine pv_pure rfl rfl (fun K hK => ?_); go_simp; refine hK _ ?_; clear hK K)
    refine pv_nil ?_
    go_wp2
    go_ret
    exact ⟨_, rfl, H6.out.1, (H1.out.1.nn_ H4.out.1).then_ H6.out.2 (fun x hx h => by have := H4.out.2.2.2 x h; omega)⟩
end
end Go.Proofs.Ytkcpmkeckcnobaa

/- peatbanklaw17: one, planted. -/
namespace Go.Proofs.Ytkcpmkeckcnobaa
open Go.RowKit

/-! ## one -/
def oneK (k : Nat) : List Nat := k :: List.replicate 39 0
def oneR (k : Nat) : List Nat := oneK k ++ oneK k
theorem oneK_len (k : Nat) : (oneK k).length = 40 := by simp [oneK]
theorem oneR_len (k : Nat) : (oneR k).length = 80 := by simp [oneR, oneK_len]
theorem oneK_lt {k : Nat} (h : k < 256) : ∀ z ∈ oneK k, z < 256 := fun z hz => by
  rcases List.mem_cons.1 hz with rfl | hz
  · exact h
  · have := List.eq_of_mem_replicate hz; omega
theorem oneR_lt {k : Nat} (h : k < 256) : ∀ z ∈ oneR k, z < 256 := fun z hz => by
  rcases List.mem_append.1 hz with hz | hz <;> exact oneK_lt h z hz
theorem oneR_key (k : Nat) : keyOf (oneR k) = oneK k := by unfold keyOf oneR; rw [List.take_append_of_le_length (by rw [oneK_len]; omega), List.take_of_length_le (by rw [oneK_len]; omega)]
theorem zero_valz : (Try.prog.info? 26).map (·.zero) = some (some (.agg (bv (List.replicate (39 + 1) 0)).toArray)) := by kernel_rfl
theorem zero_keyz' : (Try.prog.info? 23).map (·.zero) = some (some (.agg (bv (List.replicate (39 + 1) 0)).toArray)) := by kernel_rfl
theorem zero_entz : (Try.prog.info? 28).map (·.zero) = some (some (.agg (bv ze).toArray)) := by kernel_rfl
theorem agg_two (a b : List Nat) : (bv a).toArray ++ (bv b).toArray = (bv (a ++ b)).toArray := by rw [bv_append]; simp
set_option maxRecDepth 100000 in
set_option maxHeartbeats 1600000 in
theorem one_any (w : World) (k : Nat) : Calls Try.prog 41 #[.int .u8 (k : Int)] w fun e w' => e = .returned (.agg (bv (oneR k)).toArray) ∧ Mod Nn w w' := by
  go_enter Try.func41, Try.ntmps41
  go_wp2_with (first
    | (with_reducible change wpList _ _ _ (⟨some 2, Op.alloc _, _, _, _, _⟩ :: _) _ _
       go_must (refine wpList_alloc_var 28 rfl rfl info_entz ?_)
       intro w2 b2 m2 z2
       clear z2
       have H2 := Lib.hid (And.intro m2 b2)
       clear m2 b2)
    | (with_reducible change wpList _ _ _ (⟨some 4, _, _, _, _, _⟩ :: _) _ _
       go_must (refine wpList_val rfl (exec_build_byte (P := Try.prog) 23 5 39 (.tmp 3) rfl Try.underlying23 size_u8t zero_keyz' (b := k) rfl) ?_))
    | (with_reducible change wpList _ _ _ (⟨some 6, _, _, _, _, _⟩ :: _) _ _
       go_must (refine wpList_val rfl (exec_build_byte (P := Try.prog) 26 5 39 (.tmp 5) rfl Try.underlying26 size_u8t zero_valz (b := k) rfl) ?_))
    | (with_reducible change wpList _ _ _ (⟨some 7, _, _, _, _, _⟩ :: _) _ _
       go_must (refine wpList_val rfl (exec_build_two (P := Try.prog) 28 (.tmp 4) (.tmp 6) rfl zero_entz (s := 40) (by rw [Value.cells, bv_size]; rfl) (by omega) Try.underlying28 (by kernel_rfl) (X := (bv (oneK k)).toArray) (Y := (bv (oneK k)).toArray) rfl rfl (by rw [bv_size, oneK_len]) (by rw [bv_size, oneK_len])) ?_)
       rw [agg_two])
    | (with_reducible change wpList _ _ _ (⟨none, Op.store _ (Operand.tmp 2) _, _, _, _, _⟩ :: _) _ _
       go_must (refine wpList_store_var 28 _ _ rfl rfl w.heap.size (bv (oneR k)).toArray _ _ rfl rfl H2.out.2 (size_ente (oneR_len k)) (by rw [bv_size, oneR_len]; rfl) (bv_all _) ?_)
       intro w4 b4 m4 z4
       clear z4
       have H4 := Lib.hid (And.intro (H2.out.1.new_ m4 (Nat.le_refl _)) b4)
       clear m4 b4))
  exact bodyPost_ret (results_cell_row (P := Try.prog) rfl _ w4 _ _ _ (0, 0) _ rfl H4.out.2 Try.underlying28 rfl (size_ente (oneR_len k))) rfl ⟨rfl, H4.out.1⟩
/-! ## planted -/
def plR (E : List (List Nat)) : List (List Nat) := E.foldl rset []
theorem plR_take {R : List (List Nat)} {i : Nat} {r : List Nat} (h : R[i]? = some r) : plR (R.take (i + 1)) = rset (plR (R.take i)) r := by
  obtain ⟨h1, rfl⟩ := List.getElem?_eq_some_iff.1 h
  unfold plR
  rw [List.take_succ_eq_append_getElem h1, List.foldl_append]; rfl
theorem pl_like (E : List (List Nat)) : Like (plR E) (ordR E) := by
  suffices ∀ R L, Like R L → Like (E.foldl rset R) (E.foldl ins L) from this [] [] Like.nil
  induction E with
  | nil => exact fun R L h => h
  | cons e E ih => exact fun R L h => ih _ _ (h.set e)
theorem plR_len (E : List (List Nat)) : (plR E).length ≤ E.length := by
  suffices ∀ R : List (List Nat), (E.foldl rset R).length ≤ R.length + E.length by have := this []; simp only [List.length_nil, Nat.zero_add] at this; exact this
  induction E with
  | nil => intro R; simp
  | cons e E ih =>
    intro R
    have h1 := ih (rset R e)
    have h2 : (rset R e).length ≤ R.length + 1 := by unfold rset; rw [List.length_append]; have := rdel_len R (keyOf e); simp; omega
    rw [List.foldl_cons, List.length_cons]; omega
theorem plR_rows {E : List (List Nat)} (h : Rows 80 E) : Rows 80 (plR E) := by
  suffices ∀ R, Rows 80 R → Rows 80 (E.foldl rset R) from this [] (fun r hr => by cases hr)
  induction E with
  | nil => exact fun R h => h
  | cons e E ih => exact fun R hR => ih (fun r hr => h r (List.mem_cons_of_mem _ hr)) _ (rows_rset hR (h e List.mem_cons_self))
theorem lt_of_cell_ {w : World} {a : Addr} {v : Value} (h : w.cell? a = some v) : a.block < w.heap.size := by
  unfold World.cell? at h
  cases hb : w.heap[a.block]? with
  | none => rw [hb] at h; cases h
  | some o => exact lt_of_heap hb
theorem RowsAt.lt {w : World} {A : Option Addr} {n : Nat} {R : List (List Nat)} (h : RowsAt w A n R) (hn : 0 < n) : ∀ g, Of A g → g < w.heap.size := fun g hg => by
  have hl : 0 < R.length := by rw [h.2.2]; exact hn
  obtain ⟨g', off, rfl, hc⟩ := h.1.row h.2.1 (List.getElem?_eq_getElem hl) hn
  obtain ⟨a, ha, rfl⟩ := hg
  injection ha with ha; subst ha
  have h80 := (h.2.1 R[0] (List.getElem_mem hl)).1
  have := hc 0 _ (List.getElem?_eq_getElem (by rw [bv_len, h80]; omega))
  exact lt_of_cell_ this
def PlP (w : World) (E : List (List Nat)) (r : Ending) (w' : World) : Prop :=
  ∃ b G v, r = .returned (.tuple #[.pointer (some ⟨b, 0, none⟩), v]) ∧ TrAt w' b (ordR E) G ∧ OwnE w' w.heap.size v (plR E) ∧ (∀ g ∈ G, w.heap.size ≤ g ∧ v.ownBlock ≠ some g) ∧ Mod Nn w w'
section
variable {w : World} {A : Option Addr} {n c : Nat} {E : List (List Nat)}
set_option maxRecDepth 100000 in
set_option maxHeartbeats 6400000 in
theorem planted_any (h : RowsAt w A n E) : Calls Try.prog 16 #[.slice A n c] w (PlP w (E.take 200)) := by
  have hlen := h.2.2
  have HB := Lib.hid h
  clear h
  go_enter Try.func16, Try.ntmps16
  go_wp2_with fail
  refine (tnew_any w).mono ?_
  rintro r w1 ⟨b, G0, rfl, ht, hG, m1⟩
  have hs1 : w.heap.size ≤ w1.heap.size := m1.size
  have H1 := Lib.hid (And.intro ht (And.intro hG m1))
  clear ht hG m1
  go_wp2_with fail
  go_loopw [5, 6] (fun s i wr => ∃ (j : Nat) (G : List Nat), j ≤ n ∧ j ≤ 200 ∧ i = .int .i64 j ∧ Hid (TrAt wr b (ordR (E.take j)) G ∧ OwnE wr w.heap.size s (plR (E.take j)) ∧ (∀ g ∈ G, w.heap.size ≤ g ∧ s.ownBlock ≠ some g) ∧ Mod Nn w wr)) (fun _ i _ => n - (intOf i).toNat)
  case atStart => exact ⟨0, G0, Nat.zero_le _, Nat.zero_le _, rfl, Lib.hid ⟨H1.out.1, OwnE.nil _ _, fun g hg => ⟨H1.out.2.1 g hg, by rintro ⟨⟩⟩, H1.out.2.2⟩⟩
  case round =>
    obtain ⟨j, G, hj, hj2, rfl, HR⟩ := hrel
    obtain ⟨wo, rfl⟩ : ∃ wo : World, wo = wr := ⟨_, rfl⟩
    by_cases hjn : j < n ∧ j < 200
    · obtain ⟨hjn, hj200⟩ := hjn
      have hjn' : (j : Int) < n := by omega
      have hj200' : (j : Int) < 200 := by omega
      obtain ⟨e, he⟩ : ∃ e, E[j]? = some e := ⟨_, List.getElem?_eq_getElem (by omega)⟩
      have he80 := HB.out.2.1 e (List.mem_of_getElem? he)
      have hel := he80.1
      obtain ⟨g, off, rfl, hcell⟩ := (HB.out.nn HR.out.2.2.2).1.row HB.out.2.1 he (by omega)
      have hgl : g < w.heap.size := HB.out.lt (by omega) g ⟨_, rfl, rfl⟩
      obtain ⟨A5, c5, rfl, hc5, hc5m, hr5, ho5⟩ := HR.out.2.1.slice
      have hpl : (plR (E.take j)).length ≤ 200 := by have := plR_len (E.take j); rw [List.length_take] at this; omega
      have hol : (ordR (E.take j)).length ≤ 200 := by rw [← (pl_like (E.take j)).len]; exact hpl
      have hat : ∀ w', Mod (· ∈ G) wo w' → ∀ q v, (bv e)[q]? = some v → w'.cell? ⟨g, off + j * 80 + q, none⟩ = some v := fun w' hm q v hq => by
        rw [hm.cell (p := ⟨g, off + j * 80 + q, none⟩) (Nat.lt_of_lt_of_le hgl HR.out.2.2.2.size) (fun hg => by have := (HR.out.2.2.1 g hg).1; omega)]
        exact hcell q v hq
      have HC := Lib.hid (And.intro (hat wo (Mod.refl _ _)) (And.intro hat (And.intro he (And.intro he80.2 (And.intro hr5 ho5)))))
      clear hcell hat he he80 hr5 ho5
      go_wp2_with (first
        | (with_reducible change wpList _ _ _ (⟨some 21, _, _, _, _, _⟩ :: _) _ _
           go_must (refine wpList_val rfl (exec_elem (P := Try.prog) (g := g) (off := off) (q := j) 40 (.tmp 19) (.tmp 20) rfl 28 80 uuE sizeE rfl rfl hjn) ?_))
        | (with_reducible change wpList _ _ _ (⟨some 22, _, _, _, _, _⟩ :: _) _ _
           go_must (refine wpList_val rfl (exec_load_cells (P := Try.prog) (b := g) (off := off + j * 80) (cs := bv e) 28 (.tmp 21) rfl rfl HC.out.1 Try.underlying28 rfl (by rw [bv_len, hel]; exact size_entT)) ?_)))
      refine (tset_any HR.out.1 hel HC.out.2.2.2.1 (by omega)).mono ?_
      rintro r w2 ⟨rfl, G2, ht2, hG2, m2⟩
      have hs2 : wo.heap.size ≤ w2.heap.size := m2.size
      have hso : w.heap.size ≤ wo.heap.size := HR.out.2.2.2.size
      have hm2 : Mod Nn w w2 := HR.out.2.2.2.then_ m2 (fun x hx h => by have := (HR.out.2.2.1 x h).1; omega)
      have hrows5 : RowsAt w2 A5 (plR (E.take j)).length (plR (E.take j)) := by
        refine ⟨HC.out.2.2.2.2.1.md (by omega) m2 (fun x hx hxG => (HR.out.2.2.1 x hxG).2 (HC.out.2.2.2.2.2 x hx)), plR_rows (fun r hr => HB.out.2.1 r (List.mem_of_mem_take hr)), rfl⟩
      have H2 := Lib.hid (And.intro ht2 (And.intro (fun x hx => (hG2 x hx).elim (fun h => (HR.out.2.2.1 x h).1) (fun h => by omega) : ∀ x ∈ G2, w.heap.size ≤ x) (And.intro hm2 (And.intro (HC.out.2.1 w2 m2) hrows5))))
      clear ht2 hG2 m2 hm2 hrows5
      go_wp2_with (first
        | (with_reducible change wpList _ _ _ (⟨some 27, _, _, _, _, _⟩ :: _) _ _
           go_must (refine wpList_val rfl (exec_elem (P := Try.prog) (g := g) (off := off) (q := j) 40 (.tmp 25) (.tmp 26) rfl 28 80 uuE sizeE rfl rfl hjn) ?_))
        | (with_reducible change wpList _ _ _ (⟨some 28, _, _, _, _, _⟩ :: _) _ _
           go_must (refine wpList_val rfl (exec_load_cells (P := Try.prog) (b := g) (off := off + j * 80) (cs := bv e) 28 (.tmp 27) rfl rfl H2.out.2.2.2.1 Try.underlying28 rfl (by rw [bv_len, hel]; exact size_entT)) ?_)))
      refine (lset_any H2.out.2.2.2.2 (by omega) hel HC.out.2.2.2.1).mono ?_
      rintro r w3 ⟨v3, rfl, ho3, m3⟩
      have H3 := Lib.hid (And.intro ho3 (And.intro m3 (And.intro (ordR_take HC.out.2.2.1) (plR_take HC.out.2.2.1))))
      clear ho3 m3
      go_wp2
      refine ⟨⟨j + 1, G2, by omega, by omega, by go_num, Lib.hid ⟨by rw [H3.out.2.2.1]; exact H2.out.1.nn H3.out.2.1, by rw [H3.out.2.2.2]; exact own_base H3.out.1 (fun x hx => by have := H3.out.1.blk hx; omega), fun x hx => ⟨H2.out.2.1 x hx, fun hc => by have h1 := H3.out.1.blk hc; have h2 := H2.out.1.lt x hx; omega⟩, H2.out.2.2.1.nn_ H3.out.2.1⟩⟩, by simp [intOf]; omega⟩
    · have htk : E.take 200 = E.take j := by
        by_cases hjl : j < n
        · rw [show j = 200 by omega]
        · rw [List.take_of_length_le (by omega), List.take_of_length_le (by omega)]
      have HT := Lib.hid htk
      clear htk
      by_cases hjl : j < n
      · have h1 : (j : Int) < n := by omega
        have h2 : ¬ (j : Int) < 200 := by omega
        go_wp2
        go_ret2
        refine ⟨b, G, _, rfl, ?_⟩
        rw [HT.out]
        exact HR.out
      · have h1 : ¬ (j : Int) < n := by omega
        go_wp2
        go_ret2
        refine ⟨b, G, _, rfl, ?_⟩
        rw [HT.out]
        exact HR.out
end
end Go.Proofs.Ytkcpmkeckcnobaa
