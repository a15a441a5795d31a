/- Own lemmas of several kinds, put together: SlE, SlK, SlP. -/
import Derived.Test.YtkcpmkeckcnobaaRows
import Derived.Test.YtkcpmkeckcnobaaKitE
/- slices.Insert, Delete, Clone over rows of entries (printed by wip/gen/slices.py). -/
namespace Go.Proofs.Ytkcpmkeckcnobaa
open Go.RowKit

def zE : Value := .agg (bv (List.replicate 80 0)).toArray
theorem infoE : (Try.prog.info? 28).map (fun i => (i.zero, i.size, i.bytes)) = some (some zE, 80, 80) := by kernel_rfl
theorem infoE2 : (Try.prog.info? 28).map (fun i => (i.zero, i.size)) = some (some zE, 80) := by kernel_rfl
theorem zsE : zE.cells.size = 80 := by kernel_rfl
theorem z1E : zE.cells.all (·.oneCell') = true := by kernel_rfl
theorem sizeE : (Try.prog.info? 28).map (·.size) = some 80 := by kernel_rfl
theorem uuE : Try.prog.underlying 40 = some (.slice 28) := Try.underlying40
section
variable {w : World} {A : Option Addr} {n c i gb : Nat} {xs ys : List Value}
set_option maxRecDepth 100000 in
set_option maxHeartbeats 3200000 in
theorem sinsE_any (h : Hold w 28 80 A n c xs) (hi : i ≤ n) (hb : Blk w gb 28 ys.toArray) (hy : ys.length = 80) (hy1 : ∀ v ∈ ys, v.oneCell' = true) (hx1 : ∀ v ∈ xs, v.oneCell' = true) (hg : ∀ g, Of A g → g ≠ gb) (hn : n ≤ 1099511627776) :
    Calls Try.prog 63 #[.slice A n c, .int .i64 i, .slice (some ⟨gb, 0, none⟩) 1 1] w fun r w' => ∃ A' c', r = .returned (.slice A' (n + 1) c') ∧ Hold w' 28 80 A' (n + 1) c' (xs.take (i * 80) ++ ys ++ xs.drop (i * 80)) ∧ Mod (Of A) w w' ∧ ∀ g, Of A' g → Of A g ∨ w.heap.size ≤ g := by
  have hle := h.le
  have hcm : c ≤ 9223372036854775807 := by have := hle.2; unfold maxLen at this; omega
  have ry : RdC w (some ⟨gb, 0, none⟩) 1 80 ys := RdC.of_blk hb (by omega)
  have hxl := h.1
  have uu := uuE
  by_cases hin : i = n
  case pos =>
    subst hin
    have HH := Lib.hid (And.intro h (And.intro ry hy1))
    have hfin : xs.take (i * 80) ++ ys ++ xs.drop (i * 80) = xs ++ ys := by rw [← hxl, List.take_length, List.drop_length, List.append_nil]
    rw [hfin]
    clear h ry hb hy1 hx1 hg hxl hfin
    go_enter Try.func63, Try.ntmps63
    go_wp2_with (first
      | (with_reducible change wpList _ _ _ (⟨some 12, Op.slice _ _ _ _ _, _, _, _, _⟩ :: _) _ _
         go_must (refine wpList_sub_l 40 _ _ rfl rfl 28 80 uu sizeE i rfl rfl (Nat.le_refl _) ?_))
      | (with_reducible change wpList _ _ _ (⟨some 25, _, _, _, _, _⟩ :: _) _ _
         go_must (refine wpList_append_hold 80 40 _ _ rfl rfl zE 80 uu infoE zsE (by omega) rfl HH.out.1 rfl HH.out.2.1 HH.out.2.2 (by omega) (by omega) ?_)
         intro A' c' w1 h1 m1 hA1))
    go_ret
    exact ⟨A', c', rfl, h1, m1, hA1⟩
  have hlt : i < n := by omega
  obtain ⟨g, rfl⟩ := h.of_ (by omega)
  have hne : g ≠ gb := hg g ⟨_, rfl, rfl⟩
  have hgw : g < w.heap.size := h.lt ⟨_, rfl, rfl⟩
  have hsrc := h.rd
  have hpre := h.pre hi ⟨g, rfl⟩
  obtain ⟨cur, hbc, hcs, htk⟩ : ∃ cur, Blk w g 28 cur ∧ c * 80 ≤ cur.size ∧ cur.toList.take (n * 80) = xs := by
    rcases h.2 with ⟨h0, _⟩ | ⟨g', cur, e, hb', _, _, h3, h4⟩
    · cases h0
    · injection e with e; injection e with e; subst e; exact ⟨cur, hb', h3, h4⟩
  by_cases hroom : n + 1 ≤ c
  case neg =>
    obtain ⟨k, hk⟩ : ∃ k, i + k = n + 1 := ⟨n + 1 - i, by omega⟩
    have HH := Lib.hid (And.intro hpre (And.intro ry (And.intro hy1 (And.intro hy (And.intro hsrc hx1)))))
    clear h hpre ry hb hy1 hy hsrc hx1 hg hbc hcs htk
    go_enter Try.func63, Try.ntmps63
    go_wp2_with (first
      | (with_reducible change wpList _ _ _ (⟨some 12, Op.slice _ _ _ _ _, _, _, _, _⟩ :: _) _ _
         go_must (refine wpList_sub_l 40 _ _ rfl rfl 28 80 uu sizeE i rfl rfl hi ?_))
      | (with_reducible change wpList _ _ _ (⟨some 34, Op.slice _ _ _ _ _, _, _, _, _⟩ :: _) _ _
         go_must (refine wpList_sub_h 40 _ _ rfl rfl 28 80 uu sizeE i rfl rfl (by omega) ?_)
         rw [subA_zero])
      | (with_reducible change wpList _ _ _ (⟨some 40, _, _, _, _, _⟩ :: _) _ _
         go_must (refine wpList_append_noughts 80 40 3 _ _ rfl rfl zE 80 uu Try.underlying3 infoE zsE (by omega) rfl HH.out.1 k (congrArg (Value.int .i64) (by omega)) (by omega) (by omega) (by omega) (by omega) ?_)
         intro c1 cur1 w1 b1 hc1 hcm1 hcs1 ht1 m1
         have hcne : c1 ≠ i := by omega
         have hw1 : w.heap.size ≤ w1.heap.size := m1.size
         have H1 := Lib.hid (And.intro b1 (And.intro hcs1 (And.intro ht1 m1)))
         rw [hk]
         rw [hk] at hc1
         clear b1 hcs1 ht1 m1)
      | (with_reducible change wpList _ _ _ (⟨some 43, Op.slice _ _ _ _ _, _, _, _, _⟩ :: _) _ _
         go_must (refine wpList_sub_l 40 _ _ rfl rfl 28 80 uu sizeE i rfl rfl (by omega) ?_)
         rw [subA_at hcne])
      | (with_reducible change wpList _ _ _ (⟨some 45, _, _, _, _, _⟩ :: _) _ _
         have hfit1 : i * 80 + 1 * 80 ≤ cur1.size := by
           have := H1.out.2.1
           have := Nat.mul_le_mul_right 80 hc1
           have : i * 80 + 1 * 80 ≤ (n + 1) * 80 := by rw [← Nat.add_mul]; exact Nat.mul_le_mul_right _ (by omega)
           omega
         go_must (refine wpList_val rfl (exec_copy_blk 80 40 40 _ _ rfl uu sizeE 1 rfl rfl H1.out.1 (Nat.min_eq_left (by omega)).symm (HH.out.2.1.md (by omega) H1.out.2.2.2 (fun _ _ f => f)) hfit1 HH.out.2.2.1) ?_)
         have b2 := H1.out.1.setRow_ (splice cur1 (i * 80) ys)
         have m2 := H1.out.2.2.2.new_ (Mod.rowAt w1 w.heap.size (splice cur1 (i * 80) ys)) (Nat.le_refl _)
         have H2 := Lib.hid (And.intro b2 (And.intro m2 hfit1))
         clear b2 m2 hfit1
         generalize w1.setRow w.heap.size (splice cur1 (i * 80) ys) = w2 at *))
    refine wp_region_planC (fun _ => True) [(0, true), (1, true), (2, true), (3, true), (4, true), (5, true), (6, true), (7, true), (8, false)] (by kernel_rfl) (by kernel_rfl) trivial ?_
    iterate 4 (refine pc_pure rfl rfl (fun K hK => ?_); go_simp; refine hK _ ?_; clear hK K)
    rw [show IntKind.i64.wrap ((i : Int) + 1) = (i : Int) + 1 from by rw [IntKind.wrap_i64]; omega]
    refine pc_take (.slice (some ⟨w.heap.size, (i + 1) * 80, none⟩) (n - i) (c1 - (i + 1))) rfl rfl (fun w' hS => exec_sub_lZ (P := Try.prog) 80 40 (.tmp 46) (.tmp 49) rfl uu sizeE (k := i + 1) rfl rfl (by omega) (by omega) (by omega) rfl) (fun K hK => ?_); go_simp; refine hK _ ?_; clear hK K
    iterate 2 (refine pc_pure rfl rfl (fun K hK => ?_); go_simp; refine hK _ ?_; clear hK K)
    refine pc_take (.slice (subA (some ⟨g, 0, none⟩) c i 80) (n - i) (c - i)) rfl rfl (fun w' hS => exec_sub_l (P := Try.prog) 40 (.tmp 51) (.tmp 52) rfl 28 80 uu sizeE (l := i) rfl rfl hi) (fun K hK => ?_); go_simp; refine hK _ ?_; clear hK K
    have hI := ins_a hxl HH.out.2.2.2.1 hi (cur := cur1) (by have := H1.out.2.1; have := Nat.mul_le_mul_right 80 hc1; omega) H1.out.2.2.1
    have hsp : (splice cur1 (i * 80) ys).size = cur1.size := splice_size (by have := H2.out.2.2; rw [HH.out.2.2.2.1]; omega)
    have hfit2 : (i + 1) * 80 + (n - i) * 80 ≤ (splice cur1 (i * 80) ys).size := by
      rw [hsp, ← Nat.add_mul, show i + 1 + (n - i) = n + 1 from by omega]
      have := H1.out.2.1
      have := Nat.mul_le_mul_right 80 hc1
      omega
    have hsrc2 := (HH.out.2.2.2.2.1.sub (c := c) (by omega) i (n - i) (by omega) hle.1).md (by omega) H2.out.2.1.drew (fun _ _ f => f)
    rw [List.take_of_length_le (by rw [List.length_drop, hxl, ← Nat.sub_mul]; exact Nat.le_refl _)] at hsrc2
    have b3 := H2.out.1.drew.setRow_ (splice (splice cur1 (i * 80) ys) ((i + 1) * 80) (xs.drop (i * 80)))
    have m3 := H2.out.2.1.drew.new_ (Mod.rowAt w2.drew w.heap.size (splice (splice cur1 (i * 80) ys) ((i + 1) * 80) (xs.drop (i * 80)))) (Nat.le_refl _)
    have H3 := Lib.hid (And.intro b3 (And.intro m3 hI))
    clear b3 m3 hI hsp
    refine pc_val rfl rfl (exec_copy_blk 80 40 40 (.tmp 50) (.tmp 53) rfl uu sizeE (n - i) rfl rfl H2.out.1.drew (Nat.min_self _).symm hsrc2 hfit2 (fun v hv => HH.out.2.2.2.2.2 v (List.mem_of_mem_drop hv))) trivial (fun K hK => ?_); go_simp; refine hK _ ?_; clear hK K
    refine pc_nil ?_
    clear hsrc2 hfit2
    go_wp2
    go_ret
    refine ⟨_, c1, rfl, ⟨?_, .inr ⟨w.heap.size, _, rfl, H3.out.1, hc1, hcm1, ?_, H3.out.2.2.2⟩⟩, H3.out.2.1.nn, fun g' hg' => .inr ?_⟩
    · rw [← H3.out.2.2.2, List.length_take, Array.length_toList, H3.out.2.2.1]
      have := H1.out.2.1
      have := Nat.mul_le_mul_right 80 hc1
      omega
    · rw [H3.out.2.2.1]; exact H1.out.2.1
    · obtain ⟨a, ha, rfl⟩ := hg'
      injection ha with ha; subst ha; exact Nat.le_refl _
  have hov := fun (w' : World) (m : Mod Nn w w') => Go.Lib.run_overlaps_apart (P := Try.prog) w' 40 4 28 uu 80 (fun w => sizeOf_run sizeE w) ⟨gb, 0, none⟩ ⟨g, (i + 1) * 80, none⟩ 1 1 (n - i) (c - (i + 1)) (fun e => hne e.symm) 28 28 ys.toArray.size cur.size (shape_blk (hb.mod m (fun f => f))) (shape_blk (hbc.mod m (fun f => f))) (by have := Nat.mul_le_mul_right 80 hroom; omega) ((hb.mod m (fun f => f)).frozen _) ((hb.mod m (fun f => f)).frozen _)
  have HH := Lib.hid (And.intro hbc (And.intro hcs (And.intro htk (And.intro ry (And.intro hy1 (And.intro hy (And.intro hsrc hx1)))))))
  have HO := Lib.hid (hov w (Mod.refl _ _))
  clear h hpre ry hb hy1 hy hsrc hx1 hg hbc hcs htk hov
  have hcne1 : c ≠ i + 1 := by omega
  have hcne : c ≠ i := by omega
  go_enter Try.func63, Try.ntmps63
  go_wp2_with (first
    | (with_reducible change wpList _ _ _ (⟨some 12, Op.slice _ _ _ _ _, _, _, _, _⟩ :: _) _ _
       go_must (refine wpList_sub_l 40 _ _ rfl rfl 28 80 uu sizeE i rfl rfl hi ?_))
    | (with_reducible change wpList _ _ _ (⟨some 60, Op.slice _ _ _ _ _, _, _, _, _⟩ :: _) _ _
       go_must (refine wpList_sub_h 40 _ _ rfl rfl 28 80 uu sizeE (n + 1) rfl rfl (by omega) ?_)
       rw [subA_zero])
    | (with_reducible change wpList _ _ _ (⟨some 66, Op.slice _ _ _ _ _, _, _, _, _⟩ :: _) _ _
       go_must (refine wpList_sub_l 40 _ _ rfl rfl 28 80 uu sizeE (i + 1) rfl rfl (by omega) ?_)
       rw [subA_at hcne1]))
  rw [run_callFunc_extern Try.func94 (by kernel_rfl) (by kernel_rfl) (by kernel_rfl) (e := Extern.SlicesOverlaps.overlaps #[40, 40] #[4]) (by kernel_rfl), HO.out]
  simp only [Result.andThen]
  rw [Oper.upon_value]
  go_wp2_with fail
  refine wp_region_planC (fun _ => True) [(0, true), (1, true), (2, true), (3, true), (4, true), (5, true), (6, true), (7, true), (8, false)] (by kernel_rfl) (by kernel_rfl) trivial ?_
  iterate 4 (refine pc_pure rfl rfl (fun K hK => ?_); go_simp; refine hK _ ?_; clear hK K)
  rw [show IntKind.i64.wrap ((i : Int) + 1) = (i : Int) + 1 from by rw [IntKind.wrap_i64]; omega]
  refine pc_take (.slice (some ⟨g, (i + 1) * 80, none⟩) (n - i) (c - (i + 1))) rfl rfl (fun w' hS => exec_sub_lZ (P := Try.prog) 80 40 (.tmp 69) (.tmp 72) rfl uu sizeE (k := i + 1) rfl rfl (by omega) hcne1 (by omega) rfl) (fun K hK => ?_); go_simp; refine hK _ ?_; clear hK K
  iterate 2 (refine pc_pure rfl rfl (fun K hK => ?_); go_simp; refine hK _ ?_; clear hK K)
  refine pc_take (.slice (some ⟨g, i * 80, none⟩) (n + 1 - i) (c - i)) rfl rfl (fun w' hS => exec_sub_lZ (P := Try.prog) 80 40 (.tmp 74) (.tmp 75) rfl uu sizeE (k := i) rfl rfl (by omega) hcne rfl rfl) (fun K hK => ?_); go_simp; refine hK _ ?_; clear hK K
  have hcs := HH.out.2.1
  have hcs1 : (n + 1) * 80 ≤ cur.size := Nat.le_trans (Nat.mul_le_mul_right 80 hroom) hcs
  have hti : cur.toList.take (i * 80) = xs.take (i * 80) := by rw [← HH.out.2.2.1, List.take_take, Nat.min_eq_left (Nat.mul_le_mul_right _ hi)]
  have hI := ins_b hxl HH.out.2.2.2.2.2.1 hi hcs1 hti
  have hfit1 : (i + 1) * 80 + (n - i) * 80 ≤ cur.size := by
    rw [← Nat.add_mul, show i + 1 + (n - i) = n + 1 from by omega]; exact hcs1
  have hsrc2 := HH.out.2.2.2.2.2.2.1.sub (c := c) (by omega) i (n - i) (by omega) hle.1
  rw [List.take_of_length_le (by rw [List.length_drop, hxl, ← Nat.sub_mul]; exact Nat.le_refl _), subA_at hcne] at hsrc2
  have b1 := HH.out.1.drew.setRow_ (splice cur ((i + 1) * 80) (xs.drop (i * 80)))
  have m1 : Mod (Of (some ⟨g, 0, none⟩)) w (w.drew.setRow g (splice cur ((i + 1) * 80) (xs.drop (i * 80)))) := ((Mod.refl _ w).drew).setRow (.inr ⟨_, rfl, rfl⟩) _
  have H1 := Lib.hid (And.intro b1 (And.intro m1 hI))
  clear b1 m1 hI hti hcs
  refine pc_val rfl rfl (exec_copy_blk 80 40 40 (.tmp 73) (.tmp 76) rfl uu sizeE (n - i) rfl rfl HH.out.1.drew (Nat.min_eq_right (by omega)).symm (hsrc2.md (by omega) (Mod.refl Nn w).drew (fun _ _ f => f)) hfit1 (fun v hv => HH.out.2.2.2.2.2.2.2 v (List.mem_of_mem_drop hv))) trivial (fun K hK => ?_); go_simp; refine hK _ ?_; clear hK K
  refine pc_nil ?_
  generalize w.drew.setRow g (splice cur ((i + 1) * 80) (xs.drop (i * 80))) = w1 at *
  have hdl : (xs.drop (i * 80)).length = (n - i) * 80 := by rw [List.length_drop, hxl, ← Nat.sub_mul]
  have hsp : (splice cur ((i + 1) * 80) (xs.drop (i * 80))).size = cur.size := splice_size (by rw [hdl]; exact hfit1)
  have hfit2 : i * 80 + 1 * 80 ≤ (splice cur ((i + 1) * 80) (xs.drop (i * 80))).size := by
    rw [hsp, ← Nat.add_mul]
    exact Nat.le_trans (Nat.mul_le_mul_right 80 (by omega)) hcs1
  have HF := Lib.hid (And.intro hfit2 hsp)
  clear hsrc2 hfit1 hdl hsp hfit2
  go_wp2_with (first
    | (with_reducible change wpList _ _ _ (⟨some 80, Op.slice _ _ _ _ _, _, _, _, _⟩ :: _) _ _
       go_must (refine wpList_sub_l 40 _ _ rfl rfl 28 80 uu sizeE i rfl rfl (by omega) ?_)
       rw [subA_at hcne])
    | (with_reducible change wpList _ _ _ (⟨some 82, _, _, _, _, _⟩ :: _) _ _
       go_must (refine wpList_val rfl (exec_copy_blk 80 40 40 _ _ rfl uu sizeE 1 rfl rfl H1.out.1 (Nat.min_eq_left (by omega)).symm (HH.out.2.2.2.1.md (by omega) H1.out.2.1 (fun g' h1 h2 => by
         obtain ⟨a, ha, rfl⟩ := h1; injection ha with ha; subst ha
         obtain ⟨a, ha, h2⟩ := h2; injection ha with ha; subst ha; exact hne h2)) HF.out.1 HH.out.2.2.2.2.1) ?_)
       have b2 := H1.out.1.setRow_ (splice (splice cur ((i + 1) * 80) (xs.drop (i * 80))) (i * 80) ys)
       have m2 : Mod (Of (some ⟨g, 0, none⟩)) w (w1.setRow g (splice (splice cur ((i + 1) * 80) (xs.drop (i * 80))) (i * 80) ys)) := H1.out.2.1.setRow (.inr ⟨_, rfl, rfl⟩) _
       have H2 := Lib.hid (And.intro b2 m2)
       clear b2 m2))
  go_ret
  refine ⟨_, c, rfl, ⟨?_, .inr ⟨g, _, rfl, H2.out.1, hroom, hle.2, ?_, H1.out.2.2.2⟩⟩, H2.out.2, fun g' hg' => .inl hg'⟩
  · rw [← H1.out.2.2.2, List.length_take, Array.length_toList, H1.out.2.2.1]
    omega
  · rw [H1.out.2.2.1]; exact HH.out.2.1
set_option maxRecDepth 100000 in
set_option maxHeartbeats 3200000 in
theorem sdelE_any (h : Hold w 28 80 A n c xs) (hi : i < n) (hx1 : ∀ v ∈ xs, v.oneCell' = true) (hn : n ≤ 1099511627776) :
    Calls Try.prog 69 #[.slice A n c, .int .i64 i, .int .i64 ((i : Int) + 1)] w fun r w' => r = .returned (.slice A (n - 1) c) ∧ Hold w' 28 80 A (n - 1) c (xs.take (i * 80) ++ xs.drop ((i + 1) * 80)) ∧ Mod (Of A) w w' := by
  have hle := h.le
  have hcm : c ≤ 9223372036854775807 := by have := hle.2; unfold maxLen at this; omega
  have hxl := h.1
  have uu := uuE
  obtain ⟨g, rfl⟩ := h.of_ (by omega)
  have hpre := h.pre (Nat.le_of_lt hi) ⟨g, rfl⟩
  have hsrc := h.rd.sub (c := c) (by omega) (i + 1) (n - (i + 1)) (by omega) hle.1
  rw [List.take_of_length_le (by rw [List.length_drop, hxl, ← Nat.sub_mul]; exact Nat.le_refl _)] at hsrc
  have HH := Lib.hid (And.intro hpre (And.intro hsrc hx1))
  have hcne : c ≠ n - 1 := by omega
  have hii : decide ((i : Int) = (i : Int) + 1) = false := decide_eq_false (by omega)
  have hnn : i + (n - (i + 1)) = n - 1 := by omega
  clear h hpre hsrc hx1
  go_enter Try.func69, Try.ntmps69
  go_wp2_with (first
    | (with_reducible change wpList _ _ _ (⟨some 13, Op.slice _ _ _ _ _, _, _, _, _⟩ :: _) _ _
       go_must (refine wpList_val rfl (exec_sub_lhm 80 40 _ _ _ _ rfl uu sizeE (l := i) (k := i + 1) (m := n) rfl rfl rfl rfl (by omega) (by omega) hle.1) ?_)))
  refine wp_region_planC (fun _ => True) [(0, true), (1, true), (2, true), (3, true), (4, true), (5, true), (6, false), (7, true)] (by kernel_rfl) (by kernel_rfl) trivial ?_
  iterate 2 (refine pc_pure rfl rfl (fun K hK => ?_); go_simp; refine hK _ ?_; clear hK K)
  refine pc_take (.slice (some ⟨g, 0, none⟩) i c) rfl rfl (fun w' hS => exec_sub_hA (P := Try.prog) 80 40 (.tmp 20) (.tmp 21) rfl uu sizeE (k := i) rfl rfl (by omega)) (fun K hK => ?_); go_simp; refine hK _ ?_; clear hK K
  iterate 2 (refine pc_pure rfl rfl (fun K hK => ?_); go_simp; refine hK _ ?_; clear hK K)
  refine pc_take (.slice (subA (some ⟨g, 0, none⟩) c (i + 1) 80) (n - (i + 1)) (c - (i + 1))) rfl rfl (fun w' hS => exec_sub_l (P := Try.prog) 40 (.tmp 23) (.tmp 24) rfl 28 80 uu sizeE (l := i + 1) rfl rfl (by omega)) (fun K hK => ?_); go_simp; refine hK _ ?_; clear hK K
  refine pc_append_room 80 40 (.tmp 22) (.tmp 25) rfl rfl rfl uu sizeE rfl (HH.out.1.nn (Mod.refl Nn w).drew) rfl (HH.out.2.1.md (by omega) (Mod.refl Nn w).drew (fun _ _ f => f)) (fun v hv => HH.out.2.2 v (List.mem_of_mem_drop hv)) (by omega) ⟨g, rfl⟩ (fun w1 h1 m1 => ⟨trivial, ?_⟩)
  refine (fun K hK => ?_); go_simp; refine hK _ ?_; clear hK K
  rw [hnn] at h1
  iterate 1 (refine pc_pure rfl rfl (fun K hK => ?_); go_simp; refine hK _ ?_; clear hK K)
  refine pc_nil ?_
  have m1' : Mod (Of (some ⟨g, 0, none⟩)) w w1 := m1.of_drew
  obtain ⟨cur, hbc, hcs, htk⟩ : ∃ cur, Blk w1 g 28 cur ∧ c * 80 ≤ cur.size ∧ cur.toList.take ((n - 1) * 80) = xs.take (i * 80) ++ xs.drop ((i + 1) * 80) := by
    rcases h1.2 with ⟨h0, _⟩ | ⟨g', cur, e, hb', _, _, h3, h4⟩
    · cases h0
    · injection e with e; injection e with e; subst e; exact ⟨cur, hb', h3, h4⟩
  have hlen := h1.1
  have hfit : (n - 1) * 80 + 1 * 80 ≤ cur.size := by
    rw [← Nat.add_mul, show n - 1 + 1 = n from by omega]; exact Nat.le_trans (Nat.mul_le_mul_right 80 hle.1) hcs
  have H1 := Lib.hid (And.intro hbc (And.intro hcs (And.intro htk (And.intro m1' (And.intro hlen hfit)))))
  clear h1 m1 m1' hbc hcs htk hlen hfit
  go_wp2_with (first
    | (with_reducible change wpList _ _ _ (⟨some 31, Op.slice _ _ _ _ _, _, _, _, _⟩ :: _) _ _
       go_must (refine wpList_sub_lh 40 _ _ _ rfl rfl 28 80 uu sizeE (n - 1) n rfl (congrArg (Value.int .i64) (by omega)) rfl (by omega) hle.1 ?_)
       rw [subA_at hcne, show n - (n - 1) = 1 from by omega])
    | (with_reducible change wpList _ _ _ (⟨none, Op.call _, _, _, _, _⟩ :: _) _ _
       go_must (refine wpList_clear_blk 80 40 _ rfl rfl zE uu infoE2 zsE z1E rfl H1.out.1 (by omega) H1.out.2.2.2.2.2 ?_)
       intro cur' hs' ht'
       have b2 := H1.out.1.setRow_ cur'
       have m2 : Mod (Of (some ⟨g, 0, none⟩)) w (w1.setRow g cur') := H1.out.2.2.2.1.setRow (.inr ⟨_, rfl, rfl⟩) _
       have H2 := Lib.hid (And.intro b2 (And.intro m2 (And.intro hs' ht')))
       clear b2 m2 hs' ht'))
  go_ret
  refine ⟨rfl, ⟨H1.out.2.2.2.2.1, .inr ⟨g, cur', rfl, H2.out.1, by omega, hle.2, ?_, ?_⟩⟩, H2.out.2.1⟩
  · rw [H2.out.2.2.1]; exact H1.out.2.1
  · rw [H2.out.2.2.2]; exact H1.out.2.2.1
set_option maxRecDepth 100000 in
set_option maxHeartbeats 3200000 in
theorem scloneE_any (h : RdC w A n 80 xs) (hx1 : ∀ v ∈ xs, v.oneCell' = true) (hn : n ≤ 1099511627776) :
    Calls Try.prog 66 #[.slice A n c] w fun r w' => ∃ A' c', r = .returned (.slice A' n c') ∧ Hold w' 28 80 A' n c' xs ∧ Mod Nn w w' ∧ ∀ g, Of A' g → w.heap.size ≤ g := by
  have uu := uuE
  cases A with
  | none =>
    have hn0 : n = 0 := by
      rcases Nat.eq_zero_or_pos n with h0 | h0
      · exact h0
      · obtain ⟨_, _, e, _⟩ := h.2 h0; cases e
    subst hn0
    have hx : xs = [] := List.eq_nil_of_length_eq_zero (by have := h.1; omega)
    subst hx
    clear h hx1
    go_enter Try.func66, Try.ntmps66
    go_wp2
    rw [run_eql_nil _ 40 _ _ _ uu]
    simp only [Result.andThen]
    rw [Oper.upon_value]
    go_wp2
    go_ret
    exact ⟨none, 0, rfl, Hold.nil _ _ _, Mod.refl _ _, fun g hg => by obtain ⟨a, ha, _⟩ := hg; cases ha⟩
  | some a =>
    have HH := Lib.hid (And.intro h hx1)
    have b1 : Blk (w.alloc (.cells #[] 28)) w.heap.size 28 #[] := Blk.new _ _ _
    have m1 : Mod Nn w (w.alloc (.cells #[] 28)) := (Mod.refl Nn w).alloc _
    have h1 : Hold (w.alloc (.cells #[] 28)) 28 80 (some ⟨w.heap.size, 0, none⟩) 0 0 [] := ⟨by simp, .inr ⟨_, _, rfl, b1, Nat.le_refl _, Nat.zero_le _, by simp, by simp⟩⟩
    have H1 := Lib.hid (And.intro h1 m1)
    clear h hx1 b1 m1 h1
    go_enter Try.func66, Try.ntmps66
    go_wp2_with fail
    rw [run_eql_nil _ 40 _ _ _ uu]
    simp only [Result.andThen]
    rw [Oper.upon_value]
    go_wp2_with (first
      | (with_reducible change wpList _ _ _ (⟨some 5, Op.buildSlice _ _ _, _, _, _, _⟩ :: _) _ _
         go_must (refine wpList_val rfl (exec_bslice0 (P := Try.prog) 40 28 rfl uu sizeE) ?_))
      | (with_reducible change wpList _ _ _ (⟨some 7, _, _, _, _, _⟩ :: _) _ _
         go_must (refine wpList_append_hold 80 40 _ _ rfl rfl zE 80 uu infoE zsE (by omega) rfl H1.out.1 rfl (HH.out.1.md (by omega) H1.out.2 (fun _ _ f => f)) HH.out.2 (by omega) (by omega) ?_)
         intro A' c' w2 h2 m2 hA2
         rw [Nat.zero_add] at h2
         rw [Nat.zero_add]))
    go_ret
    refine ⟨A', c', rfl, h2, H1.out.2.then_ m2 (fun g hg e => ?_), fun g hg => ?_⟩
    · obtain ⟨a, ha, rfl⟩ := e
      injection ha with ha; subst ha; exact absurd hg (Nat.lt_irrefl _)
    · rcases hA2 g hg with e | e
      · obtain ⟨a, ha, rfl⟩ := e
        injection ha with ha; subst ha; exact Nat.le_refl _
      · have := H1.out.2.size; omega
end
end Go.Proofs.Ytkcpmkeckcnobaa

/- slices.Insert, Delete, Clone over rows of keys (printed by wip/gen/slices.py). -/
namespace Go.Proofs.Ytkcpmkeckcnobaa
open Go.RowKit

def zK : Value := .agg (bv (List.replicate 40 0)).toArray
theorem infoK : (Try.prog.info? 23).map (fun i => (i.zero, i.size, i.bytes)) = some (some zK, 40, 40) := by kernel_rfl
theorem infoK2 : (Try.prog.info? 23).map (fun i => (i.zero, i.size)) = some (some zK, 40) := by kernel_rfl
theorem zsK : zK.cells.size = 40 := by kernel_rfl
theorem z1K : zK.cells.all (·.oneCell') = true := by kernel_rfl
theorem sizeK : (Try.prog.info? 23).map (·.size) = some 40 := by kernel_rfl
theorem uuK : Try.prog.underlying 75 = some (.slice 23) := Try.underlying75
section
variable {w : World} {A : Option Addr} {n c i gb : Nat} {xs ys : List Value}
set_option maxRecDepth 100000 in
set_option maxHeartbeats 3200000 in
theorem sinsK_any (h : Hold w 23 40 A n c xs) (hi : i ≤ n) (hb : Blk w gb 23 ys.toArray) (hy : ys.length = 40) (hy1 : ∀ v ∈ ys, v.oneCell' = true) (hx1 : ∀ v ∈ xs, v.oneCell' = true) (hg : ∀ g, Of A g → g ≠ gb) (hn : n ≤ 1099511627776) :
    Calls Try.prog 97 #[.slice A n c, .int .i64 i, .slice (some ⟨gb, 0, none⟩) 1 1] w fun r w' => ∃ A' c', r = .returned (.slice A' (n + 1) c') ∧ Hold w' 23 40 A' (n + 1) c' (xs.take (i * 40) ++ ys ++ xs.drop (i * 40)) ∧ Mod (Of A) w w' ∧ ∀ g, Of A' g → Of A g ∨ w.heap.size ≤ g := by
  have hle := h.le
  have hcm : c ≤ 9223372036854775807 := by have := hle.2; unfold maxLen at this; omega
  have ry : RdC w (some ⟨gb, 0, none⟩) 1 40 ys := RdC.of_blk hb (by omega)
  have hxl := h.1
  have uu := uuK
  by_cases hin : i = n
  case pos =>
    subst hin
    have HH := Lib.hid (And.intro h (And.intro ry hy1))
    have hfin : xs.take (i * 40) ++ ys ++ xs.drop (i * 40) = xs ++ ys := by rw [← hxl, List.take_length, List.drop_length, List.append_nil]
    rw [hfin]
    clear h ry hb hy1 hx1 hg hxl hfin
    go_enter Try.func97, Try.ntmps97
    go_wp2_with (first
      | (with_reducible change wpList _ _ _ (⟨some 12, Op.slice _ _ _ _ _, _, _, _, _⟩ :: _) _ _
         go_must (refine wpList_sub_l 75 _ _ rfl rfl 23 40 uu sizeK i rfl rfl (Nat.le_refl _) ?_))
      | (with_reducible change wpList _ _ _ (⟨some 25, _, _, _, _, _⟩ :: _) _ _
         go_must (refine wpList_append_hold 40 75 _ _ rfl rfl zK 40 uu infoK zsK (by omega) rfl HH.out.1 rfl HH.out.2.1 HH.out.2.2 (by omega) (by omega) ?_)
         intro A' c' w1 h1 m1 hA1))
    go_ret
    exact ⟨A', c', rfl, h1, m1, hA1⟩
  have hlt : i < n := by omega
  obtain ⟨g, rfl⟩ := h.of_ (by omega)
  have hne : g ≠ gb := hg g ⟨_, rfl, rfl⟩
  have hgw : g < w.heap.size := h.lt ⟨_, rfl, rfl⟩
  have hsrc := h.rd
  have hpre := h.pre hi ⟨g, rfl⟩
  obtain ⟨cur, hbc, hcs, htk⟩ : ∃ cur, Blk w g 23 cur ∧ c * 40 ≤ cur.size ∧ cur.toList.take (n * 40) = xs := by
    rcases h.2 with ⟨h0, _⟩ | ⟨g', cur, e, hb', _, _, h3, h4⟩
    · cases h0
    · injection e with e; injection e with e; subst e; exact ⟨cur, hb', h3, h4⟩
  by_cases hroom : n + 1 ≤ c
  case neg =>
    obtain ⟨k, hk⟩ : ∃ k, i + k = n + 1 := ⟨n + 1 - i, by omega⟩
    have HH := Lib.hid (And.intro hpre (And.intro ry (And.intro hy1 (And.intro hy (And.intro hsrc hx1)))))
    clear h hpre ry hb hy1 hy hsrc hx1 hg hbc hcs htk
    go_enter Try.func97, Try.ntmps97
    go_wp2_with (first
      | (with_reducible change wpList _ _ _ (⟨some 12, Op.slice _ _ _ _ _, _, _, _, _⟩ :: _) _ _
         go_must (refine wpList_sub_l 75 _ _ rfl rfl 23 40 uu sizeK i rfl rfl hi ?_))
      | (with_reducible change wpList _ _ _ (⟨some 34, Op.slice _ _ _ _ _, _, _, _, _⟩ :: _) _ _
         go_must (refine wpList_sub_h 75 _ _ rfl rfl 23 40 uu sizeK i rfl rfl (by omega) ?_)
         rw [subA_zero])
      | (with_reducible change wpList _ _ _ (⟨some 40, _, _, _, _, _⟩ :: _) _ _
         go_must (refine wpList_append_noughts 40 75 3 _ _ rfl rfl zK 40 uu Try.underlying3 infoK zsK (by omega) rfl HH.out.1 k (congrArg (Value.int .i64) (by omega)) (by omega) (by omega) (by omega) (by omega) ?_)
         intro c1 cur1 w1 b1 hc1 hcm1 hcs1 ht1 m1
         have hcne : c1 ≠ i := by omega
         have hw1 : w.heap.size ≤ w1.heap.size := m1.size
         have H1 := Lib.hid (And.intro b1 (And.intro hcs1 (And.intro ht1 m1)))
         rw [hk]
         rw [hk] at hc1
         clear b1 hcs1 ht1 m1)
      | (with_reducible change wpList _ _ _ (⟨some 43, Op.slice _ _ _ _ _, _, _, _, _⟩ :: _) _ _
         go_must (refine wpList_sub_l 75 _ _ rfl rfl 23 40 uu sizeK i rfl rfl (by omega) ?_)
         rw [subA_at hcne])
      | (with_reducible change wpList _ _ _ (⟨some 45, _, _, _, _, _⟩ :: _) _ _
         have hfit1 : i * 40 + 1 * 40 ≤ cur1.size := by
           have := H1.out.2.1
           have := Nat.mul_le_mul_right 40 hc1
           have : i * 40 + 1 * 40 ≤ (n + 1) * 40 := by rw [← Nat.add_mul]; exact Nat.mul_le_mul_right _ (by omega)
           omega
         go_must (refine wpList_val rfl (exec_copy_blk 40 75 75 _ _ rfl uu sizeK 1 rfl rfl H1.out.1 (Nat.min_eq_left (by omega)).symm (HH.out.2.1.md (by omega) H1.out.2.2.2 (fun _ _ f => f)) hfit1 HH.out.2.2.1) ?_)
         have b2 := H1.out.1.setRow_ (splice cur1 (i * 40) ys)
         have m2 := H1.out.2.2.2.new_ (Mod.rowAt w1 w.heap.size (splice cur1 (i * 40) ys)) (Nat.le_refl _)
         have H2 := Lib.hid (And.intro b2 (And.intro m2 hfit1))
         clear b2 m2 hfit1
         generalize w1.setRow w.heap.size (splice cur1 (i * 40) ys) = w2 at *))
    refine wp_region_planC (fun _ => True) [(0, true), (1, true), (2, true), (3, true), (4, true), (5, true), (6, true), (7, true), (8, false)] (by kernel_rfl) (by kernel_rfl) trivial ?_
    iterate 4 (refine pc_pure rfl rfl (fun K hK => ?_); go_simp; refine hK _ ?_; clear hK K)
    rw [show IntKind.i64.wrap ((i : Int) + 1) = (i : Int) + 1 from by rw [IntKind.wrap_i64]; omega]
    refine pc_take (.slice (some ⟨w.heap.size, (i + 1) * 40, none⟩) (n - i) (c1 - (i + 1))) rfl rfl (fun w' hS => exec_sub_lZ (P := Try.prog) 40 75 (.tmp 46) (.tmp 49) rfl uu sizeK (k := i + 1) rfl rfl (by omega) (by omega) (by omega) rfl) (fun K hK => ?_); go_simp; refine hK _ ?_; clear hK K
    iterate 2 (refine pc_pure rfl rfl (fun K hK => ?_); go_simp; refine hK _ ?_; clear hK K)
    refine pc_take (.slice (subA (some ⟨g, 0, none⟩) c i 40) (n - i) (c - i)) rfl rfl (fun w' hS => exec_sub_l (P := Try.prog) 75 (.tmp 51) (.tmp 52) rfl 23 40 uu sizeK (l := i) rfl rfl hi) (fun K hK => ?_); go_simp; refine hK _ ?_; clear hK K
    have hI := ins_a hxl HH.out.2.2.2.1 hi (cur := cur1) (by have := H1.out.2.1; have := Nat.mul_le_mul_right 40 hc1; omega) H1.out.2.2.1
    have hsp : (splice cur1 (i * 40) ys).size = cur1.size := splice_size (by have := H2.out.2.2; rw [HH.out.2.2.2.1]; omega)
    have hfit2 : (i + 1) * 40 + (n - i) * 40 ≤ (splice cur1 (i * 40) ys).size := by
      rw [hsp, ← Nat.add_mul, show i + 1 + (n - i) = n + 1 from by omega]
      have := H1.out.2.1
      have := Nat.mul_le_mul_right 40 hc1
      omega
    have hsrc2 := (HH.out.2.2.2.2.1.sub (c := c) (by omega) i (n - i) (by omega) hle.1).md (by omega) H2.out.2.1.drew (fun _ _ f => f)
    rw [List.take_of_length_le (by rw [List.length_drop, hxl, ← Nat.sub_mul]; exact Nat.le_refl _)] at hsrc2
    have b3 := H2.out.1.drew.setRow_ (splice (splice cur1 (i * 40) ys) ((i + 1) * 40) (xs.drop (i * 40)))
    have m3 := H2.out.2.1.drew.new_ (Mod.rowAt w2.drew w.heap.size (splice (splice cur1 (i * 40) ys) ((i + 1) * 40) (xs.drop (i * 40)))) (Nat.le_refl _)
    have H3 := Lib.hid (And.intro b3 (And.intro m3 hI))
    clear b3 m3 hI hsp
    refine pc_val rfl rfl (exec_copy_blk 40 75 75 (.tmp 50) (.tmp 53) rfl uu sizeK (n - i) rfl rfl H2.out.1.drew (Nat.min_self _).symm hsrc2 hfit2 (fun v hv => HH.out.2.2.2.2.2 v (List.mem_of_mem_drop hv))) trivial (fun K hK => ?_); go_simp; refine hK _ ?_; clear hK K
    refine pc_nil ?_
    clear hsrc2 hfit2
    go_wp2
    go_ret
    refine ⟨_, c1, rfl, ⟨?_, .inr ⟨w.heap.size, _, rfl, H3.out.1, hc1, hcm1, ?_, H3.out.2.2.2⟩⟩, H3.out.2.1.nn, fun g' hg' => .inr ?_⟩
    · rw [← H3.out.2.2.2, List.length_take, Array.length_toList, H3.out.2.2.1]
      have := H1.out.2.1
      have := Nat.mul_le_mul_right 40 hc1
      omega
    · rw [H3.out.2.2.1]; exact H1.out.2.1
    · obtain ⟨a, ha, rfl⟩ := hg'
      injection ha with ha; subst ha; exact Nat.le_refl _
  have hov := fun (w' : World) (m : Mod Nn w w') => Go.Lib.run_overlaps_apart (P := Try.prog) w' 75 4 23 uu 40 (fun w => sizeOf_run sizeK w) ⟨gb, 0, none⟩ ⟨g, (i + 1) * 40, none⟩ 1 1 (n - i) (c - (i + 1)) (fun e => hne e.symm) 23 23 ys.toArray.size cur.size (shape_blk (hb.mod m (fun f => f))) (shape_blk (hbc.mod m (fun f => f))) (by have := Nat.mul_le_mul_right 40 hroom; omega) ((hb.mod m (fun f => f)).frozen _) ((hb.mod m (fun f => f)).frozen _)
  have HH := Lib.hid (And.intro hbc (And.intro hcs (And.intro htk (And.intro ry (And.intro hy1 (And.intro hy (And.intro hsrc hx1)))))))
  have HO := Lib.hid (hov w (Mod.refl _ _))
  clear h hpre ry hb hy1 hy hsrc hx1 hg hbc hcs htk hov
  have hcne1 : c ≠ i + 1 := by omega
  have hcne : c ≠ i := by omega
  go_enter Try.func97, Try.ntmps97
  go_wp2_with (first
    | (with_reducible change wpList _ _ _ (⟨some 12, Op.slice _ _ _ _ _, _, _, _, _⟩ :: _) _ _
       go_must (refine wpList_sub_l 75 _ _ rfl rfl 23 40 uu sizeK i rfl rfl hi ?_))
    | (with_reducible change wpList _ _ _ (⟨some 60, Op.slice _ _ _ _ _, _, _, _, _⟩ :: _) _ _
       go_must (refine wpList_sub_h 75 _ _ rfl rfl 23 40 uu sizeK (n + 1) rfl rfl (by omega) ?_)
       rw [subA_zero])
    | (with_reducible change wpList _ _ _ (⟨some 66, Op.slice _ _ _ _ _, _, _, _, _⟩ :: _) _ _
       go_must (refine wpList_sub_l 75 _ _ rfl rfl 23 40 uu sizeK (i + 1) rfl rfl (by omega) ?_)
       rw [subA_at hcne1]))
  rw [run_callFunc_extern Try.func110 (by kernel_rfl) (by kernel_rfl) (by kernel_rfl) (e := Extern.SlicesOverlaps.overlaps #[75, 75] #[4]) (by kernel_rfl), HO.out]
  simp only [Result.andThen]
  rw [Oper.upon_value]
  go_wp2_with fail
  refine wp_region_planC (fun _ => True) [(0, true), (1, true), (2, true), (3, true), (4, true), (5, true), (6, true), (7, true), (8, false)] (by kernel_rfl) (by kernel_rfl) trivial ?_
  iterate 4 (refine pc_pure rfl rfl (fun K hK => ?_); go_simp; refine hK _ ?_; clear hK K)
  rw [show IntKind.i64.wrap ((i : Int) + 1) = (i : Int) + 1 from by rw [IntKind.wrap_i64]; omega]
  refine pc_take (.slice (some ⟨g, (i + 1) * 40, none⟩) (n - i) (c - (i + 1))) rfl rfl (fun w' hS => exec_sub_lZ (P := Try.prog) 40 75 (.tmp 69) (.tmp 72) rfl uu sizeK (k := i + 1) rfl rfl (by omega) hcne1 (by omega) rfl) (fun K hK => ?_); go_simp; refine hK _ ?_; clear hK K
  iterate 2 (refine pc_pure rfl rfl (fun K hK => ?_); go_simp; refine hK _ ?_; clear hK K)
  refine pc_take (.slice (some ⟨g, i * 40, none⟩) (n + 1 - i) (c - i)) rfl rfl (fun w' hS => exec_sub_lZ (P := Try.prog) 40 75 (.tmp 74) (.tmp 75) rfl uu sizeK (k := i) rfl rfl (by omega) hcne rfl rfl) (fun K hK => ?_); go_simp; refine hK _ ?_; clear hK K
  have hcs := HH.out.2.1
  have hcs1 : (n + 1) * 40 ≤ cur.size := Nat.le_trans (Nat.mul_le_mul_right 40 hroom) hcs
  have hti : cur.toList.take (i * 40) = xs.take (i * 40) := by rw [← HH.out.2.2.1, List.take_take, Nat.min_eq_left (Nat.mul_le_mul_right _ hi)]
  have hI := ins_b hxl HH.out.2.2.2.2.2.1 hi hcs1 hti
  have hfit1 : (i + 1) * 40 + (n - i) * 40 ≤ cur.size := by
    rw [← Nat.add_mul, show i + 1 + (n - i) = n + 1 from by omega]; exact hcs1
  have hsrc2 := HH.out.2.2.2.2.2.2.1.sub (c := c) (by omega) i (n - i) (by omega) hle.1
  rw [List.take_of_length_le (by rw [List.length_drop, hxl, ← Nat.sub_mul]; exact Nat.le_refl _), subA_at hcne] at hsrc2
  have b1 := HH.out.1.drew.setRow_ (splice cur ((i + 1) * 40) (xs.drop (i * 40)))
  have m1 : Mod (Of (some ⟨g, 0, none⟩)) w (w.drew.setRow g (splice cur ((i + 1) * 40) (xs.drop (i * 40)))) := ((Mod.refl _ w).drew).setRow (.inr ⟨_, rfl, rfl⟩) _
  have H1 := Lib.hid (And.intro b1 (And.intro m1 hI))
  clear b1 m1 hI hti hcs
  refine pc_val rfl rfl (exec_copy_blk 40 75 75 (.tmp 73) (.tmp 76) rfl uu sizeK (n - i) rfl rfl HH.out.1.drew (Nat.min_eq_right (by omega)).symm (hsrc2.md (by omega) (Mod.refl Nn w).drew (fun _ _ f => f)) hfit1 (fun v hv => HH.out.2.2.2.2.2.2.2 v (List.mem_of_mem_drop hv))) trivial (fun K hK => ?_); go_simp; refine hK _ ?_; clear hK K
  refine pc_nil ?_
  generalize w.drew.setRow g (splice cur ((i + 1) * 40) (xs.drop (i * 40))) = w1 at *
  have hdl : (xs.drop (i * 40)).length = (n - i) * 40 := by rw [List.length_drop, hxl, ← Nat.sub_mul]
  have hsp : (splice cur ((i + 1) * 40) (xs.drop (i * 40))).size = cur.size := splice_size (by rw [hdl]; exact hfit1)
  have hfit2 : i * 40 + 1 * 40 ≤ (splice cur ((i + 1) * 40) (xs.drop (i * 40))).size := by
    rw [hsp, ← Nat.add_mul]
    exact Nat.le_trans (Nat.mul_le_mul_right 40 (by omega)) hcs1
  have HF := Lib.hid (And.intro hfit2 hsp)
  clear hsrc2 hfit1 hdl hsp hfit2
  go_wp2_with (first
    | (with_reducible change wpList _ _ _ (⟨some 80, Op.slice _ _ _ _ _, _, _, _, _⟩ :: _) _ _
       go_must (refine wpList_sub_l 75 _ _ rfl rfl 23 40 uu sizeK i rfl rfl (by omega) ?_)
       rw [subA_at hcne])
    | (with_reducible change wpList _ _ _ (⟨some 82, _, _, _, _, _⟩ :: _) _ _
       go_must (refine wpList_val rfl (exec_copy_blk 40 75 75 _ _ rfl uu sizeK 1 rfl rfl H1.out.1 (Nat.min_eq_left (by omega)).symm (HH.out.2.2.2.1.md (by omega) H1.out.2.1 (fun g' h1 h2 => by
         obtain ⟨a, ha, rfl⟩ := h1; injection ha with ha; subst ha
         obtain ⟨a, ha, h2⟩ := h2; injection ha with ha; subst ha; exact hne h2)) HF.out.1 HH.out.2.2.2.2.1) ?_)
       have b2 := H1.out.1.setRow_ (splice (splice cur ((i + 1) * 40) (xs.drop (i * 40))) (i * 40) ys)
       have m2 : Mod (Of (some ⟨g, 0, none⟩)) w (w1.setRow g (splice (splice cur ((i + 1) * 40) (xs.drop (i * 40))) (i * 40) ys)) := H1.out.2.1.setRow (.inr ⟨_, rfl, rfl⟩) _
       have H2 := Lib.hid (And.intro b2 m2)
       clear b2 m2))
  go_ret
  refine ⟨_, c, rfl, ⟨?_, .inr ⟨g, _, rfl, H2.out.1, hroom, hle.2, ?_, H1.out.2.2.2⟩⟩, H2.out.2, fun g' hg' => .inl hg'⟩
  · rw [← H1.out.2.2.2, List.length_take, Array.length_toList, H1.out.2.2.1]
    omega
  · rw [H1.out.2.2.1]; exact HH.out.2.1
set_option maxRecDepth 100000 in
set_option maxHeartbeats 3200000 in
theorem sdelK_any (h : Hold w 23 40 A n c xs) (hi : i < n) (hx1 : ∀ v ∈ xs, v.oneCell' = true) (hn : n ≤ 1099511627776) :
    Calls Try.prog 100 #[.slice A n c, .int .i64 i, .int .i64 ((i : Int) + 1)] w fun r w' => r = .returned (.slice A (n - 1) c) ∧ Hold w' 23 40 A (n - 1) c (xs.take (i * 40) ++ xs.drop ((i + 1) * 40)) ∧ Mod (Of A) w w' := by
  have hle := h.le
  have hcm : c ≤ 9223372036854775807 := by have := hle.2; unfold maxLen at this; omega
  have hxl := h.1
  have uu := uuK
  obtain ⟨g, rfl⟩ := h.of_ (by omega)
  have hpre := h.pre (Nat.le_of_lt hi) ⟨g, rfl⟩
  have hsrc := h.rd.sub (c := c) (by omega) (i + 1) (n - (i + 1)) (by omega) hle.1
  rw [List.take_of_length_le (by rw [List.length_drop, hxl, ← Nat.sub_mul]; exact Nat.le_refl _)] at hsrc
  have HH := Lib.hid (And.intro hpre (And.intro hsrc hx1))
  have hcne : c ≠ n - 1 := by omega
  have hii : decide ((i : Int) = (i : Int) + 1) = false := decide_eq_false (by omega)
  have hnn : i + (n - (i + 1)) = n - 1 := by omega
  clear h hpre hsrc hx1
  go_enter Try.func100, Try.ntmps100
  go_wp2_with (first
    | (with_reducible change wpList _ _ _ (⟨some 13, Op.slice _ _ _ _ _, _, _, _, _⟩ :: _) _ _
       go_must (refine wpList_val rfl (exec_sub_lhm 40 75 _ _ _ _ rfl uu sizeK (l := i) (k := i + 1) (m := n) rfl rfl rfl rfl (by omega) (by omega) hle.1) ?_)))
  refine wp_region_planC (fun _ => True) [(0, true), (1, true), (2, true), (3, true), (4, true), (5, true), (6, false), (7, true)] (by kernel_rfl) (by kernel_rfl) trivial ?_
  iterate 2 (refine pc_pure rfl rfl (fun K hK => ?_); go_simp; refine hK _ ?_; clear hK K)
  refine pc_take (.slice (some ⟨g, 0, none⟩) i c) rfl rfl (fun w' hS => exec_sub_hA (P := Try.prog) 40 75 (.tmp 20) (.tmp 21) rfl uu sizeK (k := i) rfl rfl (by omega)) (fun K hK => ?_); go_simp; refine hK _ ?_; clear hK K
  iterate 2 (refine pc_pure rfl rfl (fun K hK => ?_); go_simp; refine hK _ ?_; clear hK K)
  refine pc_take (.slice (subA (some ⟨g, 0, none⟩) c (i + 1) 40) (n - (i + 1)) (c - (i + 1))) rfl rfl (fun w' hS => exec_sub_l (P := Try.prog) 75 (.tmp 23) (.tmp 24) rfl 23 40 uu sizeK (l := i + 1) rfl rfl (by omega)) (fun K hK => ?_); go_simp; refine hK _ ?_; clear hK K
  refine pc_append_room 40 75 (.tmp 22) (.tmp 25) rfl rfl rfl uu sizeK rfl (HH.out.1.nn (Mod.refl Nn w).drew) rfl (HH.out.2.1.md (by omega) (Mod.refl Nn w).drew (fun _ _ f => f)) (fun v hv => HH.out.2.2 v (List.mem_of_mem_drop hv)) (by omega) ⟨g, rfl⟩ (fun w1 h1 m1 => ⟨trivial, ?_⟩)
  refine (fun K hK => ?_); go_simp; refine hK _ ?_; clear hK K
  rw [hnn] at h1
  iterate 1 (refine pc_pure rfl rfl (fun K hK => ?_); go_simp; refine hK _ ?_; clear hK K)
  refine pc_nil ?_
  have m1' : Mod (Of (some ⟨g, 0, none⟩)) w w1 := m1.of_drew
  obtain ⟨cur, hbc, hcs, htk⟩ : ∃ cur, Blk w1 g 23 cur ∧ c * 40 ≤ cur.size ∧ cur.toList.take ((n - 1) * 40) = xs.take (i * 40) ++ xs.drop ((i + 1) * 40) := by
    rcases h1.2 with ⟨h0, _⟩ | ⟨g', cur, e, hb', _, _, h3, h4⟩
    · cases h0
    · injection e with e; injection e with e; subst e; exact ⟨cur, hb', h3, h4⟩
  have hlen := h1.1
  have hfit : (n - 1) * 40 + 1 * 40 ≤ cur.size := by
    rw [← Nat.add_mul, show n - 1 + 1 = n from by omega]; exact Nat.le_trans (Nat.mul_le_mul_right 40 hle.1) hcs
  have H1 := Lib.hid (And.intro hbc (And.intro hcs (And.intro htk (And.intro m1' (And.intro hlen hfit)))))
  clear h1 m1 m1' hbc hcs htk hlen hfit
  go_wp2_with (first
    | (with_reducible change wpList _ _ _ (⟨some 31, Op.slice _ _ _ _ _, _, _, _, _⟩ :: _) _ _
       go_must (refine wpList_sub_lh 75 _ _ _ rfl rfl 23 40 uu sizeK (n - 1) n rfl (congrArg (Value.int .i64) (by omega)) rfl (by omega) hle.1 ?_)
       rw [subA_at hcne, show n - (n - 1) = 1 from by omega])
    | (with_reducible change wpList _ _ _ (⟨none, Op.call _, _, _, _, _⟩ :: _) _ _
       go_must (refine wpList_clear_blk 40 75 _ rfl rfl zK uu infoK2 zsK z1K rfl H1.out.1 (by omega) H1.out.2.2.2.2.2 ?_)
       intro cur' hs' ht'
       have b2 := H1.out.1.setRow_ cur'
       have m2 : Mod (Of (some ⟨g, 0, none⟩)) w (w1.setRow g cur') := H1.out.2.2.2.1.setRow (.inr ⟨_, rfl, rfl⟩) _
       have H2 := Lib.hid (And.intro b2 (And.intro m2 (And.intro hs' ht')))
       clear b2 m2 hs' ht'))
  go_ret
  refine ⟨rfl, ⟨H1.out.2.2.2.2.1, .inr ⟨g, cur', rfl, H2.out.1, by omega, hle.2, ?_, ?_⟩⟩, H2.out.2.1⟩
  · rw [H2.out.2.2.1]; exact H1.out.2.1
  · rw [H2.out.2.2.2]; exact H1.out.2.2.1
set_option maxRecDepth 100000 in
set_option maxHeartbeats 3200000 in
theorem scloneK_any (h : RdC w A n 40 xs) (hx1 : ∀ v ∈ xs, v.oneCell' = true) (hn : n ≤ 1099511627776) :
    Calls Try.prog 67 #[.slice A n c] w fun r w' => ∃ A' c', r = .returned (.slice A' n c') ∧ Hold w' 23 40 A' n c' xs ∧ Mod Nn w w' ∧ ∀ g, Of A' g → w.heap.size ≤ g := by
  have uu := uuK
  cases A with
  | none =>
    have hn0 : n = 0 := by
      rcases Nat.eq_zero_or_pos n with h0 | h0
      · exact h0
      · obtain ⟨_, _, e, _⟩ := h.2 h0; cases e
    subst hn0
    have hx : xs = [] := List.eq_nil_of_length_eq_zero (by have := h.1; omega)
    subst hx
    clear h hx1
    go_enter Try.func67, Try.ntmps67
    go_wp2
    rw [run_eql_nil _ 75 _ _ _ uu]
    simp only [Result.andThen]
    rw [Oper.upon_value]
    go_wp2
    go_ret
    exact ⟨none, 0, rfl, Hold.nil _ _ _, Mod.refl _ _, fun g hg => by obtain ⟨a, ha, _⟩ := hg; cases ha⟩
  | some a =>
    have HH := Lib.hid (And.intro h hx1)
    have b1 : Blk (w.alloc (.cells #[] 23)) w.heap.size 23 #[] := Blk.new _ _ _
    have m1 : Mod Nn w (w.alloc (.cells #[] 23)) := (Mod.refl Nn w).alloc _
    have h1 : Hold (w.alloc (.cells #[] 23)) 23 40 (some ⟨w.heap.size, 0, none⟩) 0 0 [] := ⟨by simp, .inr ⟨_, _, rfl, b1, Nat.le_refl _, Nat.zero_le _, by simp, by simp⟩⟩
    have H1 := Lib.hid (And.intro h1 m1)
    clear h hx1 b1 m1 h1
    go_enter Try.func67, Try.ntmps67
    go_wp2_with fail
    rw [run_eql_nil _ 75 _ _ _ uu]
    simp only [Result.andThen]
    rw [Oper.upon_value]
    go_wp2_with (first
      | (with_reducible change wpList _ _ _ (⟨some 5, Op.buildSlice _ _ _, _, _, _, _⟩ :: _) _ _
         go_must (refine wpList_val rfl (exec_bslice0 (P := Try.prog) 75 23 rfl uu sizeK) ?_))
      | (with_reducible change wpList _ _ _ (⟨some 7, _, _, _, _, _⟩ :: _) _ _
         go_must (refine wpList_append_hold 40 75 _ _ rfl rfl zK 40 uu infoK zsK (by omega) rfl H1.out.1 rfl (HH.out.1.md (by omega) H1.out.2 (fun _ _ f => f)) HH.out.2 (by omega) (by omega) ?_)
         intro A' c' w2 h2 m2 hA2
         rw [Nat.zero_add] at h2
         rw [Nat.zero_add]))
    go_ret
    refine ⟨A', c', rfl, h2, H1.out.2.then_ m2 (fun g hg e => ?_), fun g hg => ?_⟩
    · obtain ⟨a, ha, rfl⟩ := e
      injection ha with ha; subst ha; exact absurd hg (Nat.lt_irrefl _)
    · rcases hA2 g hg with e | e
      · obtain ⟨a, ha, rfl⟩ := e
        injection ha with ha; subst ha; exact Nat.le_refl _
      · have := H1.out.2.size; omega
end
end Go.Proofs.Ytkcpmkeckcnobaa

/- slices.Insert, Delete, Clone over rows of parts (printed by wip/gen/slices.py). -/
namespace Go.Proofs.Ytkcpmkeckcnobaa
open Go.RowKit

def zP : Value := .nilIface
theorem infoP : (Try.prog.info? 37).map (fun i => (i.zero, i.size, i.bytes)) = some (some zP, 1, 16) := by kernel_rfl
theorem infoP2 : (Try.prog.info? 37).map (fun i => (i.zero, i.size)) = some (some zP, 1) := by kernel_rfl
theorem zsP : zP.cells.size = 1 := by kernel_rfl
theorem z1P : zP.cells.all (·.oneCell') = true := by kernel_rfl
theorem sizeP : (Try.prog.info? 37).map (·.size) = some 1 := by kernel_rfl
theorem uuP : Try.prog.underlying 104 = some (.slice 37) := Try.underlying104
section
variable {w : World} {A : Option Addr} {n c i gb : Nat} {xs ys : List Value}
set_option maxRecDepth 100000 in
set_option maxHeartbeats 3200000 in
theorem sinsP_gen {s : Nat} (hs : s = 1) (h : Hold w 37 s A n c xs) (hi : i ≤ n) (hb : Blk w gb 37 ys.toArray) (hy : ys.length = s) (hy1 : ∀ v ∈ ys, v.oneCell' = true) (hx1 : ∀ v ∈ xs, v.oneCell' = true) (hg : ∀ g, Of A g → g ≠ gb) (hn : n ≤ 1099511627776) :
    Calls Try.prog 98 #[.slice A n c, .int .i64 i, .slice (some ⟨gb, 0, none⟩) 1 1] w fun r w' => ∃ A' c', r = .returned (.slice A' (n + 1) c') ∧ Hold w' 37 s A' (n + 1) c' (xs.take (i * s) ++ ys ++ xs.drop (i * s)) ∧ Mod (Of A) w w' ∧ ∀ g, Of A' g → Of A g ∨ w.heap.size ≤ g := by
  have hle := h.le
  have hcm : c ≤ 9223372036854775807 := by have := hle.2; unfold maxLen at this; omega
  have ry : RdC w (some ⟨gb, 0, none⟩) 1 s ys := RdC.of_blk hb (by first | omega | (have hs := HS.out; subst hs; first | omega | (have hs := HS.out; subst hs; omega)))
  have hxl := h.1
  have uu := uuP
  have infoP : (Try.prog.info? 37).map (fun i => (i.zero, i.size, i.bytes)) = some (some zP, s, 16) := by rw [hs]; exact infoP
  have infoP2 : (Try.prog.info? 37).map (fun i => (i.zero, i.size)) = some (some zP, s) := by rw [hs]; exact infoP2
  have zsP : zP.cells.size = s := by rw [hs]; exact zsP
  have sizeP : (Try.prog.info? 37).map (·.size) = some s := by rw [hs]; exact sizeP
  have HS := Lib.hid hs
  clear hs
  by_cases hin : i = n
  case pos =>
    subst hin
    have HH := Lib.hid (And.intro h (And.intro ry hy1))
    have hfin : xs.take (i * s) ++ ys ++ xs.drop (i * s) = xs ++ ys := by rw [← hxl, List.take_length, List.drop_length, List.append_nil]
    rw [hfin]
    clear h ry hb hy1 hx1 hg hxl hfin
    go_enter Try.func98, Try.ntmps98
    go_wp2_with (first
      | (with_reducible change wpList _ _ _ (⟨some 12, Op.slice _ _ _ _ _, _, _, _, _⟩ :: _) _ _
         go_must (refine wpList_sub_l 104 _ _ rfl rfl 37 s uu sizeP i rfl rfl (Nat.le_refl _) ?_))
      | (with_reducible change wpList _ _ _ (⟨some 25, _, _, _, _, _⟩ :: _) _ _
         go_must (refine wpList_append_hold s 104 _ _ rfl rfl zP 16 uu infoP zsP (by first | omega | (have hs := HS.out; subst hs; first | omega | (have hs := HS.out; subst hs; omega))) rfl HH.out.1 rfl HH.out.2.1 HH.out.2.2 (by first | omega | (have hs := HS.out; subst hs; first | omega | (have hs := HS.out; subst hs; omega))) (by first | omega | (have hs := HS.out; subst hs; first | omega | (have hs := HS.out; subst hs; omega))) ?_)
         intro A' c' w1 h1 m1 hA1))
    go_ret
    exact ⟨A', c', rfl, h1, m1, hA1⟩
  have hlt : i < n := by first | omega | (have hs := HS.out; subst hs; first | omega | (have hs := HS.out; subst hs; omega))
  obtain ⟨g, rfl⟩ := h.of_ (by first | omega | (have hs := HS.out; subst hs; first | omega | (have hs := HS.out; subst hs; omega)))
  have hne : g ≠ gb := hg g ⟨_, rfl, rfl⟩
  have hgw : g < w.heap.size := h.lt ⟨_, rfl, rfl⟩
  have hsrc := h.rd
  have hpre := h.pre hi ⟨g, rfl⟩
  obtain ⟨cur, hbc, hcs, htk⟩ : ∃ cur, Blk w g 37 cur ∧ c * s ≤ cur.size ∧ cur.toList.take (n * s) = xs := by
    rcases h.2 with ⟨h0, _⟩ | ⟨g', cur, e, hb', _, _, h3, h4⟩
    · cases h0
    · injection e with e; injection e with e; subst e; exact ⟨cur, hb', h3, h4⟩
  by_cases hroom : n + 1 ≤ c
  case neg =>
    obtain ⟨k, hk⟩ : ∃ k, i + k = n + 1 := ⟨n + 1 - i, by first | omega | (have hs := HS.out; subst hs; first | omega | (have hs := HS.out; subst hs; omega))⟩
    have HH := Lib.hid (And.intro hpre (And.intro ry (And.intro hy1 (And.intro hy (And.intro hsrc hx1)))))
    clear h hpre ry hb hy1 hy hsrc hx1 hg hbc hcs htk
    go_enter Try.func98, Try.ntmps98
    go_wp2_with (first
      | (with_reducible change wpList _ _ _ (⟨some 12, Op.slice _ _ _ _ _, _, _, _, _⟩ :: _) _ _
         go_must (refine wpList_sub_l 104 _ _ rfl rfl 37 s uu sizeP i rfl rfl hi ?_))
      | (with_reducible change wpList _ _ _ (⟨some 34, Op.slice _ _ _ _ _, _, _, _, _⟩ :: _) _ _
         go_must (refine wpList_sub_h 104 _ _ rfl rfl 37 s uu sizeP i rfl rfl (by first | omega | (have hs := HS.out; subst hs; first | omega | (have hs := HS.out; subst hs; omega))) ?_)
         rw [subA_zero])
      | (with_reducible change wpList _ _ _ (⟨some 40, _, _, _, _, _⟩ :: _) _ _
         go_must (refine wpList_append_noughts s 104 3 _ _ rfl rfl zP 16 uu Try.underlying3 infoP zsP (by first | omega | (have hs := HS.out; subst hs; first | omega | (have hs := HS.out; subst hs; omega))) rfl HH.out.1 k (congrArg (Value.int .i64) (by first | omega | (have hs := HS.out; subst hs; first | omega | (have hs := HS.out; subst hs; omega)))) (by first | omega | (have hs := HS.out; subst hs; first | omega | (have hs := HS.out; subst hs; omega))) (by first | omega | (have hs := HS.out; subst hs; first | omega | (have hs := HS.out; subst hs; omega))) (by first | omega | (have hs := HS.out; subst hs; first | omega | (have hs := HS.out; subst hs; omega))) (by first | omega | (have hs := HS.out; subst hs; first | omega | (have hs := HS.out; subst hs; omega))) ?_)
         intro c1 cur1 w1 b1 hc1 hcm1 hcs1 ht1 m1
         have hcne : c1 ≠ i := by first | omega | (have hs := HS.out; subst hs; first | omega | (have hs := HS.out; subst hs; omega))
         have hw1 : w.heap.size ≤ w1.heap.size := m1.size
         have H1 := Lib.hid (And.intro b1 (And.intro hcs1 (And.intro ht1 m1)))
         rw [hk]
         rw [hk] at hc1
         clear b1 hcs1 ht1 m1)
      | (with_reducible change wpList _ _ _ (⟨some 43, Op.slice _ _ _ _ _, _, _, _, _⟩ :: _) _ _
         go_must (refine wpList_sub_l 104 _ _ rfl rfl 37 s uu sizeP i rfl rfl (by first | omega | (have hs := HS.out; subst hs; first | omega | (have hs := HS.out; subst hs; omega))) ?_)
         rw [subA_at hcne])
      | (with_reducible change wpList _ _ _ (⟨some 45, _, _, _, _, _⟩ :: _) _ _
         have hfit1 : i * s + 1 * s ≤ cur1.size := by
           have := H1.out.2.1
           have := Nat.mul_le_mul_right s hc1
           have : i * s + 1 * s ≤ (n + 1) * s := by rw [← Nat.add_mul]; exact Nat.mul_le_mul_right _ (by first | omega | (have hs := HS.out; subst hs; first | omega | (have hs := HS.out; subst hs; omega)))
           first | omega | (have hs := HS.out; subst hs; omega)
         go_must (refine wpList_val rfl (exec_copy_blk s 104 104 _ _ rfl uu sizeP 1 rfl rfl H1.out.1 (Nat.min_eq_left (by first | omega | (have hs := HS.out; subst hs; first | omega | (have hs := HS.out; subst hs; omega)))).symm (HH.out.2.1.md (by first | omega | (have hs := HS.out; subst hs; first | omega | (have hs := HS.out; subst hs; omega))) H1.out.2.2.2 (fun _ _ f => f)) hfit1 HH.out.2.2.1) ?_)
         have b2 := H1.out.1.setRow_ (splice cur1 (i * s) ys)
         have m2 := H1.out.2.2.2.new_ (Mod.rowAt w1 w.heap.size (splice cur1 (i * s) ys)) (Nat.le_refl _)
         have H2 := Lib.hid (And.intro b2 (And.intro m2 hfit1))
         clear b2 m2 hfit1
         generalize w1.setRow w.heap.size (splice cur1 (i * s) ys) = w2 at *))
    refine wp_region_planC (fun _ => True) [(0, true), (1, true), (2, true), (3, true), (4, true), (5, true), (6, true), (7, true), (8, false)] (by kernel_rfl) (by kernel_rfl) trivial ?_
    iterate 4 (refine pc_pure rfl rfl (fun K hK => ?_); go_simp; refine hK _ ?_; clear hK K)
    rw [show IntKind.i64.wrap ((i : Int) + 1) = (i : Int) + 1 from by rw [IntKind.wrap_i64]; first | omega | (have hs := HS.out; subst hs; first | omega | (have hs := HS.out; subst hs; omega))]
    refine pc_take (.slice (some ⟨w.heap.size, (i + 1) * s, none⟩) (n - i) (c1 - (i + 1))) rfl rfl (fun w' hS => exec_sub_lZ (P := Try.prog) s 104 (.tmp 46) (.tmp 49) rfl uu sizeP (k := i + 1) rfl rfl (by first | omega | (have hs := HS.out; subst hs; first | omega | (have hs := HS.out; subst hs; omega))) (by first | omega | (have hs := HS.out; subst hs; first | omega | (have hs := HS.out; subst hs; omega))) (by first | omega | (have hs := HS.out; subst hs; first | omega | (have hs := HS.out; subst hs; omega))) rfl) (fun K hK => ?_); go_simp; refine hK _ ?_; clear hK K
    iterate 2 (refine pc_pure rfl rfl (fun K hK => ?_); go_simp; refine hK _ ?_; clear hK K)
    refine pc_take (.slice (subA (some ⟨g, 0, none⟩) c i s) (n - i) (c - i)) rfl rfl (fun w' hS => exec_sub_l (P := Try.prog) 104 (.tmp 51) (.tmp 52) rfl 37 s uu sizeP (l := i) rfl rfl hi) (fun K hK => ?_); go_simp; refine hK _ ?_; clear hK K
    have hI := ins_a hxl HH.out.2.2.2.1 hi (cur := cur1) (by have := H1.out.2.1; have := Nat.mul_le_mul_right s hc1; first | omega | (have hs := HS.out; subst hs; omega)) H1.out.2.2.1
    have hsp : (splice cur1 (i * s) ys).size = cur1.size := splice_size (by have := H2.out.2.2; rw [HH.out.2.2.2.1]; first | omega | (have hs := HS.out; subst hs; omega))
    have hfit2 : (i + 1) * s + (n - i) * s ≤ (splice cur1 (i * s) ys).size := by
      rw [hsp, ← Nat.add_mul, show i + 1 + (n - i) = n + 1 from by first | omega | (have hs := HS.out; subst hs; first | omega | (have hs := HS.out; subst hs; omega))]
      have := H1.out.2.1
      have := Nat.mul_le_mul_right s hc1
      first | omega | (have hs := HS.out; subst hs; omega)
    have hsrc2 := (HH.out.2.2.2.2.1.sub (c := c) (by first | omega | (have hs := HS.out; subst hs; first | omega | (have hs := HS.out; subst hs; omega))) i (n - i) (by first | omega | (have hs := HS.out; subst hs; first | omega | (have hs := HS.out; subst hs; omega))) hle.1).md (by first | omega | (have hs := HS.out; subst hs; first | omega | (have hs := HS.out; subst hs; omega))) H2.out.2.1.drew (fun _ _ f => f)
    rw [List.take_of_length_le (by rw [List.length_drop, hxl, ← Nat.sub_mul]; exact Nat.le_refl _)] at hsrc2
    have b3 := H2.out.1.drew.setRow_ (splice (splice cur1 (i * s) ys) ((i + 1) * s) (xs.drop (i * s)))
    have m3 := H2.out.2.1.drew.new_ (Mod.rowAt w2.drew w.heap.size (splice (splice cur1 (i * s) ys) ((i + 1) * s) (xs.drop (i * s)))) (Nat.le_refl _)
    have H3 := Lib.hid (And.intro b3 (And.intro m3 hI))
    clear b3 m3 hI hsp
    refine pc_val rfl rfl (exec_copy_blk s 104 104 (.tmp 50) (.tmp 53) rfl uu sizeP (n - i) rfl rfl H2.out.1.drew (Nat.min_self _).symm hsrc2 hfit2 (fun v hv => HH.out.2.2.2.2.2 v (List.mem_of_mem_drop hv))) trivial (fun K hK => ?_); go_simp; refine hK _ ?_; clear hK K
    refine pc_nil ?_
    clear hsrc2 hfit2
    go_wp2
    go_ret
    refine ⟨_, c1, rfl, ⟨?_, .inr ⟨w.heap.size, _, rfl, H3.out.1, hc1, hcm1, ?_, H3.out.2.2.2⟩⟩, H3.out.2.1.nn, fun g' hg' => .inr ?_⟩
    · rw [← H3.out.2.2.2, List.length_take, Array.length_toList, H3.out.2.2.1]
      have := H1.out.2.1
      have := Nat.mul_le_mul_right s hc1
      first | omega | (have hs := HS.out; subst hs; omega)
    · rw [H3.out.2.2.1]; exact H1.out.2.1
    · obtain ⟨a, ha, rfl⟩ := hg'
      injection ha with ha; subst ha; exact Nat.le_refl _
  have hov := fun (w' : World) (m : Mod Nn w w') => Go.Lib.run_overlaps_apart (P := Try.prog) w' 104 4 37 uu s (fun w => sizeOf_run sizeP w) ⟨gb, 0, none⟩ ⟨g, (i + 1) * s, none⟩ 1 1 (n - i) (c - (i + 1)) (fun e => hne e.symm) 37 37 ys.toArray.size cur.size (shape_blk (hb.mod m (fun f => f))) (shape_blk (hbc.mod m (fun f => f))) (by have := Nat.mul_le_mul_right s hroom; first | omega | (have hs := HS.out; subst hs; omega)) ((hb.mod m (fun f => f)).frozen _) ((hb.mod m (fun f => f)).frozen _)
  have HH := Lib.hid (And.intro hbc (And.intro hcs (And.intro htk (And.intro ry (And.intro hy1 (And.intro hy (And.intro hsrc hx1)))))))
  have HO := Lib.hid (hov w (Mod.refl _ _))
  clear h hpre ry hb hy1 hy hsrc hx1 hg hbc hcs htk hov
  have hcne1 : c ≠ i + 1 := by first | omega | (have hs := HS.out; subst hs; first | omega | (have hs := HS.out; subst hs; omega))
  have hcne : c ≠ i := by first | omega | (have hs := HS.out; subst hs; first | omega | (have hs := HS.out; subst hs; omega))
  go_enter Try.func98, Try.ntmps98
  go_wp2_with (first
    | (with_reducible change wpList _ _ _ (⟨some 12, Op.slice _ _ _ _ _, _, _, _, _⟩ :: _) _ _
       go_must (refine wpList_sub_l 104 _ _ rfl rfl 37 s uu sizeP i rfl rfl hi ?_))
    | (with_reducible change wpList _ _ _ (⟨some 60, Op.slice _ _ _ _ _, _, _, _, _⟩ :: _) _ _
       go_must (refine wpList_sub_h 104 _ _ rfl rfl 37 s uu sizeP (n + 1) rfl rfl (by first | omega | (have hs := HS.out; subst hs; first | omega | (have hs := HS.out; subst hs; omega))) ?_)
       rw [subA_zero])
    | (with_reducible change wpList _ _ _ (⟨some 66, Op.slice _ _ _ _ _, _, _, _, _⟩ :: _) _ _
       go_must (refine wpList_sub_l 104 _ _ rfl rfl 37 s uu sizeP (i + 1) rfl rfl (by first | omega | (have hs := HS.out; subst hs; first | omega | (have hs := HS.out; subst hs; omega))) ?_)
       rw [subA_at hcne1]))
  rw [run_callFunc_extern Try.func112 (by kernel_rfl) (by kernel_rfl) (by kernel_rfl) (e := Extern.SlicesOverlaps.overlaps #[104, 104] #[4]) (by kernel_rfl), HO.out]
  simp only [Result.andThen]
  rw [Oper.upon_value]
  go_wp2_with fail
  refine wp_region_planC (fun _ => True) [(0, true), (1, true), (2, true), (3, true), (4, true), (5, true), (6, true), (7, true), (8, false)] (by kernel_rfl) (by kernel_rfl) trivial ?_
  iterate 4 (refine pc_pure rfl rfl (fun K hK => ?_); go_simp; refine hK _ ?_; clear hK K)
  rw [show IntKind.i64.wrap ((i : Int) + 1) = (i : Int) + 1 from by rw [IntKind.wrap_i64]; first | omega | (have hs := HS.out; subst hs; first | omega | (have hs := HS.out; subst hs; omega))]
  refine pc_take (.slice (some ⟨g, (i + 1) * s, none⟩) (n - i) (c - (i + 1))) rfl rfl (fun w' hS => exec_sub_lZ (P := Try.prog) s 104 (.tmp 69) (.tmp 72) rfl uu sizeP (k := i + 1) rfl rfl (by first | omega | (have hs := HS.out; subst hs; first | omega | (have hs := HS.out; subst hs; omega))) hcne1 (by first | omega | (have hs := HS.out; subst hs; first | omega | (have hs := HS.out; subst hs; omega))) rfl) (fun K hK => ?_); go_simp; refine hK _ ?_; clear hK K
  iterate 2 (refine pc_pure rfl rfl (fun K hK => ?_); go_simp; refine hK _ ?_; clear hK K)
  refine pc_take (.slice (some ⟨g, i * s, none⟩) (n + 1 - i) (c - i)) rfl rfl (fun w' hS => exec_sub_lZ (P := Try.prog) s 104 (.tmp 74) (.tmp 75) rfl uu sizeP (k := i) rfl rfl (by first | omega | (have hs := HS.out; subst hs; first | omega | (have hs := HS.out; subst hs; omega))) hcne rfl rfl) (fun K hK => ?_); go_simp; refine hK _ ?_; clear hK K
  have hcs := HH.out.2.1
  have hcs1 : (n + 1) * s ≤ cur.size := Nat.le_trans (Nat.mul_le_mul_right s hroom) hcs
  have hti : cur.toList.take (i * s) = xs.take (i * s) := by rw [← HH.out.2.2.1, List.take_take, Nat.min_eq_left (Nat.mul_le_mul_right _ hi)]
  have hI := ins_b hxl HH.out.2.2.2.2.2.1 hi hcs1 hti
  have hfit1 : (i + 1) * s + (n - i) * s ≤ cur.size := by
    rw [← Nat.add_mul, show i + 1 + (n - i) = n + 1 from by first | omega | (have hs := HS.out; subst hs; first | omega | (have hs := HS.out; subst hs; omega))]; exact hcs1
  have hsrc2 := HH.out.2.2.2.2.2.2.1.sub (c := c) (by first | omega | (have hs := HS.out; subst hs; first | omega | (have hs := HS.out; subst hs; omega))) i (n - i) (by first | omega | (have hs := HS.out; subst hs; first | omega | (have hs := HS.out; subst hs; omega))) hle.1
  rw [List.take_of_length_le (by rw [List.length_drop, hxl, ← Nat.sub_mul]; exact Nat.le_refl _), subA_at hcne] at hsrc2
  have b1 := HH.out.1.drew.setRow_ (splice cur ((i + 1) * s) (xs.drop (i * s)))
  have m1 : Mod (Of (some ⟨g, 0, none⟩)) w (w.drew.setRow g (splice cur ((i + 1) * s) (xs.drop (i * s)))) := ((Mod.refl _ w).drew).setRow (.inr ⟨_, rfl, rfl⟩) _
  have H1 := Lib.hid (And.intro b1 (And.intro m1 hI))
  clear b1 m1 hI hti hcs
  refine pc_val rfl rfl (exec_copy_blk s 104 104 (.tmp 73) (.tmp 76) rfl uu sizeP (n - i) rfl rfl HH.out.1.drew (Nat.min_eq_right (by first | omega | (have hs := HS.out; subst hs; first | omega | (have hs := HS.out; subst hs; omega)))).symm (hsrc2.md (by first | omega | (have hs := HS.out; subst hs; first | omega | (have hs := HS.out; subst hs; omega))) (Mod.refl Nn w).drew (fun _ _ f => f)) hfit1 (fun v hv => HH.out.2.2.2.2.2.2.2 v (List.mem_of_mem_drop hv))) trivial (fun K hK => ?_); go_simp; refine hK _ ?_; clear hK K
  refine pc_nil ?_
  generalize w.drew.setRow g (splice cur ((i + 1) * s) (xs.drop (i * s))) = w1 at *
  have hdl : (xs.drop (i * s)).length = (n - i) * s := by rw [List.length_drop, hxl, ← Nat.sub_mul]
  have hsp : (splice cur ((i + 1) * s) (xs.drop (i * s))).size = cur.size := splice_size (by rw [hdl]; exact hfit1)
  have hfit2 : i * s + 1 * s ≤ (splice cur ((i + 1) * s) (xs.drop (i * s))).size := by
    rw [hsp, ← Nat.add_mul]
    exact Nat.le_trans (Nat.mul_le_mul_right s (by first | omega | (have hs := HS.out; subst hs; first | omega | (have hs := HS.out; subst hs; omega)))) hcs1
  have HF := Lib.hid (And.intro hfit2 hsp)
  clear hsrc2 hfit1 hdl hsp hfit2
  go_wp2_with (first
    | (with_reducible change wpList _ _ _ (⟨some 80, Op.slice _ _ _ _ _, _, _, _, _⟩ :: _) _ _
       go_must (refine wpList_sub_l 104 _ _ rfl rfl 37 s uu sizeP i rfl rfl (by first | omega | (have hs := HS.out; subst hs; first | omega | (have hs := HS.out; subst hs; omega))) ?_)
       rw [subA_at hcne])
    | (with_reducible change wpList _ _ _ (⟨some 82, _, _, _, _, _⟩ :: _) _ _
       go_must (refine wpList_val rfl (exec_copy_blk s 104 104 _ _ rfl uu sizeP 1 rfl rfl H1.out.1 (Nat.min_eq_left (by first | omega | (have hs := HS.out; subst hs; first | omega | (have hs := HS.out; subst hs; omega)))).symm (HH.out.2.2.2.1.md (by first | omega | (have hs := HS.out; subst hs; first | omega | (have hs := HS.out; subst hs; omega))) H1.out.2.1 (fun g' h1 h2 => by
         obtain ⟨a, ha, rfl⟩ := h1; injection ha with ha; subst ha
         obtain ⟨a, ha, h2⟩ := h2; injection ha with ha; subst ha; exact hne h2)) HF.out.1 HH.out.2.2.2.2.1) ?_)
       have b2 := H1.out.1.setRow_ (splice (splice cur ((i + 1) * s) (xs.drop (i * s))) (i * s) ys)
       have m2 : Mod (Of (some ⟨g, 0, none⟩)) w (w1.setRow g (splice (splice cur ((i + 1) * s) (xs.drop (i * s))) (i * s) ys)) := H1.out.2.1.setRow (.inr ⟨_, rfl, rfl⟩) _
       have H2 := Lib.hid (And.intro b2 m2)
       clear b2 m2))
  go_ret
  refine ⟨_, c, rfl, ⟨?_, .inr ⟨g, _, rfl, H2.out.1, hroom, hle.2, ?_, H1.out.2.2.2⟩⟩, H2.out.2, fun g' hg' => .inl hg'⟩
  · rw [← H1.out.2.2.2, List.length_take, Array.length_toList, H1.out.2.2.1]
    first | omega | (have hs := HS.out; subst hs; omega)
  · rw [H1.out.2.2.1]; exact HH.out.2.1
set_option maxRecDepth 100000 in
set_option maxHeartbeats 3200000 in
theorem sdelP_gen {s : Nat} (hs : s = 1) (h : Hold w 37 s A n c xs) (hi : i < n) (hx1 : ∀ v ∈ xs, v.oneCell' = true) (hn : n ≤ 1099511627776) :
    Calls Try.prog 101 #[.slice A n c, .int .i64 i, .int .i64 ((i : Int) + 1)] w fun r w' => r = .returned (.slice A (n - 1) c) ∧ Hold w' 37 s A (n - 1) c (xs.take (i * s) ++ xs.drop ((i + 1) * s)) ∧ Mod (Of A) w w' := by
  have hle := h.le
  have hcm : c ≤ 9223372036854775807 := by have := hle.2; unfold maxLen at this; omega
  have hxl := h.1
  have uu := uuP
  have infoP : (Try.prog.info? 37).map (fun i => (i.zero, i.size, i.bytes)) = some (some zP, s, 16) := by rw [hs]; exact infoP
  have infoP2 : (Try.prog.info? 37).map (fun i => (i.zero, i.size)) = some (some zP, s) := by rw [hs]; exact infoP2
  have zsP : zP.cells.size = s := by rw [hs]; exact zsP
  have sizeP : (Try.prog.info? 37).map (·.size) = some s := by rw [hs]; exact sizeP
  have HS := Lib.hid hs
  clear hs
  obtain ⟨g, rfl⟩ := h.of_ (by first | omega | (have hs := HS.out; subst hs; first | omega | (have hs := HS.out; subst hs; omega)))
  have hpre := h.pre (Nat.le_of_lt hi) ⟨g, rfl⟩
  have hsrc := h.rd.sub (c := c) (by first | omega | (have hs := HS.out; subst hs; first | omega | (have hs := HS.out; subst hs; omega))) (i + 1) (n - (i + 1)) (by first | omega | (have hs := HS.out; subst hs; first | omega | (have hs := HS.out; subst hs; omega))) hle.1
  rw [List.take_of_length_le (by rw [List.length_drop, hxl, ← Nat.sub_mul]; exact Nat.le_refl _)] at hsrc
  have HH := Lib.hid (And.intro hpre (And.intro hsrc hx1))
  have hcne : c ≠ n - 1 := by first | omega | (have hs := HS.out; subst hs; first | omega | (have hs := HS.out; subst hs; omega))
  have hii : decide ((i : Int) = (i : Int) + 1) = false := decide_eq_false (by first | omega | (have hs := HS.out; subst hs; first | omega | (have hs := HS.out; subst hs; omega)))
  have hnn : i + (n - (i + 1)) = n - 1 := by first | omega | (have hs := HS.out; subst hs; first | omega | (have hs := HS.out; subst hs; omega))
  clear h hpre hsrc hx1
  go_enter Try.func101, Try.ntmps101
  go_wp2_with (first
    | (with_reducible change wpList _ _ _ (⟨some 13, Op.slice _ _ _ _ _, _, _, _, _⟩ :: _) _ _
       go_must (refine wpList_val rfl (exec_sub_lhm s 104 _ _ _ _ rfl uu sizeP (l := i) (k := i + 1) (m := n) rfl rfl rfl rfl (by first | omega | (have hs := HS.out; subst hs; first | omega | (have hs := HS.out; subst hs; omega))) (by first | omega | (have hs := HS.out; subst hs; first | omega | (have hs := HS.out; subst hs; omega))) hle.1) ?_)))
  refine wp_region_planC (fun _ => True) [(0, true), (1, true), (2, true), (3, true), (4, true), (5, true), (6, false), (7, true)] (by kernel_rfl) (by kernel_rfl) trivial ?_
  iterate 2 (refine pc_pure rfl rfl (fun K hK => ?_); go_simp; refine hK _ ?_; clear hK K)
  refine pc_take (.slice (some ⟨g, 0, none⟩) i c) rfl rfl (fun w' hS => exec_sub_hA (P := Try.prog) s 104 (.tmp 20) (.tmp 21) rfl uu sizeP (k := i) rfl rfl (by first | omega | (have hs := HS.out; subst hs; first | omega | (have hs := HS.out; subst hs; omega)))) (fun K hK => ?_); go_simp; refine hK _ ?_; clear hK K
  iterate 2 (refine pc_pure rfl rfl (fun K hK => ?_); go_simp; refine hK _ ?_; clear hK K)
  refine pc_take (.slice (subA (some ⟨g, 0, none⟩) c (i + 1) s) (n - (i + 1)) (c - (i + 1))) rfl rfl (fun w' hS => exec_sub_l (P := Try.prog) 104 (.tmp 23) (.tmp 24) rfl 37 s uu sizeP (l := i + 1) rfl rfl (by first | omega | (have hs := HS.out; subst hs; first | omega | (have hs := HS.out; subst hs; omega)))) (fun K hK => ?_); go_simp; refine hK _ ?_; clear hK K
  refine pc_append_room s 104 (.tmp 22) (.tmp 25) rfl rfl rfl uu sizeP rfl (HH.out.1.nn (Mod.refl Nn w).drew) rfl (HH.out.2.1.md (by first | omega | (have hs := HS.out; subst hs; first | omega | (have hs := HS.out; subst hs; omega))) (Mod.refl Nn w).drew (fun _ _ f => f)) (fun v hv => HH.out.2.2 v (List.mem_of_mem_drop hv)) (by first | omega | (have hs := HS.out; subst hs; first | omega | (have hs := HS.out; subst hs; omega))) ⟨g, rfl⟩ (fun w1 h1 m1 => ⟨trivial, ?_⟩)
  refine (fun K hK => ?_); go_simp; refine hK _ ?_; clear hK K
  rw [hnn] at h1
  iterate 1 (refine pc_pure rfl rfl (fun K hK => ?_); go_simp; refine hK _ ?_; clear hK K)
  refine pc_nil ?_
  have m1' : Mod (Of (some ⟨g, 0, none⟩)) w w1 := m1.of_drew
  obtain ⟨cur, hbc, hcs, htk⟩ : ∃ cur, Blk w1 g 37 cur ∧ c * s ≤ cur.size ∧ cur.toList.take ((n - 1) * s) = xs.take (i * s) ++ xs.drop ((i + 1) * s) := by
    rcases h1.2 with ⟨h0, _⟩ | ⟨g', cur, e, hb', _, _, h3, h4⟩
    · cases h0
    · injection e with e; injection e with e; subst e; exact ⟨cur, hb', h3, h4⟩
  have hlen := h1.1
  have hfit : (n - 1) * s + 1 * s ≤ cur.size := by
    rw [← Nat.add_mul, show n - 1 + 1 = n from by first | omega | (have hs := HS.out; subst hs; first | omega | (have hs := HS.out; subst hs; omega))]; exact Nat.le_trans (Nat.mul_le_mul_right s hle.1) hcs
  have H1 := Lib.hid (And.intro hbc (And.intro hcs (And.intro htk (And.intro m1' (And.intro hlen hfit)))))
  clear h1 m1 m1' hbc hcs htk hlen hfit
  go_wp2_with (first
    | (with_reducible change wpList _ _ _ (⟨some 31, Op.slice _ _ _ _ _, _, _, _, _⟩ :: _) _ _
       go_must (refine wpList_sub_lh 104 _ _ _ rfl rfl 37 s uu sizeP (n - 1) n rfl (congrArg (Value.int .i64) (by first | omega | (have hs := HS.out; subst hs; first | omega | (have hs := HS.out; subst hs; omega)))) rfl (by first | omega | (have hs := HS.out; subst hs; first | omega | (have hs := HS.out; subst hs; omega))) hle.1 ?_)
       rw [subA_at hcne, show n - (n - 1) = 1 from by first | omega | (have hs := HS.out; subst hs; first | omega | (have hs := HS.out; subst hs; omega))])
    | (with_reducible change wpList _ _ _ (⟨none, Op.call _, _, _, _, _⟩ :: _) _ _
       go_must (refine wpList_clear_blk s 104 _ rfl rfl zP uu infoP2 zsP z1P rfl H1.out.1 (by first | omega | (have hs := HS.out; subst hs; first | omega | (have hs := HS.out; subst hs; omega))) H1.out.2.2.2.2.2 ?_)
       intro cur' hs' ht'
       have b2 := H1.out.1.setRow_ cur'
       have m2 : Mod (Of (some ⟨g, 0, none⟩)) w (w1.setRow g cur') := H1.out.2.2.2.1.setRow (.inr ⟨_, rfl, rfl⟩) _
       have H2 := Lib.hid (And.intro b2 (And.intro m2 (And.intro hs' ht')))
       clear b2 m2 hs' ht'))
  go_ret
  refine ⟨rfl, ⟨H1.out.2.2.2.2.1, .inr ⟨g, cur', rfl, H2.out.1, by first | omega | (have hs := HS.out; subst hs; first | omega | (have hs := HS.out; subst hs; omega)), hle.2, ?_, ?_⟩⟩, H2.out.2.1⟩
  · rw [H2.out.2.2.1]; exact H1.out.2.1
  · rw [H2.out.2.2.2]; exact H1.out.2.2.1
set_option maxRecDepth 100000 in
set_option maxHeartbeats 3200000 in
theorem scloneP_gen {s : Nat} (hs : s = 1) (h : RdC w A n s xs) (hx1 : ∀ v ∈ xs, v.oneCell' = true) (hn : n ≤ 1099511627776) :
    Calls Try.prog 68 #[.slice A n c] w fun r w' => ∃ A' c', r = .returned (.slice A' n c') ∧ Hold w' 37 s A' n c' xs ∧ Mod Nn w w' ∧ ∀ g, Of A' g → w.heap.size ≤ g := by
  have uu := uuP
  have infoP : (Try.prog.info? 37).map (fun i => (i.zero, i.size, i.bytes)) = some (some zP, s, 16) := by rw [hs]; exact infoP
  have infoP2 : (Try.prog.info? 37).map (fun i => (i.zero, i.size)) = some (some zP, s) := by rw [hs]; exact infoP2
  have zsP : zP.cells.size = s := by rw [hs]; exact zsP
  have sizeP : (Try.prog.info? 37).map (·.size) = some s := by rw [hs]; exact sizeP
  have HS := Lib.hid hs
  clear hs
  cases A with
  | none =>
    have hn0 : n = 0 := by
      rcases Nat.eq_zero_or_pos n with h0 | h0
      · exact h0
      · obtain ⟨_, _, e, _⟩ := h.2 h0; cases e
    subst hn0
    have hx : xs = [] := List.eq_nil_of_length_eq_zero (by have := h.1; first | omega | (have hs := HS.out; subst hs; omega))
    subst hx
    clear h hx1
    go_enter Try.func68, Try.ntmps68
    go_wp2
    rw [run_eql_nil _ 104 _ _ _ uu]
    simp only [Result.andThen]
    rw [Oper.upon_value]
    go_wp2
    go_ret
    exact ⟨none, 0, rfl, Hold.nil _ _ _, Mod.refl _ _, fun g hg => by obtain ⟨a, ha, _⟩ := hg; cases ha⟩
  | some a =>
    have HH := Lib.hid (And.intro h hx1)
    have b1 : Blk (w.alloc (.cells #[] 37)) w.heap.size 37 #[] := Blk.new _ _ _
    have m1 : Mod Nn w (w.alloc (.cells #[] 37)) := (Mod.refl Nn w).alloc _
    have h1 : Hold (w.alloc (.cells #[] 37)) 37 s (some ⟨w.heap.size, 0, none⟩) 0 0 [] := ⟨by simp, .inr ⟨_, _, rfl, b1, Nat.le_refl _, Nat.zero_le _, by simp, by simp⟩⟩
    have H1 := Lib.hid (And.intro h1 m1)
    clear h hx1 b1 m1 h1
    go_enter Try.func68, Try.ntmps68
    go_wp2_with fail
    rw [run_eql_nil _ 104 _ _ _ uu]
    simp only [Result.andThen]
    rw [Oper.upon_value]
    go_wp2_with (first
      | (with_reducible change wpList _ _ _ (⟨some 5, Op.buildSlice _ _ _, _, _, _, _⟩ :: _) _ _
         go_must (refine wpList_val rfl (exec_bslice0 (P := Try.prog) 104 37 rfl uu sizeP) ?_))
      | (with_reducible change wpList _ _ _ (⟨some 7, _, _, _, _, _⟩ :: _) _ _
         go_must (refine wpList_append_hold s 104 _ _ rfl rfl zP 16 uu infoP zsP (by first | omega | (have hs := HS.out; subst hs; first | omega | (have hs := HS.out; subst hs; omega))) rfl H1.out.1 rfl (HH.out.1.md (by first | omega | (have hs := HS.out; subst hs; first | omega | (have hs := HS.out; subst hs; omega))) H1.out.2 (fun _ _ f => f)) HH.out.2 (by first | omega | (have hs := HS.out; subst hs; first | omega | (have hs := HS.out; subst hs; omega))) (by first | omega | (have hs := HS.out; subst hs; first | omega | (have hs := HS.out; subst hs; omega))) ?_)
         intro A' c' w2 h2 m2 hA2
         rw [Nat.zero_add] at h2
         rw [Nat.zero_add]))
    go_ret
    refine ⟨A', c', rfl, h2, H1.out.2.then_ m2 (fun g hg e => ?_), fun g hg => ?_⟩
    · obtain ⟨a, ha, rfl⟩ := e
      injection ha with ha; subst ha; exact absurd hg (Nat.lt_irrefl _)
    · rcases hA2 g hg with e | e
      · obtain ⟨a, ha, rfl⟩ := e
        injection ha with ha; subst ha; exact Nat.le_refl _
      · have := H1.out.2.size; omega
end
end Go.Proofs.Ytkcpmkeckcnobaa
