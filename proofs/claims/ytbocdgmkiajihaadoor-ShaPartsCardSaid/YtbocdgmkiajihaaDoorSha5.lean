/- The program's key. -/
import Derived.Test.YtbocdgmkiajihaaDoorSha4
namespace Go.Proofs.YtbocdgmkiajihaaDoor
open Go.RowKit

section
variable {P : Program} {w : World} {o : Oper} {a : Act}
theorem exec_shr_i (n : Nat) (t t' : TypeId) (x y : Operand) (ho : o.op = .binOp .shr t x y t') {u : BitVec 32} (hx : a.eval x = wv u) (hy : a.eval y = .int .i64 (n : Int)) (hn : n ≤ 32) : (execOp a.eval o).run P w = .ok (.value (wv (u >>> n))) w := by
  have h : (execOp a.eval o).run P w = .ok (.value (.int .u32 ((u.toNat : Int) / 2 ^ n))) w := by
    simp only [execOp, ho, hx, hy, wv]; simp [go_sem]
  rw [h, w_shr _ _ hn]; rfl
theorem exec_low8 (t t' : TypeId) (x : Operand) (ho : o.op = .convert t t' x) {u : BitVec 32} (hx : a.eval x = wv u) (h1 : P.underlying t = some (.int .u32)) (h2 : P.underlying t' = some (.int .u8)) : (execOp a.eval o).run P w = .ok (.value (.int .u8 ((u.toNat % 256 : Nat) : Int))) w := by
  have h : (execOp a.eval o).run P w = .ok (.value (.int .u8 (IntKind.u8.wrap (u.toNat : Int)))) w := by
    simp only [execOp, ho, hx, wv]; simp [go_sem, h1, h2]
  rw [h, IntKind.wrap_u8]
  congr 3
end
theorem zeroK : (Tryd.prog.info? 26).map (fun i => (i.zero, i.size)) = some (some (.agg (u8s (List.replicate 32 0)).toArray), 32) := by kernel_rfl
theorem sizeK : (Tryd.prog.info? 26).map (·.size) = some 32 := by kernel_rfl
theorem keyL_len (v : S8) : (keyL v).length = 32 := by simp [keyL]
theorem keyL_at (v : S8) {k : Nat} (h : k < 32) : (keyL v)[k]? = some (((v.l.getD (k / 4) 0#32) >>> (24 - k % 4 * 8)).toNat % 256) := by
  unfold keyL
  rw [List.getElem?_map, List.getElem?_range h]; rfl
theorem u8s_all (l : List Nat) : (u8s l).toArray.all (·.oneCell') = true := by
  rw [Array.all_eq_true]
  intro i hi
  simp only [u8s, List.getElem_toArray, List.getElem_map]
  rfl
theorem u8s_one (l : List Nat) : ∀ u ∈ u8s l, u.oneCell' = true := fun u hu => by
  unfold u8s at hu
  obtain ⟨_, _, rfl⟩ := List.mem_map.1 hu
  rfl
set_option maxRecDepth 100000 in
set_option maxHeartbeats 1600000 in
theorem key_any {w : World} {sb : Nat} (v : S8) (hs : Blk w sb 63 (wvs v.l)) :
    Calls Tryd.prog 31 #[.pointer (some ⟨sb, 0, none⟩)] w fun e w' => e = .returned (.agg (u8s (keyL v)).toArray) ∧ Mod Nn w w' := by
  have H0 := Lib.hid hs; clear hs
  go_enter Tryd.func31, Tryd.ntmps31
  go_wp2_with (first
    | (with_reducible change wpList _ _ _ (⟨some 2, Op.alloc _, _, _, _, _⟩ :: _) _ _
       go_must (refine wpList_alloc_var 26 rfl rfl zeroK ?_)
       intro w1 b1 m1 z1
       have B1 := Lib.hid (show Blk w1 w.heap.size 26 (u8s ((keyL v).take 0 ++ List.replicate (32 - 0) 0)).toArray ∧ Mod Nn w w1 from ⟨b1, m1⟩)
       clear b1 m1 z1))
  obtain ⟨KB, hKB⟩ : ∃ x, w.heap.size = x := ⟨_, rfl⟩
  rw [hKB] at B1 ⊢
  have HK := Lib.hid (show w.heap.size = KB ∧ sb ≠ KB from ⟨hKB, fun e => by have := H0.out.lt; omega⟩)
  clear hKB
  go_loopw [4] (fun i wr => ∃ k : Nat, k ≤ 32 ∧ i = .int .i64 k ∧ Blk wr KB 26 (u8s ((keyL v).take k ++ List.replicate (32 - k) 0)).toArray ∧ Mod (At KB) w1 wr) (fun i _ => 32 - (intOf i).toNat)
  case atStart => exact ⟨0, by omega, rfl, B1.out.1, Mod.refl _ _⟩
  case round =>
    obtain ⟨k, hk, rfl, hb, hm⟩ := hrel
    obtain ⟨wo, rfl⟩ : ∃ wo : World, wo = wr := ⟨_, rfl⟩
    by_cases hlt : k < 32
    · have hlt' : (k : Int) < 32 := by omega
      obtain ⟨q, hq⟩ : ∃ q, k / 4 = q := ⟨_, rfl⟩
      obtain ⟨r, hr⟩ : ∃ r, k % 4 = r := ⟨_, rfl⟩
      obtain ⟨s, hs⟩ : ∃ s, 24 - r * 8 = s := ⟨_, rfl⟩
      have hkl := keyL_at v hlt
      rw [hq, hr, hs] at hkl
      have hx : v.l[q]? = some (v.l.getD q 0#32) := by rw [List.getD_eq_getElem?_getD, List.getElem?_eq_getElem (by rw [S8_len]; omega)]; rfl
      generalize v.l.getD q 0#32 = x at *
      have hcx : wo.cell? ⟨sb, q, none⟩ = some (wv x) := by
        rw [((H0.out.mod B1.out.2 (fun f => f)).mod hm (fun e => HK.out.2 e)).cell q, wvs_at, hx]; rfl
      have htl : ((keyL v).take k).length = k := by rw [List.length_take, keyL_len]; omega
      have hck : wo.cell? ⟨KB, k, none⟩ = some (.int .u8 0) := by
        rw [hb.cell k, List.getElem?_toArray, u8s, List.getElem?_map, List.getElem?_append_right (by omega), htl, Nat.sub_self, List.getElem?_replicate, if_pos (by omega)]; rfl
      have hfk := hb.frozen k
      have hset := hb.set_ k (.int .u8 (((x >>> s).toNat % 256 : Nat) : Int))
      have he : (u8s ((keyL v).take k ++ List.replicate (32 - k) 0)).set k (.int .u8 (((x >>> s).toNat % 256 : Nat) : Int)) = u8s ((keyL v).take (k + 1) ++ List.replicate (32 - (k + 1)) 0) := by
        unfold u8s
        rw [← List.map_set (f := fun c : Nat => Value.int .u8 (c : Int)) (a := (x >>> s).toNat % 256)]
        congr 1
        rw [List.set_append_right _ _ (by omega), htl, Nat.sub_self, show 32 - k = (32 - (k + 1)) + 1 from by omega, List.replicate_succ, List.set_cons_zero, List.take_add_one, hkl, List.append_assoc]; rfl
      rw [List.setIfInBounds_toArray, he] at hset
      have HE := Lib.hid (And.intro hset (hm.trans (Mod.cellAt wo KB k (.int .u8 (((x >>> s).toNat % 256 : Nat) : Int)))))
      have e1 : (k : Int) / 4 = (q : Int) := by omega
      have e2 : (k : Int) % 4 = (r : Int) := by omega
      have e3 : (24 : Int) - (r : Int) * 8 = (s : Int) := by omega
      have f1 : (q : Int) < 8 := by omega
      have f2 : (r : Int) ≤ 3 := by omega
      have hs32 : s ≤ 32 := by omega
      clear hset he htl hkl hx hb hm hq hr hs
      go_wp2_with (first
        | (with_reducible change wpList _ _ _ (⟨some 18, _, _, _, _, _⟩ :: _) _ _
           go_must (refine wpList_val rfl (exec_shr_i s _ _ _ _ rfl rfl rfl hs32) ?_))
        | (with_reducible change wpList _ _ _ (⟨some 19, _, _, _, _, _⟩ :: _) _ _
           go_must (refine wpList_val rfl (exec_low8 _ _ _ rfl rfl Tryd.underlying38 Tryd.underlying5) ?_)
           generalize ((x >>> s).toNat % 256) = z at *))
      exact ⟨⟨k + 1, by omega, by go_num, HE.out⟩, by simp [intOf]; omega⟩
    · have hlt' : ¬ (k : Int) < 32 := by omega
      have hk32 : k = 32 := by omega
      subst hk32
      have hb' : Blk wo KB 26 (u8s (keyL v)).toArray := by
        have := hb
        rwa [List.take_of_length_le (by rw [keyL_len]; exact Nat.le_refl _), Nat.sub_self, List.replicate_zero, List.append_nil] at this
      have hsz : (u8s (keyL v)).toArray.size = 32 := by simp [u8s_len, keyL_len]
      have HX := Lib.hid (And.intro hb' (And.intro hsz (B1.out.2.new_ hm (by have := HK.out.1; omega))))
      clear hb hb' hsz hm
      go_wp2_with (first
        | (with_reducible change wpList _ _ _ (⟨some 22, _, _, _, _, _⟩ :: _) _ _
           go_must (refine wpList_load_var 26 _ rfl rfl KB (u8s (keyL v)).toArray _ _ rfl HX.out.1 Tryd.underlying26 rfl (by rw [sizeK, HX.out.2.1]) ?_))
        | (with_reducible change wpList _ _ _ (⟨none, Op.store 26 _ _, _, _, _, _⟩ :: _) _ _
           go_must (refine wpList_store_var 26 _ _ rfl rfl KB (u8s (keyL v)).toArray (u8s (keyL v)).toArray _ rfl rfl HX.out.1 (by rw [sizeK, HX.out.2.1]) rfl (u8s_all _) ?_)
           intro w9 b9 m9 z9))
      exact bodyPost_ret (results_cell_row (P := Tryd.prog) rfl _ w9 _ _ _ (0, 0) _ rfl b9 Tryd.underlying26 rfl (by rw [sizeK, HX.out.2.1])) rfl ⟨rfl, HX.out.2.2.new_ m9 (by have := HK.out.1; omega)⟩
end Go.Proofs.YtbocdgmkiajihaaDoor
