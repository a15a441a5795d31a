/- peatbankkit over bytes: markByte, LentBytes, KeptBytes. -/
import Derived.Test.YtijmkbhbpbkkoaaGreatMark0
import Derived.Test.YtijmkbhbpbkkoaaGreatKitB
import Derived.Deep.LoopGhost
import Derived.Deep.DeepCutAuto
import Derived.BigQuiet
import Derived.Laws.Bits64
import Derived.Laws.BitsLemmas
namespace Go.Proofs.YtijmkbhbpbkkoaaGreat
open Go.RowKit

theorem info_u8 : (Tryz.prog.info? 5).map (fun i => (i.zero, i.size, i.bytes)) = some (some (.int .u8 0), 1, 1) := by kernel_rfl
def mb (k i : Int) : Int := (mk0 k i * 11400714819323198485 % 18446744073709551616) / 72057594037927936
set_option maxHeartbeats 400000 in
theorem markByte_any (k i : Int) (w : World) (k0 : 0 ≤ k) (k1 : k ≤ 1000) (i0 : 0 ≤ i) (i1 : i ≤ 281474976710656) :
    Calls Tryz.prog 32 #[.int .i64 k, .int .i64 i] w fun r w' => r = .returned (.int .u8 (mb k i)) ∧ w = w' := by
  have hm : 0 ≤ mk0 k i ∧ mk0 k i ≤ 9223372036854775807 := by unfold mk0; omega
  unfold mb
  have h0 := mark_any k i w k0 k1 i0 i1
  generalize mk0 k i = M at *
  go_enter Tryz.func32, Tryz.ntmps32
  go_wp2_with fail
  refine h0.mono ?_
  rintro r w1 ⟨rfl, rfl⟩
  clear h0
  go_wp2
  go_ret
  refine ⟨?_, rfl⟩
  have h : IntKind.u64.wrap (M * 11400714819323198485) / 72057594037927936 % 256 = M * 11400714819323198485 % 18446744073709551616 / 72057594037927936 := by
    rw [IntKind.wrap_u64]; omega
  exact congrArg (fun x => Ending.returned (Value.int .u8 x)) h

def mks (k : Int) (m : Nat) : List Int := (List.range m).map (fun i : Nat => mb k i)
theorem mks_succ (k : Int) (m : Nat) : mks k (m + 1) = mks k m ++ [mb k m] := by unfold mks; rw [List.range_succ, List.map_append]; rfl
theorem mks_len (k : Int) (m : Nat) : (mks k m).length = m := by simp [mks]

set_option maxRecDepth 100000 in
set_option maxHeartbeats 1600000 in
theorem lent_any {w : World} {A : Option Addr} {n c : Nat} {xs : List Int} (hr : Rd w A n (xs.map (Value.int .u8))) (hn : n ≤ 1099511627776) :
    Calls Tryz.prog 13 #[.slice A n c] w fun r w' => ∃ g, r = .returned (.slice (some ⟨g, 0, none⟩) n (n + 12)) ∧ Blk w' g 5 ((xs ++ mks 1 12).map (Value.int .u8)).toArray ∧ Mod Nn w w' ∧ w.heap.size ≤ g := by
  have hmax : n + 12 ≤ maxLen := by simp only [maxLen]; omega
  go_enter Tryz.func13, Tryz.ntmps13
  go_wp2_with (first
    | (with_reducible change wpList _ _ _ (⟨_, Op.makeSlice _ _ _, _, _, _, _⟩ :: _) _ _
       go_must (refine wpList_make1 29 _ _ rfl rfl 5 (.int .u8 0) 1 Tryz.underlying29 info_u8 rfl 0 ((n : Int) + 12) 0 (n + 12) rfl rfl rfl (by omega) (by omega) (by omega) (by omega) ?_)
       intro w1 b1 m1 z1
       have own1 : w1.ownsRow w.heap.size 5 1 (.slice (some ⟨w.heap.size, 0, none⟩) 0 (n + 12)) 0 [] := own_of_blk b1 (Nat.le_refl _) (by simp) hmax (by omega) (by simp)
       clear b1 z1)
    | (with_reducible change wpList _ _ _ (⟨some 11, _, _, _, _, _⟩ :: _) _ _
       go_must (refine wpList_append_spare_rd 29 _ _ rfl rfl w.heap.size 5 (.int .u8 0) 1 1 Tryz.underlying29 info_u8 0 (n + 12) [] rfl own1 A n c (xs.map (Value.int .u8)) rfl (hr.mod m1 (fun _ _ f => f)).toC (ints_oneCell _ _) (by omega) ?_)
       intro w2 own2 gr2
       have M2 : Mod Nn w w2 := m1.grown gr2 (fun g h => .inl (by injection h with h; omega))
       simp only [Nat.zero_add, List.nil_append] at own2 ⊢
       clear own1 m1 gr2))
  generalize hg : w.heap.size = g at *
  have HG := Lib.hid hg; clear hg
  go_loopw [3, 4] (fun v i wr => ∃ k : Nat, k ≤ 12 ∧ i = .int .i64 k ∧ v = .slice (some ⟨g, 0, none⟩) (n + k) (n + 12) ∧ wr.ownsRow g 5 1 (.slice (some ⟨g, 0, none⟩) (n + k) (n + 12)) (n + k) ((xs ++ mks 1 k).map (Value.int .u8)) ∧ Mod Nn w wr) (fun _ i _ => 12 - (intOf i).toNat)
  case atStart => exact ⟨0, by omega, rfl, rfl, by simpa [mks] using own2, M2⟩
  case round =>
    obtain ⟨k, hk, rfl, rfl, hown, hmr⟩ := hrel
    clear own2 M2
    obtain ⟨wo, rfl⟩ : ∃ wo : World, wo = wr := ⟨_, rfl⟩
    by_cases hlt : k < 12
    · have hlt' : (k : Int) < 12 := by omega
      go_wp2_with fail
      refine (markByte_any 1 k _ (by omega) (by omega) (by omega) (by omega)).mono ?_
      rintro r w3 ⟨rfl, rfl⟩
      have HM := Lib.hid (mks_succ 1 k)
      generalize mb 1 k = B at *
      go_wp2_with (first
        | (with_reducible change wpList _ _ _ (⟨some 20, _, _, _, _, _⟩ :: _) _ _
           go_must (refine wpList_append_spare_rd 29 _ _ rfl rfl g 5 (.int .u8 0) 1 1 Tryz.underlying29 info_u8 (n + k) (n + 12) _ rfl (own_mod hown ((Mod.refl Nn _).alloc _) (fun _ _ f => f)) _ 1 1 ([B].map (Value.int .u8)) rfl (Rd.of_blk0 (Blk.new _ _ _) rfl).toC (ints_oneCell _ _) (by omega) ?_)
           intro w4 own4 gr4))
      have M4 : Mod Nn w w4 := (hmr.alloc _).grown gr4 (fun g' h => .inl (by injection h with h; have := HG.out; omega))
      rw [← List.map_append, List.append_assoc, ← HM.out] at own4
      exact ⟨⟨k + 1, by omega, by go_num, rfl, own4, M4⟩, by simp [intOf]; omega⟩
    · have hlt' : ¬ (k : Int) < 12 := by omega
      have hk12 : k = 12 := by omega
      subst hk12
      have hb := blk_of_own hown
      rw [List.map_append] at hb
      clear hown hlt
      go_wp2
      go_ret
      exact ⟨g, rfl, hb, hmr, by have := HG.out; omega⟩

set_option maxRecDepth 100000 in
set_option maxHeartbeats 4000000 in
theorem kept_any {w : World} {A : Option Addr} {n c g : Nat} {xs : List Int} (hr : Rd w A n (xs.map (Value.int .u8))) (hb : Blk w g 5 ((xs ++ mks 1 12).map (Value.int .u8)).toArray) (hn : n ≤ 1099511627776) :
    Calls Tryz.prog 16 #[.slice (some ⟨g, 0, none⟩) n (n + 12), .slice A n c] w fun r w' => r = .returned (.bool true) ∧ Mod Nn w w' := by
  have hxl : xs.length = n := by simpa using hr.1
  have HXL := Lib.hid hxl; clear hxl
  go_enter Tryz.func16, Tryz.ntmps16
  go_wp2
  go_loopw [6] (fun i wr => ∃ k : Nat, k ≤ n + 12 ∧ i = .int .i64 k ∧ Mod Nn w wr) (fun i _ => n + 12 - (intOf i).toNat)
  case atStart => exact ⟨0, by omega, rfl, Mod.refl _ _⟩
  case round =>
    obtain ⟨k, hk, rfl, hmr⟩ := hrel
    obtain ⟨wo, rfl⟩ : ∃ wo : World, wo = wr := ⟨_, rfl⟩
    have hbo := hb.mod hmr (fun f => f)
    by_cases hlt : k < n
    · have hlt1 : (k : Int) < n + 12 := by omega
      have hlt2 : (k : Int) < n := by omega
      obtain ⟨g', off, v, rfl, hv, hc⟩ := (hr.mod hmr (fun _ _ f => f)).at_ hlt
      have hd2 : ¬ n ≤ k := by omega
      rw [List.getElem?_map] at hv
      obtain ⟨z, hz, rfl⟩ := Option.map_eq_some_iff.1 hv
      have cg : wo.cell? ⟨g, k, none⟩ = some (.int .u8 z) := by
        rw [hbo.cell k, List.getElem?_toArray, List.getElem?_map, List.getElem?_append_left (by rw [HXL.out]; exact hlt), hz]; rfl
      clear hv hz hbo hb hr
      go_upto_region 7 with fail
      refine wp_region_planC (fun w' => w'.cell? ⟨g, k, none⟩ = some (.int .u8 z) ∧ w'.cell? ⟨g', off + k, none⟩ = some (.int .u8 z) ∧ Mod Nn w w')
        ((List.range 35).map (fun i => (i, true))) (by kernel_rfl) (by kernel_rfl) ⟨cg, hc, hmr.drew⟩ ?_
      simp only [List.range, List.range.loop, List.map_cons, List.map_nil]
      refine pc_pure rfl rfl (fun K hK => ?_); go_simp; refine hK _ ?_; clear hK K
      refine pc_pure rfl rfl (fun K hK => ?_); go_simp; refine hK _ ?_; clear hK K
      refine pc_pure rfl rfl (fun K hK => ?_); go_simp; refine hK _ ?_; clear hK K
      refine pc_pure rfl rfl (fun K hK => ?_); go_simp; refine hK _ ?_; clear hK K
      refine pc_pure rfl rfl (fun K hK => ?_); go_simp; refine hK _ ?_; clear hK K
      refine pc_pure rfl rfl (fun K hK => ?_); go_simp; refine hK _ ?_; clear hK K
      refine pc_pure rfl rfl (fun K hK => ?_); go_simp; refine hK _ ?_; clear hK K
      refine pc_pure rfl rfl (fun K hK => ?_); go_simp; refine hK _ ?_; clear hK K
      refine pc_take _ rfl rfl (fun w' hS => exec_load1 (P := Tryz.prog) 5 _ rfl rfl hS.1 Tryz.underlying5 rfl) (fun K hK => ?_); go_simp; refine hK _ ?_; clear hK K
      refine pc_pure rfl rfl (fun K hK => ?_); go_simp; refine hK _ ?_; clear hK K
      refine pc_pure rfl rfl (fun K hK => ?_); go_simp; refine hK _ ?_; clear hK K
      refine pc_pure rfl rfl (fun K hK => ?_); go_simp; refine hK _ ?_; clear hK K
      refine pc_take _ rfl rfl (fun w' hS => exec_load1 (P := Tryz.prog) 5 _ rfl rfl hS.2.1 Tryz.underlying5 rfl) (fun K hK => ?_); go_simp; refine hK _ ?_; clear hK K
      refine pc_pure rfl rfl (fun K hK => ?_); go_simp; refine hK _ ?_; clear hK K
      refine pc_pure rfl rfl (fun K hK => ?_); go_simp; refine hK _ ?_; clear hK K
      refine pc_pure rfl rfl (fun K hK => ?_); go_simp; refine hK _ ?_; clear hK K
      refine pc_pure rfl rfl (fun K hK => ?_); go_simp; refine hK _ ?_; clear hK K
      refine pc_pure rfl rfl (fun K hK => ?_); go_simp; refine hK _ ?_; clear hK K
      refine pc_pure rfl rfl (fun K hK => ?_); go_simp; refine hK _ ?_; clear hK K
      refine pc_pure rfl rfl (fun K hK => ?_); go_simp; refine hK _ ?_; clear hK K
      refine pc_pure rfl rfl (fun K hK => ?_); go_simp; refine hK _ ?_; clear hK K
      refine pc_pure rfl rfl (fun K hK => ?_); go_simp; refine hK _ ?_; clear hK K
      refine pc_skip rfl rfl (fun K hK => ?_); go_simp; refine hK _ ?_; clear hK K
      refine pc_skip rfl rfl (fun K hK => ?_); go_simp; refine hK _ ?_; clear hK K
      refine pc_skip rfl rfl (fun K hK => ?_); go_simp; refine hK _ ?_; clear hK K
      refine pc_skip rfl rfl (fun K hK => ?_); go_simp; refine hK _ ?_; clear hK K
      refine pc_skip rfl rfl (fun K hK => ?_); go_simp; refine hK _ ?_; clear hK K
      refine pc_skip rfl rfl (fun K hK => ?_); go_simp; refine hK _ ?_; clear hK K
      refine pc_skip rfl rfl (fun K hK => ?_); go_simp; refine hK _ ?_; clear hK K
      refine pc_skip rfl rfl (fun K hK => ?_); go_simp; refine hK _ ?_; clear hK K
      refine pc_skip rfl rfl (fun K hK => ?_); go_simp; refine hK _ ?_; clear hK K
      refine pc_skip rfl rfl (fun K hK => ?_); go_simp; refine hK _ ?_; clear hK K
      refine pc_skip rfl rfl (fun K hK => ?_); go_simp; refine hK _ ?_; clear hK K
      refine pc_pure rfl rfl (fun K hK => ?_); go_simp; refine hK _ ?_; clear hK K
      refine pc_pure rfl rfl (fun K hK => ?_); go_simp; refine hK _ ?_; clear hK K
      refine pc_nil ?_
      go_wp2
      exact ⟨⟨k + 1, by omega, by go_num, hmr.drew⟩, by simp [intOf]; omega⟩
    · by_cases hlt12 : k < n + 12
      · have hlt1 : (k : Int) < n + 12 := by omega
        have hlt2 : ¬ (k : Int) < n := by omega
        have hd2 : n ≤ k := by omega
        have cg : wo.cell? ⟨g, k, none⟩ = some (.int .u8 (mb 1 ((k : Int) - n))) := by
          rw [hbo.cell k, List.getElem?_toArray, List.getElem?_map, List.getElem?_append_right (by rw [HXL.out]; exact hd2), HXL.out]
          unfold mks
          rw [List.getElem?_map, List.getElem?_range (by omega)]
          show some (Value.int .u8 (mb 1 ((k - n : Nat) : Int))) = _
          rw [Int.ofNat_sub hd2]
        have hmk := fun w => markByte_any 1 ((k : Int) - n) w (by omega) (by omega) (by omega) (by omega)
        generalize mb 1 ((k : Int) - n) = z at *
        have HM := Lib.hid hmk
        clear hbo hb hr hmk
        go_upto_region 7 with fail
        refine wp_region_planC (fun w' => w'.cell? ⟨g, k, none⟩ = some (.int .u8 z) ∧ Mod Nn w w')
          ((List.range 30).map (fun i => (i, true)) ++ [(30, false), (31, true), (32, true), (33, true), (34, true)]) (by kernel_rfl) (by kernel_rfl) ⟨cg, hmr.drew⟩ ?_
        simp only [List.range, List.range.loop, List.map_cons, List.map_nil, List.cons_append, List.nil_append]
        refine pc_pure rfl rfl (fun K hK => ?_); go_simp; refine hK _ ?_; clear hK K
        refine pc_pure rfl rfl (fun K hK => ?_); go_simp; refine hK _ ?_; clear hK K
        refine pc_pure rfl rfl (fun K hK => ?_); go_simp; refine hK _ ?_; clear hK K
        refine pc_pure rfl rfl (fun K hK => ?_); go_simp; refine hK _ ?_; clear hK K
        refine pc_pure rfl rfl (fun K hK => ?_); go_simp; refine hK _ ?_; clear hK K
        refine pc_skip rfl rfl (fun K hK => ?_); go_simp; refine hK _ ?_; clear hK K
        refine pc_skip rfl rfl (fun K hK => ?_); go_simp; refine hK _ ?_; clear hK K
        refine pc_skip rfl rfl (fun K hK => ?_); go_simp; refine hK _ ?_; clear hK K
        refine pc_skip rfl rfl (fun K hK => ?_); go_simp; refine hK _ ?_; clear hK K
        refine pc_skip rfl rfl (fun K hK => ?_); go_simp; refine hK _ ?_; clear hK K
        refine pc_skip rfl rfl (fun K hK => ?_); go_simp; refine hK _ ?_; clear hK K
        refine pc_skip rfl rfl (fun K hK => ?_); go_simp; refine hK _ ?_; clear hK K
        refine pc_skip rfl rfl (fun K hK => ?_); go_simp; refine hK _ ?_; clear hK K
        refine pc_skip rfl rfl (fun K hK => ?_); go_simp; refine hK _ ?_; clear hK K
        refine pc_skip rfl rfl (fun K hK => ?_); go_simp; refine hK _ ?_; clear hK K
        refine pc_pure rfl rfl (fun K hK => ?_); go_simp; refine hK _ ?_; clear hK K
        refine pc_pure rfl rfl (fun K hK => ?_); go_simp; refine hK _ ?_; clear hK K
        refine pc_pure rfl rfl (fun K hK => ?_); go_simp; refine hK _ ?_; clear hK K
        refine pc_pure rfl rfl (fun K hK => ?_); go_simp; refine hK _ ?_; clear hK K
        refine pc_pure rfl rfl (fun K hK => ?_); go_simp; refine hK _ ?_; clear hK K
        refine pc_pure rfl rfl (fun K hK => ?_); go_simp; refine hK _ ?_; clear hK K
        refine pc_pure rfl rfl (fun K hK => ?_); go_simp; refine hK _ ?_; clear hK K
        refine pc_pure rfl rfl (fun K hK => ?_); go_simp; refine hK _ ?_; clear hK K
        refine pc_pure rfl rfl (fun K hK => ?_); go_simp; refine hK _ ?_; clear hK K
        refine pc_pure rfl rfl (fun K hK => ?_); go_simp; refine hK _ ?_; clear hK K
        refine pc_take _ rfl rfl (fun w' hS => exec_load1 (P := Tryz.prog) 5 _ rfl rfl hS.1 Tryz.underlying5 rfl) (fun K hK => ?_); go_simp; refine hK _ ?_; clear hK K
        refine pc_pure rfl rfl (fun K hK => ?_); go_simp; refine hK _ ?_; clear hK K
        refine pc_pure rfl rfl (fun K hK => ?_); go_simp; refine hK _ ?_; clear hK K
        refine pc_pure rfl rfl (fun K hK => ?_); go_simp; refine hK _ ?_; clear hK K
        refine pc_pure rfl rfl (fun K hK => ?_); go_simp; refine hK _ ?_; clear hK K
        refine pc_call rfl rfl (fun K hK => ?_); go_simp; refine ⟨_, _, ⟨rfl, rfl⟩, hK _ _ _ ?_⟩; clear hK K
        rw [show IntKind.i64.wrap ((k : Int) - n) = (k : Int) - n from by rw [IntKind.wrap_i64]; omega]
        refine (HM.out _).mono ?_
        rintro r w9 ⟨rfl, rfl⟩
        refine ⟨_, rfl, ⟨cg, hmr.drew⟩, ?_⟩
        refine pc_pure rfl rfl (fun K hK => ?_); go_simp; refine hK _ ?_; clear hK K
        refine pc_pure rfl rfl (fun K hK => ?_); go_simp; refine hK _ ?_; clear hK K
        refine pc_pure rfl rfl (fun K hK => ?_); go_simp; refine hK _ ?_; clear hK K
        refine pc_pure rfl rfl (fun K hK => ?_); go_simp; refine hK _ ?_; clear hK K
        refine pc_nil ?_
        go_wp2
        exact ⟨⟨k + 1, by omega, by go_num, hmr.drew⟩, by simp [intOf]; omega⟩
      · have hlt1 : ¬ (k : Int) < n + 12 := by omega
        clear hbo hb hr
        go_wp2
        go_ret
        exact ⟨rfl, hmr⟩
end Go.Proofs.YtijmkbhbpbkkoaaGreat
