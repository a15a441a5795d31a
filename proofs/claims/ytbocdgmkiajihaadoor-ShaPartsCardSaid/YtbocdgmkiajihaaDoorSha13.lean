/- peatbanklaw01.awake. -/
import Derived.Test.YtbocdgmkiajihaaDoorSha12
namespace Go.Proofs.YtbocdgmkiajihaaDoor
open Go.RowKit

def abc3 : List Nat := [97, 98, 99]
theorem abc3_lt : ∀ z ∈ abc3, z < 256 := by decide
theorem Rd.of_row8 {w : World} {g : Nat} {t : TypeId} {C : Array Value} {fr : Nat × Nat} (h : w.heap[g]? = some (.cells C t fr)) : Rd w (some ⟨g, 0, none⟩) C.size C.toList :=
  ⟨by simp, fun _ => ⟨g, 0, rfl, fun j v hv => by
    rw [cell_of_row w g (0 + j) C t fr h, Nat.zero_add]; simpa using hv⟩⟩
set_option maxRecDepth 100000 in
set_option maxHeartbeats 1600000 in
theorem awake_any {w : World} (hg : Gl w) : Calls Tryd.prog 8 #[] w fun r w' => r = .returned (.bool true) ∧ Mod Nn w w' := by
  have kc := fun (w : World) (C : Array Value) (n c : Nat) => Lib.run_convert_bytes_const (P := Tryd.prog) w 22 5 C n c Tryd.underlying22 Tryd.underlying5
  have HG := Lib.hid hg; clear hg
  go_enter Tryd.func8, Tryd.ntmps8
  go_wp2_with fail
  clear kc
  have m0 : Mod Nn w (w.alloc (.cells #[.int .u8 97, .int .u8 98, .int .u8 99] 5 (3, 4))) := (Mod.refl _ _).alloc _
  have hr0 : Rd (w.alloc (.cells #[.int .u8 97, .int .u8 98, .int .u8 99] 5 (3, 4))) (some ⟨w.heap.size, 0, none⟩) 3 (u8s abc3) := Rd.of_row8 (heap_alloc_new w _)
  generalize w.alloc (.cells #[.int .u8 97, .int .u8 98, .int .u8 99] 5 (3, 4)) = w0 at *
  refine (psum_any (HG.out.nn m0) hr0 abc3_lt (by omega)).mono ?_
  rintro r w1 ⟨rfl, m1⟩
  have M1 := m0.nn_ m1
  obtain ⟨D, hD⟩ : ∃ x, digL abc3 = x := ⟨_, rfl⟩
  rw [hD]
  have HD := Lib.hid (show D = [186, 120, 22, 191, 143, 1, 207, 234, 65, 65, 64, 222, 93, 174, 34, 35, 176, 3, 97, 163, 150, 23, 122, 156, 180, 16, 255, 97, 242, 0, 21, 173] from hD.symm.trans dig_abc)
  have hDl : (u8s D).length = 32 := by rw [u8s_len, HD.out]; rfl
  have hDs : (u8s (List.replicate 32 0)).toArray.size = (u8s D).toArray.size := by rw [zeroK_size]; simp [hDl]
  have HDL := Lib.hid (And.intro hDl hDs)
  clear hD m0 m1 hr0 hDl hDs
  go_wp2_with (first
    | (with_reducible change wpList _ _ _ (⟨some 1, Op.alloc _, _, _, _, _⟩ :: _) _ _
       go_must (refine wpList_alloc_var 26 rfl rfl zeroK ?_)
       intro w2 b2 m2 z2)
    | (with_reducible change wpList _ _ _ (⟨none, Op.store 26 (Operand.tmp 1) _, _, _, _, _⟩ :: _) _ _
       go_must (refine wpList_store_var 26 _ _ rfl rfl w1.heap.size (u8s D).toArray (u8s (List.replicate 32 0)).toArray _ rfl rfl b2 (by rw [sizeK]; simp [HDL.out.1]) HDL.out.2 (u8s_all _) ?_)
       intro w3 b3 m3 z3
       have M3 := M1.new_ ((m2.mono (fun g _ f => (f : False).elim)).trans m3) M1.size
       have H3 := Lib.hid (And.intro b3 M3)
       clear b2 m2 z2 b3 m3 z3 M1 M3))
  obtain ⟨KB, hKB⟩ : ∃ x, w1.heap.size = x := ⟨_, rfl⟩
  rw [hKB] at H3 ⊢
  clear hKB
  refine (psum_any (HG.out.nn H3.out.2) (Rd.nil _ _) (l := []) (by simp) (by omega)).mono ?_
  rintro r w4 ⟨rfl, m4⟩
  obtain ⟨E, hE⟩ : ∃ x, digL [] = x := ⟨_, rfl⟩
  rw [hE]
  have HE := Lib.hid (show E = [227, 176, 196, 66, 152, 252, 28, 20, 154, 251, 244, 200, 153, 111, 185, 36, 39, 174, 65, 228, 100, 155, 147, 76, 164, 149, 153, 27, 120, 82, 184, 85] from hE.symm.trans dig_nil)
  have hEl : (u8s E).length = 32 := by rw [u8s_len, HE.out]; rfl
  have hEs : (u8s (List.replicate 32 0)).toArray.size = (u8s E).toArray.size := by rw [zeroK_size]; simp [hEl]
  have HEL := Lib.hid (And.intro hEl hEs)
  have H4 := Lib.hid (And.intro (H3.out.1.mod m4 (fun f => f)) (H3.out.2.nn_ m4))
  clear hE m4 hEl hEs
  go_wp2_with (first
    | (with_reducible change wpList _ _ _ (⟨some 2, Op.alloc _, _, _, _, _⟩ :: _) _ _
       go_must (refine wpList_alloc_var 26 rfl rfl zeroK ?_)
       intro w5 b5 m5 z5)
    | (with_reducible change wpList _ _ _ (⟨none, Op.store 26 (Operand.tmp 2) _, _, _, _, _⟩ :: _) _ _
       go_must (refine wpList_store_var 26 _ _ rfl rfl w4.heap.size (u8s E).toArray (u8s (List.replicate 32 0)).toArray _ rfl rfl b5 (by rw [sizeK]; simp [HEL.out.1]) HEL.out.2 (u8s_all _) ?_)
       intro w6 b6 m6 z6
       have M6 := H4.out.2.new_ ((m5.mono (fun g _ f => (f : False).elim)).trans m6) H4.out.2.size
       have hk6 : Blk w6 KB 26 (u8s D).toArray := (H4.out.1.mod m5 (fun f => f)).mod m6 (fun e => by have := H4.out.1.lt; have e : KB = w4.heap.size := e; omega)
       have H6 := Lib.hid (And.intro hk6 (And.intro b6 M6))
       have c0 : w6.cell? ⟨KB, 0, none⟩ = some (.int .u8 186) := by rw [hk6.cell 0, HD.out]; rfl
       have c1 : w6.cell? ⟨KB, 1, none⟩ = some (.int .u8 120) := by rw [hk6.cell 1, HD.out]; rfl
       have c15 : w6.cell? ⟨KB, 15, none⟩ = some (.int .u8 35) := by rw [hk6.cell 15, HD.out]; rfl
       have c31 : w6.cell? ⟨KB, 31, none⟩ = some (.int .u8 173) := by rw [hk6.cell 31, HD.out]; rfl
       have d0 : w6.cell? ⟨w4.heap.size, 0, none⟩ = some (.int .u8 227) := by rw [b6.cell 0, HE.out]; rfl
       have d31 : w6.cell? ⟨w4.heap.size, 31, none⟩ = some (.int .u8 85) := by rw [b6.cell 31, HE.out]; rfl
       clear b5 m5 z5 b6 m6 z6 M6 hk6))
  go_ret
  exact ⟨rfl, H6.out.2.2⟩
end Go.Proofs.YtbocdgmkiajihaaDoor
