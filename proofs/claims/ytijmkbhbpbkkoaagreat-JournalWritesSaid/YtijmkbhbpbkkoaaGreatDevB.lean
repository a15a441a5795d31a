/- The device (dev.Disk): Bytes. -/
import Derived.Test.YtijmkbhbpbkkoaaGreatRfA
namespace Go.Proofs.YtijmkbhbpbkkoaaGreat
open Go.RowKit

set_option maxRecDepth 100000 in
set_option maxHeartbeats 3200000 in
theorem bytes_any {w : World} {b ms mo : Nat} {D : Dk} (h : DiskAt w b ms mo D) :
    Calls Tryz.prog 19 #[.pointer (some ⟨b, 0, none⟩)] w fun e w' => ∃ v, e = .returned v ∧ w'.ownsRow w.heap.size 5 1 v (512 * D.n.toNat) ((bytesN D D.n.toNat).map (Value.int .u8)) ∧ Mod Nn w w' := by
  obtain ⟨n, hn⟩ : ∃ n : Nat, D.n = n := ⟨D.n.toNat, by have := h.ok.n1; omega⟩
  have hnt : D.n.toNat = n := by omega
  rw [hnt]
  have n2 : n ≤ 262144 := by have := h.ok.n2; omega
  have n1 : ((n : Int) == 0) = false := by have := h.ok.n1; simp; omega
  have H := Lib.hid h
  have c0 := h.c0
  rw [hn] at c0
  have hbl := h.blk.lt
  clear h hn hnt
  go_enter Tryz.func19, Tryz.ntmps19
  go_wp2_with (first
    | (with_reducible change wpList _ _ _ (⟨_, Op.makeSlice _ _ _, _, _, _, _⟩ :: _) _ _
       go_must (refine wpList_make1 29 _ _ rfl rfl 5 (.int .u8 0) 1 Tryz.underlying29 info_byte rfl 0 ((n : Int) * 512) 0 (512 * n) rfl rfl rfl (by omega) (by omega) (by omega) (by omega) ?_)
       intro w1 b1 m1 z1
       have own1 : w1.ownsRow w.heap.size 5 1 (.slice (some ⟨w.heap.size, 0, none⟩) 0 (512 * n)) 0 [] := own_of_blk b1 (Nat.le_refl _) (by simp) (by simp only [maxLen]; omega) (by omega) (by simp)
       have c01 := (m1.cell (p := ⟨b, 0, none⟩) hbl (fun f => f)).trans c0
       clear b1 z1))
  have HO1 := Lib.hid (And.intro own1 m1)
  clear own1 m1 c01 c0 n1
  go_loopw [3, 25] (fun v i wr => ∃ j : Nat, j ≤ n ∧ i = .int .i64 j ∧ wr.ownsRow w.heap.size 5 1 v (512 * j) ((bytesN D j).map (Value.int .u8)) ∧ Mod Nn w wr) (fun _ i _ => n - (intOf i).toNat)
  case atStart => exact ⟨0, Nat.zero_le _, rfl, HO1.out.1, HO1.out.2⟩
  case round =>
    obtain ⟨j, hj, rfl, hown, hmr⟩ := hrel
    obtain ⟨wo, rfl⟩ : ∃ wo : World, wo = wr := ⟨_, rfl⟩
    by_cases hlt : j < n
    · have hlt' : (j : Int) < n := by omega
      have hD := H.out.mod hmr (fun _ _ f => f)
      have hsz := hmr.size
      have HO := Lib.hid (And.intro hown hmr)
      have HL := Lib.hid (H.out.ok.latest_len (j : Int))
      have HSU := Lib.hid (bytesN_succ D j)
      clear hown hmr
      go_wp2_with fail
      refine (latest_any hD (j : Int)).mono ?_
      rintro e w1 ⟨rfl, m1⟩
      go_wp2_with (first
        | (with_reducible change wpList _ _ _ (⟨some 5, Op.alloc _, _, _, _, _⟩ :: _) _ _
           go_must (refine wpList_alloc_var 58 rfl rfl info_sec ?_)
           intro w2 b2 m2 z2)
        | (with_reducible change wpList _ _ _ (⟨none, Op.store 58 (Operand.tmp 5) _, _, _, _, _⟩ :: _) _ _
           go_must (refine wpList_store_var 58 _ _ rfl rfl _ ((D.latest j).map (Value.int .u8)).toArray _ _ rfl rfl b2 (by rw [size_sec]; simp [HL.out]) (by rw [zsecV, secV_size, zsec_len]; simp [HL.out]) (ints_one _ _) ?_)
           intro w3 b3 m3 z3)
        | (with_reducible change wpList _ _ _ (⟨some 33, _, _, _, _, _⟩ :: _) _ _
           have M3 : Mod Nn wo w3 := (m1.nn_ m2).new_ m3 (by have := m1.size; omega)
           go_must (refine wpList_append_rd 29 _ _ rfl rfl w.heap.size 5 (.int .u8 0) 1 1 Tryz.underlying29 info_byte rfl (by omega) _ (512 * j) _ rfl (own_mod HO.out.1 M3 (fun _ _ f => f)) _ 512 512 ((D.latest j).map (Value.int .u8)) rfl (Rd.of_blk0 b3 (by simp [HL.out])).toC (ints_oneCell _ _) (by omega) (by omega) (by have := M3.size; omega) ?_)
           intro v2 w4 own4 gr4 ob4))
      refine ⟨⟨j + 1, by omega, by go_num, ?_, (HO.out.2.nn_ M3).grown gr4 (fun g hg => .inl (own_row_ge HO.out.1 hg))⟩, by simp [intOf]; omega⟩
      rw [HSU.out, List.map_append, show 512 * (j + 1) = 512 * j + 512 from by omega]
      exact own4
    · have hlt' : ¬ (j : Int) < n := by omega
      have hjn : j = n := by omega
      subst hjn
      go_wp2
      go_ret
      exact ⟨_, rfl, hown, hmr⟩
end Go.Proofs.YtijmkbhbpbkkoaaGreat
