/- peatbanklaw20.BlobNumbers: the walk. -/
import Derived.Test.YtgmkibckbbbhkaaBl11
import Derived.Laws.BitsLemmas
namespace Go.Proofs.Ytgmkibckbbbhkaa
open Go.RowKit

def numB (a n k : Int) : List D4 := [⟨0, 0, 4, 1⟩, ⟨4, 0, k, 0⟩, ⟨0, a, n, 9⟩, ⟨2, a, n, 0⟩, ⟨2, 0, 4, 0⟩]
theorem numB_ok {a n k : Int} (ha : -9 ≤ a ∧ a ≤ 9) (hn : -9 ≤ n ∧ n ≤ 9) (hk : -9 ≤ k ∧ k ≤ 9) : ∀ x ∈ numB a n k, x.ok := by
  intro x hx
  unfold numB at hx
  simp only [List.mem_cons, List.not_mem_nil, or_false] at hx
  rcases hx with rfl | rfl | rfl | rfl | rfl
  all_goals exact ⟨by dsimp only; omega, by dsimp only; omega, by dsimp only; omega, by dsimp only; omega⟩
def endsB : List Int := [-9223372036854775808, -1, 0, 4, 5, 1024, 1025, 9223372036854775807]
theorem endsB_bd : ∀ e ∈ endsB, -9223372036854775808 ≤ e ∧ e ≤ 9223372036854775807 := by decide
theorem endsB_at {j : Nat} (h : j < 8) : ∃ e, endsB[j]? = some e ∧ -9223372036854775808 ≤ e ∧ e ≤ 9223372036854775807 :=
  ⟨endsB[j]'h, List.getElem?_eq_getElem h, endsB_bd _ (List.getElem_mem _)⟩
def endB (e1 e2 : Int) : List D4 := [⟨2, e1, e2, 0⟩, ⟨0, e1, 1, 5⟩]
theorem endB_ok {e1 e2 : Int} (h1 : -9223372036854775808 ≤ e1 ∧ e1 ≤ 9223372036854775807) (h2 : -9223372036854775808 ≤ e2 ∧ e2 ≤ 9223372036854775807) : ∀ x ∈ endB e1 e2, x.ok := by
  intro x hx
  unfold endB at hx
  simp only [List.mem_cons, List.not_mem_nil, or_false] at hx
  rcases hx with rfl | rfl
  all_goals exact ⟨by dsimp only; omega, by dsimp only; omega, by dsimp only; omega, by dsimp only; omega⟩
theorem new_ok {n : Int} (h1 : 1 ≤ n) (h2 : n ≤ 262144) {w : World} {b ms mo : Nat} (h : DiskAt w b ms mo (Dk.new n)) : (Dk.new n).ok := h.ok
theorem big_r : bread (Dk.new 1025) 1 1024 = (0, rowsL (Dk.new 1025) 1 1024) := by
  unfold bread
  rw [if_neg (by decide), if_neg (by decide), if_neg (by decide)]
  rfl
theorem big_n : bread (Dk.new 1025) 0 1025 = (2, []) := by
  unfold bread
  rw [if_pos (by decide)]

set_option maxRecDepth 100000 in
set_option maxHeartbeats 12800000 in
theorem bnumbers_any (w : World) : Calls Try.prog 16 #[] w fun e w' => e = .returned (.bool true) ∧ Mod Nn w w' := by
  go_enter Try.func16, Try.ntmps16
  go_wp2
  go_loopw [1] (fun i wr => ∃ k : Int, -2 ≤ k ∧ k ≤ 7 ∧ i = .int .i64 k ∧ Mod Nn w wr) (fun i _ => (7 - intOf i).toNat)
  case atStart => exact ⟨-2, by omega, by omega, rfl, Mod.refl _ _⟩
  case round =>
    obtain ⟨a, ha1, ha7, rfl, hmr⟩ := hrel
    obtain ⟨wo, rfl⟩ : ∃ wo : World, wo = wr := ⟨_, rfl⟩
    by_cases hlt : a < 7
    · go_wp2
      go_loopw [2] (fun i wr => ∃ a : Int, -1 ≤ a ∧ a ≤ 7 ∧ i = .int .i64 a ∧ Mod Nn w wr) (fun i _ => (7 - intOf i).toNat)
      case atStart => exact ⟨-1, by omega, by omega, rfl, hmr⟩
      case round =>
        clear hmr
        obtain ⟨n, hn0, hn7, rfl, hmr⟩ := hrel
        obtain ⟨wo2, rfl⟩ : ∃ wo : World, wo = wr := ⟨_, rfl⟩
        by_cases hltn : n < 7
        · go_wp2
          go_loopw [3] (fun i wr => ∃ b : Int, 0 ≤ b ∧ b ≤ 5 ∧ i = .int .i64 b ∧ Mod Nn w wr) (fun i _ => (5 - intOf i).toNat)
          case atStart => exact ⟨0, by omega, by omega, rfl, hmr⟩
          case round =>
            clear hmr
            obtain ⟨k, hk0, hk5, rfl, hmr⟩ := hrel
            obtain ⟨wo3, rfl⟩ : ∃ wo : World, wo = wr := ⟨_, rfl⟩
            by_cases hltk : k < 5
            · go_wp2_with fail
              have hbx := Blk.new wo3 95 ((numB a n k).flatMap d4L).toArray
              have hM := hmr.alloc (.cells ((numB a n k).flatMap d4L).toArray 95)
              have hrd := rdD4_blk (n := 5) hbx rfl (numB_ok (by omega) (by omega) (by omega))
              have HM := Lib.hid (And.intro hM hrd); clear hM hrd hbx hmr
              refine (blives_any _ 3 k HM.out.2 (c := 5) (by omega) (by unfold maxLen; omega)).mono ?_
              rintro r w1 ⟨rfl, m1⟩
              have M1 := HM.out.1.nn_ m1
              clear m1 HM
              go_wp2
              exact ⟨⟨k + 1, by omega, by omega, rfl, M1⟩, by simp [intOf]; omega⟩
            · go_wp2
              exact ⟨⟨n + 1, by omega, by omega, rfl, hmr⟩, by simp [intOf]; omega⟩
        · go_wp2
          exact ⟨⟨a + 1, by omega, by omega, rfl, hmr⟩, by simp [intOf]; omega⟩
    · go_wp2
      have hbe := Blk.new wo 3 (endsB.map (Value.int .i64)).toArray
      have hM := hmr.alloc (.cells (endsB.map (Value.int .i64)).toArray 3)
      rw [show (endsB.map (Value.int .i64)).toArray = #[Value.int IntKind.i64 (-9223372036854775808), Value.int IntKind.i64 (-1), Value.int IntKind.i64 0, Value.int IntKind.i64 4, Value.int IntKind.i64 5, Value.int IntKind.i64 1024, Value.int IntKind.i64 1025, Value.int IntKind.i64 9223372036854775807] from rfl] at hM hbe
      generalize wo.alloc (.cells #[Value.int IntKind.i64 (-9223372036854775808), Value.int IntKind.i64 (-1), Value.int IntKind.i64 0, Value.int IntKind.i64 4, Value.int IntKind.i64 5, Value.int IntKind.i64 1024, Value.int IntKind.i64 1025, Value.int IntKind.i64 9223372036854775807] 3) = we at *
      generalize wo.heap.size = ge at *
      have HB : Hid (Blk we ge 3 (endsB.map (Value.int .i64)).toArray) := Lib.hid hbe
      clear hbe hmr
      go_loopw [5] (fun i wr => ∃ j : Nat, j ≤ 8 ∧ i = .int .i64 j ∧ Mod Nn we wr) (fun i _ => 8 - (intOf i).toNat)
      case atStart => exact ⟨0, by omega, rfl, Mod.refl _ _⟩
      case round =>
        obtain ⟨j1, hj1, rfl, hmr⟩ := hrel
        obtain ⟨wo4, rfl⟩ : ∃ wo : World, wo = wr := ⟨_, rfl⟩
        by_cases hl1 : j1 < 8
        · have hl1' : (j1 : Int) < 8 := by omega
          go_wp2
          go_loopw [6] (fun i wr => ∃ j : Nat, j ≤ 8 ∧ i = .int .i64 j ∧ Mod Nn we wr) (fun i _ => 8 - (intOf i).toNat)
          case atStart => exact ⟨0, by omega, rfl, hmr⟩
          case round =>
            clear hmr
            obtain ⟨j2, hj2, rfl, hmr⟩ := hrel
            obtain ⟨wo5, rfl⟩ : ∃ wo : World, wo = wr := ⟨_, rfl⟩
            by_cases hl2 : j2 < 8
            · have hl2' : (j2 : Int) < 8 := by omega
              obtain ⟨e1, he1, b1⟩ := endsB_at hl1
              obtain ⟨e2, he2, b2⟩ := endsB_at hl2
              have HE := Lib.hid (And.intro he1 he2); clear he1 he2
              have hS0 : Blk wo5.drew ge 3 (endsB.map (Value.int .i64)).toArray := HB.out.mod hmr.drew (fun f => f)
              have hcell : ∀ (w' : World) (j : Nat) (e : Int), Blk w' ge 3 (endsB.map (Value.int .i64)).toArray → endsB[j]? = some e → w'.cell? ⟨ge, j, none⟩ = some (.int .i64 e) := fun w' j e hb he => by
                rw [hb.cell j, List.getElem?_toArray, List.getElem?_map, he]; rfl
              have HCL := Lib.hid hcell; clear hcell
              go_wp2_with fail
              refine wp_region_planT (fun w' => Blk w' ge 3 (endsB.map (Value.int .i64)).toArray) 15 [(0, 0), (1, 0), (2, 0), (3, 1), (4, 0), (5, 0), (6, 0), (7, 1), (8, 0), (9, 0), (10, 0), (11, 0), (12, 1), (13, 0), (14, 2), (15, 2), (16, 0)] (by kernel_rfl) (by kernel_rfl) hS0 ?_
              iterate 3 (refine pt_pure rfl rfl (fun K hK => ?_); go_simp; refine hK _ ?_; clear hK K)
              refine pt_take _ rfl rfl (fun w' hS => exec_load1 (P := Try.prog) 3 _ rfl rfl (HCL.out w' j1 e1 hS HE.out.1) Try.underlying3 rfl) (fun K hK => ?_); go_simp; refine hK _ ?_; clear hK K
              iterate 3 (refine pt_pure rfl rfl (fun K hK => ?_); go_simp; refine hK _ ?_; clear hK K)
              refine pt_take _ rfl rfl (fun w' hS => exec_load1 (P := Try.prog) 3 _ rfl rfl (HCL.out w' j2 e2 hS HE.out.2) Try.underlying3 rfl) (fun K hK => ?_); go_simp; refine hK _ ?_; clear hK K
              iterate 4 (refine pt_pure rfl rfl (fun K hK => ?_); go_simp; refine hK _ ?_; clear hK K)
              refine pt_take _ rfl rfl (fun w' hS => exec_load1 (P := Try.prog) 3 _ rfl rfl (HCL.out w' j1 e1 hS HE.out.1) Try.underlying3 rfl) (fun K hK => ?_); go_simp; refine hK _ ?_; clear hK K
              iterate 1 (refine pt_pure rfl rfl (fun K hK => ?_); go_simp; refine hK _ ?_; clear hK K)
              refine pt_mem rfl rfl (fun K hK => ?_); go_simp; refine ⟨_, _, ⟨rfl, rfl⟩, hK _ _ ?_ ?_⟩; clear hK K
              · exact fun _ => hS0.alloc _
              have hbx := (Blk.new wo5 95 ((endB e1 e2).flatMap d4L).toArray).drew
              have hrd : RdD4 ((wo5.alloc (.cells ((endB e1 e2).flatMap d4L).toArray 95)).drew) (some ⟨wo5.heap.size, 0, none⟩) 2 (endB e1 e2) := rdD4_blk hbx rfl (endB_ok b1 b2)
              have hM5 := (hmr.alloc (.cells ((endB e1 e2).flatMap d4L).toArray 95)).drew
              have HM := Lib.hid (And.intro hM5 hrd); clear hM5 hrd hbx hmr hS0
              refine pt_call rfl rfl (fun K hK => ?_); go_simp; refine ⟨_, _, ⟨rfl, rfl⟩, hK _ _ _ ?_⟩; clear hK K
              refine (blives_any _ 3 2 HM.out.2 (c := 2) (by omega) (by unfold maxLen; omega)).mono ?_
              rintro r w1 ⟨rfl, m1⟩
              have M1 := HM.out.1.nn_ m1
              refine ⟨_, rfl, fun h => (by simp at h), ?_⟩
              iterate 1 (refine pt_pure rfl rfl (fun K hK => ?_); go_simp; refine hK _ ?_; clear hK K)
              refine pt_nil ?_
              clear m1 HM
              go_wp2
              exact ⟨⟨j2 + 1, by omega, by go_num, M1⟩, by simp [intOf]; omega⟩
            · have hl2' : ¬ (j2 : Int) < 8 := by omega
              go_wp2
              exact ⟨⟨j1 + 1, by omega, by go_num, hmr⟩, by simp [intOf]; omega⟩
        · have hl1' : ¬ (j1 : Int) < 8 := by omega
          have hM0 := hM.nn_ hmr
          clear hM hmr
          go_wp2_with fail
          refine (new_any 1025 _ (by omega) (by omega)).mono ?_
          rintro e w1 ⟨b, ms, mo, rfl, hd1, m1, hfr⟩
          go_wp2_with fail
          refine (cnew_any hd1 5 (by omega)).mono ?_
          rintro e w2 ⟨c, mk, rfl, hC2, m2, hc2, hmk2⟩
          have h2 : OwnC wo4 w2 c b ms mo mk (Dk.new 1025) 5 0 0 0 [] [] := ⟨hC2, m1.nn_ m2, fun k hk => by
            have hz := m1.size
            rcases hk with (rfl | rfl | ⟨e, he, -⟩) | hk
            · omega
            · omega
            · cases he
            · exact hfr k hk⟩
          have hln : (rowsL (Dk.new 1025) 1 1024).length = 524288 := rowsL_len hd1.ok 1 1024
          have HLN := Lib.hid hln; clear hln
          generalize hLL : rowsL (Dk.new 1025) 1 1024 = LL at *
          have HR := Lib.hid (big_r.trans (by rw [hLL])); clear hLL
          clear hd1 m1 hfr hC2 m2 hc2 hmk2
          go_wp2_with fail
          refine (ob_read h2 1 1024 (by omega) (by omega) HR.out HLN.out).mono ?_
          rintro e w11 ⟨v11, now11, hits11, misses11, l11, T11, rfl, h11, n11, o11, nin11, -⟩
          obtain ⟨A, cp, rfl, -, -⟩ := own_rd o11
          clear h2 o11 nin11
          go_wp2_with fail
          refine (ob_read h11 0 1025 (by omega) (by omega) (n := 0) big_n rfl).mono ?_
          rintro e w12 ⟨v12, now12, hits12, misses12, l12, T12, rfl, h12, n12, -, -, -⟩
          have M12 := hM0.nn_ h12.md
          clear h11 h12 n11 n12 hM0
          go_wp2_with fail
          refine (bawake_any _).mono ?_
          rintro r w1 ⟨rfl, m1⟩
          have M1 := M12.nn_ m1
          clear m1 M12
          go_wp2
          go_ret
          exact ⟨rfl, M1⟩
end Go.Proofs.Ytgmkibckbbbhkaa
