/- peatbanklaw09.CacheNil: no cache, and one that nobody made. -/
import Derived.Test.YtgmkibckbbbhkaaCa6
namespace Go.Proofs.Ytgmkibckbbbhkaa
open Go.RowKit

def NotC (w : World) (p : Value) : Prop := p = .pointer none ∨ ∃ c, p = .pointer (some ⟨c, 0, none⟩) ∧ w.cell? ⟨c, 1, none⟩ = some (.int .i64 0)
section
variable {w w' : World} {p : Value}
theorem NotC.nn (h : NotC w p) (hm : Mod Nn w w') : NotC w' p := by
  rcases h with rfl | ⟨c, rfl, hc⟩
  · exact .inl rfl
  · exact .inr ⟨c, rfl, (hm.cell (p := ⟨c, 1, none⟩) (World.block_lt_of_cell? w _ hc) (fun f => f)).trans hc⟩
theorem known_not (h : NotC w p) : Calls Try.prog 80 #[p] w fun e w' => e = .returned (.bool false) ∧ w = w' := by
  rcases h with rfl | ⟨c, rfl, hc⟩
  · exact known_nil w
  · exact known_zero hc
set_option maxRecDepth 100000 in
theorem drop_not (h : NotC w p) : Calls Try.prog 49 #[p] w fun e w' => e = .returned (.tuple #[]) ∧ w = w' := by
  go_enter Try.func49, Try.ntmps49
  go_wp2_with fail
  refine (known_not h).mono ?_
  rintro e w1 ⟨rfl, rfl⟩
  clear h
  go_wp2
  go_end0
  exact ⟨rfl, rfl⟩
set_option maxRecDepth 100000 in
theorem read_not (h : NotC w p) (k : Int) : Calls Try.prog 50 #[p, .int .i64 k] w fun e w' => e = .returned (.tuple #[.slice none 0 0, .int .i64 1]) ∧ w = w' := by
  go_enter Try.func50, Try.ntmps50
  go_wp2_with fail
  refine (known_not h).mono ?_
  rintro e w1 ⟨rfl, rfl⟩
  clear h
  go_wp2
  go_ret2
  exact ⟨rfl, rfl⟩
set_option maxRecDepth 100000 in
theorem write_not (h : NotC w p) (k : Int) (v : Value) : Calls Try.prog 52 #[p, .int .i64 k, v] w fun e w' => e = .returned (.int .i64 1) ∧ w = w' := by
  go_enter Try.func52, Try.ntmps52
  go_wp2_with fail
  refine (known_not h).mono ?_
  rintro e w1 ⟨rfl, rfl⟩
  clear h
  go_wp2
  go_ret
  exact ⟨rfl, rfl⟩
set_option maxRecDepth 100000 in
theorem sync_not (h : NotC w p) : Calls Try.prog 54 #[p] w fun e w' => e = .returned (.int .i64 1) ∧ w = w' := by
  go_enter Try.func54, Try.ntmps54
  go_wp2_with fail
  refine (known_not h).mono ?_
  rintro e w1 ⟨rfl, rfl⟩
  clear h
  go_wp2
  go_ret
  exact ⟨rfl, rfl⟩
set_option maxRecDepth 100000 in
theorem sectors_not (h : NotC w p) : Calls Try.prog 55 #[p] w fun e w' => e = .returned (.int .i64 0) ∧ w = w' := by
  go_enter Try.func55, Try.ntmps55
  go_wp2_with fail
  refine (known_not h).mono ?_
  rintro e w1 ⟨rfl, rfl⟩
  clear h
  go_wp2
  go_ret
  exact ⟨rfl, rfl⟩
set_option maxRecDepth 100000 in
theorem counts_not (h : NotC w p) : Calls Try.prog 51 #[p] w fun e w' => e = .returned (.tuple #[.int .i64 0, .int .i64 0]) ∧ w = w' := by
  go_enter Try.func51, Try.ntmps51
  go_wp2_with fail
  refine (known_not h).mono ?_
  rintro e w1 ⟨rfl, rfl⟩
  clear h
  go_wp2
  go_ret2
  exact ⟨rfl, rfl⟩
end

set_option maxRecDepth 100000 in
set_option maxHeartbeats 3200000 in
theorem cachenil_any (k : Int) (w : World) : Calls Try.prog 10 #[.int .i64 k] w fun e w' => e = .returned (.bool true) ∧ Mod Nn w w' := by
  go_enter Try.func10, Try.ntmps10
  go_wp2_with fail
  refine (cawake_any _).mono ?_
  rintro r w1 ⟨rfl, m1⟩
  go_wp2
  have hb := Blk.new (w1.alloc (.cells #[.pointer none, .int .i64 0, .int .i64 0, .map none, .int .i64 0, .int .i64 0] 75)) 67 #[.pointer none, .pointer (some ⟨w1.heap.size, 0, none⟩)]
  have hz := (Blk.new w1 75 #[.pointer none, .int .i64 0, .int .i64 0, .map none, .int .i64 0, .int .i64 0]).alloc (.cells #[.pointer none, .pointer (some ⟨w1.heap.size, 0, none⟩)] 67)
  have M2 := (m1.alloc (.cells #[.pointer none, .int .i64 0, .int .i64 0, .map none, .int .i64 0, .int .i64 0] 75)).alloc (.cells #[.pointer none, .pointer (some ⟨w1.heap.size, 0, none⟩)] 67)
  rw [show (w1.alloc (.cells #[.pointer none, .int .i64 0, .int .i64 0, .map none, .int .i64 0, .int .i64 0] 75)).heap.size = w1.heap.size + 1 from by simp] at hb
  have hz1 := hz.cell 1
  generalize (w1.alloc (.cells #[.pointer none, .int .i64 0, .int .i64 0, .map none, .int .i64 0, .int .i64 0] 75)).alloc (.cells #[.pointer none, .pointer (some ⟨w1.heap.size, 0, none⟩)] 67) = w2 at *
  generalize w1.heap.size + 1 = g at *
  generalize w1.heap.size = z at *
  clear m1 hz
  have HB := Lib.hid (And.intro hb (And.intro (show NotC w2 (.pointer none) from .inl rfl) (show NotC w2 (.pointer (some ⟨z, 0, none⟩)) from .inr ⟨z, rfl, hz1⟩)))
  clear hb hz1
  go_loopw [4] (fun i wr => ∃ j : Int, (j = 0 ∨ j = 1 ∨ j = 2) ∧ i = .int .i64 j ∧ Mod Nn w2 wr) (fun i _ => (2 - intOf i).toNat)
  case atStart => exact ⟨0, .inl rfl, rfl, Mod.refl _ _⟩
  case round =>
    obtain ⟨j, hj, rfl, hmr⟩ := hrel
    obtain ⟨wo, rfl⟩ : ∃ wo : World, wo = wr := ⟨_, rfl⟩
    by_cases h2 : j = 2
    · subst h2
      have M := M2.nn_ hmr
      clear hmr hj M2
      go_wp2
      go_ret
      exact ⟨rfl, M⟩
    · have hp : ∃ p, (∀ w', Mod Nn w2 w' → w'.cell? ⟨g, j.toNat, none⟩ = some p) ∧ (∀ w', Mod Nn w2 w' → NotC w' p) := by
        obtain rfl | rfl : j = 0 ∨ j = 1 := by omega
        · exact ⟨_, fun w' hm => (HB.out.1.mod hm (fun f => f)).cell 0, fun w' hm => HB.out.2.1.nn hm⟩
        · exact ⟨_, fun w' hm => (HB.out.1.mod hm (fun f => f)).cell 1, fun w' hm => HB.out.2.2.nn hm⟩
      obtain ⟨p, hpc, hpn⟩ := hp
      have HP := Lib.hid (And.intro hpc hpn); clear hpc hpn
      have hjj : 0 ≤ j ∧ j < 2 := by omega
      have hj0 : 0 ≤ j := hjj.1
      have hj2 : j < 2 := hjj.2
      have hj2' : j.toNat < 2 := by omega
      clear hj h2 hjj
      have cc := HP.out.1 wo hmr
      go_wp2_with fail
      refine (drop_not (HP.out.2 wo hmr)).mono ?_
      rintro r w3 ⟨rfl, rfl⟩
      go_wp2_with fail
      refine (read_not (HP.out.2 wo hmr) k).mono ?_
      rintro r w3 ⟨rfl, rfl⟩
      go_wp2_with fail
      refine (counts_not (HP.out.2 wo hmr)).mono ?_
      rintro r w3 ⟨rfl, rfl⟩
      go_wp2_with fail
      clear cc
      refine wp_region_planC (fun w' => Mod Nn w2 w') [(0, true), (1, true), (2, true), (3, true), (4, true), (5, true), (6, true), (7, true), (8, true), (9, true), (10, true), (11, true), (12, true), (13, false), (14, false), (15, true), (16, true), (17, true), (18, true), (19, true), (20, true), (21, true), (22, false), (23, true), (24, true), (25, true), (26, true), (27, true), (28, true), (29, true), (30, true), (31, true), (32, true), (33, true), (34, true), (35, true), (36, true), (37, true), (38, false), (39, true), (40, true)] (by kernel_rfl) (by kernel_rfl) hmr.drew ?_
      iterate 11 (refine pc_pure rfl rfl (fun K hK => ?_); go_simp; refine hK _ ?_; clear hK K)
      refine pc_take _ rfl rfl (fun w' hS => exec_load1 (P := Try.prog) 67 _ rfl rfl (HP.out.1 w' hS) Try.underlying67 rfl) (fun K hK => ?_); go_simp; refine hK _ ?_; clear hK K
      iterate 1 (refine pc_pure rfl rfl (fun K hK => ?_); go_simp; refine hK _ ?_; clear hK K)
      refine pc_call rfl rfl (fun K hK => ?_); go_simp; refine ⟨_, _, ⟨rfl, rfl⟩, hK _ _ _ ?_⟩; clear hK K
      refine (ful_any 1 _ (by omega) (by omega)).mono ?_
      rintro r w3 ⟨g3, rfl, -, -, m3⟩
      have M3 := hmr.drew.nn_ m3
      refine ⟨_, rfl, M3, ?_⟩
      refine pc_call rfl rfl (fun K hK => ?_); go_simp; refine ⟨_, _, ⟨rfl, rfl⟩, hK _ _ _ ?_⟩; clear hK K
      refine (write_not (HP.out.2 _ M3) k _).mono ?_
      rintro r w4 ⟨rfl, rfl⟩
      refine ⟨_, rfl, M3, ?_⟩
      iterate 6 (refine pc_pure rfl rfl (fun K hK => ?_); go_simp; refine hK _ ?_; clear hK K)
      refine pc_take _ rfl rfl (fun w' hS => exec_load1 (P := Try.prog) 67 _ rfl rfl (HP.out.1 w' hS) Try.underlying67 rfl) (fun K hK => ?_); go_simp; refine hK _ ?_; clear hK K
      refine pc_call rfl rfl (fun K hK => ?_); go_simp; refine ⟨_, _, ⟨rfl, rfl⟩, hK _ _ _ ?_⟩; clear hK K
      refine (sync_not (HP.out.2 _ M3)).mono ?_
      rintro r w4 ⟨rfl, rfl⟩
      refine ⟨_, rfl, M3, ?_⟩
      iterate 14 (refine pc_pure rfl rfl (fun K hK => ?_); go_simp; refine hK _ ?_; clear hK K)
      refine pc_take _ rfl rfl (fun w' hS => exec_load1 (P := Try.prog) 67 _ rfl rfl (HP.out.1 w' hS) Try.underlying67 rfl) (fun K hK => ?_); go_simp; refine hK _ ?_; clear hK K
      refine pc_call rfl rfl (fun K hK => ?_); go_simp; refine ⟨_, _, ⟨rfl, rfl⟩, hK _ _ _ ?_⟩; clear hK K
      refine (sectors_not (HP.out.2 _ M3)).mono ?_
      rintro r w4 ⟨rfl, rfl⟩
      refine ⟨_, rfl, M3, ?_⟩
      iterate 2 (refine pc_pure rfl rfl (fun K hK => ?_); go_simp; refine hK _ ?_; clear hK K)
      refine pc_nil ?_
      clear m3 hmr
      go_wp2
      exact ⟨⟨j + 1, by omega, rfl, M3⟩, by simp [intOf]; omega⟩
end Go.Proofs.Ytgmkibckbbbhkaa
