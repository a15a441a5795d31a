/- peatbanklaw09.CacheNumbers: the walk. -/
import Derived.Test.YtgmkibckbbbhkaaCa13
import Derived.Laws.BitsLemmas
namespace Go.Proofs.Ytgmkibckbbbhkaa
open Go.RowKit

def do9L (x : DoR) : List Value := [.int .i64 x.op, .int .i64 x.sec, .int .i64 x.num, .int .u8 x.byt, .slice x.fa x.fn x.fc]
theorem do9_at (xs : List DoR) {k : Nat} {x : DoR} (h : xs[k]? = some x) (j : Nat) (hj : j < 5) : (xs.flatMap do9L)[k * 5 + j]? = (do9L x)[j]? := by
  induction xs generalizing k with
  | nil => simp at h
  | cons y xs ih =>
    rw [List.flatMap_cons]
    cases k with
    | zero =>
      simp only [List.getElem?_cons_zero, Option.some.injEq] at h
      subst h
      rw [List.getElem?_append_left (by show 0 * 5 + j < 5; omega)]
      congr 1; omega
    | succ k =>
      rw [List.getElem?_cons_succ] at h
      rw [List.getElem?_append_right (by show 5 ≤ (k + 1) * 5 + j; omega), ← ih h]
      congr 1
      show (k + 1) * 5 + j - 5 = _
      omega
theorem rdDo_blk {w : World} {g : Nat} {t : TypeId} {xs : List DoR} {n : Nat} (hb : Blk w g t (xs.flatMap do9L).toArray) (hn : xs.length = n) (hok : ∀ x ∈ xs, x.ok ∧ Rd w x.fa x.fn (x.fl.map (Value.int .i64))) : RdDo w (some ⟨g, 0, none⟩) n xs := by
  have hc : ∀ (k : Nat) (x : DoR), xs[k]? = some x → ∀ j v, j < 5 → (do9L x)[j]? = some v → w.cell? ⟨g, 0 + k * 5 + j, none⟩ = some v := fun k x hx j v hj hv => by
    rw [hb.cell, List.getElem?_toArray, Nat.zero_add, do9_at xs hx j hj, hv]
  refine ⟨hn, fun _ => ⟨g, 0, rfl, hb.lt, fun k x hx => ⟨?_, hc k x hx 1 _ (by omega) rfl, hc k x hx 2 _ (by omega) rfl, hc k x hx 3 _ (by omega) rfl, hc k x hx 4 _ (by omega) rfl⟩⟩, fun k x hx => hok x (List.mem_of_getElem? hx)⟩
  have := hc k x hx 0 _ (by omega) rfl
  rwa [Nat.add_zero] at this
def dz (op sec num byt : Int) : DoR := ⟨op, sec, num, byt, none, 0, 0, []⟩
theorem dz_ok {w : World} {op sec num byt : Int} (h1 : 0 ≤ op ∧ op ≤ 9) (h2 : -9223372036854775808 ≤ sec ∧ sec ≤ 9223372036854775807) (h3 : 0 ≤ num ∧ num ≤ 9) (h4 : 0 ≤ byt ∧ byt ≤ 255) : (dz op sec num byt).ok ∧ Rd w (dz op sec num byt).fa (dz op sec num byt).fn ((dz op sec num byt).fl.map (Value.int .i64)) :=
  ⟨⟨by show -9223372036854775808 ≤ op ∧ op ≤ 9223372036854775807; omega, h2, by show -9223372036854775808 ≤ num ∧ num ≤ 9223372036854775807; omega, h4, by show 0 ≤ maxLen; omega⟩, Rd.nil _ _⟩
def numL (a b : Int) (gf : Nat) : List DoR := [dz 0 a 0 1, dz 2 0 0 0, dz 6 a 0 0, dz 0 b 0 2, dz 6 a 0 0, dz 6 b 0 0, dz 3 0 1 0, dz 0 a 0 3, dz 6 b 0 0, ⟨5, 0, 0, 0, some ⟨gf, 0, none⟩, 1, 1, [b]⟩, dz 6 a 0 0, dz 6 b 0 0, dz 4 0 0 0, dz 6 a 0 0, dz 3 0 2 0, dz 2 0 0 0, dz 2 0 0 0, dz 6 a 0 0]
theorem numL_rd {w : World} {g gf : Nat} {t u : TypeId} {a b : Int} (ha : 0 ≤ a ∧ a ≤ 9) (hb : 0 ≤ b ∧ b ≤ 9) (hf : Blk w gf u #[.int .i64 b]) (hx : Blk w g t ((numL a b gf).flatMap do9L).toArray) : RdDo w (some ⟨g, 0, none⟩) 18 (numL a b gf) := by
  refine rdDo_blk hx rfl fun x hx => ?_
  unfold numL at hx
  simp only [List.mem_cons, List.not_mem_nil, or_false] at hx
  rcases hx with rfl | rfl | rfl | rfl | rfl | rfl | rfl | rfl | rfl | rfl | rfl | rfl | rfl | rfl | rfl | rfl | rfl | rfl
  all_goals first
    | exact dz_ok (by omega) (by omega) (by omega) (by omega)
    | exact ⟨⟨by show -9223372036854775808 ≤ (5 : Int) ∧ (5 : Int) ≤ 9223372036854775807; omega, by show -9223372036854775808 ≤ (0 : Int) ∧ (0 : Int) ≤ 9223372036854775807; omega, by show -9223372036854775808 ≤ (0 : Int) ∧ (0 : Int) ≤ 9223372036854775807; omega, by show 0 ≤ (0 : Int) ∧ (0 : Int) ≤ 255; omega, by show 1 ≤ maxLen; unfold maxLen; omega⟩, Rd.of_blk0 hf rfl⟩
def endsL : List Int := [-9223372036854775808, -1, 0, 1, 262144, 262145, 9223372036854775807]
theorem ends_bd : ∀ e ∈ endsL, -9223372036854775808 ≤ e ∧ e ≤ 9223372036854775807 := by decide
theorem ends_at {j : Nat} (h : j < 7) : ∃ e, endsL[j]? = some e ∧ -9223372036854775808 ≤ e ∧ e ≤ 9223372036854775807 :=
  ⟨endsL[j]'h, List.getElem?_eq_getElem h, ends_bd _ (List.getElem_mem _)⟩
def endD (e1 e2 : Int) : List DoR := [dz 0 e2 0 1, dz 6 e2 0 0, dz 6 (IntKind.i64.wrap (e1 - 1)) 0 0, dz 6 e1 0 0]
theorem wrap_bd (z : Int) : -9223372036854775808 ≤ IntKind.i64.wrap z ∧ IntKind.i64.wrap z ≤ 9223372036854775807 := by rw [IntKind.wrap_i64]; omega
theorem endD_ok {w : World} {e1 e2 : Int} (h1 : -9223372036854775808 ≤ e1 ∧ e1 ≤ 9223372036854775807) (h2 : -9223372036854775808 ≤ e2 ∧ e2 ≤ 9223372036854775807) : ∀ x ∈ endD e1 e2, x.ok ∧ Rd w x.fa x.fn (x.fl.map (Value.int .i64)) := by
  intro x hx
  unfold endD at hx
  simp only [List.mem_cons, List.not_mem_nil, or_false] at hx
  have h3 := wrap_bd (e1 - 1)
  rcases hx with rfl | rfl | rfl | rfl
  · exact dz_ok (by omega) h2 (by omega) (by omega)
  · exact dz_ok (by omega) h2 (by omega) (by omega)
  · exact dz_ok (by omega) h3 (by omega) (by omega)
  · exact dz_ok (by omega) h1 (by omega) (by omega)

set_option maxRecDepth 100000 in
set_option maxHeartbeats 12800000 in
theorem cnumbers_any (w : World) : Calls Try.prog 12 #[] w fun e w' => e = .returned (.bool true) ∧ Mod Nn w w' := by
  go_enter Try.func12, Try.ntmps12
  go_wp2
  go_loopw [1] (fun i wr => ∃ k : Int, 1 ≤ k ∧ k ≤ 6 ∧ i = .int .i64 k ∧ Mod Nn w wr) (fun i _ => (6 - intOf i).toNat)
  case atStart => exact ⟨1, by omega, by omega, rfl, Mod.refl _ _⟩
  case round =>
    obtain ⟨k, hk1, hk6, rfl, hmr⟩ := hrel
    obtain ⟨wo, rfl⟩ : ∃ wo : World, wo = wr := ⟨_, rfl⟩
    by_cases hlt : k < 6
    · go_wp2
      go_loopw [2] (fun i wr => ∃ a : Int, 0 ≤ a ∧ a ≤ 4 ∧ i = .int .i64 a ∧ Mod Nn w wr) (fun i _ => (4 - intOf i).toNat)
      case atStart => exact ⟨0, by omega, by omega, rfl, hmr⟩
      case round =>
        clear hmr
        obtain ⟨a, ha0, ha4, rfl, hmr⟩ := hrel
        obtain ⟨wo2, rfl⟩ : ∃ wo : World, wo = wr := ⟨_, rfl⟩
        by_cases hlta : a < 4
        · go_wp2
          go_loopw [3] (fun i wr => ∃ b : Int, 0 ≤ b ∧ b ≤ 4 ∧ i = .int .i64 b ∧ Mod Nn w wr) (fun i _ => (4 - intOf i).toNat)
          case atStart => exact ⟨0, by omega, by omega, rfl, hmr⟩
          case round =>
            clear hmr
            obtain ⟨b, hb0, hb4, rfl, hmr⟩ := hrel
            obtain ⟨wo3, rfl⟩ : ∃ wo : World, wo = wr := ⟨_, rfl⟩
            by_cases hltb : b < 4
            · go_wp2_with fail
              have hbf := (Blk.new wo3 39 #[.int .i64 b]).alloc (.cells ((numL a b wo3.heap.size).flatMap do9L).toArray 85)
              have hbx := Blk.new (wo3.alloc (.cells #[.int .i64 b] 39)) 85 ((numL a b wo3.heap.size).flatMap do9L).toArray
              have hM := (hmr.alloc (.cells #[.int .i64 b] 39)).alloc (.cells ((numL a b wo3.heap.size).flatMap do9L).toArray 85)
              have hrd := numL_rd ⟨ha0, by omega⟩ ⟨hb0, by omega⟩ hbf hbx
              rw [show (wo3.alloc (.cells #[.int .i64 b] 39)).heap.size = wo3.heap.size + 1 from by simp] at hrd
              have HM := Lib.hid (And.intro hM hrd); clear hM hrd hbf hbx hmr
              refine (clives_any _ 4 k HM.out.2 (c := 18) (by omega) (by unfold maxLen; omega)).mono ?_
              rintro r w1 ⟨rfl, m1⟩
              have M1 := HM.out.1.nn_ m1
              have R1 := HM.out.2.mod m1
              clear m1 HM
              go_wp2_with fail
              refine (clives_any _ 2 k R1 (c := 18) (by omega) (by unfold maxLen; omega)).mono ?_
              rintro r w2 ⟨rfl, m2⟩
              have M2 := M1.nn_ m2
              clear m2 M1 R1
              go_wp2
              exact ⟨⟨b + 1, by omega, by omega, rfl, M2⟩, by simp [intOf]; omega⟩
            · go_wp2
              exact ⟨⟨a + 1, by omega, by omega, rfl, hmr⟩, by simp [intOf]; omega⟩
        · go_wp2
          exact ⟨⟨k + 1, by omega, by omega, rfl, hmr⟩, by simp [intOf]; omega⟩
    · go_wp2
      have hbe := Blk.new wo 3 (endsL.map (Value.int .i64)).toArray
      have hM := hmr.alloc (.cells (endsL.map (Value.int .i64)).toArray 3)
      rw [show (endsL.map (Value.int .i64)).toArray = #[Value.int IntKind.i64 (-9223372036854775808), Value.int IntKind.i64 (-1), Value.int IntKind.i64 0, Value.int IntKind.i64 1, Value.int IntKind.i64 262144, Value.int IntKind.i64 262145, Value.int IntKind.i64 9223372036854775807] from rfl] at hM hbe
      generalize wo.alloc (.cells #[Value.int IntKind.i64 (-9223372036854775808), Value.int IntKind.i64 (-1), Value.int IntKind.i64 0, Value.int IntKind.i64 1, Value.int IntKind.i64 262144, Value.int IntKind.i64 262145, Value.int IntKind.i64 9223372036854775807] 3) = we at *
      generalize wo.heap.size = ge at *
      have HB : Hid (Blk we ge 3 (endsL.map (Value.int .i64)).toArray) := Lib.hid hbe
      clear hbe hmr
      go_loopw [6] (fun i wr => ∃ j : Nat, j ≤ 7 ∧ i = .int .i64 j ∧ Mod Nn we wr) (fun i _ => 7 - (intOf i).toNat)
      case atStart => exact ⟨0, by omega, rfl, Mod.refl _ _⟩
      case round =>
        obtain ⟨j1, hj1, rfl, hmr⟩ := hrel
        obtain ⟨wo4, rfl⟩ : ∃ wo : World, wo = wr := ⟨_, rfl⟩
        by_cases hl1 : j1 < 7
        · have hl1' : (j1 : Int) < 7 := by omega
          go_wp2
          go_loopw [7] (fun i wr => ∃ j : Nat, j ≤ 7 ∧ i = .int .i64 j ∧ Mod Nn we wr) (fun i _ => 7 - (intOf i).toNat)
          case atStart => exact ⟨0, by omega, rfl, hmr⟩
          case round =>
            clear hmr
            obtain ⟨j2, hj2, rfl, hmr⟩ := hrel
            obtain ⟨wo5, rfl⟩ : ∃ wo : World, wo = wr := ⟨_, rfl⟩
            by_cases hl2 : j2 < 7
            · have hl2' : (j2 : Int) < 7 := by omega
              obtain ⟨e1, he1, b1⟩ := ends_at hl1
              obtain ⟨e2, he2, b2⟩ := ends_at hl2
              have HE := Lib.hid (And.intro he1 he2); clear he1 he2
              have hS0 : Blk wo5.drew ge 3 (endsL.map (Value.int .i64)).toArray := HB.out.mod hmr.drew (fun f => f)
              have hcell : ∀ (w' : World) (j : Nat) (e : Int), Blk w' ge 3 (endsL.map (Value.int .i64)).toArray → endsL[j]? = some e → w'.cell? ⟨ge, j, none⟩ = some (.int .i64 e) := fun w' j e hb he => by
                rw [hb.cell j, List.getElem?_toArray, List.getElem?_map, he]; rfl
              have HCL := Lib.hid hcell; clear hcell
              have hwb := wrap_bd (e1 - 1)
              go_wp2_with fail
              refine wp_region_planT (fun w' => Blk w' ge 3 (endsL.map (Value.int .i64)).toArray) 30 [(0, 0), (1, 0), (2, 0), (3, 1), (4, 0), (5, 0), (6, 0), (7, 1), (8, 0), (9, 0), (10, 0), (11, 1), (12, 0), (13, 0), (14, 0), (15, 0), (16, 1), (17, 0), (18, 0), (19, 0), (20, 0), (21, 1), (22, 0), (23, 0), (24, 0), (25, 0), (26, 0), (27, 1), (28, 0), (29, 2), (30, 2), (31, 0)] (by kernel_rfl) (by kernel_rfl) hS0 ?_
              iterate 3 (refine pt_pure rfl rfl (fun K hK => ?_); go_simp; refine hK _ ?_; clear hK K)
              refine pt_take _ rfl rfl (fun w' hS => exec_load1 (P := Try.prog) 3 _ rfl rfl (HCL.out w' j1 e1 hS HE.out.1) Try.underlying3 rfl) (fun K hK => ?_); go_simp; refine hK _ ?_; clear hK K
              iterate 3 (refine pt_pure rfl rfl (fun K hK => ?_); go_simp; refine hK _ ?_; clear hK K)
              refine pt_take _ rfl rfl (fun w' hS => exec_load1 (P := Try.prog) 3 _ rfl rfl (HCL.out w' j2 e2 hS HE.out.2) Try.underlying3 rfl) (fun K hK => ?_); go_simp; refine hK _ ?_; clear hK K
              iterate 3 (refine pt_pure rfl rfl (fun K hK => ?_); go_simp; refine hK _ ?_; clear hK K)
              refine pt_take _ rfl rfl (fun w' hS => exec_load1 (P := Try.prog) 3 _ rfl rfl (HCL.out w' j2 e2 hS HE.out.2) Try.underlying3 rfl) (fun K hK => ?_); go_simp; refine hK _ ?_; clear hK K
              iterate 4 (refine pt_pure rfl rfl (fun K hK => ?_); go_simp; refine hK _ ?_; clear hK K)
              refine pt_take _ rfl rfl (fun w' hS => exec_load1 (P := Try.prog) 3 _ rfl rfl (HCL.out w' j2 e2 hS HE.out.2) Try.underlying3 rfl) (fun K hK => ?_); go_simp; refine hK _ ?_; clear hK K
              iterate 4 (refine pt_pure rfl rfl (fun K hK => ?_); go_simp; refine hK _ ?_; clear hK K)
              refine pt_take _ rfl rfl (fun w' hS => exec_load1 (P := Try.prog) 3 _ rfl rfl (HCL.out w' j1 e1 hS HE.out.1) Try.underlying3 rfl) (fun K hK => ?_); go_simp; refine hK _ ?_; clear hK K
              iterate 5 (refine pt_pure rfl rfl (fun K hK => ?_); go_simp; refine hK _ ?_; clear hK K)
              refine pt_take _ rfl rfl (fun w' hS => exec_load1 (P := Try.prog) 3 _ rfl rfl (HCL.out w' j1 e1 hS HE.out.1) Try.underlying3 rfl) (fun K hK => ?_); go_simp; refine hK _ ?_; clear hK K
              iterate 1 (refine pt_pure rfl rfl (fun K hK => ?_); go_simp; refine hK _ ?_; clear hK K)
              refine pt_mem rfl rfl (fun K hK => ?_); go_simp; refine ⟨_, _, ⟨rfl, rfl⟩, hK _ _ ?_ ?_⟩; clear hK K
              · exact fun _ => hS0.alloc _
              have hbx := (Blk.new wo5 85 ((endD e1 e2).flatMap do9L).toArray).drew
              have hrd : RdDo ((wo5.alloc (.cells ((endD e1 e2).flatMap do9L).toArray 85)).drew) (some ⟨wo5.heap.size, 0, none⟩) 4 (endD e1 e2) := rdDo_blk hbx rfl (endD_ok b1 b2)
              have hM5 := (hmr.alloc (.cells ((endD e1 e2).flatMap do9L).toArray 85)).drew
              have HM := Lib.hid (And.intro hM5 hrd); clear hM5 hrd hbx hmr hS0
              refine pt_call rfl rfl (fun K hK => ?_); go_simp; refine ⟨_, _, ⟨rfl, rfl⟩, hK _ _ _ ?_⟩; clear hK K
              refine (clives_any _ e1 e2 HM.out.2 (c := 4) (by omega) (by unfold maxLen; omega)).mono ?_
              rintro r w1 ⟨rfl, m1⟩
              have M1 := HM.out.1.nn_ m1
              refine ⟨_, rfl, fun h => (by simp at h), ?_⟩
              iterate 1 (refine pt_pure rfl rfl (fun K hK => ?_); go_simp; refine hK _ ?_; clear hK K)
              refine pt_nil ?_
              clear m1 HM hwb
              go_wp2
              exact ⟨⟨j2 + 1, by omega, by go_num, M1⟩, by simp [intOf]; omega⟩
            · have hl2' : ¬ (j2 : Int) < 7 := by omega
              go_wp2
              exact ⟨⟨j1 + 1, by omega, by go_num, hmr⟩, by simp [intOf]; omega⟩
        · have hl1' : ¬ (j1 : Int) < 7 := by omega
          go_wp2_with fail
          refine (cawake_any _).mono ?_
          rintro r w1 ⟨rfl, m1⟩
          have M1 := (hM.nn_ hmr).nn_ m1
          clear m1 hmr
          go_wp2
          go_ret
          exact ⟨rfl, M1⟩
end Go.Proofs.Ytgmkibckbbbhkaa
