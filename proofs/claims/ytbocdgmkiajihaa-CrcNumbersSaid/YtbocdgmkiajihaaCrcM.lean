/- peatbanklaw02.CrcNumbers: the walk. -/
import Derived.Test.YtbocdgmkiajihaaCrcT
import Derived.Lib.SlBytesConst
namespace Go.Proofs.Ytbocdgmkiajihaa
open Go.RowKit

theorem word_in {z : Int} (h0 : 0 ≤ z) (h1 : z < 4294967296) : ∃ s : BitVec 32, z = (s.toNat : Int) := by
  refine ⟨BitVec.ofNat 32 z.toNat, ?_⟩
  rw [BitVec.toNat_ofNat, Nat.mod_eq_of_lt (by omega)]
  omega
theorem sums_int {w : World} (z : Int) (h0 : 0 ≤ z) (h1 : z < 4294967296) {A : Option Addr} {n c : Nat} {l : List Nat} (hr : Rd w A n (bv l)) (hl : ∀ z ∈ l, z < 256) :
    Calls Try.prog 3 #[.int .u32 z, .slice A n c] w fun r w' => r = .returned (.bool true) ∧ Mod Nn w w' := by
  obtain ⟨s, rfl⟩ := word_in h0 h1
  exact sums_any s hr hl
theorem tables_int {w : World} (y z : Int) (g0 : 0 ≤ y) (g1 : y < 4294967296) (h0 : 0 ≤ z) (h1 : z < 4294967296) {A : Option Addr} {n c : Nat} {l : List Nat} (hr : Rd w A n (bv l)) (hl : ∀ z ∈ l, z < 256) :
    Calls Try.prog 4 #[.int .u32 y, .int .u32 z, .slice A n c] w fun r w' => r = .returned (.bool true) ∧ Mod Nn w w' := by
  obtain ⟨p, rfl⟩ := word_in g0 g1
  obtain ⟨s, rfl⟩ := word_in h0 h1
  exact tables_any p s hr hl
theorem bv_zeros (k : Nat) : Array.replicate k (Value.int .u8 0) = (bv (List.replicate k 0)).toArray := by
  unfold bv
  rw [List.map_replicate]
  apply Array.ext'
  simp
theorem p2_in (k : Nat) : 0 ≤ (2 : Int) ^ k % 4294967296 ∧ (2 : Int) ^ k % 4294967296 < 4294967296 := ⟨Int.emod_nonneg _ (by omega), Int.emod_lt_of_pos _ (by omega)⟩
theorem zeros_lt (k : Nat) : ∀ z ∈ List.replicate k 0, z < 256 := fun z hz => by rw [(List.mem_replicate.1 hz).2]; omega
def peat : List Nat := [112, 101, 97, 116]
theorem peat_lt : ∀ z ∈ peat, z < 256 := by decide

set_option maxRecDepth 100000 in
set_option maxHeartbeats 3200000 in
theorem crc_numbers_any (w : World) : Calls Try.prog 6 #[] w fun r w' => r = .returned (.bool true) ∧ Mod Nn w w' := by
  go_enter Try.func6, Try.ntmps6
  go_wp2
  go_loopw [1] (fun i wr => ∃ k : Nat, k ≤ 256 ∧ i = .int .i64 k ∧ Mod Nn w wr) (fun i _ => 256 - (intOf i).toNat)
  case atStart => exact ⟨0, by omega, rfl, Mod.refl _ _⟩
  case round =>
    obtain ⟨k, hk, rfl, hm⟩ := hrel
    obtain ⟨wo, rfl⟩ : ∃ wo : World, wo = wr := ⟨_, rfl⟩
    by_cases hlt : k < 256
    · have hlt' : (k : Int) < 256 := by omega
      have hlk : ∀ z ∈ [k], z < 256 := fun z hz => by simp only [List.mem_singleton] at hz; omega
      have hlk3 : ∀ z ∈ [1, 2, k], z < 256 := fun z hz => by simp only [List.mem_cons, List.not_mem_nil, or_false] at hz; omega
      have HL := Lib.hid (And.intro hlk hlk3); clear hlk hlk3
      go_wp2_with fail
      have hb3 : Blk (wo.alloc (.cells #[.int .u8 k] 5)) wo.heap.size 5 (bv [k]).toArray := Blk.new _ _ _
      refine (sums_any 0#32 (Rd.of_blk0 hb3 (n := 1) rfl) HL.out.1).mono ?_
      rintro r w1 ⟨rfl, m1⟩
      have M1 := ((hm.alloc _).nn_ m1)
      clear hb3 m1 hm
      go_wp2_with fail
      have hb3 : Blk (w1.alloc (.cells #[.int .u8 1, .int .u8 2, .int .u8 k] 5)) w1.heap.size 5 (bv [1, 2, k]).toArray := Blk.new _ _ _
      refine (sums_int _ (by omega) (by omega) (Rd.of_blk0 hb3 (n := 3) rfl) HL.out.2).mono ?_
      rintro r w2 ⟨rfl, m2⟩
      have M2 := ((M1.alloc _).nn_ m2)
      clear hb3 m2 M1
      go_wp2
      exact ⟨⟨k + 1, by omega, by go_num, M2⟩, by simp [intOf]; omega⟩
    · have hlt' : ¬ (k : Int) < 256 := by omega
      go_wp2
      go_loopw [2] (fun i wr => ∃ k : Nat, k ≤ 32 ∧ i = .int .i64 k ∧ Mod Nn w wr) (fun i _ => 32 - (intOf i).toNat)
      case atStart => exact ⟨0, by omega, rfl, hm⟩
      case round =>
        clear hm hlt hlt'
        obtain ⟨k, hk, rfl, hm⟩ := hrel
        obtain ⟨wo, rfl⟩ : ∃ wo : World, wo = wr := ⟨_, rfl⟩
        by_cases hlt : k < 32
        · have hlt' : (k : Int) < 32 := by omega
          have kc := fun (w : World) (C : Array Value) (n c : Nat) => Lib.run_convert_bytes_const (P := Try.prog) w 23 5 C n c Try.underlying23 Try.underlying5
          go_wp2_with fail
          clear kc
          have hr3 : Rd (wo.alloc (.cells #[.int .u8 112, .int .u8 101, .int .u8 97, .int .u8 116] 5 (4, 5))) (some ⟨wo.heap.size, 0, none⟩) 4 (bv peat) := Rd.of_row (heap_alloc_new wo _)
          refine (tables_int _ _ (p2_in _).1 (p2_in _).2 (p2_in _).1 (p2_in _).2 hr3 peat_lt).mono ?_
          rintro r w1 ⟨rfl, m1⟩
          have M1 := ((hm.alloc _).nn_ m1)
          clear hr3 m1 hm
          have hp := p2_in k
          generalize (2 : Int) ^ k % 4294967296 = P at *
          go_wp2_with (first
           | (with_reducible change wpList _ _ _ (⟨_, Op.makeSlice _ _ _, _, _, _, _⟩ :: _) _ _
              go_must (refine wpList_make1 23 _ _ rfl rfl 5 (.int .u8 0) 1 Try.underlying23 info_u8 rfl (k : Int) (k : Int) k k rfl rfl rfl rfl (by omega) (by omega) (by omega) ?_)
              intro w2 b2 m2 z2
              rw [bv_zeros] at b2
              have M2 := M1.nn_ m2
              clear m2 z2)
           | fail)
          refine (sums_int _ (Int.emod_nonneg _ (by omega)) (Int.emod_lt_of_pos _ (by omega)) (Rd.of_blk0 b2 (by simp [bv])) (zeros_lt k)).mono ?_
          rintro r w3 ⟨rfl, m3⟩
          have M3 := M2.nn_ m3
          clear b2 m3 M2 hp
          go_wp2
          exact ⟨⟨k + 1, by omega, by go_num, M3⟩, by simp [intOf]; omega⟩
        · have hlt' : ¬ (k : Int) < 32 := by omega
          go_wp2_with fail
          have hb3 : Blk (wo.alloc (.cells #[.int .u8 255, .int .u8 0, .int .u8 1] 5)) wo.heap.size 5 (bv [255, 0, 1]).toArray := Blk.new _ _ _
          refine (tables_int _ _ (by omega) (by omega) (by omega) (by omega) (Rd.of_blk0 hb3 (n := 3) rfl) (by decide)).mono ?_
          rintro r w1 ⟨rfl, m1⟩
          have M1 := ((hm.alloc _).nn_ m1)
          clear hb3 m1 hm
          go_wp2_with fail
          have hb3 : Blk (w1.alloc (.cells #[.int .u8 255, .int .u8 0, .int .u8 1] 5)) w1.heap.size 5 (bv [255, 0, 1]).toArray := Blk.new _ _ _
          refine (tables_int _ _ (by omega) (by omega) (by omega) (by omega) (Rd.of_blk0 hb3 (n := 3) rfl) (by decide)).mono ?_
          rintro r w2 ⟨rfl, m2⟩
          have M2 := ((M1.alloc _).nn_ m2)
          clear hb3 m2 M1
          go_wp2_with fail
          refine (crc_awake _).mono ?_
          rintro r w3 ⟨rfl, m3⟩
          have M3 := M2.nn_ m3
          go_wp2
          go_ret
          exact ⟨rfl, M3⟩
end Go.Proofs.Ytbocdgmkiajihaa
