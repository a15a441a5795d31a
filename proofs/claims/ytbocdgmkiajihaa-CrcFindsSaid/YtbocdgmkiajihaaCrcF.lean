/- peatbanklaw02.CrcFinds: the walk. -/
import Derived.Test.YtbocdgmkiajihaaCrcP
import Derived.Test.YtbocdgmkiajihaaBytesC
namespace Go.Proofs.Ytbocdgmkiajihaa
open Go.RowKit

theorem bit_int (v : BitVec 32) (k : Nat) : bits .and .u32 ((v.toNat : Int) / 2 ^ k) 1 = if v.getLsbD k = true then 1 else 0 := by
  rw [b_shr, low_int, BitVec.getLsbD_ushiftRight, Nat.add_zero]
theorem toNat_ne {x y : BitVec 32} (h : x ≠ y) : (((x.toNat : Nat) : Int) != (y.toNat : Int)) = true := by
  have : x.toNat ≠ y.toNat := fun e => h (BitVec.eq_of_toNat_eq e)
  simp; omega

/-- what the loop holds: the copy's block, the bytes turned so far -/
structure FinI (w w' : World) (g cap n : Nat) (l : List Nat) (at_ : Nat) (v : BitVec 32) (k : Nat) : Prop where
  md : Mod Nn w w'
  row : ∃ (cur : Array Value) (m : List Nat), Blk w' g 5 cur ∧ cur.size = cap ∧ cur.toList.take n = bv m ∧ Flip l m (eAt at_ v k) ∧ (∀ z ∈ m, z < 256)

set_option maxRecDepth 100000 in
set_option maxHeartbeats 3200000 in
theorem finds_any {w : World} (x : Int) (v : BitVec 32) {A : Option Addr} {n c : Nat} {l : List Nat} (hr : Rd w A n (bv l)) (hl : ∀ z ∈ l, z < 256) :
    Calls Try.prog 8 #[.slice A n c, .int .i64 x, .int .u32 (v.toNat : Int)] w fun r w' => r = .returned (.bool true) ∧ Mod Nn w w' := by
  have hL : l.length = n := by have := hr.1; simpa [bv] using this
  have HL := Lib.hid hL; have HB := Lib.hid hl; clear hL hl
  by_cases hv : (50000 : Int) < n ∨ (n : Int) < 4 ∨ (v.toNat : Int) = 0
  · go_enter Try.func8, Try.ntmps8
    go_wp2_with fail
    refine (crc_awake _).mono ?_
    rintro r w1 ⟨rfl, m1⟩
    by_cases h1 : (50000 : Int) < n
    · go_wp2
      go_ret
      exact ⟨rfl, m1⟩
    · by_cases h2 : (n : Int) < 4
      · go_wp2
        go_ret
        exact ⟨rfl, m1⟩
      · have h3 : ((v.toNat : Int) == 0) = true := by simp; omega
        clear hv
        go_wp2
        go_ret
        exact ⟨rfl, m1⟩
  · have h1 : (n : Int) ≤ 50000 := by omega
    have h2 : (4 : Int) ≤ n := by omega
    have h3 : ((v.toNat : Int) == 0) = false := by simp; omega
    have hv0 : v ≠ 0#32 := fun e => by rw [e] at hv; simp at hv
    clear hv
    have HV := Lib.hid hv0; clear hv0
    have hr0 : Rd w A n ((l.map (fun c : Nat => (c : Int))).map (Value.int .u8)) := by rw [bv_ints]; exact hr
    go_enter Try.func8, Try.ntmps8
    go_wp2_with fail
    refine (crc_awake _).mono ?_
    rintro r w1 ⟨rfl, m1⟩
    go_wp2_with fail
    clear h3
    refine (pick_any x _ _ (by omega)).mono ?_
    rintro r w2 ⟨rfl, rfl⟩
    have hpk := pick_range x (8 * (n : Int) - 31) (by omega)
    obtain ⟨at_, hk⟩ : ∃ k : Nat, pick x (8 * (n : Int) - 31) = k := ⟨(pick x (8 * (n : Int) - 31)).toNat, by omega⟩
    rw [hk] at hpk ⊢
    clear hk
    have hat : at_ + 32 ≤ 8 * n := by omega
    clear hpk
    go_wp2_with fail
    refine (copy_any (hr0.mod m1 (fun _ _ f => f)) (by omega)).mono ?_
    rintro r w3 ⟨u, rfl, own3, m3⟩
    obtain ⟨g, cap, cur, rfl, hg, hb3, hnc, hcm, hcs, hct⟩ := own_blk own3 (by omega)
    rw [Nat.mul_one] at hcs hct
    rw [bv_ints] at hct
    have I3 : FinI w w3 g cap n l at_ v 0 := ⟨m1.nn_ m3, cur, l, hb3, hcs, hct, flip_zero _ _ _, HB.out⟩
    have hcm' : cap ≤ 9223372036854775807 := by unfold maxLen at hcm; omega
    have hgw : w.heap.size ≤ g := by have := m1.size; omega
    clear own3 hb3 hcs hct m3 m1 hr0 hcm
    go_wp2
    go_loopw [8] (fun i wr => ∃ k : Nat, k ≤ 32 ∧ i = .int .i64 k ∧ FinI w wr g cap n l at_ v k) (fun i _ => 32 - (intOf i).toNat)
    case atStart => exact ⟨0, Nat.zero_le _, rfl, I3⟩
    case round =>
      clear I3
      obtain ⟨k, hk, rfl, I⟩ := hrel
      obtain ⟨wo, rfl⟩ : ∃ wo : World, wo = wr := ⟨_, rfl⟩
      by_cases hlt : k < 32
      · have hlt' : (k : Int) < 32 := by omega
        have hbit := bit_int v k
        by_cases hb : v.getLsbD k = true
        · rw [if_pos hb] at hbit
          obtain ⟨cur, m, hbl, hcs, hct, hfl, hm8⟩ := I.row
          have hml : m.length = n := by rw [← hfl.1, HL.out]
          obtain ⟨i, hi⟩ : ∃ i : Nat, (at_ + k) / 8 = i := ⟨_, rfl⟩
          obtain ⟨s, hs⟩ : ∃ s : Nat, (at_ + k) % 8 = s := ⟨_, rfl⟩
          have hs8 : s < 8 := by omega
          have hin : i < n := by omega
          have hset := flip_set hfl hb hm8 (by rw [hi]; omega)
          rw [hi, hs, getD_in (by rw [hml]; exact hin)] at hset
          have hz8 : m[i]'(by omega) < 256 := hm8 _ (List.getElem_mem _)
          have hxor := xor_u8 (m[i]'(by omega)) (2 ^ s) hz8 (pow_lt8 s hs8)
          have hx8 := xor8_lt _ _ hz8 (pow_lt8 s hs8)
          have cD : wo.cell? ⟨g, i, none⟩ = some (.int .u8 ((m[i]'(by omega) : Nat) : Int)) := by
            rw [hbl.cell i]
            have : (bv m)[i]? = some (.int .u8 ((m[i]'(by omega) : Nat) : Int)) := by rw [bv_at, List.getElem?_eq_getElem]; rfl
            rw [← hct, List.getElem?_take, if_pos hin] at this
            rw [← this]; simp
          generalize m[i]'(by omega) ^^^ 2 ^ s = y at *
          generalize m[i]'(by omega) = z at *
          have HH := Lib.hid (And.intro hcs (And.intro hct (And.intro hset (And.intro hx8 hml))))
          have hfz := hbl.frozen i
          have HBL := Lib.hid hbl
          have HM8 := Lib.hid hm8
          have HC := Lib.hid (And.intro cD hfz)
          have HI := Lib.hid I.md
          have hw2 : ((at_ : Int) + k) / 8 = i := by omega
          have hw3 : ((at_ : Int) + k) % 8 = s := by omega
          have hiN : (i : Int) < n := by omega
          have hs8' : (s : Int) < 8 := by omega
          have cD := HC.out.1
          have hfz := HC.out.2
          clear hcs hct hset hx8 hml hbl I hi hs hfl hm8 hb
          have HX := Lib.hid hxor
          clear hxor
          go_wp2
          have hp8 := pow_lt8 s hs8
          have hsh : ((2 : Int) ^ s % 256) = ((2 ^ s : Nat) : Int) := by
            rw [Int.natCast_pow] at *
            have : ((2 ^ s : Nat) : Int) < 256 := by omega
            rw [Int.natCast_pow] at this
            exact Int.emod_eq_of_lt (Int.pow_nonneg (by omega)) this
          rw [hsh, HX.out]
          obtain ⟨hcs, hct, hset, hx8, hml⟩ := HH.out
          have hD := HBL.out.set_ i (.int .u8 y)
          refine ⟨⟨k + 1, by omega, by go_num, HI.out.setCell (.inl hgw) _, _, _, hD, by rw [Array.size_setIfInBounds]; exact hcs, ?_, hset, fun z hz => ?_⟩, by simp [intOf]; omega⟩
          · rw [Array.toList_setIfInBounds, List.take_set, hct]
            unfold bv; rw [List.map_set]
          · rcases List.mem_or_eq_of_mem_set hz with h | h
            · exact HM8.out z h
            · rw [h]; exact hx8
        · rw [if_neg hb] at hbit
          have I' : FinI w wo g cap n l at_ v (k + 1) := by
            obtain ⟨cur, m, hbl, hcs, hct, hfl, hm8⟩ := I.row
            exact ⟨I.md, cur, m, hbl, hcs, hct, flip_skip hfl (by simpa using hb), hm8⟩
          clear hb I
          go_wp2
          exact ⟨⟨k + 1, by omega, by go_num, I'⟩, by simp [intOf]; omega⟩
      · have hlt' : ¬ (k : Int) < 32 := by omega
        have hk32 : k = 32 := by omega
        subst hk32
        obtain ⟨cur, m, hbl, hcs, hct, hfl, hm8⟩ := I.row
        have hml : m.length = n := by rw [← hfl.1, HL.out]
        have hne := toNat_ne (finds_ne cas 0#32 (by decide) hfl HV.out HB.out hm8 (by rw [HL.out]; exact hat))
        generalize hX : (crcS cas 0#32 l).toNat = X at *
        generalize hY : (crcS cas 0#32 m).toNat = Y at *
        have HX := Lib.hid hX; have HY := Lib.hid hY; have HN := Lib.hid hne
        have hrl := hr.mod I.md (fun _ _ f => f)
        have hrm : Rd wo (some ⟨g, 0, none⟩) n (bv m) := Rd.of_blk hbl 0 (by simp [bv, hml]) (fun j u hj => by
          rw [← hct, List.getElem?_take] at hj
          split at hj
          · rw [Nat.zero_add]; simpa using hj
          · cases hj)
        have hmd := I.md
        clear I hbl hcs hct hfl hml hne hX hY
        have HM8 := Lib.hid hm8; clear hm8
        go_wp2_with fail
        refine (crc_sum hrl HB.out (by omega)).mono ?_
        rintro r w5 ⟨rfl, m5⟩
        rw [HX.out]
        go_wp2_with fail
        refine (crc_sum (hrm.mod m5 (fun _ _ f => f)) HM8.out (by omega)).mono ?_
        rintro r w6 ⟨rfl, m6⟩
        rw [HY.out]
        have M6 := (hmd.nn_ m5).nn_ m6
        have hne := HN.out
        go_wp2
        go_ret
        exact ⟨rfl, M6⟩
end Go.Proofs.Ytbocdgmkiajihaa
