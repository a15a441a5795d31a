/- The document's crc (peatbankref02): Of, Add, Sum. -/
import Derived.Test.YtijmkbhbpbkkoaaGreatCrcA
namespace Go.Proofs.YtijmkbhbpbkkoaaGreat
open Go.RowKit

theorem xor_byte (x : BitVec 32) (c : Nat) (hc : c < 256) : bits .xor .u32 (x.toNat : Int) (c : Int) = ((x ^^^ BitVec.ofNat 32 c).toNat : Int) := by
  rw [← b_xor, BitVec.toNat_ofNat, Nat.mod_eq_of_lt (show c < 2 ^ 32 by omega)]
theorem shr1 (x : BitVec 32) : (x.toNat : Int) / (2 : Int) = ((x >>> 1).toNat : Int) := b_shr x 1
theorem low_int (x : BitVec 32) : bits .and .u32 (x.toNat : Int) 1 = if x.getLsbD 0 = true then 1 else 0 := by
  have h1 : bits .and .u32 (x.toNat : Int) 1 = ((x &&& 1#32).toNat : Int) := b_and x 1#32
  rw [h1, and_one]
  by_cases h : x.getLsbD 0 = true
  · rw [if_pos h, if_pos h]; rfl
  · rw [if_neg h, if_neg h]; rfl

section
variable {w : World} {A : Option Addr} {n c : Nat} {l : List Nat}
set_option maxRecDepth 100000 in
set_option maxHeartbeats 1600000 in
theorem ref_of (p s : BitVec 32) (hr : Rd w A n (bv l)) (hl : ∀ z ∈ l, z < 256) (hn : n ≤ 140737488355328) :
    Calls Tryz.prog 75 #[.int .u32 (p.toNat : Int), .int .u32 (s.toNat : Int), .slice A n c] w fun r w' => r = .returned (.int .u32 ((crcS p s l).toNat : Int)) ∧ w = w' := by
  unfold crcS
  have hS := b_not s
  generalize ~~~ s = S at *
  generalize hR : ~~~ crcF p S l = R
  have HSS := Lib.hid hS; have HR := Lib.hid hR; clear hS hR
  have hL : l.length = n := by have := hr.1; simpa [bv] using this
  have HL := Lib.hid hL; clear hL
  have hS := HSS.out
  go_enter Tryz.func75, Tryz.ntmps75
  go_wp2
  clear hS
  go_loop [7, 8] (fun v i => ∃ k : Nat, k ≤ n ∧ i = .int .i64 k ∧ v = .int .u32 ((crcF p S (l.take k)).toNat : Int)) (fun _ i => n - (intOf i).toNat)
  case atStart => exact ⟨0, Nat.zero_le _, rfl, rfl⟩
  case round =>
    obtain ⟨k, hk, rfl, rfl⟩ := hrel
    by_cases hlt : k < n
    · have hlt' : (k : Int) < n := by omega
      obtain ⟨g, off, v, rfl, hv, hc⟩ := hr.at_ hlt
      rw [bv_at] at hv
      obtain ⟨z, hz, rfl⟩ := Option.map_eq_some_iff.1 hv
      have hz8 : z < 256 := hl z (List.mem_of_getElem? hz)
      have hnext := crcF_snoc p S l k z hz
      generalize crcF p S (l.take k) = X at *
      have HN := Lib.hid hnext
      have hx := xor_byte X z hz8
      have hY : cstN p 0 (X ^^^ BitVec.ofNat 32 z) = X ^^^ BitVec.ofNat 32 z := rfl
      have hE : cby p X z = cstN p 8 (X ^^^ BitVec.ofNat 32 z) := rfl
      generalize X ^^^ BitVec.ofNat 32 z = Y at *
      have HE := Lib.hid hE
      clear hnext hv hz hr hE
      go_wp2
      clear hx
      go_loop [7, 9] (fun v i => ∃ j : Nat, j ≤ 8 ∧ i = .int .i64 j ∧ v = .int .u32 ((cstN p j Y).toNat : Int)) (fun _ i => 8 - (intOf i).toNat)
      case atStart => exact ⟨0, by omega, rfl, rfl⟩
      case round =>
        obtain ⟨j, hj, rfl, rfl⟩ := hrel
        by_cases hj8 : j < 8
        · have hj8' : (j : Int) < 8 := by omega
          have HJ := Lib.hid (cstN_succ p j Y)
          generalize cstN p j Y = V at *
          have hlow := low_int V
          by_cases hb : V.getLsbD 0 = true
          · rw [if_pos hb] at hlow
            have HV := Lib.hid (show cst p V = (V >>> 1) ^^^ p by unfold cst; rw [if_pos hb])
            have H1 := Lib.hid (shr1 V)
            clear hb hY
            go_wp2
            exact ⟨⟨j + 1, by omega, by go_num, by rw [H1.out, b_xor, HJ.out, HV.out]⟩, by simp [intOf]; omega⟩
          · rw [if_neg hb] at hlow
            have HV := Lib.hid (show cst p V = (V >>> 1) by unfold cst; rw [if_neg hb, BitVec.xor_zero])
            have H1 := Lib.hid (shr1 V)
            clear hb hY
            go_wp2
            exact ⟨⟨j + 1, by omega, by go_num, by rw [H1.out, HJ.out, HV.out]⟩, by simp [intOf]; omega⟩
        · have hj8' : ¬ (j : Int) < 8 := by omega
          have : j = 8 := by omega
          subst this
          rw [← HE.out]
          clear hY hj8
          go_wp2
          exact ⟨⟨k + 1, by omega, by go_num, by rw [HN.out]⟩, by simp [intOf]; omega⟩
    · have hlt' : ¬ (k : Int) < n := by omega
      have hk' : l.take k = l := List.take_of_length_le (by rw [HL.out]; omega)
      rw [hk']
      have hS := b_not (crcF p S l)
      rw [HR.out] at hS
      clear hk' hr
      go_wp2
      go_ret
      exact ⟨rfl, rfl⟩
set_option maxHeartbeats 800000 in
theorem ref_add (s : BitVec 32) (hr : Rd w A n (bv l)) (hl : ∀ z ∈ l, z < 256) (hn : n ≤ 140737488355328) :
    Calls Tryz.prog 68 #[.int .u32 (s.toNat : Int), .slice A n c] w fun r w' => r = .returned (.int .u32 ((crcS cas s l).toNat : Int)) ∧ w = w' := by
  generalize hR : (crcS cas s l).toNat = R
  have HR := Lib.hid hR; clear hR
  go_enter Tryz.func68, Tryz.ntmps68
  go_wp2_with fail
  refine (ref_of cas s hr hl hn).mono ?_
  rintro r w1 ⟨rfl, rfl⟩
  rw [HR.out]
  go_wp2
  go_ret
  exact ⟨rfl, rfl⟩
set_option maxHeartbeats 800000 in
theorem ref_sum (hr : Rd w A n (bv l)) (hl : ∀ z ∈ l, z < 256) (hn : n ≤ 140737488355328) :
    Calls Tryz.prog 55 #[.slice A n c] w fun r w' => r = .returned (.int .u32 ((crcS cas 0#32 l).toNat : Int)) ∧ w = w' := by
  generalize hR : (crcS cas 0#32 l).toNat = R
  have HR := Lib.hid hR; clear hR
  go_enter Tryz.func55, Tryz.ntmps55
  go_wp2_with fail
  refine (ref_add 0#32 hr hl hn).mono ?_
  rintro r w1 ⟨rfl, rfl⟩
  rw [HR.out]
  go_wp2
  go_ret
  exact ⟨rfl, rfl⟩
end
end Go.Proofs.YtijmkbhbpbkkoaaGreat
