/- frame.may, sectors, said, number; the document's said, number; bytes.Equal, HasPrefix, Clone. -/
import Derived.Test.YtijmkbhbpbkkoaaGreatKitD
import Derived.Test.YtijmkbhbpbkkoaaGreatFr3
import Derived.Test.YtijmkbhbpbkkoaaGreatBytes2
import Derived.Test.YtijmkbhbpbkkoaaGreatCrc7
namespace Go.Proofs.YtijmkbhbpbkkoaaGreat
open Go.RowKit

set_option maxRecDepth 100000 in
theorem fmay_any (n : Int) (w : World) : Calls Tryz.prog 50 #[.int .i64 n] w fun e w' => e = .returned (.bool (decide (0 ≤ n ∧ n ≤ 1099511627776))) ∧ w = w' := by
  by_cases h0 : 0 ≤ n
  · by_cases h1 : n ≤ 1099511627776
    · rw [decide_eq_true ⟨h0, h1⟩]
      go_enter Tryz.func50, Tryz.ntmps50
      go_wp2
      go_ret
      exact ⟨rfl, rfl⟩
    · rw [decide_eq_false (fun h => h1 h.2)]
      go_enter Tryz.func50, Tryz.ntmps50
      go_wp2
      go_ret
      exact ⟨rfl, rfl⟩
  · rw [decide_eq_false (fun h => h0 h.1)]
    go_enter Tryz.func50, Tryz.ntmps50
    go_wp2
    go_ret
    exact ⟨rfl, rfl⟩
set_option maxRecDepth 100000 in
theorem fsec_any (n : Nat) (w : World) (hn : n ≤ 140737488355328) : Calls Tryz.prog 51 #[.int .i64 n] w fun e w' => e = .returned (.int .i64 (fsec n : Int)) ∧ w = w' := by
  have h := fsec_go n
  have HH := Lib.hid h; clear h
  go_enter Tryz.func51, Tryz.ntmps51
  go_wp2
  rw [HH.out]
  go_ret
  exact ⟨rfl, rfl⟩

/-! ## said -/
theorem shl_or (a c : Nat) (ha : 256 * a + 255 < 18446744073709551616) (hc : c < 256) : bits .or .u64 (IntKind.u64.wrap (Int.shiftLeft (a : Int) 8)) (c : Int) = ((256 * a + c : Nat) : Int) := by
  have h1 : IntKind.u64.wrap (Int.shiftLeft (a : Int) 8) = ((256 * a : Nat) : Int) := by
    rw [IntKind.wrap_u64]
    have : Int.shiftLeft (a : Int) 8 = ((256 * a : Nat) : Int) := by
      show ((a <<< 8 : Nat) : Int) = _
      rw [Nat.shiftLeft_eq]; congr 1; omega
    rw [this]; omega
  rw [h1]
  show IntKind.u64.wrap ((BitVec.ofInt 64 ((256 * a : Nat) : Int) ||| BitVec.ofInt 64 (c : Int)).toNat : Int) = _
  rw [BitVec.ofInt_natCast, BitVec.ofInt_natCast, BitVec.toNat_or, BitVec.toNat_ofNat, BitVec.toNat_ofNat, Nat.mod_eq_of_lt (by omega), Nat.mod_eq_of_lt (by omega), or_byte a c hc, IntKind.wrap_u64]
  omega
section
variable {w : World} {A : Option Addr} {n c : Nat} {l : List Nat}
theorem bv_get (l : List Nat) (k : Nat) {v : Value} (hv : (bv l)[k]? = some v) : ∃ z, l[k]? = some z ∧ v = .int .u8 (z : Int) := by
  unfold bv at hv
  rw [List.getElem?_map] at hv
  obtain ⟨z, hz, rfl⟩ := Option.map_eq_some_iff.1 hv
  exact ⟨z, hz, rfl⟩
theorem shl8_go (a : Nat) (ha : 256 * a + 255 < 18446744073709551616) : (a : Int) * 256 = ((256 * a : Nat) : Int) := by omega
theorem or_go (a c : Nat) (ha : 256 * a + 255 < 18446744073709551616) (hc : c < 256) : bits .or .u64 ((a : Int) * 256) (c : Int) = ((256 * a + c : Nat) : Int) := by
  rw [shl8_go a ha]
  show IntKind.u64.wrap ((BitVec.ofInt 64 ((256 * a : Nat) : Int) ||| BitVec.ofInt 64 (c : Int)).toNat : Int) = _
  rw [BitVec.ofInt_natCast, BitVec.ofInt_natCast, BitVec.toNat_or, BitVec.toNat_ofNat, BitVec.toNat_ofNat, Nat.mod_eq_of_lt (by omega), Nat.mod_eq_of_lt (by omega), or_byte a c hc, IntKind.wrap_u64]
  omega
set_option maxRecDepth 100000 in
set_option maxHeartbeats 1600000 in
theorem fsaid_any (hr : Rd w A n (bv l)) (hl : ∀ z ∈ l, z < 256) (hn : n ≤ 8) :
    Calls Tryz.prog 65 #[.slice A n c] w fun e w' => e = .returned (.int .u64 ((said l : Nat) : Int)) ∧ w = w' := by
  have hL : l.length = n := by have := hr.1; simpa [bv] using this
  have HL := Lib.hid hL; clear hL
  go_enter Tryz.func65, Tryz.ntmps65
  go_wp2
  go_loop [2, 7] (fun v i => ∃ k : Nat, k ≤ n ∧ i = .int .i64 k ∧ v = .int .u64 ((said (l.take k) : Nat) : Int)) (fun _ i => n - (intOf i).toNat)
  case atStart => exact ⟨0, Nat.zero_le _, rfl, rfl⟩
  case round =>
    obtain ⟨k, hk, rfl, rfl⟩ := hrel
    by_cases hlt : k < n
    · have hlt' : (k : Int) < n := by omega
      obtain ⟨g, off, v, rfl, hv, hc⟩ := hr.at_ hlt
      obtain ⟨z, hz, rfl⟩ := bv_get l k hv
      have hz8 : z < 256 := hl z (List.mem_of_getElem? hz)
      have h8 := said8 l hl (by rw [HL.out]; omega) k (by rw [HL.out]; exact hlt)
      have hN := said_take hz
      generalize said (l.take k) = X at *
      have HN := Lib.hid hN
      have hor := shl_or X z h8 hz8
      have hor2 := or_go X z h8 hz8
      clear hN hv hz hr
      go_wp2
      exact ⟨⟨k + 1, by omega, by go_num, by rw [HN.out]; push_cast; rfl⟩, by simp [intOf]; omega⟩
    · have hlt' : ¬ (k : Int) < n := by omega
      have hk' : l.take k = l := List.take_of_length_le (by rw [HL.out]; omega)
      rw [hk']
      clear hk' hr
      go_wp2
      go_ret
      exact ⟨rfl, rfl⟩
end

/-! ## number -/
theorem num_byte (N m : Nat) : (N : Int) / 2 ^ m % 256 = ((N / 2 ^ m % 256 : Nat) : Int) := by
  rw [Int.natCast_emod, Int.natCast_ediv, Int.natCast_pow]; rfl
section
variable {w : World} {g cap : Nat} {L : List Nat}
set_option maxRecDepth 100000 in
set_option maxHeartbeats 1600000 in
theorem fnum_any (h : Out w g 5 cap L) {n : Nat} (hn : L.length = n) (N : Nat) (hN : N < 18446744073709551616) (k : Nat) (hk : k ≤ 8) (hroom : n + k ≤ cap) (hcap : cap ≤ 140737488355328) :
    Calls Tryz.prog 52 #[.slice (some ⟨g, 0, none⟩) n cap, .int .u64 (N : Int), .int .i64 (k : Int)] w fun e w' => e = .returned (.slice (some ⟨g, 0, none⟩) ((n + k : Nat)) cap) ∧ Out w' g 5 cap (L ++ num N k) ∧ Mod (At g) w w' := by
  have HL := Lib.hid hn; clear hn
  go_enter Tryz.func52, Tryz.ntmps52
  go_wp2
  go_loopw [0, 7] (fun v i w' => ∃ j : Nat, j ≤ k ∧ i = .int .i64 ((k : Int) - 1 - j) ∧ v = .slice (some ⟨g, 0, none⟩) ((n + j : Nat)) cap ∧ Out w' g 5 cap (L ++ (num N k).take j) ∧ Mod (At g) w w') (fun _ i _ => (intOf i + 1).toNat)
  case atStart => exact ⟨0, Nat.zero_le _, by simp, by simp, by simpa using h, Mod.refl _ _⟩
  case round =>
    obtain ⟨j, hj, rfl, rfl, ho, hm⟩ := hrel
    by_cases hlt : j < k
    · have hlt' : (0 : Int) ≤ (k : Int) - 1 - j := by omega
      have HT := Lib.hid (num_take N k j hlt)
      obtain ⟨m, hmm⟩ : ∃ m : Nat, m = 8 * (k - 1 - j) := ⟨_, rfl⟩
      have hb := Lib.hid (num_byte N m)
      rw [← hmm] at HT
      have hmi : (8 : Int) * ((k : Int) - 1 - j) = (m : Int) := by omega
      have hm64 : m ≤ 63 := by omega
      generalize N / 2 ^ m % 256 = b at *
      have HLL := Lib.hid (show (L ++ (num N k).take j).length = n + j by rw [List.length_append, HL.out, List.length_take, num_len]; omega)
      clear hmm
      go_wp2_with (first
        | (with_reducible change wpList _ _ _ (⟨some 21, _, _, _, _, _⟩ :: _) _ _
           have ho' := ho.mod ((Mod.refl Nn wr).alloc (.cells #[.int .u8 (b : Int)] 5)) (fun f => f)
           have hs : Rd (wr.alloc (.cells #[.int .u8 (b : Int)] 5)) (some ⟨wr.heap.size, 0, none⟩) 1 (bv [b]) := Rd.of_blk0 (Blk.new _ _ _) rfl
           have m1 : Mod (At g) w (wr.alloc (.cells #[.int .u8 (b : Int)] 5)) := hm.alloc _
           rw [hb.out]
           go_must (refine wpList_append_out 29 _ _ rfl rfl Tryz.underlying29 info_u8 ho' HLL.out rfl rfl hs (by omega) ?_)
           intro w2 o2 m2 z2
           rw [List.append_assoc, ← HT.out] at o2
           have M2 := m1.trans m2
           clear ho' hs m1 m2 z2 ho hm))
      exact ⟨⟨j + 1, by omega, by simp; omega, rfl, o2, M2⟩, by simp [intOf]; omega⟩
    · have hlt' : ¬ (0 : Int) ≤ (k : Int) - 1 - j := by omega
      have hjk : j = k := by omega
      subst hjk
      have HT := Lib.hid (show (num N j).take j = num N j from List.take_of_length_le (by rw [num_len]; exact Nat.le_refl _))
      rw [HT.out] at ho
      go_wp2
      go_ret
      exact ⟨rfl, ho, hm⟩
end
section
variable {w : World}
set_option maxRecDepth 100000 in
set_option maxHeartbeats 1600000 in
theorem rnum_any (N : Nat) (hN : N < 18446744073709551616) (k : Nat) (hk : k ≤ 8) :
    Calls Tryz.prog 54 #[.int .u64 (N : Int), .int .i64 (k : Int)] w fun e w' => ∃ v, e = .returned v ∧ w'.ownsRow w.heap.size 5 1 v k (bv (num N k)) ∧ Mod Nn w w' := by
  go_enter Tryz.func54, Tryz.ntmps54
  go_wp2
  go_loopw [5, 6] (fun v i w' => ∃ j : Nat, j ≤ k ∧ i = .int .i64 ((k : Int) - 1 - j) ∧ w'.ownsRow w.heap.size 5 1 v j (bv ((num N k).take j)) ∧ Mod Nn w w') (fun _ i _ => (intOf i + 1).toNat)
  case atStart => exact ⟨0, Nat.zero_le _, by simp, own_nil _ _ _ _, Mod.refl _ _⟩
  case round =>
    obtain ⟨j, hj, rfl, ho, hm⟩ := hrel
    obtain ⟨A, c, rfl, _, _⟩ := own_form ho
    by_cases hlt : j < k
    · have hlt' : (0 : Int) ≤ (k : Int) - 1 - j := by omega
      have HT := Lib.hid (num_take N k j hlt)
      obtain ⟨m, hmm⟩ : ∃ m : Nat, m = 8 * (k - 1 - j) := ⟨_, rfl⟩
      have hb := Lib.hid (num_byte N m)
      rw [← hmm] at HT
      have hmi : (8 : Int) * ((k : Int) - 1 - j) = (m : Int) := by omega
      have hm64 : m ≤ 63 := by omega
      generalize N / 2 ^ m % 256 = b at *
      clear hmm
      go_wp2_with (first
        | (with_reducible change wpList _ _ _ (⟨some 21, _, _, _, _, _⟩ :: _) _ _
           have ho' := own_mod ho ((Mod.refl Nn wr).alloc (.cells #[.int .u8 (b : Int)] 5)) (fun _ _ f => f)
           have hs : Rd (wr.alloc (.cells #[.int .u8 (b : Int)] 5)) (some ⟨wr.heap.size, 0, none⟩) 1 (bv [b]) := Rd.of_blk0 (Blk.new _ _ _) rfl
           have m1 : Mod Nn w (wr.alloc (.cells #[.int .u8 (b : Int)] 5)) := hm.alloc _
           rw [hb.out]
           go_must (refine wpList_append_rd 29 _ _ rfl rfl w.heap.size 5 (.int .u8 0) 1 1 Tryz.underlying29 info_u8 rfl (by omega) _ j _ rfl ho' _ 1 _ (bv [b]) rfl hs.toC (bv_one _) (by omega) (by omega) (by have := m1.size; exact this) ?_)
           intro v2 w2 o2 g2 b2
           rw [← bv_append, ← HT.out] at o2
           have M2 := m1.grown g2 (fun g hg => .inl (own_ge ho g hg))
           obtain ⟨A2, c2, rfl, _, _⟩ := own_form o2
           clear ho' hs m1 g2 b2 ho hm))
      exact ⟨⟨j + 1, by omega, by simp; omega, o2, M2⟩, by simp [intOf]; omega⟩
    · have hlt' : ¬ (0 : Int) ≤ (k : Int) - 1 - j := by omega
      have hjk : j = k := by omega
      subst hjk
      have HT := Lib.hid (show (num N j).take j = num N j from List.take_of_length_le (by rw [num_len]; exact Nat.le_refl _))
      rw [HT.out] at ho
      go_wp2
      go_ret
      exact ⟨_, rfl, ho, hm⟩
end
end Go.Proofs.YtijmkbhbpbkkoaaGreat
