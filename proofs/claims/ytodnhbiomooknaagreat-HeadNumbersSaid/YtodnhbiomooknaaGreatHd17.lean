/- heads in plain words: a bit turned. -/
import Derived.Test.YtodnhbiomooknaaGreatHd14
import Derived.Test.YtodnhbiomooknaaGreatFr2
import Derived.Test.YtodnhbiomooknaaGreatKitB
namespace Go.Proofs.YtodnhbiomooknaaGreat
open Go.RowKit

theorem hxor_u8 (c d : Nat) (hc : c < 256) (hd : d < 256) : bits .xor .u8 (c : Int) (d : Int) = ((c ^^^ d : Nat) : Int) := by
  show IntKind.u8.wrap ((BitVec.ofInt 8 (c : Int) ^^^ BitVec.ofInt 8 (d : Int)).toNat : Int) = _
  have := xor8_lt c d hc hd
  rw [BitVec.ofInt_natCast, BitVec.ofInt_natCast, BitVec.toNat_xor, BitVec.toNat_ofNat, BitVec.toNat_ofNat, Nat.mod_eq_of_lt (show c < 2 ^ 8 by omega), Nat.mod_eq_of_lt (show d < 2 ^ 8 by omega), IntKind.wrap_u8]
  omega
theorem hbv_set (l : List Nat) (i z : Nat) : (bv l).set i (.int .u8 (z : Int)) = bv (l.set i z) := by unfold bv; rw [List.map_set]
theorem hd_long (h : Hd) : (h.fr.bytes.drop 24).take 4 = num 32 4 := by
  have := h.fr.long_at []
  rw [List.append_nil] at this
  rw [this]
  show num h.data.length 4 = _
  rw [h.data_len]
/-- a bit turned, whichever -/
theorem Hd.turned {h : Hd} (hr : h.right) (i s : Nat) (hi : i < 512) (hs : s < 8) : ¬ HoldsH (h.fr.bytes.set i (h.fr.bytes.getD i 0 ^^^ 2 ^ s)) := by
  by_cases ho : i < 24 ∨ 28 ≤ i
  · exact fun e => h.fr.turned (Hd.fr_ok hr) h.data_lt i s (by rw [h.bytes_len]; exact hi) hs ho e.2.1
  · intro e
    have e5 := e.2.2.2.2
    have hl := hd_long (hdOf (h.fr.bytes.set i (h.fr.bytes.getD i 0 ^^^ 2 ^ s)))
    rw [e5, ← hd_long h] at hl
    have hg := congrArg (fun l => l.getD (i - 24) 0) hl
    simp only [List.getD_eq_getElem?_getD] at hg
    rw [List.getElem?_take_of_lt (by omega), List.getElem?_take_of_lt (by omega), List.getElem?_drop, List.getElem?_drop, show 24 + (i - 24) = i from by omega, List.getElem?_set_self (by rw [h.bytes_len]; exact hi)] at hg
    simp only [Option.getD_some] at hg
    have h2 : 2 ^ s = 0 := by
      have := congrArg (fun y => (h.fr.bytes[i]?.getD 0) ^^^ y) hg
      simp [← Nat.xor_assoc, Nat.xor_self] at this
    have := Nat.two_pow_pos s
    omega
theorem hget_turned {h : Hd} (hr : h.right) (i s z : Nat) (hi : i < 512) (hs : s < 8) (hz : h.fr.bytes[i]? = some z) : HGet (h.fr.bytes.set i (z ^^^ 2 ^ s)) hd0 4 := by
  have hzz : z = h.fr.bytes.getD i 0 := by rw [List.getD_eq_getElem?_getD, hz]; rfl
  rw [hzz]
  exact .inr ⟨Hd.turned hr i s hi hs, rfl, rfl⟩
section
variable {w : World}
/-- a right head's bytes, as Put tells them -/
theorem hput_own {h : Hd} (hr : h.right) (w : World) : Calls Tryz.prog 5 #[.agg (hC h)] w fun r w' => ∃ g c, r = .returned (.tuple #[.slice (some ⟨g, 0, none⟩) 512 c, .int .i64 0]) ∧ w'.ownsRow w.heap.size 5 1 (.slice (some ⟨g, 0, none⟩) 512 c) 512 (bv h.fr.bytes) ∧ 512 ≤ c ∧ c ≤ maxLen ∧ w.heap.size ≤ g ∧ Mod Nn w w' := by
  refine (hput_any h w).mono ?_
  rintro r w' ⟨A, c, h1, h2, h3⟩
  rw [show herr h = 0 from if_pos hr] at h1
  rw [show hbytes h = h.fr.bytes from if_pos hr, h.bytes_len] at h1 h2
  obtain ⟨g, cap, cur, hv, hb, _, h4, h5, _, _⟩ := own_blk h2 (by omega)
  injection hv with e1 e2 e3
  subst e1; subst e3
  exact ⟨g, c, h1, h2, h4, h5, hb, h3⟩
theorem hput_right {h : Hd} (hr : h.right) (w : World) : Calls Tryz.prog 5 #[.agg (hC h)] w fun r w' => ∃ g c, r = .returned (.tuple #[.slice (some ⟨g, 0, none⟩) 512 c, .int .i64 0]) ∧ Rd w' (some ⟨g, 0, none⟩) 512 (bv h.fr.bytes) ∧ 512 ≤ c ∧ c ≤ maxLen ∧ Mod Nn w w' :=
  (hput_own hr w).mono fun r w' ⟨g, c, h1, h2, h3, h4, _, h6⟩ => ⟨g, c, h1, Rd.of_own h2, h3, h4, h6⟩
theorem hput_wrong {h : Hd} (hr : ¬ h.right) (w : World) : Calls Tryz.prog 5 #[.agg (hC h)] w fun r w' => ∃ v, r = .returned (.tuple #[v, .int .i64 2]) ∧ Mod Nn w w' := by
  refine (hput_any h w).mono ?_
  rintro r w' ⟨A, c, h1, h2, h3⟩
  rw [show herr h = 2 from if_neg hr] at h1
  exact ⟨_, h1, h3⟩
theorem not_cut {h : Hd} : HGet (h.fr.bytes.take 511) hd0 4 := .inr ⟨fun e => by have := e.1; rw [List.length_take, h.bytes_len] at this; omega, rfl, rfl⟩
end
end Go.Proofs.YtodnhbiomooknaaGreat
