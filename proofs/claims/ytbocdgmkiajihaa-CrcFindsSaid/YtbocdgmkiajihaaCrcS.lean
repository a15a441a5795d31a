/- peatbanklaw02.CrcSums: the walk. -/
import Derived.Test.YtbocdgmkiajihaaCrc6
import Derived.Test.YtbocdgmkiajihaaBytes2
namespace Go.Proofs.Ytbocdgmkiajihaa
open Go.RowKit

theorem bv_ints (l : List Nat) : (l.map (fun c : Nat => (c : Int))).map (Value.int .u8) = bv l := by unfold bv; rw [List.map_map]; rfl
theorem bv_take {w : World} {g n : Nat} {t : TypeId} {l : List Nat} {ys : List Int} (h : Blk w g t ((l.map (fun c : Nat => (c : Int)) ++ ys).map (Value.int .u8)).toArray) (hl : l.length = n) : Rd w (some ⟨g, 0, none⟩) n (bv l) :=
  Rd.of_blk h 0 (by simpa [bv] using hl) (fun j v hv => by
    rw [List.getElem?_toArray, Nat.zero_add, List.map_append, bv_ints, List.getElem?_append_left (List.getElem?_eq_some_iff.1 hv).1]; exact hv)

set_option maxRecDepth 100000 in
set_option maxHeartbeats 1600000 in
theorem sums_any {w : World} (s : BitVec 32) {A : Option Addr} {n c : Nat} {l : List Nat} (hr : Rd w A n (bv l)) (hl : ∀ z ∈ l, z < 256) :
    Calls Try.prog 3 #[.int .u32 (s.toNat : Int), .slice A n c] w fun r w' => r = .returned (.bool true) ∧ Mod Nn w w' := by
  have hL : l.length = n := by have := hr.1; simpa [bv] using this
  have HL := Lib.hid hL; clear hL
  by_cases hn : (50000 : Int) < n
  · go_enter Try.func3, Try.ntmps3
    go_wp2_with fail
    refine (crc_awake _).mono ?_
    rintro r w1 ⟨rfl, m1⟩
    go_wp2
    go_ret
    exact ⟨rfl, m1⟩
  · have hr0 : Rd w A n ((l.map (fun c : Nat => (c : Int))).map (Value.int .u8)) := by rw [bv_ints]; exact hr
    go_enter Try.func3, Try.ntmps3
    go_wp2_with fail
    refine (lent_any hr0 (by omega)).mono ?_
    rintro r w1 ⟨g, rfl, hb1, m1, hg⟩
    have HG := Lib.hid hg; clear hg
    have ri1 := bv_take hb1 HL.out
    have hr1 := hr.mod m1 (fun _ _ f => f)
    generalize hX : (crcS cas 0#32 l).toNat = X
    generalize hY : (crcS cas s l).toNat = Y
    have HX := Lib.hid hX; have HY := Lib.hid hY; clear hX hY
    go_wp2_with fail
    refine (crc_sum ri1 hl (by omega)).mono ?_
    rintro r w2 ⟨rfl, m2⟩
    rw [HX.out]
    go_wp2_with fail
    refine (ref_sum (hr1.mod m2 (fun _ _ f => f)) hl (by omega)).mono ?_
    rintro r w3 ⟨rfl, rfl⟩
    rw [HX.out]
    go_wp2_with fail
    refine (crc_add s (ri1.mod m2 (fun _ _ f => f)) hl (by omega)).mono ?_
    rintro r w3 ⟨rfl, m3⟩
    rw [HY.out]
    go_wp2_with fail
    refine (ref_add s ((hr1.mod m2 (fun _ _ f => f)).mod m3 (fun _ _ f => f)) hl (by omega)).mono ?_
    rintro r w4 ⟨rfl, rfl⟩
    rw [HY.out]
    go_wp2_with fail
    refine (kept_any ((hr0.mod m1 (fun _ _ f => f)).mod (m2.nn_ m3) (fun _ _ f => f)) (hb1.mod (m2.nn_ m3) (fun f => f)) (by omega)).mono ?_
    rintro r w5 ⟨rfl, m5⟩
    go_wp2_with fail
    refine (crc_awake _).mono ?_
    rintro r w6 ⟨rfl, m6⟩
    have M6 : Mod Nn w w6 := (((m1.nn_ m2).nn_ m3).nn_ m5).nn_ m6
    go_wp2
    go_ret
    exact ⟨rfl, M6⟩
end Go.Proofs.Ytbocdgmkiajihaa
