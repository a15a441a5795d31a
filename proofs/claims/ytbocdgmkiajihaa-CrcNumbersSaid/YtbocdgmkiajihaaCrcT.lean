/- peatbanklaw02.CrcTables: the walk. -/
import Derived.Test.YtbocdgmkiajihaaCrcS
namespace Go.Proofs.Ytbocdgmkiajihaa
open Go.RowKit

set_option maxRecDepth 100000 in
set_option maxHeartbeats 1600000 in
theorem tables_any {w : World} (p s : BitVec 32) {A : Option Addr} {n c : Nat} {l : List Nat} (hr : Rd w A n (bv l)) (hl : ∀ z ∈ l, z < 256) :
    Calls Try.prog 4 #[.int .u32 (p.toNat : Int), .int .u32 (s.toNat : Int), .slice A n c] w fun r w' => r = .returned (.bool true) ∧ Mod Nn w w' := by
  have hL : l.length = n := by have := hr.1; simpa [bv] using this
  have HL := Lib.hid hL; clear hL
  by_cases hn : (50000 : Int) < n
  · go_enter Try.func4, Try.ntmps4
    go_wp2_with fail
    refine (crc_awake _).mono ?_
    rintro r w1 ⟨rfl, m1⟩
    go_wp2
    go_ret
    exact ⟨rfl, m1⟩
  · have hr0 : Rd w A n ((l.map (fun c : Nat => (c : Int))).map (Value.int .u8)) := by rw [bv_ints]; exact hr
    have hP := b_not p
    generalize hq : ~~~ p = q at *
    clear hq
    have HP := Lib.hid hP
    have hwl : ∀ g, Of A g → 0 < n → g < w.heap.size := fun g hg h0 => hr.in_ h0 hg
    have HWL := Lib.hid hwl; clear hwl
    go_enter Try.func4, Try.ntmps4
    go_wp2_with fail
    refine (new_any p _).mono ?_
    rintro r w1 ⟨b, rfl, ht1, m1, hb1⟩
    have HB := Lib.hid hb1; clear hb1
    have HBL := Lib.hid ht1.lt
    go_wp2_with fail
    clear hP
    refine (new_any q _).mono ?_
    rintro r w2 ⟨d, rfl, hu2, m2, hd⟩
    have HD := Lib.hid hd; clear hd
    have HDL := Lib.hid hu2.lt
    have ht2 := ht1.mod m2 (fun f => f)
    have M2 := m1.nn_ m2
    have HM := Lib.hid m2.size
    clear ht1 m1 m2
    have hr2 := hr0.mod M2 (fun _ _ f => f)
    go_wp2_with fail
    refine (lent_any hr2 (by omega)).mono ?_
    rintro r w3 ⟨g, rfl, hb3, m3, hg⟩
    have HG := Lib.hid hg; clear hg
    have M3 := M2.nn_ m3
    have hr3 := hr2.mod m3 (fun _ _ f => f)
    have ht3 := ht2.mod m3 (fun f => f)
    have hu3 := hu2.mod m3 (fun f => f)
    clear hr2 ht2 hu2 m3 M2
    generalize hX : (crcS p s l).toNat = X
    generalize hY : (crcS q s l).toNat = Y
    have HX := Lib.hid hX; have HY := Lib.hid hY; clear hX hY
    have hrb3 : Rd w3 A n (bv l) := by rw [← bv_ints]; exact hr3
    go_wp2_with fail
    refine (ref_of p s hrb3 hl (by omega)).mono ?_
    rintro r w4 ⟨rfl, rfl⟩
    rw [HX.out]
    have hA1 : ∀ k, Of (some ⟨g, 0, none⟩) k → 0 < n → k ≠ b := fun k hk _ e => by
      obtain ⟨a, ha, hk⟩ := hk; injection ha with ha; subst ha; subst hk
      have := HG.out; have := HBL.out; have := HM.out; simp only at e; omega
    have hA2 : ∀ k, Of (some ⟨g, 0, none⟩) k → 0 < n → k ≠ d := fun k hk _ e => by
      obtain ⟨a, ha, hk⟩ := hk; injection ha with ha; subst ha; subst hk
      have := HG.out; have := HDL.out; simp only at e; omega
    have HA1 := Lib.hid hA1; have HA2 := Lib.hid hA2; clear hA1 hA2
    have hbd : ¬ At b d := fun e => by have e : d = b := e; have := HBL.out; have := HD.out; omega
    have hdb : ¬ At d b := fun e => by have e : b = d := e; have := HBL.out; have := HD.out; omega
    have hgb : ¬ At b g := fun e => by have e : g = b := e; have := HG.out; have := HBL.out; have := HM.out; omega
    have hgd : ¬ At d g := fun e => by have e : g = d := e; have := HG.out; have := HDL.out; omega
    have HWb := Lib.hid (show w.heap.size ≤ b from HB.out)
    have HWd := Lib.hid (show w.heap.size ≤ d from by have := HB.out; have := HBL.out; have := HD.out; omega)
    have hAb : 0 < n → ∀ k, Of A k → ¬ At b k := fun h0 k hk e => by have e : k = b := e; have := HWL.out k hk h0; have := HWb.out; omega
    have hAd : 0 < n → ∀ k, Of A k → ¬ At d k := fun h0 k hk e => by have e : k = d := e; have := HWL.out k hk h0; have := HWd.out; omega
    have HH := Lib.hid (And.intro hbd (And.intro hdb (And.intro hgb (And.intro hgd (And.intro hAb hAd)))))
    clear hbd hdb hgb hgd hAb hAd
    go_wp2_with fail
    refine (add_any0 ht3 s (bv_take hb3 HL.out) HA1.out hl (by omega)).mono ?_
    rintro r w5 ⟨rfl, ht5, m5⟩
    rw [HX.out]
    have hu5 := hu3.mod m5 HH.out.1
    have hb5 := hb3.mod m5 HH.out.2.2.1
    have hr5 := hr3.mod0 m5 HH.out.2.2.2.2.1
    have M5 := M3.new_ m5 HWb.out
    clear ht3 hu3 hb3 hr3 hrb3 m5 M3
    go_wp2_with fail
    refine (add_any0 hu5 s (bv_take hb5 HL.out) HA2.out hl (by omega)).mono ?_
    rintro r w6 ⟨rfl, hu6, m6⟩
    rw [HY.out]
    have ht6 := ht5.mod m6 HH.out.2.1
    have hb6 := hb5.mod m6 HH.out.2.2.2.1
    have hr6 := hr5.mod0 m6 HH.out.2.2.2.2.2
    have M6 := M5.new_ m6 HWd.out
    clear ht5 hu5 hb5 hr5 m6 M5
    have hrb6 : Rd w6 A n (bv l) := by rw [← bv_ints]; exact hr6
    have hP := HP.out
    go_wp2_with fail
    clear hP
    refine (ref_of q s hrb6 hl (by omega)).mono ?_
    rintro r w7 ⟨rfl, rfl⟩
    rw [HY.out]
    go_wp2_with fail
    refine (add_any0 ht6 s (bv_take hb6 HL.out) HA1.out hl (by omega)).mono ?_
    rintro r w8 ⟨rfl, ht8, m8⟩
    rw [HX.out]
    have hb8 := hb6.mod m8 HH.out.2.2.1
    have hr8 := hr6.mod0 m8 HH.out.2.2.2.2.1
    have M8 := M6.new_ m8 HWb.out
    clear ht6 hu6 hb6 hr6 hrb6 m8 M6 ht8
    go_wp2_with fail
    refine (kept_any hr8 hb8 (by omega)).mono ?_
    rintro r w9 ⟨rfl, m9⟩
    go_wp2_with fail
    refine (crc_awake _).mono ?_
    rintro r wa ⟨rfl, ma⟩
    have MA : Mod Nn w wa := (M8.nn_ m9).nn_ ma
    go_wp2
    go_ret
    exact ⟨rfl, MA⟩
end Go.Proofs.Ytbocdgmkiajihaa
