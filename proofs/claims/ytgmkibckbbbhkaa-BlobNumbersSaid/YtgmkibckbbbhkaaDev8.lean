/- peatbanklaw08: awake. -/
import Derived.Test.YtgmkibckbbbhkaaDev7
namespace Go.Proofs.Ytgmkibckbbbhkaa
open Go.RowKit

def aw1 : Dk := (Dk.new 2).put 0 (fullL 1)
def aw2 : Dk := (aw1.put 1 (fullL 1)).flush
def aw3 : Dk := (aw2.put 0 (fullL 50)).put 1 (fullL 50)
def aw4 : Dk := aw3.wake [1]

set_option maxRecDepth 100000 in
set_option maxHeartbeats 1600000 in
theorem awake_any (w : World) : Calls Try.prog 18 #[] w fun e w' => e = .returned (.bool true) ∧ Mod Nn w w' := by
  go_enter Try.func18, Try.ntmps18
  go_wp2_with fail
  refine (new_any 2 _ (by omega) (by omega)).mono ?_
  rintro e w1 ⟨b, ms, mo, rfl, hd1, m1, hfr⟩
  have HFR := Lib.hid hfr; clear hfr
  go_wp2_with fail
  refine (full_any 1 _ (by omega) (by omega)).mono ?_
  rintro e w2 ⟨g2, rfl, hb2, hg2, m2⟩
  go_wp2_with fail
  refine (write_any (hd1.mod m2 (fun _ _ f => f)) 0 (Rd.of_blk0 hb2 (by simp [fullL_len]))).mono ?_
  rintro e w3 ⟨rfl, hd3, m3, -⟩
  rw [write_up rfl rfl (by omega) (by decide) (fullL_len _)] at hd3 ⊢
  have M3 : Mod Nn w w3 := ((m1.nn_ m2).then_ m3 (fun k hk hin => by have := HFR.out k hin; omega))
  clear m1 m2 m3 hd1
  go_wp2_with fail
  refine (full_any 1 _ (by omega) (by omega)).mono ?_
  rintro e w4 ⟨g4, rfl, hb4, hg4, m4⟩
  go_wp2_with fail
  refine (write_any (hd3.mod m4 (fun _ _ f => f)) 1 (Rd.of_blk0 hb4 (by simp [fullL_len]))).mono ?_
  rintro e w5 ⟨rfl, hd5, m5, -⟩
  rw [write_up rfl rfl (by omega) (by decide) (fullL_len _)] at hd5 ⊢
  have M5 : Mod Nn w w5 := ((M3.nn_ m4).then_ m5 (fun k hk hin => by have := HFR.out k hin; omega))
  clear M3 m4 m5 hd3
  go_wp2_with fail
  refine (sync_any hd5).mono ?_
  rintro e w6 ⟨rfl, hd6, m6⟩
  rw [sync_up rfl rfl (by decide)] at hd6 ⊢
  have M6 : Mod Nn w w6 := (M5.then_ m6 (fun k hk hin => by have := HFR.out k hin; omega))
  clear M5 m6 hd5
  go_wp2_with fail
  refine (full_any 50 _ (by omega) (by omega)).mono ?_
  rintro e w7 ⟨g7, rfl, hb7, hg7, m7⟩
  go_wp2_with fail
  refine (write_any (hd6.mod m7 (fun _ _ f => f)) 0 (Rd.of_blk0 hb7 (by simp [fullL_len]))).mono ?_
  rintro e w8 ⟨rfl, hd8, m8, -⟩
  rw [write_up rfl rfl (by omega) (by decide) (fullL_len _)] at hd8 ⊢
  have M8 : Mod Nn w w8 := ((M6.nn_ m7).then_ m8 (fun k hk hin => by have := HFR.out k hin; omega))
  clear M6 m7 m8 hd6
  go_wp2_with fail
  refine (full_any 50 _ (by omega) (by omega)).mono ?_
  rintro e w9 ⟨g9, rfl, hb9, hg9, m9⟩
  go_wp2_with fail
  refine (write_any (hd8.mod m9 (fun _ _ f => f)) 1 (Rd.of_blk0 hb9 (by simp [fullL_len]))).mono ?_
  rintro e w10 ⟨rfl, hd10, m10, -⟩
  rw [write_up rfl rfl (by omega) (by decide) (fullL_len _)] at hd10 ⊢
  have M10 : Mod Nn w w10 := ((M8.nn_ m9).then_ m10 (fun k hk hin => by have := HFR.out k hin; omega))
  clear M8 m9 m10 hd8 hb2 hb4 hb7 hb9 hg2 hg4 hg7 hg9
  go_wp2_with fail
  have hbf : Blk (w10.alloc (.cells #[.int .i64 1] 39)) w10.heap.size 39 ([1].map (Value.int .i64)).toArray := Blk.new _ _ _
  have hlt := hd10.lt
  refine (wake_any (fs := [1]) (hd10.alloc _) (n := 1) (Rd.of_blk0 hbf rfl) ?_ (by omega)).mono ?_
  · rintro - g ⟨a, ha, rfl⟩ hin
    injection ha with ha; subst ha
    have := hlt _ hin; simp at this
  rintro e w11 ⟨rfl, hd11, m11⟩
  have M11 : Mod Nn w w11 := ((M10.alloc _).then_ m11 (fun k hk hin => by have := HFR.out k hin; omega))
  clear M10 m11 hbf hlt hd10
  go_wp2_with fail
  refine (read_any hd11 0).mono ?_
  rintro e w12 ⟨va, rfl, hva, m12⟩
  go_wp2_with fail
  refine (read_any (hd11.mod m12 (fun _ _ f => f)) 1).mono ?_
  rintro e w13 ⟨vb, rfl, hvb, m13⟩
  have r0 : (((((((Dk.new 2).put 0 (fullL 1)).put 1 (fullL 1)).flush.put 0 (fullL 50)).put 1 (fullL 50)).wake [1])).read 0 = fullL 1 := by simp [Dk.read, Dk.may, Dk.latest, Dk.wake, Dk.put, Dk.flush, Dk.new]
  have r1 : (((((((Dk.new 2).put 0 (fullL 1)).put 1 (fullL 1)).flush.put 0 (fullL 50)).put 1 (fullL 50)).wake [1])).read 1 = fullL 50 := by simp [Dk.read, Dk.may, Dk.latest, Dk.wake, Dk.put, Dk.flush, Dk.new]
  have e0 : (((((((Dk.new 2).put 0 (fullL 1)).put 1 (fullL 1)).flush.put 0 (fullL 50)).put 1 (fullL 50)).wake [1])).may 0 = 0 := by simp [Dk.may, Dk.wake, Dk.put, Dk.flush, Dk.new]
  have e1 : (((((((Dk.new 2).put 0 (fullL 1)).put 1 (fullL 1)).flush.put 0 (fullL 50)).put 1 (fullL 50)).wake [1])).may 1 = 0 := by simp [Dk.may, Dk.wake, Dk.put, Dk.flush, Dk.new]
  have en : (((((((Dk.new 2).put 0 (fullL 1)).put 1 (fullL 1)).flush.put 0 (fullL 50)).put 1 (fullL 50)).wake [1])).n = 2 := rfl
  have ew : ((((((((Dk.new 2).put 0 (fullL 1)).put 1 (fullL 1)).flush.put 0 (fullL 50)).put 1 (fullL 50)).wake [1])).write 0 []).1 = 2 := by simp [Dk.write, Dk.may, Dk.wake, Dk.put, Dk.flush, Dk.new]
  rw [r0, fullL_len] at hva
  rw [r1, fullL_len] at hvb
  rw [e1]
  generalize (((((((Dk.new 2).put 0 (fullL 1)).put 1 (fullL 1)).flush.put 0 (fullL 50)).put 1 (fullL 50)).wake [1])) = D at *
  have E0 := Lib.hid e0; have EN := Lib.hid en; have EW := Lib.hid ew
  clear r0 r1 e0 e1 en ew
  obtain ⟨A, ca, rfl, hra, hoa⟩ := own_rd hva
  obtain ⟨B, cb, rfl, hrb, hob⟩ := own_rd hvb
  have hra := hra.mod m13 (fun _ _ f => f)
  have M13 := (M11.nn_ m12).nn_ m13
  have hd13 := (hd11.mod m12 (fun _ _ f => f)).mod m13 (fun _ _ f => f)
  clear m12 m13 M11 hd11 hva hvb hoa hob
  go_wp2_with fail
  refine (full_any 1 _ (by omega) (by omega)).mono ?_
  rintro e w14 ⟨g14, rfl, hb14, hg14, m14⟩
  go_wp2_with fail
  refine (same_any (hra.mod m14 (fun _ _ f => f)) (Rd.of_blk0 hb14 (n := 512) (by simp [fullL_len])) (by omega) (by omega)).mono ?_
  rintro e w15 ⟨rfl, m15⟩
  rw [decide_eq_true (rfl : fullL 1 = fullL 1)]
  go_wp2_with fail
  refine (full_any 50 _ (by omega) (by omega)).mono ?_
  rintro e w16 ⟨g16, rfl, hb16, hg16, m16⟩
  go_wp2_with fail
  refine (same_any (((hrb.mod m14 (fun _ _ f => f)).mod m15 (fun _ _ f => f)).mod m16 (fun _ _ f => f)) (Rd.of_blk0 hb16 (n := 512) (by simp [fullL_len])) (by omega) (by omega)).mono ?_
  rintro e w17 ⟨rfl, m17⟩
  rw [decide_eq_true (rfl : fullL 50 = fullL 50)]
  go_wp2_with fail
  have M17 := (((M13.nn_ m14).nn_ m15).nn_ m16).nn_ m17
  have hd17 := (((hd13.mod m14 (fun _ _ f => f)).mod m15 (fun _ _ f => f)).mod m16 (fun _ _ f => f)).mod m17 (fun _ _ f => f)
  clear m14 m15 m16 m17 hd13 M13 hb14 hb16 hg14 hg16
  refine (sectors_any hd17).mono ?_
  rintro e w18 ⟨rfl, rfl⟩
  rw [EN.out]
  go_wp2_with fail
  refine (new_none 0 _ (.inl (by omega))).mono ?_
  rintro e w18 ⟨rfl, rfl⟩
  go_wp2_with fail
  refine (write_any hd17 0 (A := none) (n := 0) (bs := []) (Rd.nil _ _)).mono ?_
  rintro e w18 ⟨rfl, -, m18, -⟩
  rw [EW.out]
  go_wp2
  go_ret
  exact ⟨rfl, M17.then_ m18 (fun k hk hin => by have := HFR.out k hin; omega)⟩
end Go.Proofs.Ytgmkibckbbbhkaa
