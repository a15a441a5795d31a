/- peatbanklaw08.DevNumbers: the walk. -/
import Derived.Test.YtgmkibckbbbhkaaDevF
namespace Go.Proofs.Ytgmkibckbbbhkaa
open Go.RowKit

def no : Int → Option (List Int) := fun _ => none
def one (k : Int) (l : List Int) : Int → Option (List Int) := fun j => if j = k then some l else none
theorem wake_nil (n a : Int) (s o : Int → Option (List Int)) (d : Bool) : (⟨n, s, o, a, d⟩ : Dk).wake [] = ⟨n, s, no, 0, false⟩ := by
  simp [Dk.wake]; rfl
theorem zsec_made : Array.replicate 512 (Value.int .u8 0) = (zsec.map (Value.int .u8)).toArray := by
  unfold zsec; simp only [List.map_replicate]; exact (List.toArray_replicate 512 _).symm
theorem made_z (n : Nat) : Array.replicate n (Value.int .u8 0) = ((List.replicate n (0 : Int)).map (Value.int .u8)).toArray := by
  simp only [List.map_replicate]; exact (List.toArray_replicate n _).symm

set_option maxRecDepth 100000 in
set_option maxHeartbeats 8000000 in
theorem numbers_any (w : World) : Calls Try.prog 4 #[] w fun e w' => e = .returned (.bool true) ∧ Mod Nn w w' := by
  go_enter Try.func4, Try.ntmps4
  go_wp2_with fail
  refine (new_none (-1) _ (.inl (by omega))).mono ?_
  rintro e w1 ⟨rfl, rfl⟩
  go_wp2_with fail
  refine (new_none 262145 _ (.inr (by omega))).mono ?_
  rintro e w1 ⟨rfl, rfl⟩
  go_wp2_with fail
  refine (o_new (Mod.refl Nn w) 262144 (by omega) (by omega)).mono ?_
  rintro e w1 ⟨b, ms, mo, rfl, h1⟩
  go_wp2_with fail
  refine (sectors_any h1.at_).mono ?_
  rintro e w2 ⟨rfl, rfl⟩
  rw [show (Dk.new 262144).n = 262144 from rfl]
  go_wp2_with fail
  refine (o_full h1 9 (by omega) (by omega)).mono ?_
  rintro e w2 ⟨g2, rfl, r2, h2, m2⟩
  clear h1
  go_wp2_with fail
  refine (o_write h2 262143 r2 (r := 0) (D' := ⟨262144, no, one 262143 (fullL 9), 0, false⟩) (by rw [write_eq (fullL_len _)]; rfl)).mono ?_
  rintro e w3 ⟨rfl, h3⟩
  clear h2 r2 m2
  go_wp2_with fail
  refine (o_full h3 9 (by omega) (by omega)).mono ?_
  rintro e w4 ⟨g4, rfl, r4, h4, m4⟩
  go_wp2_with fail
  refine (o_write h4 262144 r4 (r := 6) (D' := ⟨262144, no, one 262143 (fullL 9), 0, false⟩) (by rw [write_eq (fullL_len _)]; rfl)).mono ?_
  rintro e w5 ⟨rfl, h5⟩
  clear h4 h3 r4 m4
  go_wp2_with fail
  refine (o_full h5 9 (by omega) (by omega)).mono ?_
  rintro e w6 ⟨g6, rfl, r6, h6, m6⟩
  go_wp2_with fail
  refine (o_write h6 (-1) r6 (r := 6) (D' := ⟨262144, no, one 262143 (fullL 9), 0, false⟩) (by rw [write_eq (fullL_len _)]; rfl)).mono ?_
  rintro e w7 ⟨rfl, h7⟩
  clear h6 h5 r6 m6
  go_wp2_with (first
    | (with_reducible change wpList _ _ _ (⟨_, Op.makeSlice _ _ _, _, _, _, _⟩ :: _) _ _
       go_must (refine wpList_make1 35 _ _ rfl rfl 5 (.int .u8 0) 1 Try.underlying35 info_byte rfl 513 513 513 513 rfl rfl rfl rfl (by omega) (by omega) (by omega) ?_)
       intro w8 b8 m8 z8
       clear z8
       rw [made_z] at b8))
  refine (o_write (h7.quiet m8) 0 (Rd.of_blk0 b8 (n := 513) (by simp only [List.length_map, List.length_replicate])) (r := 2) (D' := ⟨262144, no, one 262143 (fullL 9), 0, false⟩) (by rw [write_ne (by rw [List.length_replicate]; omega)]; rfl)).mono ?_
  rintro e w9 ⟨rfl, h9⟩
  have M9 := h9.md
  clear h7 m8 b8 h9
  go_wp2_with fail
  refine (o_new M9 1 (by omega) (by omega)).mono ?_
  rintro e w10 ⟨b, ms, mo, rfl, h10⟩
  clear M9
  go_wp2_with fail
  refine (o_arm h10 2 (by omega) (D' := ⟨1, no, no, 2, false⟩) rfl).mono ?_
  rintro e w11 ⟨rfl, h11⟩
  clear h10
  go_wp2_with fail
  refine (o_full h11 1 (by omega) (by omega)).mono ?_
  rintro e w12 ⟨g12, rfl, r12, h12, m12⟩
  go_wp2_with fail
  refine (o_write h12 0 r12 (r := 0) (D' := ⟨1, no, one 0 (fullL 1), 1, false⟩) (by rw [write_eq (fullL_len _)]; rfl)).mono ?_
  rintro e w13 ⟨rfl, h13⟩
  clear h12 h11 r12 m12
  go_wp2_with fail
  refine (o_sync h13 (r := 9) (D' := ⟨1, no, one 0 (fullL 1), 0, true⟩) rfl).mono ?_
  rintro e w14 ⟨rfl, h14⟩
  clear h13
  go_wp2_with fail
  refine (o_read h14 0 (r := 9) (l := []) (n := 0) rfl rfl rfl).mono ?_
  rintro e w15 ⟨A15, c15, rfl, r15, h15, m15, -⟩
  clear h14 r15 m15
  go_wp2_with fail
  refine (o_arm h15 5 (by omega) (D' := ⟨1, no, one 0 (fullL 1), 0, true⟩) rfl).mono ?_
  rintro e w16 ⟨rfl, h16⟩
  clear h15
  go_wp2_with fail
  refine (o_wake0 h16 (wake_nil _ _ _ _ _)).mono ?_
  rintro e w17 ⟨rfl, h17⟩
  clear h16
  go_wp2_with fail
  refine (o_read h17 0 (r := 0) (l := zsec) (n := 512) rfl rfl zsec_len).mono ?_
  rintro e w18 ⟨A18, c18, rfl, r18, h18, m18, -⟩
  clear h17 m18
  go_wp2_with (first
    | (with_reducible change wpList _ _ _ (⟨_, Op.makeSlice _ _ _, _, _, _, _⟩ :: _) _ _
       go_must (refine wpList_make1 35 _ _ rfl rfl 5 (.int .u8 0) 1 Try.underlying35 info_byte rfl 512 512 512 512 rfl rfl rfl rfl (by omega) (by omega) (by omega) ?_)
       intro w19 b19 m19 z19
       clear z19
       rw [zsec_made] at b19))
  refine (o_same (h18.quiet m19) (r18.mod m19 (fun _ _ f => f)) (Rd.of_blk0 b19 (n := 512) (by simp only [List.length_map, zsec_len])) (by omega) (by omega) (r := true) (decide_eq_true rfl)).mono ?_
  rintro e w20 ⟨rfl, h20, m20⟩
  clear h18 m19 b19 r18 m20
  go_wp2_with fail
  refine (down_any h20.at_).mono ?_
  rintro e w21 ⟨rfl, rfl⟩
  go_wp2_with fail
  refine (o_arm h20 1 (by omega) (D' := ⟨1, no, no, 1, false⟩) rfl).mono ?_
  rintro e w21 ⟨rfl, h21⟩
  clear h20
  go_wp2_with fail
  refine (o_full h21 1 (by omega) (by omega)).mono ?_
  rintro e w22 ⟨g22, rfl, r22, h22, m22⟩
  go_wp2_with fail
  refine (o_write h22 1 r22 (r := 6) (D' := ⟨1, no, no, 1, false⟩) (by rw [write_eq (fullL_len _)]; rfl)).mono ?_
  rintro e w23 ⟨rfl, h23⟩
  clear h22 h21 r22 m22
  go_wp2_with fail
  refine (o_write h23 0 (n := 0) (bs := []) (Rd.nil _ _) (r := 2) (D' := ⟨1, no, no, 1, false⟩) rfl).mono ?_
  rintro e w24 ⟨rfl, h24⟩
  clear h23
  go_wp2_with fail
  refine (o_full h24 1 (by omega) (by omega)).mono ?_
  rintro e w25 ⟨g25, rfl, r25, h25, m25⟩
  go_wp2_with fail
  refine (o_write h25 0 r25 (r := 9) (D' := ⟨1, no, one 0 (fullL 1), 0, true⟩) (by rw [write_eq (fullL_len _)]; rfl)).mono ?_
  rintro e w26 ⟨rfl, h26⟩
  clear h25 h24 r25 m25
  go_wp2_with fail
  refine (down_any h26.at_).mono ?_
  rintro e w27 ⟨rfl, rfl⟩
  go_wp2_with fail
  refine (o_full h26 2 (by omega) (by omega)).mono ?_
  rintro e w27 ⟨g27, rfl, r27, h27, m27⟩
  go_wp2_with fail
  refine (o_write h27 0 r27 (r := 9) (D' := ⟨1, no, one 0 (fullL 1), 0, true⟩) (by rw [write_eq (fullL_len _)]; rfl)).mono ?_
  rintro e w28 ⟨rfl, h28⟩
  clear h27 h26 r27 m27
  go_wp2_with fail
  refine (o_sync h28 (r := 9) (D' := ⟨1, no, one 0 (fullL 1), 0, true⟩) rfl).mono ?_
  rintro e w29 ⟨rfl, h29⟩
  clear h28
  go_wp2_with fail
  refine (o_write h29 7 (n := 0) (bs := []) (Rd.nil _ _) (r := 9) (D' := ⟨1, no, one 0 (fullL 1), 0, true⟩) rfl).mono ?_
  rintro e w30 ⟨rfl, h30⟩
  clear h29
  go_wp2_with fail
  have hbf : Blk (w30.alloc (.cells #[.int .i64 3, .int .i64 0, .int .i64 (-1)] 39)) w30.heap.size 39 ([3, 0, -1].map (Value.int .i64)).toArray := Blk.new _ _ _
  have hlt := h30.at_.lt
  refine (o_wake (fs := [3, 0, -1]) (h30.alloc _) (n := 3) (Rd.of_blk0 hbf rfl) ?_ (by omega) rfl).mono ?_
  · rintro - g ⟨a, ha, rfl⟩ hin
    injection ha with ha; subst ha
    have := hlt _ hin; simp at this
  rintro e w31 ⟨rfl, h31⟩
  clear h30 hbf hlt
  go_wp2_with fail
  refine (o_read h31 0 (r := 0) (l := fullL 1) (n := 512) rfl rfl (fullL_len _)).mono ?_
  rintro e w32 ⟨A32, c32, rfl, r32, h32, m32, n32⟩
  clear h31 m32
  go_wp2_with fail
  refine (arm_any h32.at_ 1 (by omega)).mono ?_
  rintro e w33 ⟨rfl, d33, m33, -⟩
  have r33 : Rd w33 A32 512 ((fullL 1).map (Value.int .u8))  := r32.mod m33 (fun g hg e => n32 g hg (.inl e))
  have h33 := h32.step d33 (m33.mono (fun _ _ e => .inl e))
  clear h32 d33 m33 r32
  go_wp2_with fail
  refine (arm_any h33.at_ 0 (by omega)).mono ?_
  rintro e w34 ⟨rfl, d34, m34, -⟩
  have r34 : Rd w34 A32 512 ((fullL 1).map (Value.int .u8)) := r33.mod m34 (fun g hg e => n32 g hg (.inl e))
  have h34 := h33.step d34 (m34.mono (fun _ _ e => .inl e))
  clear h33 d34 m34 r33
  go_wp2_with fail
  refine (o_full h34 1 (by omega) (by omega)).mono ?_
  rintro e w35 ⟨g35, rfl, r35, h35, m35⟩
  go_wp2_with fail
  refine (o_same h35 (r34.mod m35 (fun _ _ f => f)) r35 (by omega) (by omega) (r := true) (decide_eq_true rfl)).mono ?_
  rintro e w36 ⟨rfl, h36, m36⟩
  clear h34 r34 h35 r35 m35 m36
  go_wp2_with fail
  refine (sync_any h36.at_).mono ?_
  rintro e w37 ⟨rfl, d37, m37⟩
  have h37 := h36.step d37 m37
  rw [sync_up rfl rfl (by decide)]
  go_wp2_with fail
  refine (fates_any _).mono ?_
  rintro e w38 ⟨rfl, m38⟩
  go_wp2_with fail
  refine (awake_any _).mono ?_
  rintro e w39 ⟨rfl, m39⟩
  go_wp2
  go_ret
  exact ⟨rfl, (h37.md.nn_ m38).nn_ m39⟩
end Go.Proofs.Ytgmkibckbbbhkaa
