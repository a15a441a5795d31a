/- Own lemmas of several kinds, put together: FrP, FrQ. -/
import Derived.Test.YtijmkbhbpbkkoaaGreatFrE
import Derived.Test.YtijmkbhbpbkkoaaGreatCrc5
/- frame.Put: the walk. -/
namespace Go.Proofs.YtijmkbhbpbkkoaaGreat
open Go.RowKit

theorem fmay_yes (n : Int) (w : World) (h0 : 0 ≤ n) (h1 : n ≤ 1099511627776) : Calls Tryz.prog 50 #[.int .i64 n] w fun e w' => e = .returned (.bool true) ∧ w = w' := by
  have := fmay_any n w
  rwa [decide_eq_true ⟨h0, h1⟩] at this
theorem fmay_no (n : Int) (w : World) (h : n < 0 ∨ 1099511627776 < n) : Calls Tryz.prog 50 #[.int .i64 n] w fun e w' => e = .returned (.bool false) ∧ w = w' := by
  have := fmay_any n w
  rwa [decide_eq_false (fun h' => by omega)] at this
/-- a frame's value -/
def frV (k e s : Int) (A : Option Addr) (n c : Nat) : Value := .agg #[.int .i64 k, .int .i64 e, .int .i64 s, .slice A n c]
section
variable {w : World} {A : Option Addr} {n c : Nat} {D : List Nat}
set_option maxRecDepth 100000 in
set_option maxHeartbeats 1600000 in
theorem fput_arg (k e s : Int) (A : Option Addr) (n c : Nat) (w : World) (h : k < 0 ∨ 255 < k ∨ e < 0 ∨ 1099511627776 < e ∨ s < 0 ∨ 1099511627776 < s) :
    Calls Tryz.prog 33 #[frV k e s A n c] w fun r w' => r = .returned (.tuple #[.slice none 0 0, .int .i64 2]) ∧ Mod Nn w w' := by
  unfold frV
  have M : Mod Nn w (w.alloc (.cells #[.int .i64 k, .int .i64 e, .int .i64 s, .slice A n c] 76)) := (Mod.refl Nn w).alloc _
  have HM := Lib.hid M; clear M
  by_cases h1 : k < 0
  · go_enter Tryz.func33, Tryz.ntmps33
    go_wp2
    go_ret2
    exact ⟨rfl, HM.out⟩
  by_cases h2 : 255 < k
  · go_enter Tryz.func33, Tryz.ntmps33
    go_wp2
    go_ret2
    exact ⟨rfl, HM.out⟩
  have h2' : ¬ k > 255 := by omega
  by_cases h3 : e < 0 ∨ 1099511627776 < e
  · clear h
    go_enter Tryz.func33, Tryz.ntmps33
    go_wp2_with ((with_reducible refine (fmay_no _ _ h3).mono ?_); rintro r w' ⟨rfl, rfl⟩)
    go_ret2
    exact ⟨rfl, HM.out⟩
  have h4 : s < 0 ∨ 1099511627776 < s := by omega
  have h5 : 0 ≤ e := by omega
  have h6 : e ≤ 1099511627776 := by omega
  clear h
  go_enter Tryz.func33, Tryz.ntmps33
  go_wp2_with (first | ((with_reducible refine (fmay_yes e _ h5 h6).mono ?_); rintro r w' ⟨rfl, rfl⟩) | ((with_reducible refine (fmay_no s _ h4).mono ?_); rintro r w' ⟨rfl, rfl⟩))
  go_ret2
  exact ⟨rfl, HM.out⟩
set_option maxRecDepth 100000 in
set_option maxHeartbeats 1600000 in
theorem fput_long (k e s : Int) (A : Option Addr) (n c : Nat) (w : World) (hk0 : 0 ≤ k) (hk1 : k ≤ 255) (he0 : 0 ≤ e) (he1 : e ≤ 1099511627776) (hs0 : 0 ≤ s) (hs1 : s ≤ 1099511627776) (hn : 32768 < n) :
    Calls Tryz.prog 33 #[frV k e s A n c] w fun r w' => r = .returned (.tuple #[.slice none 0 0, .int .i64 3]) ∧ Mod Nn w w' := by
  unfold frV
  have M : Mod Nn w (w.alloc (.cells #[.int .i64 k, .int .i64 e, .int .i64 s, .slice A n c] 76)) := (Mod.refl Nn w).alloc _
  have HM := Lib.hid M; clear M
  have hn' : (32768 : Int) < n := by omega
  go_enter Tryz.func33, Tryz.ntmps33
  go_wp2_with (first | ((with_reducible refine (fmay_yes e _ he0 he1).mono ?_); rintro r w' ⟨rfl, rfl⟩) | ((with_reducible refine (fmay_yes s _ hs0 hs1).mono ?_); rintro r w' ⟨rfl, rfl⟩))
  go_ret2
  exact ⟨rfl, HM.out⟩
end
end Go.Proofs.YtijmkbhbpbkkoaaGreat

/- frame.Put of a right frame: the walk. -/
namespace Go.Proofs.YtijmkbhbpbkkoaaGreat
open Go.RowKit

/-- what the frame's bytes begin with, when so many of its two numbers stand there -/
def hd2 (f : Fr) : Nat → List Nat
  | 0 => f.pre
  | 1 => f.pre ++ num f.epoch 8
  | _ => f.pre ++ num f.epoch 8 ++ num f.seq 8
theorem hd2_len (f : Fr) : ∀ j, j ≤ 2 → (hd2 f j).length = 8 + 8 * j
  | 0, _ => rfl
  | 1, _ => by simp [hd2, Fr.pre, num_len]
  | 2, _ => by simp [hd2, Fr.pre, num_len]
  | j + 3, h => by omega
theorem body_hd (f : Fr) : hd2 f 2 ++ num f.data.length 4 ++ f.data = f.body := rfl
/-- frame.Put's words while it puts: what is boxed, what was put -/
structure PutS (w w' : World) (g cap : Nat) (B : Array Value) (L : List Nat) : Prop where
  md : Mod Nn w w'
  bx : Blk w' w.heap.size 76 B
  out : Out w' g 5 cap L
  lt : w.heap.size < g
section
variable {w w1 w2 : World} {g cap : Nat} {B : Array Value} {L L' : List Nat}
theorem PutS.nn (h : PutS w w1 g cap B L) (m : Mod Nn w1 w2) : PutS w w2 g cap B L := ⟨h.md.nn_ m, h.bx.mod m (fun f => f), h.out.mod m (fun f => f), h.lt⟩
theorem PutS.step (h : PutS w w1 g cap B L) (o : Out w2 g 5 cap L') (m : Mod (At g) w1 w2) : PutS w w2 g cap B L' :=
  ⟨h.md.new_ m (Nat.le_of_lt h.lt), h.bx.mod m (fun e => by have : w.heap.size = g := e; have := h.lt; omega), o, h.lt⟩
theorem PutS.cells {k e s v : Value} (h : PutS w w1 g cap #[k, e, s, v] L) : w1.cell? ⟨w.heap.size, 0, none⟩ = some k ∧ w1.cell? ⟨w.heap.size, 1, none⟩ = some e ∧ w1.cell? ⟨w.heap.size, 2, none⟩ = some s ∧ w1.cell? ⟨w.heap.size, 3, none⟩ = some v :=
  ⟨h.bx.cell 0, h.bx.cell 1, h.bx.cell 2, h.bx.cell 3⟩
end
set_option maxRecDepth 100000 in
set_option maxHeartbeats 6400000 in
theorem fput_ok {w : World} {A : Option Addr} {n c : Nat} (f : Fr) (hf : f.ok) (hr : Rd w A n (bv f.data)) (hl : ∀ z ∈ f.data, z < 256) :
    Calls Tryz.prog 33 #[frV f.kind f.epoch f.seq A n c] w fun r w' => ∃ g, r = .returned (.tuple #[.slice (some ⟨g, 0, none⟩) ((512 * fsec n : Nat)) ((512 * fsec n : Nat)), .int .i64 0]) ∧ Out w' g 5 (512 * fsec n) (f.body ++ num f.sum 4) ∧ Mod Nn w w' ∧ w.heap.size ≤ g := by
  obtain ⟨k1, e1, s1, d1⟩ := hf
  have hL : f.data.length = n := by have := hr.1; simpa [bv] using this
  rw [hL] at d1
  have HL := Lib.hid hL; clear hL
  have hsec := fsec_le n
  have hs9 : fsec n ≤ 66 := by unfold fsec; omega
  have he0 : (0 : Int) ≤ (f.epoch : Int) := by omega
  have he1 : (f.epoch : Int) ≤ 1099511627776 := by omega
  have hs0 : (0 : Int) ≤ (f.seq : Int) := by omega
  have hs1 : (f.seq : Int) ≤ 1099511627776 := by omega
  have hk0 : (0 : Int) ≤ (f.kind : Int) := by omega
  have hk1 : (f.kind : Int) ≤ 255 := by omega
  have hd1 : ¬ (32768 : Int) < (n : Int) := by omega
  unfold frV
  have M0 : Mod Nn w (w.alloc (.cells #[.int .i64 f.kind, .int .i64 f.epoch, .int .i64 f.seq, .slice A n c] 76)) := (Mod.refl Nn w).alloc _
  have B0 : Blk (w.alloc (.cells #[.int .i64 f.kind, .int .i64 f.epoch, .int .i64 f.seq, .slice A n c] 76)) w.heap.size 76 #[.int .i64 f.kind, .int .i64 f.epoch, .int .i64 f.seq, .slice A n c] := Blk.new _ _ _
  have HM0 := Lib.hid (And.intro M0 B0); clear M0 B0
  have HR := Lib.hid (And.intro hr hl); clear hr hl
  generalize hcap : fsec n = q at *
  have HC := Lib.hid hcap; clear hcap
  have HSV := Lib.hid (show (512 : Int) * (q : Int) = ((512 * q : Nat) : Int) by omega)
  go_enter Tryz.func33, Tryz.ntmps33
  go_wp2_with fail
  refine (fmay_yes f.epoch _ he0 he1).mono ?_
  rintro r w' ⟨rfl, rfl⟩
  go_wp2_with fail
  refine (fmay_yes f.seq _ hs0 hs1).mono ?_
  rintro r w' ⟨rfl, rfl⟩
  go_wp2_with fail
  refine (fsec_any n _ (by omega)).mono ?_
  rintro r w' ⟨rfl, rfl⟩
  rw [HC.out]
  go_wp2_with (first
    | (with_reducible change wpList _ _ _ (⟨_, Op.makeSlice _ _ _, _, _, _, _⟩ :: _) _ _
       go_must (refine wpList_make1 29 _ _ rfl rfl 5 (.int .u8 0) 1 Tryz.underlying29 info_u8 rfl _ _ (512 * q) (512 * q) rfl rfl HSV.out HSV.out (Nat.le_refl _) (by omega) (by omega) ?_)
       intro w2 b2 m2 z2
       have hg : w.heap.size < w2.heap.size := by simp at z2; omega
       have d2 : w.heap.size < (w.alloc (.cells #[.int .i64 f.kind, .int .i64 f.epoch, .int .i64 f.seq, .slice A n c] 76)).heap.size := by simp
       have p2 := PutS.mk (HM0.out.1.trans m2) (HM0.out.2.mod m2 (fun f => f)) (Out.new b2) d2
       generalize (w.alloc (.cells #[.int .i64 f.kind, .int .i64 f.epoch, .int .i64 f.seq, .slice A n c] 76)).heap.size = g at *
       have HB := Lib.hid p2
       clear b2 m2 z2 p2 d2)
    | (with_reducible change wpList _ _ _ (⟨_, Op.slice _ _ _ _ _, _, _, _, _⟩ :: _) _ _
       go_must (refine wpList_sub_h 29 _ _ rfl rfl 5 1 Tryz.underlying29 size_u8' (h := 0) rfl rfl (by omega) ?_)
       rw [subA_zero])
    | (with_reducible change wpList _ _ _ (⟨some 42, _, _, _, _, _⟩ :: _) _ _
       go_must (refine wpList_append_outs 29 9 _ _ rfl rfl Tryz.underlying29 Tryz.underlying9 info_u8 HB.out.out (n := 0) rfl rfl (M := [112, 101, 97, 116]) rfl rfl (m := 4) rfl (by omega) ?_)
       intro w3 o3 m3 z3
       have p3 := HB.out.step o3 m3
       obtain ⟨C0, C1, C2, C3⟩ := p3.cells
       have HB3 := Lib.hid p3
       have hg3 : w.heap.size < w3.heap.size := by omega
       clear o3 m3 z3 p3)
    | (with_reducible change wpList _ _ _ (⟨some 48, _, _, _, _, _⟩ :: _) _ _
       have p4 := HB3.out.nn ((Mod.refl Nn w3).alloc (.cells #[.int .u8 (f.kind : Int), .int .u8 0, .int .u8 0, .int .u8 0] 5))
       have s4 : Rd (w3.alloc (.cells #[.int .u8 (f.kind : Int), .int .u8 0, .int .u8 0, .int .u8 0] 5)) (some ⟨w3.heap.size, 0, none⟩) 4 (bv [f.kind, 0, 0, 0]) := Rd.of_blk0 (Blk.new _ _ _) rfl
       go_must (refine wpList_append_out 29 _ _ rfl rfl Tryz.underlying29 info_u8 p4.out (n := 4) rfl rfl rfl s4 (by omega) ?_)
       intro w5 o5 m5 z5
       have p5 := p4.step o5 m5
       have HB5 := Lib.hid p5
       clear C0 C1 C2 C3
       obtain ⟨C0, C1, C2, C3⟩ := p5.cells
       clear o5 m5 z5 p5 p4 s4))
  have hp5 : PutS w w5 g (512 * q) #[.int .i64 f.kind, .int .i64 f.epoch, .int .i64 f.seq, .slice A n c] (hd2 f 0) := by
    have h := HB5.out
    have e : [112, 101, 97, 116] ++ [f.kind, 0, 0, 0] = hd2 f 0 := by show _ = f.pre; unfold Fr.pre; rw [Nat.mod_eq_of_lt (by omega)]; rfl
    rw [List.nil_append] at h
    rwa [e] at h
  have HP5 := Lib.hid hp5
  clear hp5 C0 C1 C2 C3
  have hb2 : w.heap.size < w5.heap.size := HP5.out.bx.lt
  go_loopw [5, 54] (fun v i wr => ∃ j : Nat, j ≤ 2 ∧ i = .int .i64 j ∧ v = .slice (some ⟨g, 0, none⟩) ((8 + 8 * j : Nat)) ((512 * q : Nat)) ∧ PutS w wr g (512 * q) #[.int .i64 f.kind, .int .i64 f.epoch, .int .i64 f.seq, .slice A n c] (hd2 f j)) (fun _ i _ => 2 - (intOf i).toNat)
  case atStart => exact ⟨0, by omega, rfl, rfl, HP5.out⟩
  case round =>
    obtain ⟨j, hj, rfl, rfl, hP⟩ := hrel
    obtain ⟨C0, C1, C2, C3⟩ := hP.cells
    have HP := Lib.hid hP
    have HJ := Lib.hid (hd2_len f j hj)
    clear hP
    have h3 : j = 0 ∨ j = 1 ∨ j = 2 := by omega
    rcases h3 with rfl | rfl | rfl
    · have xx : ∀ w : World, (Instr.index 92 (.agg #[.int .i64 f.epoch, .int .i64 f.seq]) (.int .i64 0)).run Tryz.prog w = .ok (.int .i64 f.epoch) w := fun _ => by kernel_rfl
      have h8 : (hd2 f 0).length = 8 := HJ.out
      have HJ' := Lib.hid h8; clear h8
      go_wp2_with fail
      refine (fnum_any HP.out.out (n := 8) HJ'.out f.epoch (by omega) 8 (by omega) (by omega) (by omega)).mono ?_
      rintro r w6 ⟨rfl, o6, m6⟩
      have p6 := HP.out.step o6 m6
      have HP6 := Lib.hid p6
      clear o6 m6 p6
      go_wp2
      exact ⟨⟨1, by omega, rfl, rfl, HP6.out⟩, by simp [intOf]⟩
    · have xx : ∀ w : World, (Instr.index 92 (.agg #[.int .i64 f.epoch, .int .i64 f.seq]) (.int .i64 1)).run Tryz.prog w = .ok (.int .i64 f.seq) w := fun _ => by kernel_rfl
      have h8 : (hd2 f 1).length = 16 := HJ.out
      have HJ' := Lib.hid h8; clear h8
      go_wp2_with fail
      refine (fnum_any HP.out.out (n := 16) HJ'.out f.seq (by omega) 8 (by omega) (by omega) (by omega)).mono ?_
      rintro r w6 ⟨rfl, o6, m6⟩
      have p6 := HP.out.step o6 m6
      have HP6 := Lib.hid p6
      clear o6 m6 p6
      go_wp2
      exact ⟨⟨2, by omega, rfl, rfl, HP6.out⟩, by simp [intOf]⟩
    · have h8 : (hd2 f 2).length = 24 := HJ.out
      have HJ' := Lib.hid h8; clear h8
      go_wp2_with fail
      refine (fnum_any HP.out.out (n := 24) HJ'.out n (by omega) 4 (by omega) (by omega) (by omega)).mono ?_
      rintro r w6 ⟨rfl, o6, m6⟩
      have p6 := HP.out.step o6 m6
      have HP6 := Lib.hid p6
      have hl6 : (hd2 f 2 ++ num n 4).length = 28 := by rw [List.length_append, HJ'.out, num_len]
      have HL6 := Lib.hid hl6
      have hr6 := HR.out.1.mod p6.md (fun _ _ f => f)
      have HR6 := Lib.hid hr6
      clear C0 C1 C2 C3
      obtain ⟨C0, C1, C2, C3⟩ := p6.cells
      clear o6 m6 p6 hl6 hr6
      go_wp2_with (first
        | (with_reducible change wpList _ _ _ (⟨some 71, _, _, _, _, _⟩ :: _) _ _
           go_must (refine wpList_append_out 29 _ _ rfl rfl Tryz.underlying29 info_u8 HP6.out.out (n := 28) HL6.out rfl rfl HR6.out (by omega) ?_)
           intro w7 o7 m7 z7
           have p7 := HP6.out.step o7 m7
           have e7 : hd2 f 2 ++ num n 4 ++ f.data = f.body := by rw [← HL.out]; exact body_hd f
           rw [e7] at p7
           have HP7 := Lib.hid p7
           clear C0 C1 C2 C3 o7 m7 z7 p7 e7))
      have hl7 : f.body.length = 28 + n := by rw [f.body_len, HL.out]
      have HL7 := Lib.hid hl7
      have hl7' := f.body_lt HR.out.2
      have HL7' := Lib.hid hl7'
      clear hl7 hl7'
      refine (crc_sum (HP7.out.out.rd HL7.out) HL7'.out (by omega)).mono ?_
      rintro r w8 ⟨rfl, m8⟩
      have p8 := HP7.out.nn m8
      have HP8 := Lib.hid p8
      clear p8 m8
      have hsum : (crcS cas 0#32 f.body).toNat = f.sum := rfl
      rw [hsum]
      have hsl : f.sum < 4294967296 := (crcS cas 0#32 f.body).isLt
      generalize hS : f.sum = S at *
      have HS := Lib.hid hS; clear hS hsum
      go_wp2_with fail
      refine (fnum_any HP8.out.out (n := 28 + n) HL7.out S (by omega) 4 (by omega) (by omega) (by omega)).mono ?_
      rintro r w9 ⟨rfl, o9, m9⟩
      have p9 := HP8.out.step o9 m9
      have HP9 := Lib.hid p9
      clear p9 o9 m9
      go_wp2
      go_ret2
      exact ⟨g, rfl, by rw [HS.out]; exact HP9.out.out, HP9.out.md, Nat.le_of_lt HP9.out.lt⟩
end Go.Proofs.YtijmkbhbpbkkoaaGreat
