/- Own lemmas of several kinds, put together: FrR, FrT. -/
import Derived.Test.YtijmkbhbpbkkoaaGreatFrPx
import Derived.Lib.SlBytesConst
/- The document's frames (peatbankref10): Put, the walk. -/
namespace Go.Proofs.YtijmkbhbpbkkoaaGreat
open Go.RowKit

section
variable {w : World} {A : Option Addr} {n c : Nat}
set_option maxRecDepth 100000 in
set_option maxHeartbeats 1600000 in
theorem rput_arg (k e s : Int) (A : Option Addr) (n c : Nat) (w : World) (h : k < 0 ∨ 255 < k ∨ e < 0 ∨ 1099511627776 < e ∨ s < 0 ∨ 1099511627776 < s) :
    Calls Tryz.prog 34 #[frV k e s A n c] w fun r w' => r = .returned (.tuple #[.slice none 0 0, .int .i64 2]) ∧ Mod Nn w w' := by
  unfold frV
  have M : Mod Nn w (w.alloc (.cells #[.int .i64 k, .int .i64 e, .int .i64 s, .slice A n c] 76)) := (Mod.refl Nn w).alloc _
  have HM := Lib.hid M; clear M
  by_cases h1 : k < 0
  · go_enter Tryz.func34, Tryz.ntmps34
    go_wp2
    go_ret2
    exact ⟨rfl, HM.out⟩
  by_cases h2 : 255 < k
  · go_enter Tryz.func34, Tryz.ntmps34
    go_wp2
    go_ret2
    exact ⟨rfl, HM.out⟩
  by_cases h3 : e < 0
  · go_enter Tryz.func34, Tryz.ntmps34
    go_wp2
    go_ret2
    exact ⟨rfl, HM.out⟩
  by_cases h4 : 1099511627776 < e
  · go_enter Tryz.func34, Tryz.ntmps34
    go_wp2
    go_ret2
    exact ⟨rfl, HM.out⟩
  by_cases h5 : s < 0
  · go_enter Tryz.func34, Tryz.ntmps34
    go_wp2
    go_ret2
    exact ⟨rfl, HM.out⟩
  have h6 : 1099511627776 < s := by omega
  clear h
  go_enter Tryz.func34, Tryz.ntmps34
  go_wp2
  go_ret2
  exact ⟨rfl, HM.out⟩
set_option maxRecDepth 100000 in
set_option maxHeartbeats 1600000 in
theorem rput_long (k e s : Int) (A : Option Addr) (n c : Nat) (w : World) (hk0 : 0 ≤ k) (hk1 : k ≤ 255) (he0 : 0 ≤ e) (he1 : e ≤ 1099511627776) (hs0 : 0 ≤ s) (hs1 : s ≤ 1099511627776) (hn : 32768 < n) :
    Calls Tryz.prog 34 #[frV k e s A n c] w fun r w' => r = .returned (.tuple #[.slice none 0 0, .int .i64 3]) ∧ Mod Nn w w' := by
  unfold frV
  have M : Mod Nn w (w.alloc (.cells #[.int .i64 k, .int .i64 e, .int .i64 s, .slice A n c] 76)) := (Mod.refl Nn w).alloc _
  have HM := Lib.hid M; clear M
  have hn' : (32768 : Int) < n := by omega
  have e1 : ¬ k < 0 := by omega
  have e2 : ¬ 255 < k := by omega
  have e3 : ¬ e < 0 := by omega
  have e4 : ¬ 1099511627776 < e := by omega
  have e5 : ¬ s < 0 := by omega
  have e6 : ¬ 1099511627776 < s := by omega
  go_enter Tryz.func34, Tryz.ntmps34
  go_wp2
  go_ret2
  exact ⟨rfl, HM.out⟩
end
end Go.Proofs.YtijmkbhbpbkkoaaGreat

/- The document's frames (peatbankref10): Put of a right frame, the walk. -/
namespace Go.Proofs.YtijmkbhbpbkkoaaGreat
open Go.RowKit

/-- the document's words while it puts -/
structure PutR (w w' : World) (B : Array Value) (v : Value) (k : Nat) (L : List Nat) : Prop where
  md : Mod Nn w w'
  bx : Blk w' w.heap.size 76 B
  own : w'.ownsRow (w.heap.size + 1) 5 1 v k (bv L)
section
variable {w w1 w2 : World} {B : Array Value} {L L' : List Nat} {v v' : Value} {k k' : Nat}
theorem PutR.nn (h : PutR w w1 B v k L) (m : Mod Nn w1 w2) : PutR w w2 B v k L := ⟨h.md.nn_ m, h.bx.mod m (fun f => f), own_mod h.own m (fun _ _ f => f)⟩
theorem PutR.step (h : PutR w w1 B v k L) (o : w2.ownsRow (w.heap.size + 1) 5 1 v' k' (bv L')) (g : w1.grownBy w2 v.ownBlock) : PutR w w2 B v' k' L' := by
  have hm : Mod (fun g => v.ownBlock = some g) w1 w2 := (Mod.refl _ w1).grown g (fun g hg => .inr hg)
  exact ⟨h.md.grown g (fun g hg => .inl (by have := own_ge h.own g hg; omega)), h.bx.mod hm (fun e => by have := own_ge h.own _ e; omega), o⟩
theorem PutR.cells {k0 e s v0 : Value} (h : PutR w w1 #[k0, e, s, v0] v k L) : w1.cell? ⟨w.heap.size, 0, none⟩ = some k0 ∧ w1.cell? ⟨w.heap.size, 1, none⟩ = some e ∧ w1.cell? ⟨w.heap.size, 2, none⟩ = some s ∧ w1.cell? ⟨w.heap.size, 3, none⟩ = some v0 :=
  ⟨h.bx.cell 0, h.bx.cell 1, h.bx.cell 2, h.bx.cell 3⟩
theorem PutR.hs (h : PutR w w1 B v k L) : w.heap.size + 1 ≤ w1.heap.size := h.bx.lt
end
def lenV : Value → Nat
  | .slice _ n _ => n
  | _ => 0
theorem rd_row {w : World} {g : Nat} {t : TypeId} {l : List Nat} {fr : Nat × Nat} (h : w.heap[g]? = some (.cells (bv l).toArray t fr)) : Rd w (some ⟨g, 0, none⟩) l.length (bv l) :=
  ⟨bv_len l, fun _ => ⟨g, 0, rfl, fun j v hv => by
    rw [cell_of_row w g (0 + j) _ t fr h, Nat.zero_add]; simpa using hv⟩⟩
theorem two_rows (w : World) (o1 : Obj) (l m : List Nat) (t u : TypeId) (fr : Nat × Nat) :
    Rd (((w.alloc o1).alloc (.cells (bv l).toArray t fr)).alloc (.cells (bv m).toArray u)) (some ⟨w.heap.size + 1, 0, none⟩) l.length (bv l) ∧
    Rd (((w.alloc o1).alloc (.cells (bv l).toArray t fr)).alloc (.cells (bv m).toArray u)) (some ⟨w.heap.size + 1 + 1, 0, none⟩) m.length (bv m) ∧
    Mod Nn (w.alloc o1) (((w.alloc o1).alloc (.cells (bv l).toArray t fr)).alloc (.cells (bv m).toArray u)) ∧
    (((w.alloc o1).alloc (.cells (bv l).toArray t fr)).alloc (.cells (bv m).toArray u)).heap.size = w.heap.size + 3 := by
  have z1 : (w.alloc o1).heap.size = w.heap.size + 1 := by simp
  have z2 : ((w.alloc o1).alloc (.cells (bv l).toArray t fr)).heap.size = w.heap.size + 1 + 1 := by simp
  refine ⟨?_, ?_, ((Mod.refl Nn _).alloc _).alloc _, by simp⟩
  · have h := heap_alloc_new (w.alloc o1) (.cells (bv l).toArray t fr)
    rw [z1] at h
    exact (rd_row h).mod ((Mod.refl Nn _).alloc _) (fun _ _ f => f)
  · have h := heap_alloc_new ((w.alloc o1).alloc (.cells (bv l).toArray t fr)) (.cells (bv m).toArray u)
    rw [z2] at h
    exact rd_row h
set_option maxRecDepth 100000 in
set_option maxHeartbeats 6400000 in
theorem rput_ok {w : World} {A : Option Addr} {n c : Nat} (f : Fr) (hf : f.ok) (hr : Rd w A n (bv f.data)) (hl : ∀ z ∈ f.data, z < 256) :
    Calls Tryz.prog 34 #[frV f.kind f.epoch f.seq A n c] w fun r w' => ∃ v, r = .returned (.tuple #[v, .int .i64 0]) ∧ w'.ownsRow (w.heap.size + 1) 5 1 v (512 * fsec n) (bv f.bytes) ∧ Mod Nn w w' := by
  obtain ⟨k1, e1, s1, d1⟩ := hf
  have hL : f.data.length = n := by have := hr.1; simpa [bv] using this
  rw [hL] at d1
  have HL := Lib.hid hL; clear hL
  have hs9 : fz n < 512 := fz_lt n
  have hk0 : (0 : Int) ≤ (f.kind : Int) := by omega
  have hk1 : (f.kind : Int) ≤ 255 := by omega
  have he0 : (0 : Int) ≤ (f.epoch : Int) := by omega
  have hs0 : (0 : Int) ≤ (f.seq : Int) := by omega
  have c1 : ¬ (f.kind : Int) < 0 := by omega
  have c2 : ¬ 255 < (f.kind : Int) := by omega
  have c3 : ¬ (f.epoch : Int) < 0 := by omega
  have c4 : ¬ 1099511627776 < (f.epoch : Int) := by omega
  have c5 : ¬ (f.seq : Int) < 0 := by omega
  have c6 : ¬ 1099511627776 < (f.seq : Int) := by omega
  have hd1 : ¬ (32768 : Int) < (n : Int) := by omega
  unfold frV
  have M0 : Mod Nn w (w.alloc (.cells #[.int .i64 f.kind, .int .i64 f.epoch, .int .i64 f.seq, .slice A n c] 76)) := (Mod.refl Nn w).alloc _
  have B0 : Blk (w.alloc (.cells #[.int .i64 f.kind, .int .i64 f.epoch, .int .i64 f.seq, .slice A n c] 76)) w.heap.size 76 #[.int .i64 f.kind, .int .i64 f.epoch, .int .i64 f.seq, .slice A n c] := Blk.new _ _ _
  have HM0 := Lib.hid (And.intro M0 B0); clear M0 B0
  have HR := Lib.hid (And.intro hr hl); clear hr hl
  have kc := Lib.run_convert_bytes_const (P := Tryz.prog) (w.alloc (.cells #[.int .i64 f.kind, .int .i64 f.epoch, .int .i64 f.seq, .slice A n c] 76)) 29 5 #[.int .u8 112, .int .u8 101, .int .u8 97, .int .u8 116] 4 4 Tryz.underlying29 Tryz.underlying5
  have hz1 : (w.alloc (.cells #[.int .i64 f.kind, .int .i64 f.epoch, .int .i64 f.seq, .slice A n c] 76)).heap.size = w.heap.size + 1 := by simp
  rw [hz1] at kc
  have HZ1 := Lib.hid hz1; clear hz1
  go_enter Tryz.func34, Tryz.ntmps34
  go_wp2_with (first
    | (with_reducible change wpList _ _ _ (⟨some 43, _, _, _, _, _⟩ :: _) _ _
       have h4 := two_rows w (.cells #[.int .i64 f.kind, .int .i64 f.epoch, .int .i64 f.seq, .slice A n c] 76) [112, 101, 97, 116] [f.kind, 0, 0, 0] 5 5 (4, 5)
       go_must (refine wpList_append_grow 29 _ _ rfl rfl 5 (.int .u8 0) 1 1 Tryz.underlying29 info_u8 rfl (by omega) (n := 4) (cap := 4) rfl h4.1.toC rfl h4.2.1.toC (m := 4) (by omega) (by omega) (by omega) (by omega) (by omega) ?_)
       intro v5 w5 o5 m5
       have e5 : [112, 101, 97, 116] ++ [f.kind, 0, 0, 0] = f.pre := by unfold Fr.pre; rw [Nat.mod_eq_of_lt (by omega)]; rfl
       rw [← bv_append, e5] at o5
       have p5 := PutR.mk ((HM0.out.1.trans h4.2.2.1).trans m5) (HM0.out.2.mod (h4.2.2.1.trans m5) (fun f => f)) (own_base o5 (fun g hg => by have z := own_ge o5 g hg; simp at z; omega))
       obtain ⟨C0, C1, C2, C3⟩ := p5.cells
       have HP5 := Lib.hid p5
       clear kc h4 o5 m5 p5 e5))
  refine (rnum_any f.epoch (by omega) 8 (by omega)).mono ?_
  rintro r w6 ⟨v6, rfl, o6, m6⟩
  obtain ⟨A6, c6', rfl, -, -⟩ := own_form o6
  have HR6 := Lib.hid (Rd.of_own o6)
  have p6 := HP5.out.nn m6
  have HP6 := Lib.hid p6
  clear C0 C1 C2 C3 o6 m6
  obtain ⟨C0, C1, C2, C3⟩ := p6.cells
  clear p6
  go_wp2_with (first
    | (with_reducible change wpList _ _ _ (⟨some 49, _, _, _, _, _⟩ :: _) _ _
       go_must (refine wpList_append_rd 29 _ _ rfl rfl (w.heap.size + 1) 5 (.int .u8 0) 1 1 Tryz.underlying29 info_u8 rfl (by omega) _ 8 _ rfl HP6.out.own _ 8 _ _ rfl HR6.out.toC (bv_one _) (by omega) (by omega) HP6.out.hs ?_)
       intro v7 w7 o7 g7 b7
       rw [← bv_append] at o7
       have p7 := HP6.out.step o7 g7
       have HP7 := Lib.hid p7
       clear C0 C1 C2 C3 o7 g7 b7
       obtain ⟨C0, C1, C2, C3⟩ := p7.cells
       clear p7))
  refine (rnum_any f.seq (by omega) 8 (by omega)).mono ?_
  rintro r w8 ⟨v8, rfl, o8, m8⟩
  obtain ⟨A8, c8', rfl, -, -⟩ := own_form o8
  have HR8 := Lib.hid (Rd.of_own o8)
  have p8 := HP7.out.nn m8
  have HP8 := Lib.hid p8
  clear C0 C1 C2 C3 o8 m8
  obtain ⟨C0, C1, C2, C3⟩ := p8.cells
  clear p8
  go_wp2_with (first
    | (with_reducible change wpList _ _ _ (⟨some 55, _, _, _, _, _⟩ :: _) _ _
       go_must (refine wpList_append_rd 29 _ _ rfl rfl (w.heap.size + 1) 5 (.int .u8 0) 1 1 Tryz.underlying29 info_u8 rfl (by omega) _ 16 _ rfl HP8.out.own _ 8 _ _ rfl HR8.out.toC (bv_one _) (by omega) (by omega) HP8.out.hs ?_)
       intro v9 w9 o9 g9 b9
       rw [← bv_append] at o9
       have p9 := HP8.out.step o9 g9
       have HP9 := Lib.hid p9
       clear C0 C1 C2 C3 o9 g9 b9
       obtain ⟨C0, C1, C2, C3⟩ := p9.cells
       clear p9))
  refine (rnum_any n (by omega) 4 (by omega)).mono ?_
  rintro r w10 ⟨v10, rfl, o10, m10⟩
  obtain ⟨A10, c10', rfl, -, -⟩ := own_form o10
  have HR10 := Lib.hid (Rd.of_own o10)
  have p10 := HP9.out.nn m10
  have HP10 := Lib.hid p10
  clear C0 C1 C2 C3 o10 m10
  obtain ⟨C0, C1, C2, C3⟩ := p10.cells
  clear p10
  go_wp2_with (first
    | (with_reducible change wpList _ _ _ (⟨some 62, _, _, _, _, _⟩ :: _) _ _
       go_must (refine wpList_append_rd 29 _ _ rfl rfl (w.heap.size + 1) 5 (.int .u8 0) 1 1 Tryz.underlying29 info_u8 rfl (by omega) _ 24 _ rfl HP10.out.own _ 4 _ _ rfl HR10.out.toC (bv_one _) (by omega) (by omega) HP10.out.hs ?_)
       intro v11 w11 o11 g11 b11
       rw [← bv_append] at o11
       have p11 := HP10.out.step o11 g11
       have HP11 := Lib.hid p11
       have HR11 := Lib.hid (HR.out.1.mod p11.md (fun _ _ f => f))
       clear C0 C1 C2 C3 o11 g11 b11
       obtain ⟨C0, C1, C2, C3⟩ := p11.cells
       clear p11)
    | (with_reducible change wpList _ _ _ (⟨some 66, _, _, _, _, _⟩ :: _) _ _
       go_must (refine wpList_append_rd 29 _ _ rfl rfl (w.heap.size + 1) 5 (.int .u8 0) 1 1 Tryz.underlying29 info_u8 rfl (by omega) _ 28 _ rfl HP11.out.own _ n _ _ rfl HR11.out.toC (bv_one _) (by omega) (by omega) HP11.out.hs ?_)
       intro v12 w12 o12 g12 b12
       rw [← bv_append] at o12
       have e12 : f.pre ++ num f.epoch 8 ++ num f.seq 8 ++ num n 4 ++ f.data = f.body := by rw [← HL.out]; rfl
       rw [e12] at o12
       have p12 := HP11.out.step o12 g12
       have HP12 := Lib.hid p12
       clear C0 C1 C2 C3 g12 b12
       obtain ⟨A12, c12', rfl, hc12, -⟩ := own_form o12
       have HR12 := Lib.hid (Rd.of_own o12)
       have HL12 := Lib.hid (f.body_lt HR.out.2)
       clear o12 p12 e12))
  refine (ref_sum HR12.out HL12.out (by omega)).mono ?_
  rintro r w13 ⟨rfl, rfl⟩
  have hsum : (crcS cas 0#32 f.body).toNat = f.sum := rfl
  rw [hsum]
  have hsl : f.sum < 4294967296 := (crcS cas 0#32 f.body).isLt
  have HBY := Lib.hid (show f.bytes = f.body ++ num f.sum 4 ++ List.replicate (fz n) 0 by unfold Fr.bytes fz; rw [HL.out])
  generalize hS : f.sum = S at *
  have HS := Lib.hid hS; clear hS hsum
  go_wp2_with fail
  refine (rnum_any S (by omega) 4 (by omega)).mono ?_
  rintro r w14 ⟨v14, rfl, o14, m14⟩
  obtain ⟨A14, c14', rfl, -, -⟩ := own_form o14
  have HR14 := Lib.hid (Rd.of_own o14)
  have HP14 := Lib.hid (HP12.out.nn m14)
  clear o14 m14
  go_wp2_with (first
    | (with_reducible change wpList _ _ _ (⟨some 72, _, _, _, _, _⟩ :: _) _ _
       go_must (refine wpList_append_rd 29 _ _ rfl rfl (w.heap.size + 1) 5 (.int .u8 0) 1 1 Tryz.underlying29 info_u8 rfl (by omega) _ (28 + n) _ rfl HP14.out.own _ 4 _ _ rfl HR14.out.toC (bv_one _) (by omega) (by omega) HP14.out.hs ?_)
       intro v15 w15 o15 g15 b15
       rw [← bv_append] at o15
       have p15 := HP14.out.step o15 g15
       have HP15 := Lib.hid p15
       clear o15 g15 b15 p15))
  go_loopw [4] (fun v wr => ∃ j K : Nat, j ≤ fz n ∧ K = 32 + n + j ∧ PutR w wr #[.int .i64 f.kind, .int .i64 f.epoch, .int .i64 f.seq, .slice A n c] v K (f.body ++ num S 4 ++ List.replicate j 0)) (fun v _ => 32 + n + fz n - lenV v)
  case atStart => exact ⟨0, 32 + n, Nat.zero_le _, rfl, by have h := HP15.out; rw [show 28 + n + 4 = 32 + n from by omega] at h; simpa using h⟩
  case round =>
    obtain ⟨j, K, hj, hK, hP⟩ := hrel
    obtain ⟨A', c', rfl, hcc, -⟩ := own_form hP.own
    have HP := Lib.hid hP
    clear hP
    have HK := Lib.hid hK
    have hKb : K ≤ 40000 := by omega
    by_cases hlt : j < fz n
    · have hm : K % 512 ≠ 0 := by rw [hK]; exact fz_min n j hlt
      have hm1 : ((K : Int) % 512 == 0) = false := by rw [beq_eq_false_iff_ne]; omega
      have hm2 : ¬ (K : Int) % 512 = 0 := by omega
      clear hK hm
      go_wp2_with (first
        | (with_reducible change wpList _ _ _ (⟨some 79, _, _, _, _, _⟩ :: _) _ _
           have p1 := HP.out.nn ((Mod.refl Nn wr).alloc (.cells #[.int .u8 0] 5))
           have r1 : Rd (wr.alloc (.cells #[.int .u8 0] 5)) (some ⟨wr.heap.size, 0, none⟩) 1 (bv [0]) := Rd.of_blk0 (Blk.new _ _ _) rfl
           go_must (refine wpList_append_rd 29 _ _ rfl rfl (w.heap.size + 1) 5 (.int .u8 0) 1 1 Tryz.underlying29 info_u8 rfl (by omega) _ K _ rfl p1.own _ 1 _ _ rfl r1.toC (bv_one _) (by omega) (by omega) p1.hs ?_)
           intro v2 w2 o2 g2 b2
           rw [← bv_append, List.append_assoc, ← List.replicate_succ'] at o2
           have p2 := p1.step o2 g2
           obtain ⟨A2, c2, rfl, -, -⟩ := own_form o2
           have HP2 := Lib.hid p2
           clear o2 g2 b2 p1 r1 p2))
      exact ⟨⟨j + 1, K + 1, by omega, by rw [HK.out]; omega, HP2.out⟩, by have := HK.out; simp [lenV]; omega⟩
    · have hjz : j = fz n := by omega
      have hm : K % 512 = 0 := by rw [hK, hjz]; exact fz_end n
      have hm1 : ((K : Int) % 512 == 0) = true := by rw [beq_iff_eq]; omega
      have hm2 : (K : Int) % 512 = 0 := by omega
      have hcap : K = 512 * fsec n := by have := fsec_le n; rw [hK, hjz]; unfold fz; omega
      have HC := Lib.hid (And.intro hcap hjz)
      clear hK hm hcap hjz hlt hj
      go_wp2
      go_ret2
      refine ⟨_, rfl, ?_, HP.out.md⟩
      have h := HP.out.own
      rw [HC.out.2, ← HBY.out] at h
      rw [← HC.out.1]; exact h
end Go.Proofs.YtijmkbhbpbkkoaaGreat
