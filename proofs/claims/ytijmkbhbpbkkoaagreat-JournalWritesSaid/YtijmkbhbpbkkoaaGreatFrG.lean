/- frame.Get: the walk. -/
import Derived.Test.YtijmkbhbpbkkoaaGreatFrRx
import Derived.Test.YtijmkbhbpbkkoaaGreatKitD
namespace Go.Proofs.YtijmkbhbpbkkoaaGreat
open Go.RowKit

theorem info_frame : (Tryz.prog.info? 76).map (fun i => (i.zero, i.size)) = some (some (.agg #[.int .i64 0, .int .i64 0, .int .i64 0, .slice none 0 0]), 4) := by kernel_rfl
theorem size_frame : (Tryz.prog.info? 76).map (·.size) = some 4 := by kernel_rfl
theorem one4 (k e s : Int) (A : Option Addr) (n c : Nat) : (#[.int .i64 k, .int .i64 e, .int .i64 s, .slice A n c] : Array Value).all (·.oneCell') = true := by simp [Value.oneCell']
theorem exec_sub_lhk {P : Program} {w : World} {A : Option Addr} {n c : Nat} {o : Oper} {a : Act} (kl kh : IntKind) (t : TypeId) (x lo hi : Operand) (ho : o.op = .slice t x (some lo) (some hi) none) (e : TypeId) (size : Nat) (ht : P.underlying t = some (.slice e)) (hi' : (P.info? e).map (·.size) = some size)
    {l h : Nat} (hx : a.eval x = .slice A n c) (hl : a.eval lo = .int kl (l : Int)) (hh : a.eval hi = .int kh (h : Int)) (h1 : l ≤ h) (h2 : h ≤ c) :
    (execOp a.eval o).run P w = .ok (.value (.slice (subA A c l size) (h - l) (c - l))) w := by
  have he : P.elem t = e := by simp [Program.elem, ht]
  have ht' : P.underlying t = some (.slice (P.elem t)) := by rw [he]; exact ht
  obtain ⟨i, hii, hs⟩ := Option.map_eq_some_iff.1 hi'
  simp only [execOp, ho, Option.map, hx, hl, hh]
  simp [run_sliceAt_slice w t _ _ _ _ ht', run_slice_lh w t A n c ht' kl kh (l : Int) (h : Int) (by omega) (by omega) (by omega), he, sizeOf, typeInfo, hii, hs, Result.andThen, sliced, subA]
/-- what Get tells -/
def GotP (w : World) (l : List Nat) (e : Ending) (w' : World) : Prop :=
  (Holds l ∧ ∃ (A' : Option Addr) (c' : Nat), e = .returned (.tuple #[frV (frOf l).kind (frOf l).epoch (frOf l).seq A' (frLong l) c', .int .i64 (fsec (frLong l)), .int .i64 0]) ∧ w'.ownsRow (w.heap.size + 1) 5 1 (.slice A' (frLong l) c') (frLong l) (bv (frOf l).data) ∧ Mod Nn w w') ∨
  (¬ Holds l ∧ e = .returned (.tuple #[frV 0 0 0 none 0 0, .int .i64 0, .int .i64 4]) ∧ Mod Nn w w')
/-- the frame that bytes say is right but for what follows -/
theorem say_ok {l : List Nat} (hl : ∀ z ∈ l, z < 256) (h1 : 512 ≤ l.length) (h2 : (frOf l).epoch ≤ 1099511627776) (h3 : (frOf l).seq ≤ 1099511627776) (h4 : frLong l ≤ 32768) (h5 : 32 + frLong l ≤ l.length) :
    (frOf l).ok ∧ (frOf l).data.length = frLong l ∧ (∀ z ∈ (frOf l).data, z < 256) := by
  have hd : (frOf l).data.length = frLong l := by
    show ((l.drop 28).take (frLong l)).length = _
    rw [List.length_take, List.length_drop]; omega
  refine ⟨⟨?_, h2, h3, by rw [hd]; exact h4⟩, hd, fun z hz => hl z (List.mem_of_mem_drop (List.mem_of_mem_take hz))⟩
  show l.getD 4 0 ≤ 255
  rw [List.getD_eq_getElem?_getD, List.getElem?_eq_getElem (by omega)]
  have := hl _ (List.getElem_mem (show 4 < l.length by omega))
  exact Nat.le_of_lt_succ this
theorem Out.bytes {w : World} {g : Nat} {e : TypeId} {n : Nat} {f : Fr} (h : Out w g e (512 * fsec n) (f.body ++ num f.sum 4)) (hn : f.data.length = n) : Blk w g e (bv f.bytes).toArray := by
  have h2 := h.blk
  have e1 : f.body ++ num f.sum 4 ++ List.replicate (512 * fsec n - (f.body ++ num f.sum 4).length) 0 = f.bytes := by
    unfold Fr.bytes
    rw [List.length_append, f.body_len, num_len, hn]
    congr 2; omega
  rwa [e1] at h2
section
variable {w : World} {A : Option Addr} {n c : Nat} {l : List Nat}
theorem bv_sub (l : List Nat) (a b : Nat) : ((bv l).drop a).take b = bv ((l.drop a).take b) := by unfold bv; rw [← List.map_drop, ← List.map_take]
theorem rd_sub (hr : Rd w A n (bv l)) (a b : Nat) (h : a + b ≤ n) (hc : n ≤ c) : Rd w (subA A c a 1) b (bv ((l.drop a).take b)) := by
  have := hr.sub (c := c) a b h hc
  rwa [bv_sub] at this
theorem sub_lt (a b : Nat) (hl : ∀ z ∈ l, z < 256) : ∀ z ∈ (l.drop a).take b, z < 256 := fun z hz => hl z (List.mem_of_mem_drop (List.mem_of_mem_take hz))
theorem said_bound (a b : Nat) (hl : ∀ z ∈ l, z < 256) : said ((l.drop a).take b) < 256 ^ b := by
  have h := said_lt _ _ rfl (sub_lt a b hl)
  exact Nat.lt_of_lt_of_le h (Nat.pow_le_pow_right (by omega) (by rw [List.length_take]; omega))
set_option maxRecDepth 100000 in
set_option maxHeartbeats 6400000 in
theorem fget_any (hr : Rd w A n (bv l)) (hl : ∀ z ∈ l, z < 256) (hn : n ≤ 140737488355328) (hc : n ≤ c) (hcm : c ≤ maxLen) :
    Calls Tryz.prog 48 #[.slice A n c] w (GotP w l) := by
  unfold maxLen at hcm
  have hL : l.length = n := by have := hr.1; simpa [bv] using this
  have HL := Lib.hid hL; clear hL
  have HR := Lib.hid (And.intro hr hl)
  by_cases h1 : (n : Int) < 512
  · have hno : ¬ Holds l := fun h => by have := h.1; rw [HL.out] at this; omega
    have HNO := Lib.hid hno
    clear hr hl hno
    go_enter Tryz.func48, Tryz.ntmps48
    go_wp2_with (first
      | (with_reducible change wpList _ _ _ (⟨_, Op.alloc _, _, _, _, _⟩ :: _) _ _
         go_must (refine wpList_alloc_var 76 rfl rfl info_frame ?_)
         intro w1 b1 m1 z1
         have HB := Lib.hid (And.intro b1 m1)
         clear b1 m1)
      | (with_reducible change wpList _ _ _ (⟨_, Op.store _ _ _, _, _, _, _⟩ :: _) _ _
         go_must (refine wpList_store_var 76 _ _ rfl rfl w.heap.size #[.int .i64 0, .int .i64 0, .int .i64 0, .slice none 0 0] _ _ rfl rfl HB.out.1 size_frame rfl (one4 _ _ _ _ _ _) ?_)
         intro w2 b2 m2 z2
         have M2 := HB.out.2.new_ m2 (Nat.le_refl _)
         have C0 := b2.cell 0; have C1 := b2.cell 1; have C2 := b2.cell 2; have C3 := b2.cell 3
         clear m2))
    refine bodyPost_ret (v := .tuple #[frV 0 0 0 none 0 0, .int .i64 0, .int .i64 4]) (by simp [results, Tryz.results48, go_sem, frV, C0, C1, C2, C3]) rfl (.inr ⟨HNO.out, rfl, M2⟩)
  · have r1 := rd_sub hr 8 8 (by omega) hc
    have r2 := rd_sub hr 16 8 (by omega) hc
    have r3 := rd_sub hr 24 4 (by omega) hc
    have HS := Lib.hid (And.intro r1 (And.intro r2 (And.intro r3 (And.intro (sub_lt 8 8 hl) (And.intro (sub_lt 16 8 hl) (sub_lt 24 4 hl))))))
    clear r1 r2 r3
    have q1 := said_bound 8 8 hl
    have q2 := said_bound 16 8 hl
    have q3 := said_bound 24 4 hl
    have hE : (frOf l).epoch = said ((l.drop 8).take 8) := rfl
    have hSq : (frOf l).seq = said ((l.drop 16).take 8) := rfl
    have hN : frLong l = said ((l.drop 24).take 4) := rfl
    have HSA := Lib.hid (fun a b d e => say_ok hl (by rw [HL.out]; omega) a b d e)
    rw [← hE] at q1; rw [← hSq] at q2; rw [← hN] at q3
    have HF := Lib.hid (And.intro hE (And.intro hSq hN))
    have HKD := Lib.hid (show (frOf l).kind = l.getD 4 0 from rfl)
    have HHO := Lib.hid (show Holds l ↔ (frOf l).epoch ≤ 1099511627776 ∧ (frOf l).seq ≤ 1099511627776 ∧ frLong l ≤ 32768 ∧ 512 * fsec (frLong l) ≤ n ∧ l.take (512 * fsec (frLong l)) = (frOf l).bytes by
      unfold Holds; rw [HL.out]
      exact ⟨fun h => ⟨h.2.1, h.2.2.1, h.2.2.2.1, h.2.2.2.2.1, h.2.2.2.2.2⟩, fun h => ⟨by omega, h.1, h.2.1, h.2.2.1, h.2.2.2.1, h.2.2.2.2⟩⟩)
    unfold GotP
    generalize frLong l = N at *
    obtain ⟨E, hEE⟩ : ∃ E, (frOf l).epoch = E := ⟨_, rfl⟩
    obtain ⟨Sq, hSS⟩ : ∃ Sq, (frOf l).seq = Sq := ⟨_, rfl⟩
    rw [hEE] at q1 HHO HF HSA ⊢
    rw [hSS] at q2 HHO HF HSA ⊢
    have HES := Lib.hid (And.intro hEE hSS)
    clear hE hSq hN hEE hSS hr hl
    have q3' : N < 4294967296 := q3
    have q1' : E < 18446744073709551616 := q1
    have q2' : Sq < 18446744073709551616 := q2
    clear q1 q2 q3
    have h1' : ¬ (n : Int) < 512 := h1
    have hfs := fsec_le N
    go_enter Tryz.func48, Tryz.ntmps48
    go_wp2_with (first
      | (with_reducible change wpList _ _ _ (⟨_, Op.alloc _, _, _, _, _⟩ :: _) _ _
         go_must (refine wpList_alloc_var 76 rfl rfl info_frame ?_)
         intro w1 b1 m1 z1
         have HB := Lib.hid (And.intro b1 m1)
         have hw1 : w.heap.size < w1.heap.size := by omega
         clear b1 m1 z1))
    refine wp_region_planC (fun _ => True) [(0, true), (1, true), (3, true), (4, true), (6, true), (7, true), (2, false), (5, false), (8, false), (9, true), (10, true), (11, true)] (by kernel_rfl) (by kernel_rfl) trivial ?_
    iterate 1 (refine pc_pure rfl rfl (fun K hK => ?_); go_simp; refine hK _ ?_; clear hK K)
    refine pc_take _ rfl rfl (fun w' _ => exec_sub_lh (P := Tryz.prog) 29 _ _ _ rfl 5 1 Tryz.underlying29 size_u8' (A := A) (n := n) (c := c) (l := 8) (h := 16) rfl rfl rfl (by omega) (by omega)) (fun K hK => ?_); go_simp; refine hK _ ?_; clear hK K
    iterate 1 (refine pc_pure rfl rfl (fun K hK => ?_); go_simp; refine hK _ ?_; clear hK K)
    refine pc_take _ rfl rfl (fun w' _ => exec_sub_lh (P := Tryz.prog) 29 _ _ _ rfl 5 1 Tryz.underlying29 size_u8' (A := A) (n := n) (c := c) (l := 16) (h := 24) rfl rfl rfl (by omega) (by omega)) (fun K hK => ?_); go_simp; refine hK _ ?_; clear hK K
    iterate 1 (refine pc_pure rfl rfl (fun K hK => ?_); go_simp; refine hK _ ?_; clear hK K)
    refine pc_take _ rfl rfl (fun w' _ => exec_sub_lh (P := Tryz.prog) 29 _ _ _ rfl 5 1 Tryz.underlying29 size_u8' (A := A) (n := n) (c := c) (l := 24) (h := 28) rfl rfl rfl (by omega) (by omega)) (fun K hK => ?_); go_simp; refine hK _ ?_; clear hK K
    refine pc_call rfl rfl (fun K hK => ?_); go_simp; refine ⟨_, _, ⟨rfl, rfl⟩, hK _ _ _ ?_⟩; clear hK K
    refine (fsaid_any (HS.out.1.mod HB.out.2.drew (fun _ _ f => f)) HS.out.2.2.2.1 (by omega)).mono ?_
    rintro r w2 ⟨rfl, rfl⟩
    rw [← HF.out.1]
    refine ⟨_, rfl, trivial, ?_⟩
    refine pc_call rfl rfl (fun K hK => ?_); go_simp; refine ⟨_, _, ⟨rfl, rfl⟩, hK _ _ _ ?_⟩; clear hK K
    refine (fsaid_any (HS.out.2.1.mod HB.out.2.drew (fun _ _ f => f)) HS.out.2.2.2.2.1 (by omega)).mono ?_
    rintro r w2 ⟨rfl, rfl⟩
    rw [← HF.out.2.1]
    refine ⟨_, rfl, trivial, ?_⟩
    refine pc_call rfl rfl (fun K hK => ?_); go_simp; refine ⟨_, _, ⟨rfl, rfl⟩, hK _ _ _ ?_⟩; clear hK K
    refine (fsaid_any (HS.out.2.2.1.mod HB.out.2.drew (fun _ _ f => f)) HS.out.2.2.2.2.2 (by omega)).mono ?_
    rintro r w2 ⟨rfl, rfl⟩
    rw [← HF.out.2.2]
    refine ⟨_, rfl, trivial, ?_⟩
    iterate 3 (refine pc_pure rfl rfl (fun K hK => ?_); go_simp; refine hK _ ?_; clear hK K)
    refine pc_nil ?_
    by_cases b1 : 32768 < N
    · have HNO := Lib.hid (show ¬ Holds l from fun h => by have := HHO.out.1 h; omega)
      have b1' : (32768 : Int) < (N : Int) := by omega
      go_wp2_with (first
      | (with_reducible change wpList _ _ _ (⟨_, Op.store _ _ _, _, _, _, _⟩ :: _) _ _
         go_must (refine wpList_store_var 76 _ _ rfl rfl w.heap.size #[.int .i64 0, .int .i64 0, .int .i64 0, .slice none 0 0] _ _ rfl rfl HB.out.1.drew size_frame rfl (one4 _ _ _ _ _ _) ?_)
         intro w2 b2 m2 z2
         have M2 := HB.out.2.drew.new_ m2 (Nat.le_refl _)
         have C0 := b2.cell 0; have C1 := b2.cell 1; have C2 := b2.cell 2; have C3 := b2.cell 3
         clear m2))
      refine bodyPost_ret (v := .tuple #[frV 0 0 0 none 0 0, .int .i64 0, .int .i64 4]) (by simp [results, Tryz.results48, go_sem, frV, C0, C1, C2, C3]) rfl (.inr ⟨HNO.out, rfl, M2⟩)
    by_cases b2 : 1099511627776 < E
    · have HNO := Lib.hid (show ¬ Holds l from fun h => by have := HHO.out.1 h; omega)
      have b2' : (1099511627776 : Int) < (E : Int) := by omega
      go_wp2_with (first
      | (with_reducible change wpList _ _ _ (⟨_, Op.store _ _ _, _, _, _, _⟩ :: _) _ _
         go_must (refine wpList_store_var 76 _ _ rfl rfl w.heap.size #[.int .i64 0, .int .i64 0, .int .i64 0, .slice none 0 0] _ _ rfl rfl HB.out.1.drew size_frame rfl (one4 _ _ _ _ _ _) ?_)
         intro w2 b2 m2 z2
         have M2 := HB.out.2.drew.new_ m2 (Nat.le_refl _)
         have C0 := b2.cell 0; have C1 := b2.cell 1; have C2 := b2.cell 2; have C3 := b2.cell 3
         clear m2))
      refine bodyPost_ret (v := .tuple #[frV 0 0 0 none 0 0, .int .i64 0, .int .i64 4]) (by simp [results, Tryz.results48, go_sem, frV, C0, C1, C2, C3]) rfl (.inr ⟨HNO.out, rfl, M2⟩)
    by_cases b3 : 1099511627776 < Sq
    · have HNO := Lib.hid (show ¬ Holds l from fun h => by have := HHO.out.1 h; omega)
      have b3' : (1099511627776 : Int) < (Sq : Int) := by omega
      go_wp2_with (first
      | (with_reducible change wpList _ _ _ (⟨_, Op.store _ _ _, _, _, _, _⟩ :: _) _ _
         go_must (refine wpList_store_var 76 _ _ rfl rfl w.heap.size #[.int .i64 0, .int .i64 0, .int .i64 0, .slice none 0 0] _ _ rfl rfl HB.out.1.drew size_frame rfl (one4 _ _ _ _ _ _) ?_)
         intro w2 b2 m2 z2
         have M2 := HB.out.2.drew.new_ m2 (Nat.le_refl _)
         have C0 := b2.cell 0; have C1 := b2.cell 1; have C2 := b2.cell 2; have C3 := b2.cell 3
         clear m2))
      refine bodyPost_ret (v := .tuple #[frV 0 0 0 none 0 0, .int .i64 0, .int .i64 4]) (by simp [results, Tryz.results48, go_sem, frV, C0, C1, C2, C3]) rfl (.inr ⟨HNO.out, rfl, M2⟩)
    generalize hq : fsec N = q at *
    have HQ := Lib.hid hq; clear hq
    by_cases b4 : n < 512 * q
    · have HNO := Lib.hid (show ¬ Holds l from fun h => by have := HHO.out.1 h; omega)
      have b4' : (n : Int) < 512 * (q : Int) := by omega
      have hN3 : N ≤ 32768 := by omega
      go_wp2_with (first
      | ((with_reducible refine (fsec_any N _ (by omega)).mono ?_); rintro r w' ⟨rfl, rfl⟩; rw [HQ.out])
      | (with_reducible change wpList _ _ _ (⟨_, Op.store _ _ _, _, _, _, _⟩ :: _) _ _
         go_must (refine wpList_store_var 76 _ _ rfl rfl w.heap.size #[.int .i64 0, .int .i64 0, .int .i64 0, .slice none 0 0] _ _ rfl rfl HB.out.1.drew size_frame rfl (one4 _ _ _ _ _ _) ?_)
         intro w2 b2 m2 z2
         have M2 := HB.out.2.drew.new_ m2 (Nat.le_refl _)
         have C0 := b2.cell 0; have C1 := b2.cell 1; have C2 := b2.cell 2; have C3 := b2.cell 3
         clear m2))
      refine bodyPost_ret (v := .tuple #[frV 0 0 0 none 0 0, .int .i64 0, .int .i64 4]) (by simp [results, Tryz.results48, go_sem, frV, C0, C1, C2, C3]) rfl (.inr ⟨HNO.out, rfl, M2⟩)
    have hN3 : N ≤ 32768 := by omega
    have b4' : ¬ (n : Int) < 512 * (q : Int) := by omega
    have HN := Lib.hid (And.intro b1 (And.intro b2 (And.intro b3 (And.intro b4 hN3))))
    obtain ⟨hfok, hdl, hdlt⟩ := HSA.out (by omega) (by omega) hN3 (by rw [HL.out]; omega)
    obtain ⟨g0, off, v4, rfl, hv4, hc4⟩ := HR.out.1.at_ (show 4 < n by omega)
    obtain ⟨kd, hkd, rfl⟩ := bv_get l 4 hv4
    have hkk : (frOf l).kind = kd := by rw [HKD.out, List.getD_eq_getElem?_getD, hkd]; rfl
    have hk256 : kd < 256 := HR.out.2 kd (List.mem_of_getElem? hkd)
    have hD := rd_sub HR.out.1 28 N (by omega) hc
    have hdd : (l.drop 28).take N = (frOf l).data := by show _ = (l.drop 28).take (said ((l.drop 24).take 4)); rw [← HF.out.2.2]
    rw [hdd] at hD
    have HK := Lib.hid (And.intro hfok (And.intro hdl (And.intro hdlt (And.intro hkk (And.intro hD hc4)))))
    have i1 : ¬ (32768 : Int) < (N : Int) := by omega
    have i2 : ¬ (1099511627776 : Int) < (E : Int) := by omega
    have i3 : ¬ (1099511627776 : Int) < (Sq : Int) := by omega
    clear hfok hdl hdlt hv4 hkd hkk hdd hD hc4
    have hc4' : w1.drew.cell? ⟨g0, off + 4, none⟩ = some (.int .u8 (kd : Int)) := by
      have h0 := (HR.out.1.in_ (show 0 < n by omega) ⟨_, rfl, rfl⟩)
      exact (HB.out.2.drew.cell (p := ⟨g0, off + 4, none⟩) h0 (fun f => f)).trans HK.out.2.2.2.2.2
    go_wp2_with ((with_reducible refine (fsec_any N _ (by omega)).mono ?_); rintro r w' ⟨rfl, rfl⟩; rw [HQ.out])
    have hn4 : (4 : Int) < (n : Int) := by omega
    have HSUM := Lib.hid (show IntKind.u64.wrap ((28 : Int) + (N : Int)) = ((28 + N : Nat) : Int) by rw [IntKind.wrap_u64]; omega)
    have h0 := (HR.out.1.in_ (show 0 < n by omega) (g := g0) ⟨_, rfl, rfl⟩)
    refine wp_region_planV (fun w' => w'.cell? ⟨g0, off + 4, none⟩ = some (.int .u8 (kd : Int))) 15 (.pure 0 (.pure 1 (.read 2 (.pure 3 (.pure 4 (.pure 5 (.pure 6 (.pure 7 (.pure 8 (.pure 9 (.pure 10 (.pure 11 (.fork 14 12 (.alone 12 (.pure 13 (.alone 15 .nil))) (.pure 13 (.alone 14 (.alone 15 .nil)))))))))))))))) (by kernel_rfl) (by kernel_rfl) hc4' ?_
    iterate 2 (refine pv_pure rfl rfl (fun K hK => ?_); go_simp; refine hK _ ?_; clear hK K)
    refine pv_take _ rfl rfl (fun w' hS => exec_load1 (P := Tryz.prog) 5 _ rfl rfl hS Tryz.underlying5 rfl) (fun K hK => ?_); go_simp; refine hK _ ?_; clear hK K
    iterate 8 (refine pv_pure rfl rfl (fun K hK => ?_); go_simp; refine hK _ ?_; clear hK K)
    rw [show IntKind.i64.wrap (kd : Int) = (kd : Int) from by rw [IntKind.wrap_i64]; omega, show IntKind.i64.wrap (E : Int) = (E : Int) from by rw [IntKind.wrap_i64]; omega, show IntKind.i64.wrap (Sq : Int) = (Sq : Int) from by rw [IntKind.wrap_i64]; omega]
    refine pv_is _ rfl rfl (fun w' => exec_sub_lhk (P := Tryz.prog) .i64 .u64 29 _ _ (.tmp 54) rfl 5 1 Tryz.underlying29 size_u8' (A := some ⟨g0, off, none⟩) (n := n) (c := c) (l := 28) (h := 28 + N) rfl rfl (congrArg (Value.int .u64) HSUM.out) (by omega) (by omega)) (fun K hK => ?_); go_simp; refine hK _ ?_; clear hK K
    have hcl := HK.out.2.2.2.2.1.mod HB.out.2.drew.drew (fun _ _ f => f)
    have hBz := HB.out.1.drew.drew
    have hMz := HB.out.2.drew.drew
    generalize w1.drew.drew = wd at *
    have hwd : w.heap.size < wd.heap.size := hBz.lt
    have HW := Lib.hid (And.intro hcl (And.intro hBz hMz))
    clear hcl hBz hMz
    refine pv_fork ?oA ?oB
    case' oA =>
      refine pv_val rfl rfl (exec_alloc (P := Tryz.prog) 76 rfl info_frame) (fun _ => ((HW.out.2.2.alloc _).cell (p := ⟨g0, off + 4, none⟩) h0 (fun f => f)).trans HK.out.2.2.2.2.2) (fun K hK => ?_); go_simp; refine hK _ ?_; clear hK K
      refine pv_call rfl rfl (fun K hK => ?_); go_simp; refine ⟨_, _, ⟨rfl, rfl⟩, hK _ _ _ ?_⟩; clear hK K
      have ma : Mod Nn wd (wd.alloc (.cells (Value.agg #[.int .i64 0, .int .i64 0, .int .i64 0, .slice none 0 0]).cells 76)) := (Mod.refl Nn wd).alloc _
      have ba : Blk (wd.alloc (.cells (Value.agg #[.int .i64 0, .int .i64 0, .int .i64 0, .slice none 0 0]).cells 76)) wd.heap.size 76 #[.int .i64 0, .int .i64 0, .int .i64 0, .slice none 0 0] := Blk.new _ _ _
      have hza : wd.heap.size < (wd.alloc (.cells (Value.agg #[.int .i64 0, .int .i64 0, .int .i64 0, .slice none 0 0]).cells 76)).heap.size := by simp
      generalize hwa : wd.alloc (.cells (Value.agg #[.int .i64 0, .int .i64 0, .int .i64 0, .slice none 0 0]).cells 76) = wa at *
      clear hwa
      refine (bclone_any (HW.out.1.mod ma (fun _ _ f => f)) (by omega)).mono ?_
      rintro r w2 ⟨v2, rfl, o2, m2⟩
      obtain ⟨A2, c2, rfl, -, hA2⟩ := own_form o2
      generalize hgb : wd.heap.size = gb at *
      have HX := Lib.hid (And.intro ((HW.out.2.2.nn_ ma).nn_ m2) (And.intro ((HW.out.2.1.mod ma (fun f => f)).mod m2 (fun f => f)) (And.intro (own_base (base' := w.heap.size + 1) o2 (fun g hg => by have z := own_ge o2 g hg; omega)) (And.intro (ba.mod m2 (fun f => f)) (And.intro hwd (show ∀ g, Of A2 g → g ≠ gb from fun g hg e => by have := (hA2 g hg).1; omega))))))
      clear o2 m2 ma ba hA2 hgb hza
      refine ⟨_, rfl, fun _ => ((HX.out.1).cell (p := ⟨g0, off + 4, none⟩) h0 (fun f => f)).trans HK.out.2.2.2.2.2, ?_⟩
      iterate 1 (refine pv_pure rfl rfl (fun K hK => ?_); go_simp; refine hK _ ?_; clear hK K)
    case' oB =>
      refine pv_call rfl rfl (fun K hK => ?_); go_simp; refine ⟨_, _, ⟨rfl, rfl⟩, hK _ _ _ ?_⟩; clear hK K
      refine (bclone_any HW.out.1 (by omega)).mono ?_
      rintro r w3 ⟨v2, rfl, o2, m2⟩
      obtain ⟨A2, c2, rfl, -, hA2⟩ := own_form o2
      refine ⟨_, rfl, fun _ => ((HW.out.2.2.nn_ m2).cell (p := ⟨g0, off + 4, none⟩) h0 (fun f => f)).trans HK.out.2.2.2.2.2, ?_⟩
      iterate 1 (refine pv_pure rfl rfl (fun K hK => ?_); go_simp; refine hK _ ?_; clear hK K)
      refine pv_val rfl rfl (exec_alloc (P := Tryz.prog) 76 rfl info_frame) (fun _ => (((HW.out.2.2.nn_ m2).alloc _).cell (p := ⟨g0, off + 4, none⟩) h0 (fun f => f)).trans HK.out.2.2.2.2.2) (fun K hK => ?_); go_simp; refine hK _ ?_; clear hK K
      have ma : Mod Nn w3 (w3.alloc (.cells (Value.agg #[.int .i64 0, .int .i64 0, .int .i64 0, .slice none 0 0]).cells 76)) := (Mod.refl Nn w3).alloc _
      have ba : Blk (w3.alloc (.cells (Value.agg #[.int .i64 0, .int .i64 0, .int .i64 0, .slice none 0 0]).cells 76)) w3.heap.size 76 #[.int .i64 0, .int .i64 0, .int .i64 0, .slice none 0 0] := Blk.new _ _ _
      generalize hwa : w3.alloc (.cells (Value.agg #[.int .i64 0, .int .i64 0, .int .i64 0, .slice none 0 0]).cells 76) = w2 at *
      clear hwa
      have hz3 : wd.heap.size ≤ w3.heap.size := m2.size
      generalize hgb : w3.heap.size = gb at *
      have HX := Lib.hid (And.intro ((HW.out.2.2.nn_ m2).nn_ ma) (And.intro ((HW.out.2.1.mod m2 (fun f => f)).mod ma (fun f => f)) (And.intro (own_mod (own_base (base' := w.heap.size + 1) o2 (fun g hg => by have z := own_ge o2 g hg; omega)) ma (fun _ _ f => f)) (And.intro ba (And.intro (show w.heap.size < gb by omega) (show ∀ g, Of A2 g → g ≠ gb from fun g hg e => by have := (hA2 g hg).2; omega))))))
      clear o2 m2 ma ba hA2 hgb hz3
    all_goals
      refine pv_unit rfl rfl (exec_store_row (P := Tryz.prog) 76 _ (.tmp 57) rfl (g := gb) (cells := #[.int .i64 kd, .int .i64 E, .int .i64 Sq, .slice A2 N c2]) rfl rfl HX.out.2.2.2.1 size_frame rfl (one4 _ _ _ _ _ _)) (fun h => by simp at h) (fun K hK => ?_); go_simp; refine hK _ ?_; clear hK K
      refine pv_nil ?_
      have m4 : Mod (At gb) w2 (w2.setRow gb #[.int .i64 kd, .int .i64 E, .int .i64 Sq, .slice A2 N c2]) := Mod.rowAt _ _ _
      have hb4 := HX.out.2.2.2.1.setRow_ #[.int .i64 kd, .int .i64 E, .int .i64 Sq, .slice A2 N c2]
      generalize hw4 : w2.setRow gb #[.int .i64 kd, .int .i64 E, .int .i64 Sq, .slice A2 N c2] = w4 at *
      clear hw4
      have M4 := HX.out.1.new_ m4 (Nat.le_of_lt HX.out.2.2.2.2.1)
      have O4 := own_mod HX.out.2.2.1 m4 (fun g hg => HX.out.2.2.2.2.2 g (own_of hg))
      have B4 := HX.out.2.1.mod m4 (fun e => by have e : w.heap.size = gb := e; have := HX.out.2.2.2.2.1; omega)
      have HY := Lib.hid (And.intro m4 hb4)
      have hgw : w.heap.size < gb := HX.out.2.2.2.2.1
      clear m4 hb4
      have hput := fput_ok (w := w4) (c := c2) (frOf l) HK.out.1 (Rd.of_own O4) HK.out.2.2.1
      rw [HK.out.2.2.2.1, HES.out.1, HES.out.2, HQ.out] at hput
      have HP := Lib.hid hput
      have hrl := HR.out.1.mod M4 (fun _ _ f => f)
      have HZ := Lib.hid (And.intro M4 (And.intro O4 (And.intro hrl B4)))
      clear hput O4 M4 B4 hrl
      go_wp2_with (first
        | (with_reducible change wpList _ _ _ (⟨_, Op.load _ _, _, _, _, _⟩ :: _) _ _
           go_must (refine wpList_load_var 76 _ rfl rfl gb #[.int .i64 kd, .int .i64 E, .int .i64 Sq, .slice A2 N c2] _ _ rfl HY.out.2 Tryz.underlying76 rfl size_frame ?_)))
      refine HP.out.mono ?_
      rintro r w5 ⟨g5, rfl, o5, m5, hg5⟩
      have o5' : Out w5 g5 5 (512 * fsec N) ((frOf l).body ++ num (frOf l).sum 4) := by rw [HQ.out]; exact o5
      have hb5 := o5'.bytes HK.out.2.1
      have hbl : (frOf l).bytes.length = 512 * q := by rw [Fr.bytes_len, HK.out.2.1, HQ.out]
      have hrd5 : Rd w5 (some ⟨g5, 0, none⟩) (512 * q) (bv (frOf l).bytes) := Rd.of_blk0 hb5 (by rw [bv_len, hbl])
      have hpre := bprefix_any (c := c) (d := 512 * q) (HZ.out.2.2.1.mod m5 (fun _ _ f => f)) hrd5 HR.out.2 ((frOf l).bytes_lt HK.out.2.2.1) hc
      have HPR := Lib.hid hpre
      have HV := Lib.hid (And.intro (HZ.out.1.nn_ m5) (And.intro (own_mod HZ.out.2.1 m5 (fun _ _ f => f)) (And.intro (HZ.out.2.2.2.mod m5 (fun f => f)) (HY.out.2.mod m5 (fun f => f)))))
      clear hb5 hbl hrd5 hpre o5 o5' m5
      by_cases hh : Holds l
      · have hd : decide (512 * q ≤ n ∧ l.take (512 * q) = (frOf l).bytes) = true := decide_eq_true ⟨by omega, (HHO.out.1 hh).2.2.2.2⟩
        have hpr := HPR.out
        rw [hd] at hpr
        have HPR' := Lib.hid hpr
        have HH := Lib.hid hh
        have hqd := Lib.hid (show ((512 * q : Nat) : Int) / 512 = (q : Int) by omega)
        clear hd hpr hh
        go_wp2_with (first
          | ((with_reducible refine HPR'.out.mono ?_); rintro r w' ⟨rfl, rfl⟩)
          | (with_reducible change wpList _ _ _ (⟨_, Op.load _ _, _, _, _, _⟩ :: _) _ _
             go_must (refine wpList_load_var 76 _ rfl rfl gb #[.int .i64 kd, .int .i64 E, .int .i64 Sq, .slice A2 N c2] _ _ rfl HV.out.2.2.2 Tryz.underlying76 rfl size_frame ?_))
          | (with_reducible change wpList _ _ _ (⟨_, Op.store _ _ _, _, _, _, _⟩ :: _) _ _
             go_must (refine wpList_store_var 76 _ _ rfl rfl w.heap.size #[.int .i64 kd, .int .i64 E, .int .i64 Sq, .slice A2 N c2] _ _ rfl rfl HV.out.2.2.1 size_frame rfl (one4 _ _ _ _ _ _) ?_)
             intro w6 b6 m6 z6
             have M6 := HV.out.1.new_ m6 (Nat.le_refl _)
             have O6 := own_mod HV.out.2.1 m6 (fun g hg e => by have z := own_ge HV.out.2.1 g hg; have : g = w.heap.size := e; omega)
             have C0 := b6.cell 0; have C1 := b6.cell 1; have C2 := b6.cell 2; have C3 := b6.cell 3
             clear m6))
        refine bodyPost_ret (v := .tuple #[frV kd E Sq A2 N c2, .int .i64 q, .int .i64 0]) (by simp [results, Tryz.results48, go_sem, frV, C0, C1, C2, C3]) rfl (.inl ⟨HH.out, A2, c2, by rw [HK.out.2.2.2.1, HQ.out], O6, M6⟩)
      · have hd : decide (512 * q ≤ n ∧ l.take (512 * q) = (frOf l).bytes) = false := decide_eq_false (fun h => hh (HHO.out.2 ⟨by omega, by omega, hN3, by omega, h.2⟩))
        have hpr := HPR.out
        rw [hd] at hpr
        have HPR' := Lib.hid hpr
        have HH := Lib.hid hh
        clear hd hpr hh
        go_wp2_with (first
          | ((with_reducible refine HPR'.out.mono ?_); rintro r w' ⟨rfl, rfl⟩)
          | (with_reducible change wpList _ _ _ (⟨_, Op.store _ _ _, _, _, _, _⟩ :: _) _ _
             go_must (refine wpList_store_var 76 _ _ rfl rfl w.heap.size #[.int .i64 0, .int .i64 0, .int .i64 0, .slice none 0 0] _ _ rfl rfl HV.out.2.2.1 size_frame rfl (one4 _ _ _ _ _ _) ?_)
             intro w6 b6 m6 z6
             have M6 := HV.out.1.new_ m6 (Nat.le_refl _)
             have C0 := b6.cell 0; have C1 := b6.cell 1; have C2 := b6.cell 2; have C3 := b6.cell 3
             clear m6))
        refine bodyPost_ret (v := .tuple #[frV 0 0 0 none 0 0, .int .i64 0, .int .i64 4]) (by simp [results, Tryz.results48, go_sem, frV, C0, C1, C2, C3]) rfl (.inr ⟨HH.out, rfl, M6⟩)
end
end Go.Proofs.YtijmkbhbpbkkoaaGreat
