/- The document's frames (peatbankref10): Get, the walk. -/
import Derived.Test.YtijmkbhbpbkkoaaFrG
import Derived.Deep.DeepCutAuto
import Derived.Deep.CutBlock
namespace Go.Proofs.Ytijmkbhbpbkkoaa
open Go.RowKit

theorem exec_conv_str {P : Program} {w : World} {A : Option Addr} {n c : Nat} {l : List Nat} {o : Oper} {a : Act} (src e dst : TypeId) (x : Operand) (ho : o.op = .convert src dst x) (hs : P.underlying src = some (.slice e)) (he : P.underlying e = some (.int .u8)) (hd : P.underlying dst = some .string)
    (hx : a.eval x = .slice A n c) (hr : Rd w A n (bv l)) : (execOp a.eval o).run P w = .ok (.value (.string (bstr l))) w := by
  simp [execOp, ho, hx, conv_str src e dst hs he hd hr, Result.andThen]
section
variable {w : World} {A : Option Addr} {n c : Nat} {l : List Nat}
set_option maxRecDepth 100000 in
set_option maxHeartbeats 6400000 in
theorem rget_any (hr : Rd w A n (bv l)) (hl : ∀ z ∈ l, z < 256) (hn : n ≤ 140737488355328) (hc : n ≤ c) (hcm : c ≤ maxLen) :
    Calls Try.prog 38 #[.slice A n c] w (GotP w l) := by
  unfold maxLen at hcm
  have hL : l.length = n := by have := hr.1; simpa [bv] using this
  have HL := Lib.hid hL; clear hL
  have HR := Lib.hid (And.intro hr hl)
  by_cases h1 : (n : Int) < 512
  · have hno : ¬ Holds l := fun h => by have := h.1; rw [HL.out] at this; omega
    have HNO := Lib.hid hno
    clear hr hl hno
    go_enter Try.func38, Try.ntmps38
    go_wp2_with (first
      | (with_reducible change wpList _ _ _ (⟨_, Op.alloc _, _, _, _, _⟩ :: _) _ _
         go_must (refine wpList_alloc_var 65 rfl rfl info_frame ?_)
         intro w1 b1 m1 z1
         have HB := Lib.hid (And.intro b1 m1)
         clear b1 m1)
      | (with_reducible change wpList _ _ _ (⟨_, Op.store _ _ _, _, _, _, _⟩ :: _) _ _
         go_must (refine wpList_store_var 65 _ _ rfl rfl w.heap.size #[.int .i64 0, .int .i64 0, .int .i64 0, .slice none 0 0] _ _ rfl rfl HB.out.1 size_frame rfl (one4 _ _ _ _ _ _) ?_)
         intro w2 b2 m2 z2
         have M2 := HB.out.2.new_ m2 (Nat.le_refl _)
         have C0 := b2.cell 0; have C1 := b2.cell 1; have C2 := b2.cell 2; have C3 := b2.cell 3
         clear m2))
    refine bodyPost_ret (v := .tuple #[frV 0 0 0 none 0 0, .int .i64 0, .int .i64 4]) (by simp [results, Try.results38, go_sem, frV, C0, C1, C2, C3]) rfl (.inr ⟨HNO.out, rfl, M2⟩)
  · have r1 := rd_sub hr 8 8 (by omega) hc
    have r2 := rd_sub hr 16 8 (by omega) hc
    have r3 := rd_sub hr 24 4 (by omega) hc
    have HS := Lib.hid (And.intro r1 (And.intro r2 (And.intro r3 (And.intro (sub_lt 8 8 hl) (And.intro (sub_lt 16 8 hl) (sub_lt 24 4 hl))))))
    clear r1 r2 r3
    have q1 := said_bound 8 8 hl
    have q2 := said_bound 16 8 hl
    have q3 := said_bound 24 4 hl
    have hE : (frOf l).epoch = said ((l.drop 8).take 8) := rfl
    have hSq : (frOf l).seq = said ((l.drop 16).take 8) := rfl
    have hN : frLong l = said ((l.drop 24).take 4) := rfl
    have HSA := Lib.hid (fun a b d e => say_ok hl (by rw [HL.out]; omega) a b d e)
    rw [← hE] at q1; rw [← hSq] at q2; rw [← hN] at q3
    have HF := Lib.hid (And.intro hE (And.intro hSq hN))
    have HKD := Lib.hid (show (frOf l).kind = l.getD 4 0 from rfl)
    have HHO := Lib.hid (show Holds l ↔ (frOf l).epoch ≤ 1099511627776 ∧ (frOf l).seq ≤ 1099511627776 ∧ frLong l ≤ 32768 ∧ 32 + frLong l ≤ n ∧ (frOf l).bytes.length ≤ n ∧ l.take (frOf l).bytes.length = (frOf l).bytes by
      rw [Holds.iff l hl, HL.out]
      exact ⟨fun h => ⟨h.2.1, h.2.2.1, h.2.2.2.1, h.2.2.2.2.1, h.2.2.2.2.2.1, h.2.2.2.2.2.2⟩, fun h => ⟨by omega, h.1, h.2.1, h.2.2.1, h.2.2.2.1, h.2.2.2.2.1, h.2.2.2.2.2⟩⟩)
    unfold GotP
    generalize frLong l = N at *
    obtain ⟨E, hEE⟩ : ∃ E, (frOf l).epoch = E := ⟨_, rfl⟩
    obtain ⟨Sq, hSS⟩ : ∃ Sq, (frOf l).seq = Sq := ⟨_, rfl⟩
    rw [hEE] at q1 HHO HF HSA ⊢
    rw [hSS] at q2 HHO HF HSA ⊢
    have HES := Lib.hid (And.intro hEE hSS)
    clear hE hSq hN hEE hSS hr hl
    have q3' : N < 4294967296 := q3
    have q1' : E < 18446744073709551616 := q1
    have q2' : Sq < 18446744073709551616 := q2
    clear q1 q2 q3
    have h1' : ¬ (n : Int) < 512 := h1
    have hfs := fsec_le N
    by_cases b2 : 1099511627776 < E
    · have HNO := Lib.hid (show ¬ Holds l from fun h => by have := HHO.out.1 h; omega)
      have b2' : decide ((1099511627776 : Int) < (E : Int)) = true := decide_eq_true (by omega)
      go_enter Try.func38, Try.ntmps38
      go_wp2_with (first
      | (with_reducible change wpList _ _ _ (⟨_, Op.alloc _, _, _, _, _⟩ :: _) _ _
         go_must (refine wpList_alloc_var 65 rfl rfl info_frame ?_)
         intro w1 b1 m1 z1
         have HB := Lib.hid (And.intro b1 m1)
         have hw1 : w.heap.size < w1.heap.size := by omega
         clear b1 m1 z1)
      | (with_reducible change wpList _ _ _ (⟨_, Op.store _ _ _, _, _, _, _⟩ :: _) _ _
         go_must (refine wpList_store_var 65 _ _ rfl rfl w.heap.size #[.int .i64 0, .int .i64 0, .int .i64 0, .slice none 0 0] _ _ rfl rfl HB.out.1 size_frame rfl (one4 _ _ _ _ _ _) ?_)
         intro w2 b2 m2 z2
         have M2 := HB.out.2.new_ m2 (Nat.le_refl _)
         have C0 := b2.cell 0; have C1 := b2.cell 1; have C2 := b2.cell 2; have C3 := b2.cell 3
         clear m2)
      | (with_reducible change wpList _ _ _ (⟨some 14, _, _, _, _, _⟩ :: _) _ _
         refine wpList_sub_lh 38 _ _ _ rfl rfl 5 1 Try.underlying38 size_u8' (A := A) (n := n) (c := c) 8 16 rfl rfl rfl (by omega) (by omega) ?_)
      | (with_reducible change wpList _ _ _ (⟨some 20, _, _, _, _, _⟩ :: _) _ _
         refine wpList_sub_lh 38 _ _ _ rfl rfl 5 1 Try.underlying38 size_u8' (A := A) (n := n) (c := c) 16 24 rfl rfl rfl (by omega) (by omega) ?_)
      | (with_reducible change wpList _ _ _ (⟨some 26, _, _, _, _, _⟩ :: _) _ _
         refine wpList_sub_lh 38 _ _ _ rfl rfl 5 1 Try.underlying38 size_u8' (A := A) (n := n) (c := c) 24 28 rfl rfl rfl (by omega) (by omega) ?_)
      | (with_reducible change wpList _ _ _ (⟨some 35, _, _, _, _, _⟩ :: _) _ _
         refine wpList_sub_lh 38 _ _ _ rfl rfl 5 1 Try.underlying38 size_u8' (A := A) (n := n) (c := c) 24 28 rfl rfl rfl (by omega) (by omega) ?_)
      | (with_reducible change wpList _ _ _ (⟨some 43, _, _, _, _, _⟩ :: _) _ _
         refine wpList_sub_lh 38 _ _ _ rfl rfl 5 1 Try.underlying38 size_u8' (A := A) (n := n) (c := c) 24 28 rfl rfl rfl (by omega) (by omega) ?_)
      | ((with_reducible refine (rsaid_any (HS.out.1.mod HB.out.2 (fun _ _ f => f)) HS.out.2.2.2.1 (by omega)).mono ?_); rintro r w2 ⟨rfl, rfl⟩; rw [← HF.out.1])
      | ((with_reducible refine (rsaid_any (HS.out.2.1.mod HB.out.2 (fun _ _ f => f)) HS.out.2.2.2.2.1 (by omega)).mono ?_); rintro r w2 ⟨rfl, rfl⟩; rw [← HF.out.2.1])
      | ((with_reducible refine (rsaid_any (HS.out.2.2.1.mod HB.out.2 (fun _ _ f => f)) HS.out.2.2.2.2.2 (by omega)).mono ?_); rintro r w2 ⟨rfl, rfl⟩; rw [← HF.out.2.2]))
      refine bodyPost_ret (v := .tuple #[frV 0 0 0 none 0 0, .int .i64 0, .int .i64 4]) (by simp [results, Try.results38, go_sem, frV, C0, C1, C2, C3]) rfl (.inr ⟨HNO.out, rfl, M2⟩)
    by_cases b3 : 1099511627776 < Sq
    · have HNO := Lib.hid (show ¬ Holds l from fun h => by have := HHO.out.1 h; omega)
      have b2' : decide ((1099511627776 : Int) < (E : Int)) = false := decide_eq_false (by omega)
      have b3' : decide ((1099511627776 : Int) < (Sq : Int)) = true := decide_eq_true (by omega)
      go_enter Try.func38, Try.ntmps38
      go_wp2_with (first
      | (with_reducible change wpList _ _ _ (⟨_, Op.alloc _, _, _, _, _⟩ :: _) _ _
         go_must (refine wpList_alloc_var 65 rfl rfl info_frame ?_)
         intro w1 b1 m1 z1
         have HB := Lib.hid (And.intro b1 m1)
         have hw1 : w.heap.size < w1.heap.size := by omega
         clear b1 m1 z1)
      | (with_reducible change wpList _ _ _ (⟨_, Op.store _ _ _, _, _, _, _⟩ :: _) _ _
         go_must (refine wpList_store_var 65 _ _ rfl rfl w.heap.size #[.int .i64 0, .int .i64 0, .int .i64 0, .slice none 0 0] _ _ rfl rfl HB.out.1 size_frame rfl (one4 _ _ _ _ _ _) ?_)
         intro w2 b2 m2 z2
         have M2 := HB.out.2.new_ m2 (Nat.le_refl _)
         have C0 := b2.cell 0; have C1 := b2.cell 1; have C2 := b2.cell 2; have C3 := b2.cell 3
         clear m2)
      | (with_reducible change wpList _ _ _ (⟨some 14, _, _, _, _, _⟩ :: _) _ _
         refine wpList_sub_lh 38 _ _ _ rfl rfl 5 1 Try.underlying38 size_u8' (A := A) (n := n) (c := c) 8 16 rfl rfl rfl (by omega) (by omega) ?_)
      | (with_reducible change wpList _ _ _ (⟨some 20, _, _, _, _, _⟩ :: _) _ _
         refine wpList_sub_lh 38 _ _ _ rfl rfl 5 1 Try.underlying38 size_u8' (A := A) (n := n) (c := c) 16 24 rfl rfl rfl (by omega) (by omega) ?_)
      | (with_reducible change wpList _ _ _ (⟨some 26, _, _, _, _, _⟩ :: _) _ _
         refine wpList_sub_lh 38 _ _ _ rfl rfl 5 1 Try.underlying38 size_u8' (A := A) (n := n) (c := c) 24 28 rfl rfl rfl (by omega) (by omega) ?_)
      | (with_reducible change wpList _ _ _ (⟨some 35, _, _, _, _, _⟩ :: _) _ _
         refine wpList_sub_lh 38 _ _ _ rfl rfl 5 1 Try.underlying38 size_u8' (A := A) (n := n) (c := c) 24 28 rfl rfl rfl (by omega) (by omega) ?_)
      | (with_reducible change wpList _ _ _ (⟨some 43, _, _, _, _, _⟩ :: _) _ _
         refine wpList_sub_lh 38 _ _ _ rfl rfl 5 1 Try.underlying38 size_u8' (A := A) (n := n) (c := c) 24 28 rfl rfl rfl (by omega) (by omega) ?_)
      | ((with_reducible refine (rsaid_any (HS.out.1.mod HB.out.2 (fun _ _ f => f)) HS.out.2.2.2.1 (by omega)).mono ?_); rintro r w2 ⟨rfl, rfl⟩; rw [← HF.out.1])
      | ((with_reducible refine (rsaid_any (HS.out.2.1.mod HB.out.2 (fun _ _ f => f)) HS.out.2.2.2.2.1 (by omega)).mono ?_); rintro r w2 ⟨rfl, rfl⟩; rw [← HF.out.2.1])
      | ((with_reducible refine (rsaid_any (HS.out.2.2.1.mod HB.out.2 (fun _ _ f => f)) HS.out.2.2.2.2.2 (by omega)).mono ?_); rintro r w2 ⟨rfl, rfl⟩; rw [← HF.out.2.2]))
      refine bodyPost_ret (v := .tuple #[frV 0 0 0 none 0 0, .int .i64 0, .int .i64 4]) (by simp [results, Try.results38, go_sem, frV, C0, C1, C2, C3]) rfl (.inr ⟨HNO.out, rfl, M2⟩)
    by_cases b1 : 32768 < N
    · have HNO := Lib.hid (show ¬ Holds l from fun h => by have := HHO.out.1 h; omega)
      have b2' : decide ((1099511627776 : Int) < (E : Int)) = false := decide_eq_false (by omega)
      have b3' : decide ((1099511627776 : Int) < (Sq : Int)) = false := decide_eq_false (by omega)
      have b1' : decide ((32768 : Int) < (N : Int)) = true := decide_eq_true (by omega)
      go_enter Try.func38, Try.ntmps38
      go_wp2_with (first
      | (with_reducible change wpList _ _ _ (⟨_, Op.alloc _, _, _, _, _⟩ :: _) _ _
         go_must (refine wpList_alloc_var 65 rfl rfl info_frame ?_)
         intro w1 b1 m1 z1
         have HB := Lib.hid (And.intro b1 m1)
         have hw1 : w.heap.size < w1.heap.size := by omega
         clear b1 m1 z1)
      | (with_reducible change wpList _ _ _ (⟨_, Op.store _ _ _, _, _, _, _⟩ :: _) _ _
         go_must (refine wpList_store_var 65 _ _ rfl rfl w.heap.size #[.int .i64 0, .int .i64 0, .int .i64 0, .slice none 0 0] _ _ rfl rfl HB.out.1 size_frame rfl (one4 _ _ _ _ _ _) ?_)
         intro w2 b2 m2 z2
         have M2 := HB.out.2.new_ m2 (Nat.le_refl _)
         have C0 := b2.cell 0; have C1 := b2.cell 1; have C2 := b2.cell 2; have C3 := b2.cell 3
         clear m2)
      | (with_reducible change wpList _ _ _ (⟨some 14, _, _, _, _, _⟩ :: _) _ _
         refine wpList_sub_lh 38 _ _ _ rfl rfl 5 1 Try.underlying38 size_u8' (A := A) (n := n) (c := c) 8 16 rfl rfl rfl (by omega) (by omega) ?_)
      | (with_reducible change wpList _ _ _ (⟨some 20, _, _, _, _, _⟩ :: _) _ _
         refine wpList_sub_lh 38 _ _ _ rfl rfl 5 1 Try.underlying38 size_u8' (A := A) (n := n) (c := c) 16 24 rfl rfl rfl (by omega) (by omega) ?_)
      | (with_reducible change wpList _ _ _ (⟨some 26, _, _, _, _, _⟩ :: _) _ _
         refine wpList_sub_lh 38 _ _ _ rfl rfl 5 1 Try.underlying38 size_u8' (A := A) (n := n) (c := c) 24 28 rfl rfl rfl (by omega) (by omega) ?_)
      | (with_reducible change wpList _ _ _ (⟨some 35, _, _, _, _, _⟩ :: _) _ _
         refine wpList_sub_lh 38 _ _ _ rfl rfl 5 1 Try.underlying38 size_u8' (A := A) (n := n) (c := c) 24 28 rfl rfl rfl (by omega) (by omega) ?_)
      | (with_reducible change wpList _ _ _ (⟨some 43, _, _, _, _, _⟩ :: _) _ _
         refine wpList_sub_lh 38 _ _ _ rfl rfl 5 1 Try.underlying38 size_u8' (A := A) (n := n) (c := c) 24 28 rfl rfl rfl (by omega) (by omega) ?_)
      | ((with_reducible refine (rsaid_any (HS.out.1.mod HB.out.2 (fun _ _ f => f)) HS.out.2.2.2.1 (by omega)).mono ?_); rintro r w2 ⟨rfl, rfl⟩; rw [← HF.out.1])
      | ((with_reducible refine (rsaid_any (HS.out.2.1.mod HB.out.2 (fun _ _ f => f)) HS.out.2.2.2.2.1 (by omega)).mono ?_); rintro r w2 ⟨rfl, rfl⟩; rw [← HF.out.2.1])
      | ((with_reducible refine (rsaid_any (HS.out.2.2.1.mod HB.out.2 (fun _ _ f => f)) HS.out.2.2.2.2.2 (by omega)).mono ?_); rintro r w2 ⟨rfl, rfl⟩; rw [← HF.out.2.2]))
      refine bodyPost_ret (v := .tuple #[frV 0 0 0 none 0 0, .int .i64 0, .int .i64 4]) (by simp [results, Try.results38, go_sem, frV, C0, C1, C2, C3]) rfl (.inr ⟨HNO.out, rfl, M2⟩)
    by_cases b4 : n < 32 + N
    · have HNO := Lib.hid (show ¬ Holds l from fun h => by have := HHO.out.1 h; omega)
      have b2' : decide ((1099511627776 : Int) < (E : Int)) = false := decide_eq_false (by omega)
      have b3' : decide ((1099511627776 : Int) < (Sq : Int)) = false := decide_eq_false (by omega)
      have b1' : decide ((32768 : Int) < (N : Int)) = false := decide_eq_false (by omega)
      have b4' : decide ((n : Int) < 28 + (N : Int) + 4) = true := decide_eq_true (by omega)
      go_enter Try.func38, Try.ntmps38
      go_wp2_with (first
      | (with_reducible change wpList _ _ _ (⟨_, Op.alloc _, _, _, _, _⟩ :: _) _ _
         go_must (refine wpList_alloc_var 65 rfl rfl info_frame ?_)
         intro w1 b1 m1 z1
         have HB := Lib.hid (And.intro b1 m1)
         have hw1 : w.heap.size < w1.heap.size := by omega
         clear b1 m1 z1)
      | (with_reducible change wpList _ _ _ (⟨_, Op.store _ _ _, _, _, _, _⟩ :: _) _ _
         go_must (refine wpList_store_var 65 _ _ rfl rfl w.heap.size #[.int .i64 0, .int .i64 0, .int .i64 0, .slice none 0 0] _ _ rfl rfl HB.out.1 size_frame rfl (one4 _ _ _ _ _ _) ?_)
         intro w2 b2 m2 z2
         have M2 := HB.out.2.new_ m2 (Nat.le_refl _)
         have C0 := b2.cell 0; have C1 := b2.cell 1; have C2 := b2.cell 2; have C3 := b2.cell 3
         clear m2)
      | (with_reducible change wpList _ _ _ (⟨some 14, _, _, _, _, _⟩ :: _) _ _
         refine wpList_sub_lh 38 _ _ _ rfl rfl 5 1 Try.underlying38 size_u8' (A := A) (n := n) (c := c) 8 16 rfl rfl rfl (by omega) (by omega) ?_)
      | (with_reducible change wpList _ _ _ (⟨some 20, _, _, _, _, _⟩ :: _) _ _
         refine wpList_sub_lh 38 _ _ _ rfl rfl 5 1 Try.underlying38 size_u8' (A := A) (n := n) (c := c) 16 24 rfl rfl rfl (by omega) (by omega) ?_)
      | (with_reducible change wpList _ _ _ (⟨some 26, _, _, _, _, _⟩ :: _) _ _
         refine wpList_sub_lh 38 _ _ _ rfl rfl 5 1 Try.underlying38 size_u8' (A := A) (n := n) (c := c) 24 28 rfl rfl rfl (by omega) (by omega) ?_)
      | (with_reducible change wpList _ _ _ (⟨some 35, _, _, _, _, _⟩ :: _) _ _
         refine wpList_sub_lh 38 _ _ _ rfl rfl 5 1 Try.underlying38 size_u8' (A := A) (n := n) (c := c) 24 28 rfl rfl rfl (by omega) (by omega) ?_)
      | (with_reducible change wpList _ _ _ (⟨some 43, _, _, _, _, _⟩ :: _) _ _
         refine wpList_sub_lh 38 _ _ _ rfl rfl 5 1 Try.underlying38 size_u8' (A := A) (n := n) (c := c) 24 28 rfl rfl rfl (by omega) (by omega) ?_)
      | ((with_reducible refine (rsaid_any (HS.out.1.mod HB.out.2 (fun _ _ f => f)) HS.out.2.2.2.1 (by omega)).mono ?_); rintro r w2 ⟨rfl, rfl⟩; rw [← HF.out.1])
      | ((with_reducible refine (rsaid_any (HS.out.2.1.mod HB.out.2 (fun _ _ f => f)) HS.out.2.2.2.2.1 (by omega)).mono ?_); rintro r w2 ⟨rfl, rfl⟩; rw [← HF.out.2.1])
      | ((with_reducible refine (rsaid_any (HS.out.2.2.1.mod HB.out.2 (fun _ _ f => f)) HS.out.2.2.2.2.2 (by omega)).mono ?_); rintro r w2 ⟨rfl, rfl⟩; rw [← HF.out.2.2]))
      refine bodyPost_ret (v := .tuple #[frV 0 0 0 none 0 0, .int .i64 0, .int .i64 4]) (by simp [results, Try.results38, go_sem, frV, C0, C1, C2, C3]) rfl (.inr ⟨HNO.out, rfl, M2⟩)
    have b2' : decide ((1099511627776 : Int) < (E : Int)) = false := decide_eq_false (by omega)
    have b3' : decide ((1099511627776 : Int) < (Sq : Int)) = false := decide_eq_false (by omega)
    have b1' : decide ((32768 : Int) < (N : Int)) = false := decide_eq_false (by omega)
    have b4' : decide ((n : Int) < 28 + (N : Int) + 4) = false := decide_eq_false (by omega)
    have hN3 : N ≤ 32768 := by omega
    generalize hq : fsec N = q at *
    have HQ := Lib.hid hq; clear hq
    go_enter Try.func38, Try.ntmps38
    go_upto_region 4 with (first
      | (with_reducible change wpList _ _ _ (⟨_, Op.alloc _, _, _, _, _⟩ :: _) _ _
         go_must (refine wpList_alloc_var 65 rfl rfl info_frame ?_)
         intro w1 b1 m1 z1
         have HB := Lib.hid (And.intro b1 m1)
         have hw1 : w.heap.size < w1.heap.size := by omega
         clear b1 m1 z1)
      | (with_reducible change wpList _ _ _ (⟨some 14, _, _, _, _, _⟩ :: _) _ _
         refine wpList_sub_lh 38 _ _ _ rfl rfl 5 1 Try.underlying38 size_u8' (A := A) (n := n) (c := c) 8 16 rfl rfl rfl (by omega) (by omega) ?_)
      | (with_reducible change wpList _ _ _ (⟨some 20, _, _, _, _, _⟩ :: _) _ _
         refine wpList_sub_lh 38 _ _ _ rfl rfl 5 1 Try.underlying38 size_u8' (A := A) (n := n) (c := c) 16 24 rfl rfl rfl (by omega) (by omega) ?_)
      | (with_reducible change wpList _ _ _ (⟨some 26, _, _, _, _, _⟩ :: _) _ _
         refine wpList_sub_lh 38 _ _ _ rfl rfl 5 1 Try.underlying38 size_u8' (A := A) (n := n) (c := c) 24 28 rfl rfl rfl (by omega) (by omega) ?_)
      | (with_reducible change wpList _ _ _ (⟨some 35, _, _, _, _, _⟩ :: _) _ _
         refine wpList_sub_lh 38 _ _ _ rfl rfl 5 1 Try.underlying38 size_u8' (A := A) (n := n) (c := c) 24 28 rfl rfl rfl (by omega) (by omega) ?_)
      | (with_reducible change wpList _ _ _ (⟨some 43, _, _, _, _, _⟩ :: _) _ _
         refine wpList_sub_lh 38 _ _ _ rfl rfl 5 1 Try.underlying38 size_u8' (A := A) (n := n) (c := c) 24 28 rfl rfl rfl (by omega) (by omega) ?_)
      | ((with_reducible refine (rsaid_any (HS.out.1.mod HB.out.2 (fun _ _ f => f)) HS.out.2.2.2.1 (by omega)).mono ?_); rintro r w2 ⟨rfl, rfl⟩; rw [← HF.out.1])
      | ((with_reducible refine (rsaid_any (HS.out.2.1.mod HB.out.2 (fun _ _ f => f)) HS.out.2.2.2.2.1 (by omega)).mono ?_); rintro r w2 ⟨rfl, rfl⟩; rw [← HF.out.2.1])
      | ((with_reducible refine (rsaid_any (HS.out.2.2.1.mod HB.out.2 (fun _ _ f => f)) HS.out.2.2.2.2.2 (by omega)).mono ?_); rintro r w2 ⟨rfl, rfl⟩; rw [← HF.out.2.2]))
    obtain ⟨hfok, hdl, hdlt⟩ := HSA.out (by omega) (by omega) hN3 (by rw [HL.out]; omega)
    obtain ⟨g0, off, v4, rfl, hv4, hc4⟩ := HR.out.1.at_ (show 4 < n by omega)
    obtain ⟨kd, hkd, rfl⟩ := bv_get l 4 hv4
    have hkk : (frOf l).kind = kd := by rw [HKD.out, List.getD_eq_getElem?_getD, hkd]; rfl
    have hk256 : kd < 256 := HR.out.2 kd (List.mem_of_getElem? hkd)
    have hD := rd_sub HR.out.1 28 N (by omega) hc
    have hdd : (l.drop 28).take N = (frOf l).data := by show _ = (l.drop 28).take (said ((l.drop 24).take 4)); rw [← HF.out.2.2]
    rw [hdd] at hD
    have HK := Lib.hid (And.intro hfok (And.intro hdl (And.intro hdlt (And.intro hkk (And.intro hD hc4)))))
    clear hfok hdl hdlt hv4 hkd hkk hdd hD hc4 b2' b3' b1' b4'
    have h0 := (HR.out.1.in_ (show 0 < n by omega) (g := g0) ⟨_, rfl, rfl⟩)
    go_cut [6] from 46 to 64 (fun v wx => ∃ (gb : Nat) (A2 : Option Addr) (c2 : Nat), v = .pointer (some ⟨gb, 0, none⟩) ∧ Mod Nn w wx ∧ wx.ownsRow (w.heap.size + 1) 5 1 (.slice A2 N c2) N (bv (frOf l).data) ∧ Blk wx w.heap.size 65 #[.int .i64 0, .int .i64 0, .int .i64 0, .slice none 0 0] ∧ Blk wx gb 65 #[.int .i64 kd, .int .i64 E, .int .i64 Sq, .slice A2 N c2] ∧ w.heap.size < gb)
    case first =>
      refine wp_region_planV (fun w' => Mod Nn w1 w') 20 (.pure 0 (.pure 1 (.read 2 (.pure 3 (.pure 4 (.pure 5 (.quiet 6 (.pure 7 (.pure 8 (.pure 9 (.quiet 10 (.pure 11 (.pure 13 (.pure 14 (.pure 15 (.pure 16 (.fork 12 19 (.fork 17 19 (.pure 18 (.alone 19 (.alone 20 .nil))) (.alone 17 (.pure 18 (.alone 20 .nil)))) (.alone 12 (.alone 17 (.pure 18 (.alone 20 .nil))))))))))))))))))))) (by kernel_rfl) (by kernel_rfl) ((Mod.refl Nn w1).drew) ?_
      have hn4 : (4 : Int) < (n : Int) := by omega
      iterate 2 (refine pv_pure rfl rfl (fun K hK => ?_); go_simp; refine hK _ ?_; clear hK K)
      refine pv_take _ rfl rfl (fun w' hS => exec_load1 (P := Try.prog) 5 _ rfl rfl (((HB.out.2.nn_ hS).cell (p := ⟨g0, off + 4, none⟩) h0 (fun f => f)).trans HK.out.2.2.2.2.2) Try.underlying5 rfl) (fun K hK => ?_); go_simp; refine hK _ ?_; clear hK K
      iterate 2 (refine pv_pure rfl rfl (fun K hK => ?_); go_simp; refine hK _ ?_; clear hK K)
      refine pv_is _ rfl rfl (fun w' => exec_sub_lh (P := Try.prog) 38 _ _ _ rfl 5 1 Try.underlying38 size_u8' (A := some ⟨g0, off, none⟩) (n := n) (c := c) (l := 8) (h := 16) rfl rfl rfl (by omega) (by omega)) (fun K hK => ?_); go_simp; refine hK _ ?_; clear hK K
      refine pv_quiet (.int .u64 (E : Int)) rfl rfl (fun K hK => ?_)
      go_simp
      refine ⟨_, _, ⟨rfl, rfl⟩, fun w' hS => ?_, hK _ ?_⟩
      · refine (rsaid_any ((HS.out.1.mod HB.out.2 (fun _ _ f => f)).mod hS (fun _ _ f => f)) HS.out.2.2.2.1 (by omega)).mono ?_
        rintro e w'' ⟨rfl, rfl⟩
        rw [← HF.out.1]
        exact ⟨rfl, rfl⟩
      clear hK K
      iterate 2 (refine pv_pure rfl rfl (fun K hK => ?_); go_simp; refine hK _ ?_; clear hK K)
      refine pv_is _ rfl rfl (fun w' => exec_sub_lh (P := Try.prog) 38 _ _ _ rfl 5 1 Try.underlying38 size_u8' (A := some ⟨g0, off, none⟩) (n := n) (c := c) (l := 16) (h := 24) rfl rfl rfl (by omega) (by omega)) (fun K hK => ?_); go_simp; refine hK _ ?_; clear hK K
      refine pv_quiet (.int .u64 (Sq : Int)) rfl rfl (fun K hK => ?_)
      go_simp
      refine ⟨_, _, ⟨rfl, rfl⟩, fun w' hS => ?_, hK _ ?_⟩
      · refine (rsaid_any ((HS.out.2.1.mod HB.out.2 (fun _ _ f => f)).mod hS (fun _ _ f => f)) HS.out.2.2.2.2.1 (by omega)).mono ?_
        rintro e w'' ⟨rfl, rfl⟩
        rw [← HF.out.2.1]
        exact ⟨rfl, rfl⟩
      clear hK K
      iterate 4 (refine pv_pure rfl rfl (fun K hK => ?_); go_simp; refine hK _ ?_; clear hK K)
      rw [show IntKind.i64.wrap (kd : Int) = (kd : Int) from by rw [IntKind.wrap_i64]; omega, show IntKind.i64.wrap (E : Int) = (E : Int) from by rw [IntKind.wrap_i64]; omega, show IntKind.i64.wrap (Sq : Int) = (Sq : Int) from by rw [IntKind.wrap_i64]; omega, show IntKind.i64.wrap ((28 : Int) + (N : Int)) = ((28 + N : Nat) : Int) from by rw [IntKind.wrap_i64]; omega]
      refine pv_is _ rfl rfl (fun w' => exec_sub_lh (P := Try.prog) 38 _ _ (.tmp 61) rfl 5 1 Try.underlying38 size_u8' (A := some ⟨g0, off, none⟩) (n := n) (c := c) (l := 28) (h := 28 + N) rfl rfl rfl (by omega) (by omega)) (fun K hK => ?_); go_simp; refine hK _ ?_; clear hK K
      have hBz := HB.out.1.drew
      have hSd : Mod Nn w1 w1.drew := (Mod.refl Nn w1).drew
      generalize w1.drew = wd at *
      have hwd : w.heap.size < wd.heap.size := hBz.lt
      have HW := Lib.hid (And.intro hBz hSd)
      clear hBz hSd
      refine pv_fork ?oA ?oB
      case' oA =>
        refine pv_mem rfl rfl (fun K hK => ?_); go_simp; refine ⟨_, _, ⟨rfl, rfl⟩, hK _ _ (fun _ => HW.out.2.alloc _) ?_⟩; clear hK K
        have oa := own_made0 wd
        have ma : Mod Nn wd (wd.alloc (.cells #[] 5)) := (Mod.refl Nn wd).alloc _
        have za : (wd.alloc (.cells #[] 5)).heap.size = wd.heap.size + 1 := by simp
        generalize wd.alloc (.cells #[] 5) = wa at *
        generalize hgs : wd.heap.size = gs at *
        have sa := HK.out.2.2.2.2.1.mod ((HB.out.2.nn_ HW.out.2).nn_ ma) (fun _ _ f => f)
        refine pv_fork ?oA1 ?oA2
        case' oA1 =>
          refine pv_does (R := fun v' w' => w'.ownsRow gs 5 1 v' (0 + N) ([] ++ bv (frOf l).data) ∧ wa.grownBy w' (Value.slice (some ⟨gs, 0, none⟩) 0 0).ownBlock ∧ (v'.ownBlock = (Value.slice (some ⟨gs, 0, none⟩) 0 0).ownBlock ∨ v'.ownBlock = some wa.heap.size)) rfl rfl (exec_append (P := Try.prog) 38 _ _ rfl gs 5 (.int .u8 0) 1 1 Try.underlying38 info_u8 rfl (by omega) (v := .slice (some ⟨gs, 0, none⟩) 0 0) (n := 0) (xs := []) rfl oa rfl sa.toC (bv_one _) (by omega) (by omega) (by omega)) (fun v2 w2 hR => ?_)
          obtain ⟨o2, g2, b2⟩ := hR
          rw [Nat.zero_add, List.nil_append] at o2
          obtain ⟨A2, c2, rfl, -, hA2⟩ := own_form o2
          have m2 : Mod Nn wd w2 := ma.grown g2 (fun g hg => .inl (by have hg : some gs = some g := hg; injection hg with hg; omega))
          refine ⟨fun _ => HW.out.2.nn_ m2, fun K hK => ?_⟩
          go_simp
          refine hK _ ?_
          clear hK K
          iterate 1 (refine pv_pure rfl rfl (fun K hK => ?_); go_simp; refine hK _ ?_; clear hK K)
          refine pv_val rfl rfl (exec_alloc (P := Try.prog) 65 rfl info_frame) (fun _ => (HW.out.2.nn_ m2).alloc _) (fun K hK => ?_); go_simp; refine hK _ ?_; clear hK K
          have m3 : Mod Nn w2 (w2.alloc (.cells (Value.agg #[.int .i64 0, .int .i64 0, .int .i64 0, .slice none 0 0]).cells 65)) := (Mod.refl Nn w2).alloc _
          have ba : Blk (w2.alloc (.cells (Value.agg #[.int .i64 0, .int .i64 0, .int .i64 0, .slice none 0 0]).cells 65)) w2.heap.size 65 #[.int .i64 0, .int .i64 0, .int .i64 0, .slice none 0 0] := Blk.new _ _ _
          have hz2 : gs ≤ w2.heap.size := by have := m2.size; omega
          generalize hw3 : w2.alloc (.cells (Value.agg #[.int .i64 0, .int .i64 0, .int .i64 0, .slice none 0 0]).cells 65) = w3 at *
          clear hw3
          generalize hgb : w2.heap.size = gb at *
          have HX := Lib.hid (And.intro (((HB.out.2.nn_ HW.out.2).nn_ m2).nn_ m3) (And.intro ((HW.out.1.mod m2 (fun f => f)).mod m3 (fun f => f)) (And.intro (own_mod (own_base (base' := w.heap.size + 1) o2 (fun g hg => by have z := own_ge o2 g hg; omega)) m3 (fun _ _ f => f)) (And.intro ba (And.intro (show w.heap.size < gb by omega) (show ∀ g, Of A2 g → g ≠ gb from fun g hg e => by have := (hA2 g hg).2; omega))))))
          clear o2 g2 b2 hA2 m2 m3 ba hz2 oa ma za sa hgb hgs
        case' oA2 =>
          have ZA := Lib.hid za; clear za
          refine pv_val rfl rfl (exec_alloc (P := Try.prog) 65 rfl info_frame) (fun _ => (HW.out.2.nn_ ma).alloc _) (fun K hK => ?_); go_simp; refine hK _ ?_; clear hK K
          have m3 : Mod Nn wa (wa.alloc (.cells (Value.agg #[.int .i64 0, .int .i64 0, .int .i64 0, .slice none 0 0]).cells 65)) := (Mod.refl Nn wa).alloc _
          have ba : Blk (wa.alloc (.cells (Value.agg #[.int .i64 0, .int .i64 0, .int .i64 0, .slice none 0 0]).cells 65)) wa.heap.size 65 #[.int .i64 0, .int .i64 0, .int .i64 0, .slice none 0 0] := Blk.new _ _ _
          have zb : (wa.alloc (.cells (Value.agg #[.int .i64 0, .int .i64 0, .int .i64 0, .slice none 0 0]).cells 65)).heap.size = wa.heap.size + 1 := by simp
          generalize hw3 : wa.alloc (.cells (Value.agg #[.int .i64 0, .int .i64 0, .int .i64 0, .slice none 0 0]).cells 65) = wb at *
          clear hw3
          generalize hgb : wa.heap.size = gb at *
          have hle : gs ≤ wb.heap.size := by have := ZA.out; omega
          have HE2 := Lib.hid (show gb = gs + 1 by have := ZA.out; omega)
          clear zb hgb
          have ob := own_mod oa m3 (fun _ _ f => f)
          have sb := sa.mod m3 (fun _ _ f => f)
          refine pv_does (R := fun v' w' => w'.ownsRow gs 5 1 v' (0 + N) ([] ++ bv (frOf l).data) ∧ wb.grownBy w' (Value.slice (some ⟨gs, 0, none⟩) 0 0).ownBlock ∧ (v'.ownBlock = (Value.slice (some ⟨gs, 0, none⟩) 0 0).ownBlock ∨ v'.ownBlock = some wb.heap.size)) rfl rfl (exec_append (P := Try.prog) 38 _ _ rfl gs 5 (.int .u8 0) 1 1 Try.underlying38 info_u8 rfl (by omega) (v := .slice (some ⟨gs, 0, none⟩) 0 0) (n := 0) (xs := []) rfl ob rfl sb.toC (bv_one _) (by omega) (by omega) (by omega)) (fun v2 w3 hR => ?_)
          obtain ⟨o2, g2, b2⟩ := hR
          rw [Nat.zero_add, List.nil_append] at o2
          obtain ⟨A2, c2, rfl, -, hA2⟩ := own_form o2
          have m2 : Mod (At gs) wb w3 := (Mod.refl (At gs) wb).grown g2 (fun g hg => .inr (by have hg : some gs = some g := hg; injection hg with hg; exact hg.symm))
          have mw : Mod Nn w1 w3 := ((HW.out.2.nn_ ma).nn_ m3).new_ m2 (by have := HW.out.2.size; omega)
          refine ⟨fun _ => mw, fun K hK => ?_⟩
          go_simp
          refine hK _ ?_
          clear hK K
          iterate 1 (refine pv_pure rfl rfl (fun K hK => ?_); go_simp; refine hK _ ?_; clear hK K)
          have HX := Lib.hid (And.intro (HB.out.2.nn_ mw) (And.intro (HB.out.1.mod mw (fun f => f)) (And.intro (own_base (base' := w.heap.size + 1) o2 (fun g hg => by have z := own_ge o2 g hg; omega)) (And.intro (ba.mod m2 (fun e => by have e : gb = gs := e; have := HE2.out; omega)) (And.intro (show w.heap.size < gb by have := HE2.out; omega) (show ∀ g, Of A2 g → g ≠ gb from fun g hg e => by
            have hbl := ba.lt
            have hge := HE2.out
            rcases b2 with b2 | b2
            · have hx := (of_own (m := N) (c := c2) hg).symm.trans b2
              have hx : some g = some gs := hx
              injection hx with hx
              omega
            · have hx := (of_own (m := N) (c := c2) hg).symm.trans b2
              injection hx with hx
              omega))))))
          clear o2 g2 b2 hA2 m2 m3 mw ba hle ob sb oa ma sa hgs
      case' oB =>
        refine pv_val rfl rfl (exec_alloc (P := Try.prog) 65 rfl info_frame) (fun _ => HW.out.2.alloc _) (fun K hK => ?_); go_simp; refine hK _ ?_; clear hK K
        have m3 : Mod Nn wd (wd.alloc (.cells (Value.agg #[.int .i64 0, .int .i64 0, .int .i64 0, .slice none 0 0]).cells 65)) := (Mod.refl Nn wd).alloc _
        have ba : Blk (wd.alloc (.cells (Value.agg #[.int .i64 0, .int .i64 0, .int .i64 0, .slice none 0 0]).cells 65)) wd.heap.size 65 #[.int .i64 0, .int .i64 0, .int .i64 0, .slice none 0 0] := Blk.new _ _ _
        have zb : (wd.alloc (.cells (Value.agg #[.int .i64 0, .int .i64 0, .int .i64 0, .slice none 0 0]).cells 65)).heap.size = wd.heap.size + 1 := by simp
        generalize hw3 : wd.alloc (.cells (Value.agg #[.int .i64 0, .int .i64 0, .int .i64 0, .slice none 0 0]).cells 65) = wb at *
        clear hw3
        generalize hgb : wd.heap.size = gb at *
        have ZB := Lib.hid zb; clear zb
        refine pv_mem rfl rfl (fun K hK => ?_); go_simp; refine ⟨_, _, ⟨rfl, rfl⟩, hK _ _ (fun _ => (HW.out.2.nn_ m3).alloc _) ?_⟩; clear hK K
        have oa := own_made0 wb
        have ma : Mod Nn wb (wb.alloc (.cells #[] 5)) := (Mod.refl Nn wb).alloc _
        have za : (wb.alloc (.cells #[] 5)).heap.size = wb.heap.size + 1 := by simp
        generalize wb.alloc (.cells #[] 5) = wa at *
        generalize hgs : wb.heap.size = gs at *
        have sa := HK.out.2.2.2.2.1.mod (((HB.out.2.nn_ HW.out.2).nn_ m3).nn_ ma) (fun _ _ f => f)
        have zb := ZB.out
        refine pv_does (R := fun v' w' => w'.ownsRow gs 5 1 v' (0 + N) ([] ++ bv (frOf l).data) ∧ wa.grownBy w' (Value.slice (some ⟨gs, 0, none⟩) 0 0).ownBlock ∧ (v'.ownBlock = (Value.slice (some ⟨gs, 0, none⟩) 0 0).ownBlock ∨ v'.ownBlock = some wa.heap.size)) rfl rfl (exec_append (P := Try.prog) 38 _ _ rfl gs 5 (.int .u8 0) 1 1 Try.underlying38 info_u8 rfl (by omega) (v := .slice (some ⟨gs, 0, none⟩) 0 0) (n := 0) (xs := []) rfl oa rfl sa.toC (bv_one _) (by omega) (by omega) (by omega)) (fun v2 w3 hR => ?_)
        obtain ⟨o2, g2, b2⟩ := hR
        rw [Nat.zero_add, List.nil_append] at o2
        obtain ⟨A2, c2, rfl, -, hA2⟩ := own_form o2
        have m2 : Mod Nn wb w3 := ma.grown g2 (fun g hg => .inl (by have hg : some gs = some g := hg; injection hg with hg; omega))
        have mw : Mod Nn w1 w3 := (HW.out.2.nn_ m3).nn_ m2
        refine ⟨fun _ => mw, fun K hK => ?_⟩
        go_simp
        refine hK _ ?_
        clear hK K
        iterate 1 (refine pv_pure rfl rfl (fun K hK => ?_); go_simp; refine hK _ ?_; clear hK K)
        have HX := Lib.hid (And.intro (HB.out.2.nn_ mw) (And.intro (HB.out.1.mod mw (fun f => f)) (And.intro (own_base (base' := w.heap.size + 1) o2 (fun g hg => by have z := own_ge o2 g hg; omega)) (And.intro (ba.mod m2 (fun f => f)) (And.intro (show w.heap.size < gb by omega) (show ∀ g, Of A2 g → g ≠ gb from fun g hg e => by have := (hA2 g hg).1; omega))))))
        clear o2 g2 b2 hA2 m2 m3 mw ba oa ma za sa hgb hgs zb
      all_goals
        refine pv_unit rfl rfl (exec_store_row (P := Try.prog) 65 _ (.tmp 64) rfl (g := gb) (cells := #[.int .i64 kd, .int .i64 E, .int .i64 Sq, .slice A2 N c2]) rfl rfl HX.out.2.2.2.1 size_frame rfl (one4 _ _ _ _ _ _)) (fun h => by simp at h) (fun K hK => ?_); go_simp; refine hK _ ?_; clear hK K
        refine pv_nil ?_
        have m4 : Mod (At gb) w3 (w3.setRow gb #[.int .i64 kd, .int .i64 E, .int .i64 Sq, .slice A2 N c2]) := Mod.rowAt _ _ _
        have hb4 := HX.out.2.2.2.1.setRow_ #[.int .i64 kd, .int .i64 E, .int .i64 Sq, .slice A2 N c2]
        generalize hw4 : w3.setRow gb #[.int .i64 kd, .int .i64 E, .int .i64 Sq, .slice A2 N c2] = w4 at *
        clear hw4
        have M4 := HX.out.1.new_ m4 (Nat.le_of_lt HX.out.2.2.2.2.1)
        have O4 := own_mod HX.out.2.2.1 m4 (fun g hg => HX.out.2.2.2.2.2 g (own_of hg))
        have B4 := HX.out.2.1.mod m4 (fun e => by have e : w.heap.size = gb := e; have := HX.out.2.2.2.2.1; omega)
        have HEND := Lib.hid (And.intro M4 (And.intro O4 (And.intro B4 (And.intro hb4 HX.out.2.2.2.2.1))))
        clear M4 O4 B4 hb4 m4
        go_wp2
        go_meet
        exact ⟨gb, A2, c2, rfl, HEND.out⟩
    case rest =>
      obtain ⟨gb, A2, c2, rfl, M4, O4, B4, hb4, hgw⟩ := hcut
      have HY := Lib.hid hb4
      clear hb4
      generalize hw4 : wc = w4 at *
      clear hw4
      have hput := rput_ok (w := w4) (c := c2) (frOf l) HK.out.1 (Rd.of_own O4) HK.out.2.2.1
      rw [HK.out.2.2.2.1, HES.out.1, HES.out.2, HQ.out] at hput
      have HP := Lib.hid hput
      have hrl := HR.out.1.mod M4 (fun _ _ f => f)
      have HZ := Lib.hid (And.intro M4 (And.intro O4 (And.intro hrl B4)))
      clear hput O4 M4 B4 hrl
      go_wp2_with (first
        | (with_reducible change wpList _ _ _ (⟨_, Op.load _ _, _, _, _, _⟩ :: _) _ _
           go_must (refine wpList_load_var 65 _ rfl rfl gb #[.int .i64 kd, .int .i64 E, .int .i64 Sq, .slice A2 N c2] _ _ rfl HY.out Try.underlying65 rfl size_frame ?_)))
      refine HP.out.mono ?_
      rintro r w5 ⟨v5, rfl, o5, m5⟩
      obtain ⟨A5, c5, rfl, -, -⟩ := own_form o5
      have hbl : (frOf l).bytes.length = 512 * q := by rw [Fr.bytes_len, HK.out.2.1, HQ.out]
      have HBL := Lib.hid hbl
      have hlt5 := (frOf l).bytes_lt HK.out.2.2.1
      have HV0 := Lib.hid (And.intro (HZ.out.1.nn_ m5) (And.intro (own_mod HZ.out.2.1 m5 (fun _ _ f => f)) (And.intro (HZ.out.2.2.2.mod m5 (fun f => f)) (And.intro (HY.out.mod m5 (fun f => f)) (And.intro (Rd.of_own o5) (HZ.out.2.2.1.mod m5 (fun _ _ f => f)))))))
      have HL5 := Lib.hid hlt5
      have hg9 : q ≤ 66 := by omega
      clear o5 hbl hlt5 m5
      by_cases hm : 512 * q ≤ n
      · have hrt := HV0.out.2.2.2.2.2.pre (c := c) (512 * q) hm hc
        have e1 : (bv l).take (512 * q) = bv (l.take (512 * q)) := by unfold bv; rw [← List.map_take]
        rw [e1] at hrt
        have HV := Lib.hid (And.intro HV0.out.1 (And.intro HV0.out.2.1 (And.intro HV0.out.2.2.1 (And.intro HV0.out.2.2.2.1 (And.intro HV0.out.2.2.2.2.1 hrt)))))
        have hi := bstr_eq HL5.out (fun z hz => HR.out.2 z (List.mem_of_mem_take hz) : ∀ z ∈ l.take (512 * q), z < 256)
        have hm' : decide ((n : Int) < 512 * (q : Int)) = false := decide_eq_false (by omega)
        clear e1 hrt HV0
        by_cases hh : Holds l
        · rw [decide_eq_true (show (frOf l).bytes = l.take (512 * q) from by have h := (HHO.out.1 hh).2.2.2.2.2; rw [HBL.out] at h; exact h.symm)] at hi
          have HI := Lib.hid hi
          have HH := Lib.hid hh
          clear hi hh
          go_wp2_with fail
          refine wp_region_planV (fun w' => w' = w5.drew) 18 (.pure 0 (.pure 1 (.pure 2 (.pure 3 (.pure 4 (.pure 5 (.pure 6 (.pure 7 (.pure 8 (.pure 9 (.pure 10 (.read 11 (.pure 12 (.pure 13 (.pure 14 (.pure 15 (.read 16 (.pure 17 (.alone 18 .nil))))))))))))))))))) (by kernel_rfl) (by kernel_rfl) rfl ?_
          iterate 11 (refine pv_pure rfl rfl (fun K hK => ?_); go_simp; refine hK _ ?_; clear hK K)
          refine pv_take _ rfl rfl (fun w' hS => by subst hS; exact exec_conv_str (P := Try.prog) 38 5 9 _ rfl Try.underlying38 Try.underlying5 Try.underlying9 (A := A5) (n := 512 * q) (c := c5) rfl HV.out.2.2.2.2.1.drew) (fun K hK => ?_); go_simp; refine hK _ ?_; clear hK K
          iterate 3 (refine pv_pure rfl rfl (fun K hK => ?_); go_simp; refine hK _ ?_; clear hK K)
          refine pv_is _ rfl rfl (fun w' => exec_sub_h (P := Try.prog) 38 _ (.tmp 84) rfl 5 1 Try.underlying38 size_u8' (A := some ⟨g0, off, none⟩) (n := n) (c := c) (h := 512 * q) rfl rfl (by omega)) (fun K hK => ?_); go_simp; refine hK _ ?_; clear hK K
          refine pv_take _ rfl rfl (fun w' hS => by subst hS; exact exec_conv_str (P := Try.prog) 38 5 9 _ rfl Try.underlying38 Try.underlying5 Try.underlying9 (A := subA (some ⟨g0, off, none⟩) c 0 1) (n := 512 * q) (c := c) rfl HV.out.2.2.2.2.2.drew) (fun K hK => ?_); go_simp; refine hK _ ?_; clear hK K
          iterate 1 (refine pv_pure rfl rfl (fun K hK => ?_); go_simp; refine hK _ ?_; clear hK K)
          rw [HI.out]
          refine pv_mem rfl rfl (fun K hK => ?_); go_simp; refine ⟨_, _, ⟨rfl, rfl⟩, hK _ _ (fun h => by simp at h) ?_⟩; clear hK K
          refine pv_nil ?_
          have hqd := Lib.hid (show ((512 * q : Nat) : Int) / 512 = (q : Int) by omega)
          go_wp2_with (first
          | (with_reducible change wpList _ _ _ (⟨_, Op.load _ _, _, _, _, _⟩ :: _) _ _
             go_must (refine wpList_load_var 65 _ rfl rfl gb #[.int .i64 kd, .int .i64 E, .int .i64 Sq, .slice A2 N c2] _ _ rfl HV.out.2.2.2.1.drew Try.underlying65 rfl size_frame ?_))
          | (with_reducible change wpList _ _ _ (⟨_, Op.store _ _ _, _, _, _, _⟩ :: _) _ _
             go_must (refine wpList_store_var 65 _ _ rfl rfl w.heap.size #[.int .i64 kd, .int .i64 E, .int .i64 Sq, .slice A2 N c2] _ _ rfl rfl HV.out.2.2.1.drew size_frame rfl (one4 _ _ _ _ _ _) ?_)
             intro w6 b6 m6 z6
             have M6 := HV.out.1.drew.new_ m6 (Nat.le_refl _)
             have O6 := own_mod (own_mod HV.out.2.1 (Mod.refl Nn w5).drew (fun _ _ f => f)) m6 (fun g hg e => by have z := own_ge HV.out.2.1 g hg; have : g = w.heap.size := e; omega)
             have C0 := b6.cell 0; have C1 := b6.cell 1; have C2 := b6.cell 2; have C3 := b6.cell 3
             clear m6))
          refine bodyPost_ret (v := .tuple #[frV kd E Sq A2 N c2, .int .i64 q, .int .i64 0]) (by simp [results, Try.results38, go_sem, frV, C0, C1, C2, C3]) rfl (.inl ⟨HH.out, A2, c2, by rw [HK.out.2.2.2.1], O6, M6⟩)
        · rw [decide_eq_false (show ¬ (frOf l).bytes = l.take (512 * q) from fun e => hh (HHO.out.2 ⟨by omega, by omega, hN3, by omega, by rw [HBL.out]; omega, by rw [HBL.out]; exact e.symm⟩))] at hi
          have HI := Lib.hid hi
          have HH := Lib.hid hh
          clear hi hh
          go_wp2_with fail
          refine wp_region_planV (fun w' => w' = w5.drew) 18 (.pure 0 (.pure 1 (.pure 2 (.pure 3 (.pure 4 (.pure 5 (.pure 6 (.pure 7 (.pure 8 (.pure 9 (.pure 10 (.read 11 (.pure 12 (.pure 13 (.pure 14 (.pure 15 (.read 16 (.pure 17 (.alone 18 .nil))))))))))))))))))) (by kernel_rfl) (by kernel_rfl) rfl ?_
          iterate 11 (refine pv_pure rfl rfl (fun K hK => ?_); go_simp; refine hK _ ?_; clear hK K)
          refine pv_take _ rfl rfl (fun w' hS => by subst hS; exact exec_conv_str (P := Try.prog) 38 5 9 _ rfl Try.underlying38 Try.underlying5 Try.underlying9 (A := A5) (n := 512 * q) (c := c5) rfl HV.out.2.2.2.2.1.drew) (fun K hK => ?_); go_simp; refine hK _ ?_; clear hK K
          iterate 3 (refine pv_pure rfl rfl (fun K hK => ?_); go_simp; refine hK _ ?_; clear hK K)
          refine pv_is _ rfl rfl (fun w' => exec_sub_h (P := Try.prog) 38 _ (.tmp 84) rfl 5 1 Try.underlying38 size_u8' (A := some ⟨g0, off, none⟩) (n := n) (c := c) (h := 512 * q) rfl rfl (by omega)) (fun K hK => ?_); go_simp; refine hK _ ?_; clear hK K
          refine pv_take _ rfl rfl (fun w' hS => by subst hS; exact exec_conv_str (P := Try.prog) 38 5 9 _ rfl Try.underlying38 Try.underlying5 Try.underlying9 (A := subA (some ⟨g0, off, none⟩) c 0 1) (n := 512 * q) (c := c) rfl HV.out.2.2.2.2.2.drew) (fun K hK => ?_); go_simp; refine hK _ ?_; clear hK K
          iterate 1 (refine pv_pure rfl rfl (fun K hK => ?_); go_simp; refine hK _ ?_; clear hK K)
          rw [HI.out]
          refine pv_mem rfl rfl (fun K hK => ?_); go_simp; refine ⟨_, _, ⟨rfl, rfl⟩, hK _ _ (fun h => by simp at h) ?_⟩; clear hK K
          refine pv_nil ?_
          go_wp2_with (first
          | (with_reducible change wpList _ _ _ (⟨_, Op.store _ _ _, _, _, _, _⟩ :: _) _ _
             go_must (refine wpList_store_var 65 _ _ rfl rfl w.heap.size #[.int .i64 0, .int .i64 0, .int .i64 0, .slice none 0 0] _ _ rfl rfl HV.out.2.2.1.drew size_frame rfl (one4 _ _ _ _ _ _) ?_)
             intro w6 b6 m6 z6
             have M6 := HV.out.1.drew.new_ m6 (Nat.le_refl _)
             have O6 := own_mod (own_mod HV.out.2.1 (Mod.refl Nn w5).drew (fun _ _ f => f)) m6 (fun g hg e => by have z := own_ge HV.out.2.1 g hg; have : g = w.heap.size := e; omega)
             have C0 := b6.cell 0; have C1 := b6.cell 1; have C2 := b6.cell 2; have C3 := b6.cell 3
             clear m6))
          refine bodyPost_ret (v := .tuple #[frV 0 0 0 none 0 0, .int .i64 0, .int .i64 4]) (by simp [results, Try.results38, go_sem, frV, C0, C1, C2, C3]) rfl (.inr ⟨HH.out, rfl, M6⟩)
      · have hno : ¬ Holds l := fun h => by have h := (HHO.out.1 h).2.2.2.2.1; rw [HBL.out] at h; omega
        have HH := Lib.hid hno
        have HV := HV0
        have hm' : decide ((n : Int) < 512 * (q : Int)) = true := decide_eq_true (by omega)
        clear hno HV0
        go_wp2_with fail
        refine wp_region_planV (fun w' => w' = w5.drew) 18 (.pure 0 (.pure 1 (.pure 2 (.pure 3 (.pure 4 (.pure 5 (.pure 6 (.pure 7 (.pure 8 (.pure 9 (.pure 10 (.pure 11 (.pure 12 (.pure 13 (.pure 14 (.pure 15 (.pure 16 (.pure 17 (.alone 18 .nil))))))))))))))))))) (by kernel_rfl) (by kernel_rfl) rfl ?_
        iterate 10 (refine pv_pure rfl rfl (fun K hK => ?_); go_simp; refine hK _ ?_; clear hK K)
        iterate 8 (refine pv_skip rfl rfl (fun K hK => ?_); go_simp; refine hK _ ?_; clear hK K)
        refine pv_mem rfl rfl (fun K hK => ?_); go_simp; refine ⟨_, _, ⟨rfl, rfl⟩, hK _ _ (fun h => by simp at h) ?_⟩; clear hK K
        refine pv_nil ?_
        go_wp2_with (first
          | (with_reducible change wpList _ _ _ (⟨_, Op.store _ _ _, _, _, _, _⟩ :: _) _ _
             go_must (refine wpList_store_var 65 _ _ rfl rfl w.heap.size #[.int .i64 0, .int .i64 0, .int .i64 0, .slice none 0 0] _ _ rfl rfl HV.out.2.2.1.drew size_frame rfl (one4 _ _ _ _ _ _) ?_)
             intro w6 b6 m6 z6
             have M6 := HV.out.1.drew.new_ m6 (Nat.le_refl _)
             have O6 := own_mod (own_mod HV.out.2.1 (Mod.refl Nn w5).drew (fun _ _ f => f)) m6 (fun g hg e => by have z := own_ge HV.out.2.1 g hg; have : g = w.heap.size := e; omega)
             have C0 := b6.cell 0; have C1 := b6.cell 1; have C2 := b6.cell 2; have C3 := b6.cell 3
             clear m6))
        refine bodyPost_ret (v := .tuple #[frV 0 0 0 none 0 0, .int .i64 0, .int .i64 4]) (by simp [results, Try.results38, go_sem, frV, C0, C1, C2, C3]) rfl (.inr ⟨HH.out, rfl, M6⟩)
end
end Go.Proofs.Ytijmkbhbpbkkoaa
