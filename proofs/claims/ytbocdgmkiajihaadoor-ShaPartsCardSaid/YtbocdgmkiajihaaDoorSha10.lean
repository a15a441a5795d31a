/- sha.Sum; the document's padded. -/
import Derived.Test.YtbocdgmkiajihaaDoorSha9
namespace Go.Proofs.YtbocdgmkiajihaaDoor
open Go.RowKit

set_option maxRecDepth 100000 in
set_option maxHeartbeats 1600000 in
theorem psum_any {w : World} (hg : Gl w) {A : Option Addr} {n c : Nat} {l : List Nat} (hr : Rd w A n (u8s l)) (hl : ∀ z ∈ l, z < 256) (hN : n ≤ 1000000000) :
    Calls Tryd.prog 10 #[.slice A n c] w fun e w' => e = .returned (.agg (u8s (digL l)).toArray) ∧ Mod Nn w w' := by
  have hln : l.length = n := by have := hr.1; rwa [u8s_len] at this
  have H := Lib.hid (And.intro hg (And.intro hr (And.intro hl hln)))
  clear hg hr hl hln
  go_enter Tryd.func10, Tryd.ntmps10
  go_upto_region 1 with (first
    | (with_reducible change wpList _ _ _ (⟨some 2, Op.alloc _, _, _, _, _⟩ :: _) _ _
       go_must (refine wpList_alloc_var 26 rfl rfl zeroK ?_)
       intro w1 b1 m1 z1
       have B1 := Lib.hid (show Blk w1 w.heap.size 26 (u8s (List.replicate 32 0)).toArray ∧ Mod Nn w w1 from ⟨b1, m1⟩)
       clear b1 m1 z1))
  obtain ⟨KB, hKB⟩ : ∃ x, w.heap.size = x := ⟨_, rfl⟩
  rw [hKB] at B1 ⊢
  have HKB := Lib.hid hKB
  clear hKB
  go_wp2_with fail
  refine (hnew_any (H.out.1.nn B1.out.2)).mono ?_
  rintro e w2 ⟨hb, sb, rfl, h2, m2, hh2, hs2⟩
  have H2 := Lib.hid (And.intro h2 (And.intro m2 (And.intro hh2 hs2)))
  clear h2 m2 hh2 hs2
  have hk1 := B1.out.1.lt
  have hwr := write_any ((H.out.1.nn B1.out.2).nn H2.out.2.1) H2.out.1 ((H.out.2.1.mod B1.out.2 (fun _ _ f => f)).mod H2.out.2.1 (fun _ _ f => f)) (c := c) H.out.2.2.1 (fun h0 g hg e => by
    have := (H.out.2.1.mod B1.out.2 (fun _ _ f => f)).in_ h0 hg; have := H2.out.2.2.1; omega) (by rw [List.length_nil]; omega)
  rw [List.nil_append] at hwr
  go_wp2_with fail
  refine hwr.mono ?_
  rintro e w3 ⟨rv, rfl, h3, m3, hr3⟩
  have hin : ∀ g, InH hb sb (.slice none 0 0) g → w1.heap.size ≤ g := fun g hg => by
    rcases hg with hg | hg | hg
    · have := H2.out.2.2.1; omega
    · have := H2.out.2.2.2; omega
    · cases hg
  have hM3 : Mod Nn w1 w3 := H2.out.2.1.then_ m3 (fun g hg0 hg => by have := hin g hg; omega)
  have hin3 : ∀ g, InH hb sb rv g → w1.heap.size ≤ g := fun g hg => by
    rcases hg with hg | hg | hg
    · have := H2.out.2.2.1; omega
    · have := H2.out.2.2.2; omega
    · have := hr3 g hg; have := H2.out.2.1.size; omega
  have hsum := sum_first ((H.out.1.nn B1.out.2).nn hM3) h3 (by rw [H.out.2.2.2]; omega)
  have H3 := Lib.hid (And.intro hM3 (And.intro hin3 hk1))
  clear hwr h3 m3 hr3 hin hM3 hin3 hk1
  go_wp2_with fail
  refine hsum.mono ?_
  rintro e w4 ⟨rfl, -, m4⟩
  have hM4 : Mod Nn w1 w4 := H3.out.1.then_ m4 (fun g hg0 hg => by have := H3.out.2.1 g hg; omega)
  have hsz : (u8s (digL l)).length = 32 := by rw [u8s_len, digL_len]
  have hszk : (u8s (List.replicate 32 0)).toArray.size = (u8s (digL l)).toArray.size := by rw [zeroK_size]; simp [hsz]
  have HX := Lib.hid (And.intro (B1.out.1.mod hM4 (fun f => f)) (And.intro (B1.out.2.nn_ hM4) (And.intro hsz hszk)))
  clear hsum m4 hM4 hsz hszk
  go_wp2_with (first
    | (with_reducible change wpList _ _ _ (⟨none, Op.store 26 (Operand.tmp 2) _, _, _, _, _⟩ :: _) _ _
       go_must (refine wpList_store_var 26 _ _ rfl rfl KB (u8s (digL l)).toArray (u8s (List.replicate 32 0)).toArray _ rfl rfl HX.out.1 (by rw [sizeK]; simp [HX.out.2.2.1]) HX.out.2.2.2 (u8s_all _) ?_)
       intro w9 b9 m9 z9))
  exact bodyPost_ret (results_cell_row (P := Tryd.prog) rfl _ w9 _ _ _ (0, 0) _ rfl b9 Tryd.underlying26 rfl (by rw [sizeK]; simp [HX.out.2.2.1])) rfl ⟨rfl, HX.out.2.1.new_ m9 (by have := HKB.out; omega)⟩

def PadP (w : World) (n : Nat) (l : List Nat) (e : Ending) (w' : World) : Prop := ∃ v, e = .returned v ∧ w'.ownsRow w.heap.size 5 1 v (n + (tail8 n).length) (u8s (l ++ tail8 n)) ∧ Mod Nn w w'
set_option maxRecDepth 100000 in
set_option maxHeartbeats 1600000 in
theorem padded_any {w : World} {A : Option Addr} {n c : Nat} {l : List Nat} (hr : Rd w A n (u8s l)) (hN : n ≤ 1000000000) : Calls Tryd.prog 19 #[.slice A n c] w (PadP w n l) := by
  have HR := Lib.hid hr
  clear hr
  obtain ⟨N8, hN8⟩ : ∃ x, 8 * n = x := ⟨_, rfl⟩
  have hN8b : (N8 : Int) ≤ 8000000000 := by omega
  go_enter Tryd.func19, Tryd.ntmps19
  go_wp2_with (first
    | (with_reducible change wpList _ _ _ (⟨some 8, _, _, _, _, _⟩ :: _) _ _
       go_must (refine wpList_append_rd 22 _ _ rfl rfl w.heap.size 5 (.int .u8 0) 1 1 Tryd.underlying22 info8 rfl (by omega) _ 0 [] rfl (own_e w.heap.size (Nat.le_refl _)) A n c (u8s l) rfl (HR.out.mod ((Mod.refl Nn w).alloc _) (fun _ _ f => f)).toC (u8s_one _) (by omega) (by omega) (by rw [World.size_alloc]; omega) ?_)
       intro v1 w1 own1 gr1 ob1
       have m1 : Mod Nn w w1 := ((Mod.refl Nn w).alloc _).grown gr1 (fun g hg => .inl (by injection hg with hg; exact Nat.le_of_eq hg))
       rw [Nat.zero_add, List.nil_append] at own1
       clear gr1 ob1)
    | (with_reducible change wpList _ _ _ (⟨some 10, _, _, _, _, _⟩ :: _) _ _
       go_must (refine wpList_append_rd 22 _ _ rfl rfl w.heap.size 5 (.int .u8 0) 1 1 Tryd.underlying22 info8 rfl (by omega) v1 n _ rfl (own_mod own1 ((Mod.refl Nn _).alloc _) (fun _ _ f => f)) _ 1 1 (u8s [128]) rfl (Rd.of_blk0 (Blk.new _ _ _) rfl).toC (u8s_one _) (by omega) (by omega) (by have := m1.size; rw [World.size_alloc]; omega) ?_)
       intro v2 w2 own2 gr2 ob2
       have m2 : Mod Nn w w2 := (m1.alloc _).grown gr2 (fun g hg => .inl (by obtain ⟨_, _, e, _, hb⟩ := own_form own1; rw [e] at hg; exact (hb g (own_of hg)).1))
       rw [← u8s_append] at own2
       have HC := Lib.hid (And.intro own2 m2)
       clear own1 m1 own2 gr2 ob2 m2))
  go_loopw [3] (fun x wr => ∃ (j m : Nat) (A' : Option Addr) (c' : Nat), j ≤ zrs n ∧ m = n + 1 + j ∧ x = .slice A' m c' ∧ wr.ownsRow w.heap.size 5 1 (.slice A' m c') m (u8s (l ++ 128 :: List.replicate j 0)) ∧ Mod Nn w wr) (fun x _ => match x with | .slice _ m _ => n + 1 + 64 - m | _ => 0)
  case atStart =>
    obtain ⟨A', c', e, -, -⟩ := own_form HC.out.1
    exact ⟨0, n + 1, A', c', Nat.zero_le _, rfl, e, e ▸ HC.out.1, HC.out.2⟩
  case round =>
    clear HC
    obtain ⟨j, m, A', c', hj, hmj, rfl, hown, hmd⟩ := hrel
    obtain ⟨wo, rfl⟩ : ∃ wo : World, wo = wr := ⟨_, rfl⟩
    have HMJ := Lib.hid hmj
    have hz64 := zrs_lt n
    by_cases hlt : j < zrs n
    · have ht : ((m : Int) % 64 != 56) = true := by
        have := zrs_min n j hlt
        rw [bne_iff_ne]; rw [← hmj] at this; omega
      have hmb : m ≤ 1000000100 := by omega
      clear hmj
      have HX := Lib.hid (And.intro hown hmd)
      clear hown hmd
      go_wp2_with (first
        | (with_reducible change wpList _ _ _ (⟨some 17, _, _, _, _, _⟩ :: _) _ _
           go_must (refine wpList_append_rd 22 _ _ rfl rfl w.heap.size 5 (.int .u8 0) 1 1 Tryd.underlying22 info8 rfl (by omega) (.slice A' m c') m _ rfl (own_mod HX.out.1 ((Mod.refl Nn _).alloc _) (fun _ _ f => f)) _ 1 1 (u8s [0]) rfl (Rd.of_blk0 (Blk.new _ _ _) rfl).toC (u8s_one _) (by omega) (by omega) (by have := HX.out.2.size; rw [World.size_alloc]; omega) ?_)
           intro v1 wb own1 gr1 ob1))
      rw [← u8s_append, show l ++ 128 :: List.replicate j 0 ++ [0] = l ++ 128 :: List.replicate (j + 1) 0 from by rw [List.append_assoc, List.cons_append, ← List.replicate_succ']] at own1
      have hmd2 : Mod Nn w wb := (HX.out.2.alloc _).grown gr1 (fun g hg => .inl (by obtain ⟨_, _, e, _, hb⟩ := own_form HX.out.1; rw [e] at hg; exact (hb g (own_of hg)).1))
      obtain ⟨A2, c2, rfl, -, hA2⟩ := own_form own1
      refine ⟨⟨j + 1, m + 1, A2, c2, by omega, by have := HMJ.out; omega, rfl, own1, hmd2⟩, ?_⟩
      show n + 1 + 64 - (m + 1) < n + 1 + 64 - m
      have := HMJ.out
      omega
    · have hje : j = zrs n := by omega
      subst hje
      have hmb : m ≤ 1000000100 := by omega
      have ht : ((m : Int) % 64 != 56) = false := by
        have h1 := zrs_mod n
        rw [← hmj] at h1
        have : (m : Int) % 64 = 56 := by omega
        rw [this]; rfl
      have HX := Lib.hid (And.intro hown hmd)
      have e1 : (8 : Int) * (n : Int) = (N8 : Int) := by omega
      have HN8 := Lib.hid hN8
      clear hmj hown hmd hlt hN8
      go_wp2
      clear ht e1
      go_loopw [3, 5] (fun x i wr => ∃ (z : Int) (q : Nat) (A2 : Option Addr) (c2 : Nat), i = .int .i64 z ∧ z = 7 - (q : Int) ∧ q ≤ 8 ∧ x = .slice A2 (m + q) c2 ∧ wr.ownsRow w.heap.size 5 1 (.slice A2 (m + q) c2) (m + q) (u8s (l ++ 128 :: List.replicate (zrs n) 0 ++ (len8 n).take q)) ∧ Mod Nn w wr) (fun _ i _ => (intOf i + 1).toNat)
      case atStart => exact ⟨7, 0, A', c', rfl, rfl, by omega, rfl, by simpa using HX.out.1, HX.out.2⟩
      case round =>
        clear HX
        obtain ⟨z, q, A2, c2, rfl, hzq, hq, rfl, hown, hmd⟩ := hrel
        obtain ⟨wy, rfl⟩ : ∃ wy : World, wy = wr := ⟨_, rfl⟩
        by_cases hlq : q < 8
        · obtain ⟨kk, hkk⟩ : ∃ kk, 7 - q = kk := ⟨_, rfl⟩
          have hz : z = (kk : Int) := by omega
          subst hz
          obtain ⟨s8, hs8⟩ : ∃ x, 8 * kk = x := ⟨_, rfl⟩
          have hlen := len8_take n kk (by omega)
          rw [show 7 - kk = q from by omega, hs8, HN8.out] at hlen
          have HLE := Lib.hid hlen
          have HX := Lib.hid (And.intro hown (And.intro hmd (And.intro hzq hkk)))
          have e2 : (8 : Int) * (kk : Int) = (s8 : Int) := by omega
          have hk7 : (kk : Int) ≤ 7 := by omega
          have hs64 : s8 ≤ 64 := by omega
          clear hown hmd hzq hlen hkk hs8
          go_wp2_with (first
            | (with_reducible change wpList _ _ _ (⟨some 31, _, _, _, _, _⟩ :: _) _ _
               go_must (refine wpList_val rfl (exec_shr64u N8 s8 _ _ _ _ rfl rfl rfl hs64) ?_))
            | (with_reducible change wpList _ _ _ (⟨some 32, _, _, _, _, _⟩ :: _) _ _
               go_must (refine wpList_val rfl (exec_low64 (N8 / 2 ^ s8) _ _ _ rfl rfl Tryd.underlying34 Tryd.underlying5) ?_)
               generalize hby : N8 / 2 ^ s8 % 256 = by8 at *
               clear e2)
            | (with_reducible change wpList _ _ _ (⟨some 34, _, _, _, _, _⟩ :: _) _ _
               go_must (refine wpList_append_rd 22 _ _ rfl rfl w.heap.size 5 (.int .u8 0) 1 1 Tryd.underlying22 info8 rfl (by omega) (.slice A2 (m + q) c2) (m + q) _ rfl (own_mod HX.out.1 ((Mod.refl Nn _).alloc _) (fun _ _ f => f)) _ 1 1 (u8s [by8]) rfl (Rd.of_blk0 (Blk.new _ _ _) rfl).toC (u8s_one _) (by omega) (by omega) (by have := HX.out.2.1.size; rw [World.size_alloc]; omega) ?_)
               intro v1 wb own1 gr1 ob1))
          have hle := HLE.out
          rw [← u8s_append, List.append_assoc, ← hle] at own1
          have hmd2 : Mod Nn w wb := (HX.out.2.1.alloc _).grown gr1 (fun g hg => .inl (by obtain ⟨_, _, e, _, hb⟩ := own_form HX.out.1; rw [e] at hg; exact (hb g (own_of hg)).1))
          obtain ⟨A3, c3, rfl, -, hA3⟩ := own_form own1
          have hzz := HX.out.2.2.1
          refine ⟨⟨(kk : Int) - 1, q + 1, A3, c3, rfl, by omega, by omega, rfl, own1, hmd2⟩, ?_⟩
          simp [intOf]
        · have hq8 : q = 8 := by omega
          subst hq8
          have hz1 : z = -1 := by omega
          subst hz1
          rw [List.take_of_length_le (by rw [len8_len]; exact Nat.le_refl _), List.append_assoc, List.cons_append] at hown
          have hta : (128 :: (List.replicate (zrs n) 0 ++ len8 n)) = tail8 n := rfl
          rw [hta] at hown
          have hml : m + 8 = n + (tail8 n).length := by rw [tail8_len]; have := HMJ.out; omega
          have HE := Lib.hid (show PadP w n l (.returned (.slice A2 (m + 8) c2)) wy from ⟨_, rfl, by rw [hml] at hown ⊢; exact hown, hmd⟩)
          clear hown hmd hta hml hzq
          go_wp2
          go_ret
          exact HE.out
end Go.Proofs.YtbocdgmkiajihaaDoor
