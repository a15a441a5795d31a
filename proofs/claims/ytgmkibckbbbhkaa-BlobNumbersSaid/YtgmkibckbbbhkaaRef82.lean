/- The document's device: Read. -/
import Derived.Test.YtgmkibckbbbhkaaRef81
import Derived.Test.YtgmkibckbbbhkaaKitB
namespace Go.Proofs.Ytgmkibckbbbhkaa
open Go.RowKit

theorem zsec_vals : Array.replicate 512 (Value.int .u8 0) = (zsec.map (Value.int .u8)).toArray := by
  unfold zsec; rw [List.map_replicate]; exact (Array.ext' (by simp)).symm
theorem own_zsec {w : World} {g base : Nat} (h : Blk w g 5 (Array.replicate 512 (Value.int .u8 0))) (hb : base ≤ g) : w.ownsRow base 5 1 (.slice (some ⟨g, 0, none⟩) 512 512) 512 (zsec.map (Value.int .u8)) :=
  own_of_blk h hb (by simp) (by simp [maxLen]) (by omega) (by rw [zsec_vals, List.toList_toArray, List.take_of_length_le (by rw [List.length_map, zsec_len]; omega)])
/-- an append to a slice just made, of none -/
theorem own_empty {w : World} {e : TypeId} (base : Nat) (hb : base ≤ w.heap.size) : (w.alloc (.cells #[] e)).ownsRow base e 1 (.slice (some ⟨w.heap.size, 0, none⟩) 0 0) 0 [] :=
  World.ownsRow_made (base := base) (e := e) (size := 1) w #[] 0 hb (by simp) rfl

set_option maxRecDepth 100000 in
set_option maxHeartbeats 1600000 in
theorem rread_any {w : World} {b : Nat} {lv : Value} {F : Nat → Prop} {D : Dk} {L : List Sec} (h : RefAt w b lv F D L) (k : Int) :
    Calls Try.prog 72 #[.pointer (some ⟨b, 0, none⟩), .int .i64 k] w fun e w' => ∃ v,
      e = .returned (.tuple #[v, .int .i64 (D.may k)]) ∧ w'.ownsRow w.heap.size 5 1 v (D.read k).length ((D.read k).map (Value.int .u8)) ∧ Mod Nn w w' := by
  have c0 := h.c0; have c1 := h.c1; have c3 := h.c3
  have n1 := h.ok.n1; have n2 := h.ok.n2
  by_cases hd : D.down = true
  · have HM := Lib.hid (show D.may k = 9 by unfold Dk.may; rw [if_pos hd])
    have hr : D.read k = [] := by unfold Dk.read; rw [HM.out]; rfl
    rw [hr]
    rw [hd] at c3
    clear h hd hr c0 c1
    go_enter Try.func72, Try.ntmps72
    go_wp2
    go_ret2
    rw [HM.out]
    exact ⟨_, rfl, World.ownsRow_nil _ _ _ _, Mod.refl _ _⟩
  · have hd' : D.down = false := by simpa using hd
    by_cases hk : k < 0 ∨ D.n ≤ k
    · have HM := Lib.hid (show D.may k = 6 by unfold Dk.may; rw [if_neg hd, if_pos hk])
      have hr : D.read k = [] := by unfold Dk.read; rw [HM.out]; rfl
      rw [hr]
      rw [hd'] at c3
      clear h hd hd' hr c1
      generalize D.n = n at *
      by_cases h0 : k < 0
      · go_enter Try.func72, Try.ntmps72
        go_wp2
        go_ret2
        rw [HM.out]
        exact ⟨_, rfl, World.ownsRow_nil _ _ _ _, Mod.refl _ _⟩
      · have h1 : n ≤ k := by omega
        clear hk
        go_enter Try.func72, Try.ntmps72
        go_wp2
        go_ret2
        rw [HM.out]
        exact ⟨_, rfl, World.ownsRow_nil _ _ _ _, Mod.refl _ _⟩
    · have h0 : ¬ k < 0 := by omega
      have h1 : ¬ D.n ≤ k := by omega
      have HM := Lib.hid (show D.may k = 0 by unfold Dk.may; rw [if_neg hd, if_neg hk])
      have HR := Lib.hid (show D.read k = D.latest k by unfold Dk.read; rw [HM.out]; rfl)
      have HL := Lib.hid (h.ok.latest_len k)
      rw [hd'] at c3
      clear hk hd hd'
      have hfind := rfind_any h k
      cases hf : L.find? (fun s => s.n == k) with
      | none =>
        have HF := Lib.hid (fnd_none hf)
        have hl := (h.like k).2 hf
        have HZ := Lib.hid (show D.latest k = zsec by unfold Dk.latest; rw [hl.1, hl.2]; rfl)
        clear hf hl h c1
        generalize D.n = n at *
        go_enter Try.func72, Try.ntmps72
        go_wp2_with fail
        refine hfind.mono ?_
        rintro r w1 ⟨rfl, rfl⟩
        rw [HF.out]
        clear hfind
        go_wp2_with (first
          | (with_reducible change wpList _ _ _ (⟨_, Op.makeSlice _ _ _, _, _, _, _⟩ :: _) _ _
             go_must (refine wpList_make1 35 _ _ rfl rfl 5 (.int .u8 0) 1 Try.underlying35 info_byte rfl 512 512 512 512 rfl rfl rfl rfl (by omega) (by omega) (by omega) ?_)
             intro w2 b2 m2 z2))
        go_ret2
        rw [HM.out, HR.out, HZ.out]
        exact ⟨_, rfl, own_zsec b2 (Nat.le_refl _), m2⟩
      | some s =>
        obtain ⟨i, hfi, hsi, hsn⟩ := fnd_some hf
        have HF := Lib.hid hfi
        have HZ := Lib.hid (((h.like k).1 s hf).1)
        obtain ⟨g, cap, rfl, d0, d1, _, _⟩ := h.at_ hsi
        have hlt : i < L.length := (List.getElem?_eq_some_iff.1 hsi).1
        have hlt' : (i : Int) < L.length := by omega
        have hrl := (h.sec s (List.mem_of_getElem? hsi)).l
        have hlen := h.len
        have hbl := h.blk.lt
        have hgl := own_lt h.row
        clear hf h hfi hsi hsn d0
        generalize D.n = n at *
        go_enter Try.func72, Try.ntmps72
        go_wp2_with fail
        refine hfind.mono ?_
        rintro r w1 ⟨rfl, rfl⟩
        rw [HF.out]
        clear hfind
        go_wp2_with (first
          | (with_reducible change wpList _ _ _ (⟨some 36, _, _, _, _, _⟩ :: _) _ _
             go_must (refine wpList_append_rd 35 _ _ rfl rfl w.heap.size 5 (.int .u8 0) 1 1 Try.underlying35 info_byte rfl (by omega) _ 0 [] rfl (own_empty w.heap.size (Nat.le_refl _)) _ 512 _ (s.lt.map (Value.int .u8)) rfl (hrl.mod ((Mod.refl Nn w).alloc _) (fun _ _ f => f)).toC (ints_oneCell _ _) (by omega) (by omega) (by simp) ?_)
             intro v w4 hv hg hbl))
        go_ret2
        rw [HM.out, HR.out, HL.out, ← HZ.out]
        refine ⟨v, rfl, by simpa using hv, ((Mod.refl Nn w).alloc _).grown hg (fun g h => .inl ?_)⟩
        have h' : some w.heap.size = some g := h
        injection h' with h'
        omega
end Go.Proofs.Ytgmkibckbbbhkaa
