/- The document's device: New, Bytes. -/
import Derived.Test.YtgmkibckbbbhkaaRef87
import Derived.Test.YtgmkibckbbbhkaaKitC
namespace Go.Proofs.Ytgmkibckbbbhkaa
open Go.RowKit

theorem und_int : Try.prog.underlying 3 = some (.int .i64) := Try.underlying3
def bytesN (D : Dk) (j : Nat) : List Int := (List.range j).flatMap (fun i : Nat => D.latest i)
theorem bytesN_succ (D : Dk) (j : Nat) : bytesN D (j + 1) = bytesN D j ++ D.latest j := by unfold bytesN; rw [List.range_succ, List.flatMap_append]; simp
theorem bytesN_len {D : Dk} (h : D.ok) : ∀ j, (bytesN D j).length = 512 * j
  | 0 => rfl
  | j + 1 => by rw [bytesN_succ, List.length_append, bytesN_len h j, h.latest_len]; omega
theorem own_row_ge {w : World} {base n size : Nat} {e : TypeId} {v : Value} {xs : List Value} (h : w.ownsRow base e size v n xs) {g : Nat} (hg : v.ownBlock = some g) : base ≤ g := by
  obtain ⟨A, c, hv, _, hlt⟩ := own_form h
  rw [hv] at hg
  exact (hlt g (own_of hg)).1

set_option maxHeartbeats 400000 in
theorem rnew_any (n : Int) (w : World) (h1 : 1 ≤ n) (h2 : n ≤ 262144) :
    Calls Try.prog 31 #[.int .i64 n] w fun e w' => ∃ b, e = .returned (.pointer (some ⟨b, 0, none⟩)) ∧ RefAt w' b (.slice none 0 0) (fun _ => False) (Dk.new n) [] ∧ Mod Nn w w' ∧ w.heap.size ≤ b := by
  have h1' : ¬ n < 1 := by omega
  have h2' : ¬ 262144 < n := by omega
  go_enter Try.func31, Try.ntmps31
  go_wp2
  go_ret
  exact ⟨_, rfl, ⟨Blk.new _ _ _, World.ownsRow_nil _ _ _ _, fun s hs => (by cases hs), List.nodup_nil, fun s hs => (by cases hs), fun k => ⟨fun s hs => (by simp at hs), fun _ => ⟨rfl, rfl⟩⟩, fun f => f, fun g hg => (by cases hg), fun g f => f.elim,
    ⟨h1, h2, Int.le_refl 0, (by decide : (0 : Int) ≤ 9223372036854775807), fun _ _ h => (by cases h), fun _ _ h => (by cases h)⟩⟩, (Mod.refl _ _).alloc _, Nat.le_refl _⟩
set_option maxHeartbeats 400000 in
theorem rnew_none (n : Int) (w : World) (h : n < 1 ∨ 262144 < n) :
    Calls Try.prog 31 #[.int .i64 n] w fun e w' => e = .returned (.pointer none) ∧ w = w' := by
  by_cases h1 : n < 1
  · clear h
    go_enter Try.func31, Try.ntmps31
    go_wp2
    go_ret
    exact ⟨rfl, rfl⟩
  · have h2 : 262144 < n := by omega
    clear h
    go_enter Try.func31, Try.ntmps31
    go_wp2
    go_ret
    exact ⟨rfl, rfl⟩

set_option maxRecDepth 100000 in
set_option maxHeartbeats 3200000 in
theorem rbytes_any {w : World} {b : Nat} {lv : Value} {F : Nat → Prop} {D : Dk} {L : List Sec} (h : RefAt w b lv F D L) :
    Calls Try.prog 43 #[.pointer (some ⟨b, 0, none⟩)] w fun e w' => ∃ v, e = .returned v ∧ w'.ownsRow w.heap.size 5 1 v (512 * D.n.toNat) ((bytesN D D.n.toNat).map (Value.int .u8)) ∧ Mod Nn w w' := by
  obtain ⟨n, hn⟩ : ∃ n : Nat, D.n = n := ⟨D.n.toNat, by have := h.ok.n1; omega⟩
  have hnt : D.n.toNat = n := by omega
  rw [hnt]
  have n2 : n ≤ 262144 := by have := h.ok.n2; omega
  have H := Lib.hid h
  have hbl := h.blk.lt
  have c0 := h.c0
  have c1 := h.c1
  have hlen := h.len
  rw [hn] at c0
  have HC := Lib.hid (And.intro c0 c1)
  clear h hn hnt c0 c1
  go_enter Try.func43, Try.ntmps43
  go_wp2
  go_loopw [3, 4] (fun v i wr => ∃ j : Nat, j ≤ n ∧ i = .int .i64 j ∧ wr.ownsRow w.heap.size 5 1 v (512 * j) ((bytesN D j).map (Value.int .u8)) ∧ Mod Nn w wr) (fun _ i _ => n - (intOf i).toNat)
  case atStart => exact ⟨0, Nat.zero_le _, rfl, World.ownsRow_nil _ _ _ _, Mod.refl _ _⟩
  case round =>
    obtain ⟨j, hj, rfl, hown, hmr⟩ := hrel
    obtain ⟨wo, rfl⟩ : ∃ wo : World, wo = wr := ⟨_, rfl⟩
    have c0 := (hmr.cell (p := ⟨b, 0, none⟩) hbl (fun f => f)).trans HC.out.1
    by_cases hlt : j < n
    · have hlt' : (j : Int) < n := by omega
      have hR := H.out.nn hmr
      have hsz := hmr.size
      have HO := Lib.hid (And.intro hown hmr)
      have HLN := Lib.hid (H.out.ok.latest_len (j : Int))
      have HSU := Lib.hid (bytesN_succ D j)
      have hfind := rfind_any hR (j : Int)
      clear hown hmr
      cases hf : L.find? (fun s => s.n == (j : Int)) with
      | none =>
        rw [fnd_none hf] at hfind
        have hl := (hR.like j).2 hf
        have HZ := Lib.hid (show D.latest (j : Int) = zsec by unfold Dk.latest; rw [hl.1, hl.2]; rfl)
        clear hf hl hR
        go_wp2_with fail
        refine hfind.mono ?_
        rintro r w1 ⟨rfl, rfl⟩
        clear hfind
        go_wp2_with (first
          | (with_reducible change wpList _ _ _ (⟨some 20, _, _, _, _, _⟩ :: _) _ _
             go_must (refine wpList_append_zeros 35 3 _ _ rfl rfl w.heap.size 5 (.int .u8 0) 1 Try.underlying35 und_int info_byte rfl rfl _ (512 * j) _ rfl HO.out.1 512 rfl (by omega) (by omega) (by omega) hsz ?_)
             intro v2 w2 own2 gr2 ob2))
        refine ⟨⟨j + 1, by omega, by go_num, ?_, HO.out.2.grown gr2 (fun g hg => .inl (own_row_ge HO.out.1 hg))⟩, by simp [intOf]; omega⟩
        rw [HSU.out, HZ.out, List.map_append, show 512 * (j + 1) = 512 * j + 512 from by omega]
        have hz : zsec.map (Value.int .u8) = List.replicate 512 (Value.int .u8 0) := by unfold zsec; rw [List.map_replicate]
        rw [hz]
        exact own2
      | some s =>
        obtain ⟨i, hfi, hsi, hsn⟩ := fnd_some hf
        rw [hfi] at hfind
        have HZ := Lib.hid (((hR.like j).1 s hf).1)
        have HRL := Lib.hid (hR.sec s (List.mem_of_getElem? hsi)).l
        obtain ⟨g, cap, rfl, d0, d1, _, _⟩ := hR.at_ hsi
        have c1 := hR.c1
        have hli : i < L.length := (List.getElem?_eq_some_iff.1 hsi).1
        have hli' : (i : Int) < L.length := by omega
        clear hf hR hfi hsi hsn d0
        go_wp2_with fail
        refine hfind.mono ?_
        rintro r w1 ⟨rfl, rfl⟩
        clear hfind
        go_wp2_with (first
          | (with_reducible change wpList _ _ _ (⟨some 30, _, _, _, _, _⟩ :: _) _ _
             go_must (refine wpList_append_rd 35 _ _ rfl rfl w.heap.size 5 (.int .u8 0) 1 1 Try.underlying35 info_byte rfl (by omega) _ (512 * j) _ rfl HO.out.1 _ 512 _ (s.lt.map (Value.int .u8)) rfl HRL.out.toC (ints_oneCell _ _) (by omega) (by omega) hsz ?_)
             intro v2 w2 own2 gr2 ob2))
        refine ⟨⟨j + 1, by omega, by go_num, ?_, HO.out.2.grown gr2 (fun g hg => .inl (own_row_ge HO.out.1 hg))⟩, by simp [intOf]; omega⟩
        rw [HSU.out, ← HZ.out, List.map_append, show 512 * (j + 1) = 512 * j + 512 from by omega]
        exact own2
    · have hlt' : ¬ (j : Int) < n := by omega
      have hjn : j = n := by omega
      subst hjn
      go_wp2
      go_ret
      exact ⟨_, rfl, hown, hmr⟩
end Go.Proofs.Ytgmkibckbbbhkaa
