/- peatbanklaw01.ShaSums: the walk. -/
import Derived.Test.YtbocdgmkiajihaaDoorSha13
namespace Go.Proofs.YtbocdgmkiajihaaDoor
open Go.RowKit

theorem u8s_ints (l : List Nat) : (l.map (fun c : Nat => (c : Int))).map (Value.int .u8) = u8s l := by unfold u8s; rw [List.map_map]; rfl
theorem u8s_take {w : World} {g n : Nat} {t : TypeId} {l : List Nat} {ys : List Int} (h : Blk w g t ((l.map (fun c : Nat => (c : Int)) ++ ys).map (Value.int .u8)).toArray) (hl : l.length = n) : Rd w (some ⟨g, 0, none⟩) n (u8s l) :=
  Rd.of_blk h 0 (by rw [u8s_len]; exact hl) (fun j v hv => by
    rw [List.getElem?_toArray, Nat.zero_add, List.map_append, u8s_ints, List.getElem?_append_left (List.getElem?_eq_some_iff.1 hv).1]; exact hv)
theorem bytes_of8 {w : World} {A : Option Addr} {n : Nat} {zs : List Int} (h : Rd w A n (zs.map (Value.int .u8))) (hz : ∀ z ∈ zs, (Lit.int .u8 z).wf = true) : ∃ l : List Nat, Rd w A n (u8s l) ∧ ∀ z ∈ l, z < 256 := by
  have hz' : ∀ z ∈ zs, 0 ≤ z ∧ z ≤ 255 := fun z h => by simpa [Lit.wf, IntKind.min, IntKind.max, IntKind.signed, IntKind.bits] using hz z h
  refine ⟨zs.map Int.toNat, ?_, fun z h => ?_⟩
  · have : u8s (zs.map Int.toNat) = zs.map (Value.int .u8) := by
      unfold u8s
      rw [List.map_map]
      refine List.map_congr_left fun z h => ?_
      show Value.int .u8 ((z.toNat : Nat) : Int) = _
      rw [Int.toNat_of_nonneg (hz' z h).1]
    rw [this]; exact h
  · obtain ⟨y, hy, rfl⟩ := List.mem_map.1 h
    have := hz' y hy
    omega
set_option maxRecDepth 100000 in
set_option maxHeartbeats 1600000 in
theorem shasums_any {w : World} (hg : Gl w) {A : Option Addr} {n c : Nat} {l : List Nat} (hr : Rd w A n (u8s l)) (hl : ∀ z ∈ l, z < 256) :
    Calls Tryd.prog 3 #[.slice A n c] w fun r w' => r = .returned (.bool true) ∧ Mod Nn w w' := by
  have hL : l.length = n := by have := hr.1; rwa [u8s_len] at this
  have HG := Lib.hid (And.intro hg (And.intro hL (And.intro hr hl)))
  clear hg hL hr hl
  by_cases hn : (3000 : Int) < n
  · go_enter Tryd.func3, Tryd.ntmps3
    go_wp2_with fail
    refine (awake_any HG.out.1).mono ?_
    rintro r w1 ⟨rfl, m1⟩
    go_wp2
    go_ret
    exact ⟨rfl, m1⟩
  · have hn3 : n ≤ 3000 := by omega
    go_enter Tryd.func3, Tryd.ntmps3
    go_wp2_with fail
    refine (awake_any HG.out.1).mono ?_
    rintro r w1 ⟨rfl, m1⟩
    have hr0 : Rd w1 A n ((l.map (fun c : Nat => (c : Int))).map (Value.int .u8)) := by rw [u8s_ints]; exact HG.out.2.2.1.mod m1 (fun _ _ f => f)
    have H1 := Lib.hid (And.intro hr0 m1)
    clear hr0 m1
    go_wp2_with fail
    refine (lent_any H1.out.1 (by omega)).mono ?_
    rintro r w2 ⟨g, rfl, hb2, m2, hg⟩
    have ri2 := u8s_take hb2 HG.out.2.1
    have M2 := H1.out.2.nn_ m2
    have H2 := Lib.hid (And.intro (H1.out.1.mod m2 (fun _ _ f => f)) (And.intro hb2 (And.intro ri2 M2)))
    clear hb2 m2 hg ri2 M2
    go_wp2_with fail
    refine (psum_any (HG.out.1.nn H2.out.2.2.2) H2.out.2.2.1 HG.out.2.2.2 (by omega)).mono ?_
    rintro r w3 ⟨rfl, m3⟩
    have M3 := H2.out.2.2.2.nn_ m3
    obtain ⟨D, hD⟩ : ∃ x, digL l = x := ⟨_, rfl⟩
    rw [hD]
    have HD := Lib.hid hD
    have HDl := Lib.hid (show D.length = 32 ∧ ∀ z ∈ D, z < 256 from ⟨hD ▸ digL_len l, hD ▸ digL_lt l⟩)
    clear hD
    have H3 := Lib.hid (And.intro m3 M3)
    clear m3 M3
    go_wp2_with fail
    refine (rsum_any (HG.out.2.2.1.mod H3.out.2 (fun _ _ f => f)) HG.out.2.2.2 (by omega)).mono ?_
    rintro r w4 ⟨rfl, m4⟩
    rw [HD.out]
    have H4 := Lib.hid (And.intro (H3.out.1.nn_ m4) (H3.out.2.nn_ m4))
    clear m4
    go_wp2_with (first
      | (with_reducible change wpList _ _ _ (⟨some 15, _, _, _, _, _⟩ :: _) _ _
         go_must (refine wpList_val rfl (exec_eqK _ _ rfl rfl rfl HDl.out.1 HDl.out.2) ?_)))
    refine (kept_any (H2.out.1.mod H4.out.1 (fun _ _ f => f)) (H2.out.2.1.mod H4.out.1 (fun f => f)) (by omega)).mono ?_
    rintro r w5 ⟨rfl, m5⟩
    have M5 := H4.out.2.nn_ m5
    clear m5
    go_wp2
    go_ret
    exact ⟨rfl, M5⟩
end Go.Proofs.YtbocdgmkiajihaaDoor
