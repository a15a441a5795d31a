/- peatbanklaw16.TreeOrders. -/
import Derived.Test.YtkcpmkeckcnobaaTr36
import Derived.Test.YtkcpmkeckcnobaaTr34
namespace Go.Proofs.Ytkcpmkeckcnobaa
open Go.RowKit

def bV (b : Bool) : Value := .bool b
theorem info_boolz : (Try.prog.info? 4).map (fun i => (i.zero, i.size)) = some (some (.bool false), 1) := by kernel_rfl
/-- two trees and the map of what is there -/
structure Ord (w wr : World) (pa pb gm : Nat) (La Lb : List (List Nat)) (T : List (Int × Bool)) (th : List Int) (Ga Gb : List Nat) : Prop where
  a : TrAt wr pa La Ga
  b : TrAt wr pb Lb Gb
  ga : ∀ g ∈ Ga, w.heap.size ≤ g ∧ g ∉ Gb ∧ g ≠ gm
  gb : ∀ g ∈ Gb, w.heap.size ≤ g ∧ g ≠ gm
  gw : w.heap.size ≤ gm
  m : MapE wr gm bV T
  i : ThereI T th
  md : Mod Nn w wr
  la : La.length ≤ 400
  lb : Lb.length ≤ 400
section
variable {w wr w' : World} {pa pb gm : Nat} {La Lb L' : List (List Nat)} {T : List (Int × Bool)} {th : List Int} {Ga Gb G' : List Nat}
theorem Ord.nn (h : Ord w wr pa pb gm La Lb T th Ga Gb) (hm : Mod Nn wr w') : Ord w w' pa pb gm La Lb T th Ga Gb :=
  ⟨h.a.nn hm, h.b.nn hm, h.ga, h.gb, h.gw, h.m.mod hm (fun f => f), h.i, h.md.nn_ hm, h.la, h.lb⟩
theorem Ord.setA (h : Ord w wr pa pb gm La Lb T th Ga Gb) (ht : TrAt w' pa L' G') (hG : ∀ g ∈ G', g ∈ Ga ∨ wr.heap.size ≤ g) (hm : Mod (· ∈ Ga) wr w') (hl : L'.length ≤ 400) : Ord w w' pa pb gm L' Lb T th G' Gb := by
  have hs := h.md.size
  refine ⟨ht, h.b.mod hm (fun g hg hx => (h.ga g hx).2.1 hg), fun g hg => ?_, h.gb, h.gw, h.m.mod hm (fun hx => (h.ga gm hx).2.2 rfl), h.i, h.md.then_ hm (fun g hg hx => by have := (h.ga g hx).1; omega), hl, h.lb⟩
  rcases hG g hg with hg | hg
  · exact h.ga g hg
  · exact ⟨by omega, fun hx => by have := h.b.lt g hx; omega, fun e => by have := h.m.lt; omega⟩
theorem Ord.setB (h : Ord w wr pa pb gm La Lb T th Ga Gb) (ht : TrAt w' pb L' G') (hG : ∀ g ∈ G', g ∈ Gb ∨ wr.heap.size ≤ g) (hm : Mod (· ∈ Gb) wr w') (hl : L'.length ≤ 400) : Ord w w' pa pb gm La L' T th Ga G' := by
  have hs := h.md.size
  refine ⟨h.a.mod hm (fun g hg hx => (h.ga g hg).2.1 hx), ht, fun g hg => ⟨(h.ga g hg).1, fun hx => ?_, (h.ga g hg).2.2⟩, fun g hg => ?_, h.gw, h.m.mod hm (fun hx => (h.gb gm hx).2 rfl), h.i, h.md.then_ hm (fun g hg hx => by have := (h.gb g hx).1; omega), h.la, hl⟩
  · rcases hG g hx with hx | hx
    · exact (h.ga g hg).2.1 hx
    · have := h.a.lt g hg; omega
  · rcases hG g hg with hg | hg
    · exact h.gb g hg
    · exact ⟨by omega, fun e => by have := h.m.lt; omega⟩
theorem Ord.map (h : Ord w wr pa pb gm La Lb T th Ga Gb) {T' : List (Int × Bool)} {th' : List Int} (ht : MapE w' gm bV T') (hi : ThereI T' th') (hm : Mod (At gm) wr w') : Ord w w' pa pb gm La Lb T' th' Ga Gb := by
  have hs := h.md.size
  exact ⟨h.a.mod hm (fun g hg e => (h.ga g hg).2.2 e), h.b.mod hm (fun g hg e => (h.gb g hg).2 e), h.ga, h.gb, h.gw, ht, hi, h.md.then_ hm (fun g hg (e : g = gm) => by have := h.gw; omega), h.la, h.lb⟩
end
theorem setsV_len (v : Nat) (zs : List Int) {L : List (List Nat)} (h : Srt L) (k : Nat) : (setsL L ((zsv v zs).take k)).length ≤ L.length + k := by
  have := setsL_len ((zsv v zs).take k) h
  rw [List.length_take] at this
  omega
section
variable {w : World} {A B : Option Addr} {n c m d : Nat} {zs ms : List Int} {st : Int}
set_option maxRecDepth 100000 in
set_option maxHeartbeats 6400000 in
theorem orders_any (hra : IntsAt w A n zs) (hrb : IntsAt w B m ms) : Calls Try.prog 6 #[.slice A n c, .slice B m d, .int .i64 st] w fun r w' => r = .returned (.bool true) ∧ Mod Nn w w' := by
  have hzl := hra.len
  have hml := hrb.len
  have HA := Lib.hid hra
  have HB := Lib.hid hrb
  have HZ := Lib.hid (And.intro hzl hml)
  have hmm := @run_makeMap Try.prog
  clear hra hrb hzl hml
  go_enter Try.func6, Try.ntmps6
  go_wp2_with fail
  refine (awake16 w).mono ?_
  rintro r w0 ⟨rfl, m0⟩
  have H0 := Lib.hid m0
  clear m0
  by_cases hbig : 300 < n
  · have hbig' : (300 : Int) < n := by omega
    go_wp2
    go_ret
    exact ⟨rfl, H0.out⟩
  by_cases hbig2 : 100 < m
  · have hsm : ¬ (300 : Int) < n := by omega
    have hbig' : (100 : Int) < m := by omega
    go_wp2
    go_ret
    exact ⟨rfl, H0.out⟩
  have hsm : ¬ (300 : Int) < n := by omega
  have hsm2 : ¬ (100 : Int) < m := by omega
  go_wp2_with fail
  refine (tnew_any w0).mono ?_
  rintro r w1 ⟨pa, Ga, rfl, hta, hGa, m1⟩
  have hs0 : w.heap.size ≤ w0.heap.size := H0.out.size
  have hs1 : w0.heap.size ≤ w1.heap.size := m1.size
  have H1 := Lib.hid (And.intro hta (And.intro hGa (H0.out.nn_ m1)))
  clear hta hGa m1
  go_wp2_with fail
  refine (tnew_any w1).mono ?_
  rintro r w2 ⟨pb, Gb, rfl, htb, hGb, m2⟩
  have hs2 : w1.heap.size ≤ w2.heap.size := m2.size
  have m3 : Mod Nn w2 (w2.alloc (.map #[] 0)) := (Mod.refl _ _).alloc _
  have hO : Ord w (w2.alloc (.map #[] 0)) pa pb w2.heap.size [] [] [] [] Ga Gb := by
    refine ⟨(H1.out.1.nn m2).nn m3, htb.nn m3, fun g hg => ?_, fun g hg => ?_, by omega, MapE.new w2 bV, ThereI.nil, (H1.out.2.2.nn_ m2).nn_ m3, by simp, by simp⟩
    · have := H1.out.2.1 g hg
      have := H1.out.1.lt g hg
      exact ⟨by omega, fun hx => by have := hGb g hx; omega, by omega⟩
    · have := hGb g hg
      have := htb.lt g hg
      exact ⟨by omega, by omega⟩
  have HO := Lib.hid hO
  clear hO htb hGb m2 m3
  go_wp2_with fail
  -- zzA
  obtain ⟨gm, hgm⟩ : ∃ gm, w2.heap.size = gm := ⟨_, rfl⟩
  rw [hgm] at HO ⊢
  generalize w2.alloc (.map #[] 0) = w3 at *
  clear hgm H1 hs1 hs2 hmm
  go_loopw [10] (fun i wr => ∃ (j : Nat) (Ga : List Nat) (T : List (Int × Bool)), j ≤ n ∧ i = .int .i64 j ∧ Hid (Ord w wr pa pb gm (setsL [] ((zsv 0 zs).take j)) [] T (zs.take j) Ga Gb)) (fun i _ => n - (intOf i).toNat)
  case atStart => exact ⟨0, Ga, [], by omega, rfl, Lib.hid HO.out⟩
  case round =>
    clear HO
    obtain ⟨j, Ga, T, hj, rfl, HR⟩ := hrel
    by_cases hjn : j < n
    · have hj' : (j : Int) < n := by omega
      obtain ⟨z, hz⟩ := ints_get HA.out.len (show j < n by omega)
      have hcz := (HA.out.nn HR.out.md)
      obtain ⟨gA, oA, rfl, hcA⟩ := hcz.at_ (by omega)
      have hcA := hcA _ _ hz
      have HJ := Lib.hid (And.intro (zsv_at (v := 0) hz) hz)
      clear hz hcz
      go_wp2_with (first
        | (with_reducible change wpList _ _ _ (⟨some 37, _, _, _, _, _⟩ :: _) _ _
           go_must (refine wpList_val rfl (exec_elem (P := Try.prog) (g := gA) (off := oA) (q := j) 64 _ _ rfl 3 1 uuI size_int rfl rfl (by omega)) ?_))
        | (with_reducible change wpList _ _ _ (⟨some 38, _, _, _, _, _⟩ :: _) _ _
           go_must (refine wpList_val rfl (exec_load1 (P := Try.prog) (v := .int .i64 z) (ad := ⟨gA, oA + j, none⟩) 3 _ rfl (by rw [Nat.mul_one]; rfl) hcA Try.underlying3 rfl) ?_))
        | (with_reducible change wpList _ _ _ (⟨some 39, _, _, _, _, _⟩ :: _) _ _
           go_must (refine wpList_val rfl (exec_deed1 rfl rfl) ?_)))
      clear hcA
      refine (entry16_any wr 0 z 0 (by omega)).mono ?_
      rintro r w4 ⟨rfl, m4⟩
      have H4 := Lib.hid (HR.out.nn m4)
      clear m4
      go_wp2_with fail
      refine (tset_any H4.out.a (en_len _ _) (en_lt (pk_spec z).2 (by omega)) (by have := H4.out.la; omega)).mono ?_
      rintro r w5 ⟨rfl, G5, ht5, hG5, m5⟩
      rw [← setsL_take HJ.out.1] at ht5
      have H5 := Lib.hid (H4.out.setA ht5 hG5 m5 (by have := setsV_len 0 zs (L := []) List.Pairwise.nil (j + 1); simp only [List.length_nil] at this; omega))
      have hcB := ((HA.out.nn H5.out.md).at_ (by omega))
      clear ht5 hG5 m5
      obtain ⟨gB, oB, eB, hcB⟩ := hcB
      injection eB with eB; injection eB with eB1 eB2 _; subst eB1; subst eB2
      have hcA := hcB _ _ HJ.out.2
      clear hcB
      go_wp2_with (first
        | (with_reducible change wpList _ _ _ (⟨some 45, _, _, _, _, _⟩ :: _) _ _
           go_must (refine wpList_val rfl (exec_elem (P := Try.prog) (g := gA) (off := oA) (q := j) 64 _ _ rfl 3 1 uuI size_int rfl rfl (by omega)) ?_))
        | (with_reducible change wpList _ _ _ (⟨some 46, _, _, _, _, _⟩ :: _) _ _
           go_must (refine wpList_val rfl (exec_load1 (P := Try.prog) (v := .int .i64 z) (ad := ⟨gA, oA + j, none⟩) 3 _ rfl (by rw [Nat.mul_one]; rfl) hcA Try.underlying3 rfl) ?_)))
      clear hcA
      refine (pick_any z 1000 _ (by omega)).mono ?_
      rintro r w6 ⟨rfl, rfl⟩
      rw [(pk_spec z).1]
      go_wp2_with (first
        | (with_reducible change wpList _ _ _ (⟨none, Op.mapUpdate _ _ _ _, _, _, _, _⟩ :: _) _ _
           go_must (refine wpList_mapUpdate_E 66 _ _ _ rfl rfl gm (pk z : Int) true rfl rfl rfl H5.out.m Try.underlying66 Try.underlying3 ?_)
           intro w7 e7 m7 z7
           clear z7
           have H7 := Lib.hid (H5.out.map (th' := zs.take (j + 1)) e7 (by rw [List.take_add_one, HJ.out.2]; exact H5.out.i.snoc z) m7)
           clear e7 m7))
      exact ⟨⟨j + 1, G5, _, by omega, by go_num, H7⟩, by simp [intOf]; omega⟩
    · have hje : n = j := by omega
      subst hje
      have hall : (zsv 0 zs).take n = zsv 0 zs := List.take_of_length_le (by rw [zsv_len, HZ.out.1]; exact Nat.le_refl _)
      have hall2 : zs.take n = zs := List.take_of_length_le (by rw [HZ.out.1]; exact Nat.le_refl _)
      rw [hall, hall2] at HR
      have HO := HR
      clear hall hall2 hj HR
      go_wp2_with fail
      -- zzB
      go_loopw [11] (fun i wr => ∃ (j : Nat) (Gb : List Nat), j ≤ m ∧ i = .int .i64 j ∧ Hid (Ord w wr pa pb gm (setsL [] (zsv 0 zs)) (setsL [] ((zsv 9 ms).take j)) T zs Ga Gb)) (fun i _ => m - (intOf i).toNat)
      case atStart => exact ⟨0, Gb, by omega, rfl, Lib.hid HO.out⟩
      case round =>
        clear HO
        obtain ⟨j, Gb, hj, rfl, HR⟩ := hrel
        by_cases hjn : j < m
        · have hj' : (j : Int) < m := by omega
          obtain ⟨z, hz⟩ := ints_get HB.out.len (show j < m by omega)
          have hcz := (HB.out.nn HR.out.md)
          obtain ⟨gB, oB, rfl, hcB⟩ := hcz.at_ (by omega)
          have hcB := hcB _ _ hz
          have HJ := Lib.hid (zsv_at (v := 9) hz)
          clear hz hcz
          go_wp2_with (first
            | (with_reducible change wpList _ _ _ (⟨some 57, _, _, _, _, _⟩ :: _) _ _
               go_must (refine wpList_val rfl (exec_elem (P := Try.prog) (g := gB) (off := oB) (q := j) 64 _ _ rfl 3 1 uuI size_int rfl rfl (by omega)) ?_))
            | (with_reducible change wpList _ _ _ (⟨some 58, _, _, _, _, _⟩ :: _) _ _
               go_must (refine wpList_val rfl (exec_load1 (P := Try.prog) (v := .int .i64 z) (ad := ⟨gB, oB + j, none⟩) 3 _ rfl (by rw [Nat.mul_one]; rfl) hcB Try.underlying3 rfl) ?_))
            | (with_reducible change wpList _ _ _ (⟨some 59, _, _, _, _, _⟩ :: _) _ _
               go_must (refine wpList_val rfl (exec_deed2 (v := 9) rfl rfl) ?_)))
          clear hcB
          refine (entry16_any wr 0 z 9 (by omega)).mono ?_
          rintro r w4 ⟨rfl, m4⟩
          have H4 := Lib.hid (HR.out.nn m4)
          clear m4
          go_wp2_with fail
          refine (tset_any H4.out.b (en_len _ _) (en_lt (pk_spec z).2 (by omega)) (by have := H4.out.lb; omega)).mono ?_
          rintro r w5 ⟨rfl, G5, ht5, hG5, m5⟩
          rw [← setsL_take HJ.out] at ht5
          have H5 := Lib.hid (H4.out.setB ht5 hG5 m5 (by have := setsV_len 9 ms (L := []) List.Pairwise.nil (j + 1); simp only [List.length_nil] at this; omega))
          clear ht5 hG5 m5
          go_wp2
          exact ⟨⟨j + 1, G5, by omega, by go_num, H5⟩, by simp [intOf]; omega⟩
        · have hje : m = j := by omega
          subst hje
          have hall : (zsv 9 ms).take m = zsv 9 ms := List.take_of_length_le (by rw [zsv_len, HZ.out.2]; exact Nat.le_refl _)
          rw [hall] at HR
          have HO := HR
          clear hall hj HR
          go_wp2_with fail
          refine (pick_any st ((n : Int) + 1) _ (by omega)).mono ?_
          rintro r w6 ⟨rfl, rfl⟩
          obtain ⟨k, hk, hkn⟩ : ∃ k : Nat, pick st ((n : Int) + 1) = (k : Int) ∧ k ≤ n := by
            have := pick_range st ((n : Int) + 1) (by omega)
            exact ⟨(pick st ((n : Int) + 1)).toNat, by omega, by omega⟩
          rw [hk]
          clear hk
          have h9 : (setsL [] (zsv 9 ms)).length ≤ m := by
            have := setsV_len 9 ms (L := []) List.Pairwise.nil ms.length
            rw [List.take_of_length_le (by rw [zsv_len]; exact Nat.le_refl _)] at this
            simp only [List.length_nil] at this
            have := HZ.out.2
            omega
          have H9 := Lib.hid h9
          clear h9
          go_wp2_with fail
          -- zzC
          go_loopw [13] (fun i wr => ∃ (j : Nat) (Gb : List Nat), j ≤ n ∧ i = .int .i64 j ∧ Hid (Ord w wr pa pb gm (setsL [] (zsv 0 zs)) (setsL (setsL [] (zsv 9 ms)) ((zsv 0 (rotL k zs)).take j)) T zs Ga Gb)) (fun i _ => n - (intOf i).toNat)
          case atStart => exact ⟨0, Gb, by omega, rfl, Lib.hid HO.out⟩
          case round =>
            clear HO
            obtain ⟨j, Gb, hj, rfl, HR⟩ := hrel
            by_cases hjn : j < n
            · have hj' : (j : Int) < n := by omega
              have hn0 : ¬ (n : Int) = 0 := by omega
              have hrm : Int.tmod ((j : Int) + (k : Int)) (n : Int) = (((j + k) % n : Nat) : Int) := rfl
              have hlt : (j + k) % n < n := Nat.mod_lt _ (by omega)
              obtain ⟨z, hz⟩ := ints_get HA.out.len (show ((j + k) % n) < n by omega)
              have hcz := (HA.out.nn HR.out.md)
              obtain ⟨gA, oA, rfl, hcA⟩ := hcz.at_ (by omega)
              have hcA := hcA _ _ hz
              have HJ := Lib.hid (zsv_at (v := 0) (rotL_at HA.out.len hjn hz))
              clear hz hcz
              go_wp2_with (first
                | (with_reducible change wpList _ _ _ (⟨some 81, _, _, _, _, _⟩ :: _) _ _
                   go_must (refine wpList_val rfl (exec_elem (P := Try.prog) (g := gA) (off := oA) (q := ((j + k) % n)) 64 _ _ rfl 3 1 uuI size_int rfl rfl (by omega)) ?_))
                | (with_reducible change wpList _ _ _ (⟨some 82, _, _, _, _, _⟩ :: _) _ _
                   go_must (refine wpList_val rfl (exec_load1 (P := Try.prog) (v := .int .i64 z) (ad := ⟨gA, oA + ((j + k) % n), none⟩) 3 _ rfl (by rw [Nat.mul_one]; rfl) hcA Try.underlying3 rfl) ?_))
                | (with_reducible change wpList _ _ _ (⟨some 83, _, _, _, _, _⟩ :: _) _ _
                   go_must (refine wpList_val rfl (exec_deed1 rfl rfl) ?_)))
              clear hcA hrm
              refine (entry16_any wr 0 z 0 (by omega)).mono ?_
              rintro r w4 ⟨rfl, m4⟩
              have H4 := Lib.hid (HR.out.nn m4)
              clear m4
              go_wp2_with fail
              refine (tset_any H4.out.b (en_len _ _) (en_lt (pk_spec z).2 (by omega)) (by have := H4.out.lb; omega)).mono ?_
              rintro r w5 ⟨rfl, G5, ht5, hG5, m5⟩
              rw [← setsL_take HJ.out] at ht5
              have H5 := Lib.hid (H4.out.setB ht5 hG5 m5 (by have := setsV_len 0 (rotL k zs) (L := setsL [] (zsv 9 ms)) (setsL_srt _ List.Pairwise.nil) (j + 1); have := H9.out; omega))
              clear ht5 hG5 m5
              go_wp2
              exact ⟨⟨j + 1, G5, by omega, by go_num, H5⟩, by simp [intOf]; omega⟩
            · have hje : n = j := by omega
              subst hje
              have hall : (zsv 0 (rotL k zs)).take n = zsv 0 (rotL k zs) := List.take_of_length_le (by rw [zsv_len, rotL_len, HZ.out.1]; exact Nat.le_refl _)
              rw [hall] at HR
              have HO := HR
              clear hall hj HR
              go_wp2_with fail
              -- zzD
              go_loopw [14] (fun i wr => ∃ (j : Nat) (Gb : List Nat), j ≤ m ∧ i = .int .i64 j ∧ Hid (Ord w wr pa pb gm (setsL [] (zsv 0 zs)) (condL zs (setsL (setsL [] (zsv 9 ms)) (zsv 0 (rotL k zs))) (ms.take j)) T zs Ga Gb)) (fun i _ => m - (intOf i).toNat)
              case atStart => exact ⟨0, Gb, by omega, rfl, Lib.hid HO.out⟩
              case round =>
                clear HO
                obtain ⟨j, Gb, hj, rfl, HR⟩ := hrel
                by_cases hjn : j < m
                · have hj' : (j : Int) < m := by omega
                  obtain ⟨z, hz⟩ := ints_get HB.out.len (show j < m by omega)
                  have hcz := (HB.out.nn HR.out.md)
                  obtain ⟨gB, oB, rfl, hcB⟩ := hcz.at_ (by omega)
                  have hcB := hcB _ _ hz
                  have HJ := Lib.hid hz
                  have HC := Lib.hid hcz
                  clear hz hcz
                  go_wp2_with (first
                    | (with_reducible change wpList _ _ _ (⟨some 95, _, _, _, _, _⟩ :: _) _ _
                       go_must (refine wpList_val rfl (exec_elem (P := Try.prog) (g := gB) (off := oB) (q := j) 64 _ _ rfl 3 1 uuI size_int rfl rfl (by omega)) ?_))
                    | (with_reducible change wpList _ _ _ (⟨some 96, _, _, _, _, _⟩ :: _) _ _
                       go_must (refine wpList_val rfl (exec_load1 (P := Try.prog) (v := .int .i64 z) (ad := ⟨gB, oB + j, none⟩) 3 _ rfl (by rw [Nat.mul_one]; rfl) hcB Try.underlying3 rfl) ?_)))
                  clear hcB
                  refine (pick_any z 1000 _ (by omega)).mono ?_
                  rintro r w6 ⟨rfl, rfl⟩
                  rw [(pk_spec z).1]
                  by_cases hin : pk z ∈ zs.map pk
                  · have hag : ((aget T (pk z : Int)).map bV).getD (.bool false) = .bool true := by
                      rw [HR.out.i, if_pos (by obtain ⟨y, h1, h2⟩ := List.mem_map.1 hin; exact List.mem_map.2 ⟨y, h1, by rw [h2]⟩)]; rfl
                    have hnx : condL zs (setsL (setsL [] (zsv 9 ms)) (zsv 0 (rotL k zs))) (ms.take (j + 1)) = condL zs (setsL (setsL [] (zsv 9 ms)) (zsv 0 (rotL k zs))) (ms.take j) := by rw [condL_take HJ.out, if_pos hin]
                    have HN := Lib.hid hnx
                    have HG := Lib.hid hag
                    clear hag hnx hin
                    go_wp2_with (first
                      | (with_reducible change wpList _ _ _ (⟨some 98, _, _, _, _, _⟩ :: _) _ _
                         go_must (refine wpList_lookup_E 66 _ _ false rfl rfl gm (pk z : Int) rfl rfl HR.out.m Try.underlying66 Try.underlying3 info_boolz (.bool true) (by rw [if_neg (by decide)]; exact HG.out) ?_)))
                    exact ⟨⟨j + 1, Gb, by omega, by go_num, by rw [HN.out]; exact HR⟩, by simp [intOf]; omega⟩
                  · have hag : ((aget T (pk z : Int)).map bV).getD (.bool false) = .bool false := by
                      rw [HR.out.i, if_neg (fun h => hin (by obtain ⟨y, h1, h2⟩ := List.mem_map.1 h; exact List.mem_map.2 ⟨y, h1, by omega⟩))]; rfl
                    have hnx : condL zs (setsL (setsL [] (zsv 9 ms)) (zsv 0 (rotL k zs))) (ms.take (j + 1)) = dele (condL zs (setsL (setsL [] (zsv 9 ms)) (zsv 0 (rotL k zs))) (ms.take j)) (kn (pk z)) := by rw [condL_take HJ.out, if_neg hin]
                    have HN := Lib.hid hnx
                    have HG := Lib.hid hag
                    clear hag hnx hin
                    obtain ⟨gC, oC, eC, hcC⟩ := HC.out.at_ (by omega)
                    injection eC with eC; injection eC with eC1 eC2 _; subst eC1; subst eC2
                    have hcB := hcC _ _ HJ.out
                    clear hcC
                    go_wp2_with (first
                      | (with_reducible change wpList _ _ _ (⟨some 98, _, _, _, _, _⟩ :: _) _ _
                         go_must (refine wpList_lookup_E 66 _ _ false rfl rfl gm (pk z : Int) rfl rfl HR.out.m Try.underlying66 Try.underlying3 info_boolz (.bool false) (by rw [if_neg (by decide)]; exact HG.out) ?_))
                      | (with_reducible change wpList _ _ _ (⟨some 103, _, _, _, _, _⟩ :: _) _ _
                         go_must (refine wpList_val rfl (exec_elem (P := Try.prog) (g := gB) (off := oB) (q := j) 64 _ _ rfl 3 1 uuI size_int rfl rfl (by omega)) ?_))
                      | (with_reducible change wpList _ _ _ (⟨some 104, _, _, _, _, _⟩ :: _) _ _
                         go_must (refine wpList_val rfl (exec_load1 (P := Try.prog) (v := .int .i64 z) (ad := ⟨gB, oB + j, none⟩) 3 _ rfl (by rw [Nat.mul_one]; rfl) hcB Try.underlying3 rfl) ?_)))
                    clear hcB
                    refine (key16_any wr z).mono ?_
                    rintro r w4 ⟨rfl, m4⟩
                    have H4 := Lib.hid (HR.out.nn m4)
                    clear m4
                    go_wp2_with fail
                    refine (tdel_any H4.out.b (kn_len _) (kn_lt (pk_spec z).2) (by have := H4.out.lb; omega)).mono ?_
                    rintro r w5 ⟨rfl, G5, ht5, hG5, m5⟩
                    generalize (if has _ (kn (pk z)) then 0 else 6 : Int) = er
                    have hl5 := len_dele (k := kn (pk z)) H4.out.b.srt
                    have hl4 := H4.out.lb
                    rw [← HN.out] at ht5 hl5
                    have H5 := Lib.hid (H4.out.setB ht5 hG5 m5 (by omega))
                    clear ht5 hG5 m5 hl5 hl4
                    go_wp2
                    exact ⟨⟨j + 1, G5, by omega, by go_num, H5⟩, by simp [intOf]; omega⟩
                · have hje : m = j := by omega
                  subst hje
                  have hall : ms.take m = ms := List.take_of_length_le (by rw [HZ.out.2]; exact Nat.le_refl _)
                  rw [hall, ← orders_law (by rw [HZ.out.1]; exact hkn)] at HR
                  have HO := HR
                  clear hall hj HR
                  generalize setsL [] (zsv 0 zs) = LL at *
                  go_wp2_with fail
                  refine (tlen_any HO.out.a).mono ?_
                  rintro r w11 ⟨rfl, m11⟩
                  have H11 := Lib.hid (HO.out.nn m11)
                  clear m11
                  go_wp2_with fail
                  refine (tlen_any H11.out.b).mono ?_
                  rintro r w12 ⟨rfl, m12⟩
                  have H12 := Lib.hid (H11.out.nn m12)
                  clear m12
                  go_wp2_with fail
                  refine (all16_any H12.out.a (by have := H12.out.la; omega)).mono ?_
                  rintro r w13 ⟨va, rfl, oa, m13⟩
                  have H13 := Lib.hid (And.intro (H12.out.nn m13) oa)
                  clear m13 oa
                  go_wp2_with fail
                  refine (all16_any H13.out.1.b (by have := H13.out.1.lb; omega)).mono ?_
                  rintro r w14 ⟨vb, rfl, ob, m14⟩
                  have oa := H13.out.2.nn m14
                  obtain ⟨A1, c1, rfl, -, -, r1, -⟩ := oa.slice
                  obtain ⟨A2, c2, rfl, -, -, r2, -⟩ := ob.slice
                  have H14 := Lib.hid (And.intro (H13.out.1.nn m14) (And.intro r1 r2))
                  clear m14 oa ob r1 r2
                  go_wp2_with fail
                  refine (sameE_yes H14.out.2.1 H14.out.2.2 H14.out.1.a.rows rfl (by have := H14.out.1.la; omega)).mono ?_
                  rintro r w15 ⟨rfl, m15⟩
                  have H15 := Lib.hid (H14.out.1.md.nn_ m15)
                  clear m15
                  go_wp2
                  go_ret
                  exact ⟨rfl, H15.out⟩
end
end Go.Proofs.Ytkcpmkeckcnobaa
