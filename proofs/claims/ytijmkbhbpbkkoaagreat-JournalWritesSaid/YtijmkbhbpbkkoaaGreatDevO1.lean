/- The device: Of. -/
import Derived.Test.YtijmkbhbpbkkoaaGreatDevB
import Derived.Test.YtijmkbhbpbkkoaaGreatKitC
namespace Go.Proofs.YtijmkbhbpbkkoaaGreat
open Go.RowKit

/-- sector k of a row of bytes -/
def ofS (zs : List Int) (k : Nat) : List Int := (zs.drop (512 * k)).take 512
/-- a disk of bytes, the first j sectors laid -/
def ofD (zs : List Int) (n j : Nat) : Dk := ⟨n, fun i => if 0 ≤ i ∧ i < j then some (ofS zs i.toNat) else none, fun _ => none, 0, false⟩
theorem ofD_zero (zs : List Int) (n : Nat) : ofD zs n 0 = Dk.new n := by
  unfold ofD Dk.new
  congr 1
  funext i
  rw [if_neg (by omega)]
theorem ofS_len {zs : List Int} {n k : Nat} (h : n ≤ zs.length / 512) (hk : k < n) : (ofS zs k).length = 512 := by
  unfold ofS; rw [List.length_take, List.length_drop]; omega
theorem ofD_next {w w' : World} {b ms mo n j : Nat} {zs : List Int} (h : DiskAt w b ms mo (ofD zs n j)) (hn : n ≤ zs.length / 512) (hj : j < n) {l : List (Int × List Int)} (hl : ∀ k, aget l k = (ofD zs n j).safe k)
    (h1 : MapE w' ms secV (aset l j (ofS zs j))) (hm : Mod (At ms) w w') : DiskAt w' b ms mo (ofD zs n (j + 1)) := by
  refine ⟨h.blk.mod hm (fun e => h.nb1 (e : b = ms).symm), ⟨_, h1, fun i => ?_⟩, ?_, h.ne, ⟨h.ok.n1, h.ok.n2, h.ok.a1, h.ok.a2, fun i v hv => ?_, fun i v hv => by cases hv⟩⟩
  · rw [aget_aset, hl]
    show _ = if 0 ≤ i ∧ i < ((j + 1 : Nat) : Int) then some (ofS zs i.toNat) else none
    have hsf : (ofD zs n j).safe i = if 0 ≤ i ∧ i < (j : Int) then some (ofS zs i.toNat) else none := rfl
    rw [hsf]
    by_cases hi : i = (j : Int)
    · subst hi
      rw [if_pos rfl, if_pos (by omega)]; simp
    · rw [if_neg hi]
      by_cases h0 : 0 ≤ i ∧ i < (j : Int)
      · rw [if_pos h0, if_pos (by omega)]
      · rw [if_neg h0, if_neg (by omega)]
  · obtain ⟨lo, a, c⟩ := h.omap
    exact ⟨lo, a.mod hm (fun e => h.ne (e : mo = ms).symm), c⟩
  · simp only [ofD] at hv
    split at hv
    · injection hv with hv; rw [← hv]; exact ofS_len hn (by omega)
    · cases hv
def OfP (w : World) (zs : List Int) (n : Nat) (e : Ending) (w' : World) : Prop :=
  ∃ b ms mo, e = .returned (.pointer (some ⟨b, 0, none⟩)) ∧ DiskAt w' b ms mo (ofD zs n n) ∧ Mod Nn w w' ∧ (∀ k, In3 b ms mo k → w.heap.size ≤ k)
theorem size_u8' : (Tryz.prog.info? 5).map (·.size) = some 1 := by kernel_rfl
theorem size_map8 : (Tryz.prog.info? 54).map (·.size) = some 1 := by kernel_rfl
set_option maxRecDepth 100000 in
set_option maxHeartbeats 3200000 in
theorem of_any {w : World} {A : Option Addr} {n c m : Nat} {zs : List Int} (hr : Rd w A m (zs.map (Value.int .u8))) (hc : m ≤ c) (hcm : c ≤ maxLen) (hn : m / 512 = n) (h1 : 1 ≤ n) (h2 : n ≤ 262144) :
    Calls Tryz.prog 8 #[.slice A m c] w (OfP w zs n) := by
  have hzl : zs.length = m := by simpa using hr.1
  have HZ := Lib.hid hzl; clear hzl
  have hq : (m : Int) / 512 = (n : Int) := by omega
  have HQ := Lib.hid hn; clear hn
  have HR := Lib.hid hr; clear hr
  have hcm' : c ≤ 9223372036854775807 := by unfold maxLen at hcm; omega
  clear hcm
  go_enter Tryz.func8, Tryz.ntmps8
  go_wp2_with fail
  clear hq
  refine (new_any n _ (by omega) (by omega)).mono ?_
  rintro r w1 ⟨b, ms, mo, rfl, hd, m1, hf⟩
  rw [← ofD_zero zs] at hd
  have H0 := Lib.hid (And.intro hd m1); have HF := Lib.hid hf
  clear hd m1 hf
  go_wp2
  go_loopw [4] (fun i wr => ∃ j : Nat, j ≤ n ∧ i = .int .i64 j ∧ DiskAt wr b ms mo (ofD zs n j) ∧ Mod Nn w wr) (fun i _ => n - (intOf i).toNat)
  case atStart => exact ⟨0, Nat.zero_le _, rfl, H0.out⟩
  case round =>
    obtain ⟨j, hj, rfl, hd, hm⟩ := hrel
    obtain ⟨wo, rfl⟩ : ∃ wo : World, wo = wr := ⟨_, rfl⟩
    have c0 : wo.cell? ⟨b, 0, none⟩ = some (.int .i64 (n : Int)) := hd.c0
    by_cases hlt : j < n
    · have hlt' : (j : Int) < n := by omega
      have c1 := hd.c1
      obtain ⟨lo, hlo⟩ : ∃ x : Nat, 512 * j = x := ⟨_, rfl⟩
      obtain ⟨hi, hhi⟩ : ∃ x : Nat, 512 * (j + 1) = x := ⟨_, rfl⟩
      obtain ⟨j1, hj1⟩ : ∃ x : Nat, j + 1 = x := ⟨_, rfl⟩
      have hlm : lo + 512 ≤ m := by have := HQ.out; omega
      have hsub := (HR.out.mod hm (fun _ _ f => f)).sub (c := c) lo 512 hlm hc
      obtain ⟨g, off, hA', hcells⟩ := hsub.2 (by omega)
      have hofs : (((zs.map (Value.int .u8)).drop lo).take 512) = (ofS zs j).map (Value.int .u8) := by
        unfold ofS; rw [hlo, List.map_take, List.map_drop]
      rw [hofs] at hcells
      have HCE := Lib.hid hcells
      have HL := Lib.hid (ofS_len (zs := zs) (n := n) (by rw [HZ.out, HQ.out]; omega) hlt)
      obtain ⟨l, hle, hlk⟩ := hd.smap
      have HD := Lib.hid (And.intro hd (And.intro hm (And.intro hle hlk)))
      have e1 : (512 : Int) * (j : Int) = (lo : Int) := by omega
      have e2 : (j : Int) + 1 = (j1 : Int) := by omega
      have e3 : (512 : Int) * (j1 : Int) = (hi : Int) := by omega
      have e4 : IntKind.i64.wrap (lo : Int) = lo := by rw [IntKind.wrap_i64]; omega
      have e5 : IntKind.i64.wrap (j1 : Int) = j1 := by rw [IntKind.wrap_i64]; omega
      have e6 : IntKind.i64.wrap (hi : Int) = hi := by rw [IntKind.wrap_i64]; omega
      have HE := Lib.hid (And.intro e1 (And.intro e2 (And.intro e3 (And.intro e4 (And.intro e5 e6)))))
      have HS := Lib.hid (show hi - lo = 512 ∧ lo ≤ hi ∧ hi ≤ c from by omega)
      have HA' := Lib.hid hA'
      clear hcells hofs hsub hd hm hle hlk e1 e2 e3 e4 e5 e6 hlo hhi hj1 hlm hA'
      go_wp2_with fail
      have hcN : wo.drew.cell? ⟨b, 1, none⟩ = some (.map (some ms)) := c1
      refine wp_region_planT (fun w' => w'.cell? ⟨b, 1, none⟩ = some (.map (some ms)) ∧ (∀ i v, ((ofS zs j).map (Value.int .u8))[i]? = some v → w'.cell? ⟨g, off + i, none⟩ = some v)) 14 [(0, 0), (1, 0), (2, 0), (3, 1), (4, 0), (5, 0), (6, 0), (7, 0), (8, 0), (9, 0), (10, 0), (11, 0), (12, 0), (13, 1), (14, 2)] (by kernel_rfl) (by kernel_rfl) ⟨c1, HCE.out⟩ ?_
      iterate 3 (refine pt_pure rfl rfl (fun K hK => ?_); go_simp; refine hK _ ?_; clear hK K)
      refine pt_take _ rfl rfl (fun w' hS => exec_load1 (P := Tryz.prog) 54 _ rfl rfl hS.1 Tryz.underlying54 rfl) (fun K hK => ?_); go_simp; refine hK _ ?_; clear hK K
      obtain ⟨e1, e2, e3, e4, e5, e6⟩ := HE.out
      iterate 7 (refine pt_pure rfl rfl (fun K hK => ?_); go_simp; refine hK _ ?_; clear hK K)
      clear e1 e2 e3 e4 e5 e6
      refine pt_is (.slice (some ⟨g, off, none⟩) 512 (c - lo)) rfl rfl (fun w' => by rw [← HA'.out, ← HS.out.1]; exact exec_sub_lh (P := Tryz.prog) 29 _ _ _ rfl 5 1 Tryz.underlying29 size_u8' (A := A) (n := m) (c := c) (l := lo) (h := hi) rfl rfl rfl HS.out.2.1 HS.out.2.2) (fun K hK => ?_); go_simp; refine hK _ ?_; clear hK K
      refine pt_is _ rfl rfl (fun w' => exec_arrayAt (P := Tryz.prog) 58 _ rfl rfl Tryz.underlying58 (Nat.le_refl _)) (fun K hK => ?_); go_simp; refine hK _ ?_; clear hK K
      refine pt_take _ rfl rfl (fun w' hS => exec_load_cells (P := Tryz.prog) 58 _ rfl rfl (cs := (ofS zs j).map (Value.int .u8)) hS.2 Tryz.underlying58 rfl (by rw [size_sec]; simp [HL.out])) (fun K hK => ?_); go_simp; refine hK _ ?_; clear hK K
      refine pt_mapUpdate 54 _ _ _ rfl rfl rfl (j : Int) (ofS zs j) rfl rfl rfl HD.out.2.2.1.drew Tryz.underlying54 Tryz.underlying3 ?_
      intro w2 h2 m2 z2
      refine ⟨fun h => (by simp at h), fun K hK => ?_⟩; go_simp; refine hK _ ?_; clear hK K
      refine pt_nil ?_
      have hd2 := ofD_next HD.out.1 (by rw [HZ.out, HQ.out]; omega) hlt HD.out.2.2.2 h2 m2.of_drew
      have hm2 : Mod Nn w w2 := HD.out.2.1.then_ m2.of_drew (fun k hk e => by have e : k = ms := e; have := HF.out k (.inr (.inl e)); omega)
      clear h2 m2 z2
      go_wp2
      exact ⟨⟨j + 1, by omega, by go_num, hd2, hm2⟩, by simp [intOf]; omega⟩
    · have hlt' : ¬ (j : Int) < n := by omega
      have hjn : j = n := by omega
      subst hjn
      go_wp2
      go_ret
      exact ⟨b, ms, mo, rfl, hd, hm, HF.out⟩
end Go.Proofs.YtijmkbhbpbkkoaaGreat
