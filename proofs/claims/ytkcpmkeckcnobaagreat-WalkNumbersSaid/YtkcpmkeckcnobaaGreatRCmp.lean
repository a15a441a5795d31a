/- peatbankref14.Compare. -/
import Derived.Test.YtkcpmkeckcnobaaGreatNdA
namespace Go.Proofs.YtkcpmkeckcnobaaGreat
open Go.RowKit

theorem lexc_step : ∀ (i : Nat) (l k : List Nat), l.length = k.length → i ≤ l.length → (∀ j, j < i → l.getD j 0 = k.getD j 0) → lexc l k = lexc (l.drop i) (k.drop i)
  | 0, _, _, _, _, _ => rfl
  | i + 1, [], [], _, h, _ => by simp at h
  | i + 1, [], _ :: _, h, _, _ => by simp at h
  | i + 1, _ :: _, [], h, _, _ => by simp at h
  | i + 1, a :: l, b :: k, hl, hi, h => by
    have h0 := h 0 (by omega)
    simp at h0
    subst h0
    rw [lexc_cons, if_neg (Nat.lt_irrefl a), if_neg (Nat.lt_irrefl a)]
    exact lexc_step i l k (by simpa using hl) (by simpa using hi) (fun j hj => by have := h (j + 1) (by omega); simpa using this)
theorem lexc_diff {i : Nat} {l k : List Nat} (hlk : l.length = k.length) (hi : i < l.length) (h : ∀ j, j < i → l.getD j 0 = k.getD j 0) :
    (l.getD i 0 < k.getD i 0 → lexc l k = -1) ∧ (k.getD i 0 < l.getD i 0 → lexc l k = 1) := by
  have e1 : l.drop i = l.getD i 0 :: l.drop (i + 1) := by
    rw [List.drop_eq_getElem_cons hi, List.getD_eq_getElem?_getD, List.getElem?_eq_getElem hi]; rfl
  have e2 : k.drop i = k.getD i 0 :: k.drop (i + 1) := by
    rw [List.drop_eq_getElem_cons (by omega), List.getD_eq_getElem?_getD, List.getElem?_eq_getElem (by omega)]; rfl
  rw [lexc_step i l k hlk (by omega) h, e1, e2, lexc_cons]
  exact ⟨fun h => by rw [if_pos h], fun h => by rw [if_neg (by omega), if_pos h]⟩
set_option maxRecDepth 100000 in
set_option maxHeartbeats 1600000 in
theorem rcompare_any (w : World) {l k : List Nat} (hl : ∀ z ∈ l, z < 256) (hk : ∀ z ∈ k, z < 256) (h1 : l.length = 40) (h2 : k.length = 40) :
    Calls Tryz.prog 58 #[.agg (bv l).toArray, .agg (bv k).toArray] w fun e w' => e = .returned (.int .i64 (lexc l k)) ∧ Mod Nn w w' := by
  have B1 : Blk ((w.alloc (.cells (bv l).toArray 40)).alloc (.cells (bv k).toArray 40)) w.heap.size 40 (bv l).toArray := (Blk.new w _ _).alloc _
  have B2 : Blk ((w.alloc (.cells (bv l).toArray 40)).alloc (.cells (bv k).toArray 40)) (w.alloc (.cells (bv l).toArray 40)).heap.size 40 (bv k).toArray := Blk.new _ _ _
  have hz : (w.alloc (.cells (bv l).toArray 40)).heap.size = w.heap.size + 1 := by simp
  rw [hz] at B2
  have M : Mod Nn w ((w.alloc (.cells (bv l).toArray 40)).alloc (.cells (bv k).toArray 40)) := ((Mod.refl Nn w).alloc _).alloc _
  have HB := Lib.hid (And.intro B1 (And.intro B2 M))
  have HL := Lib.hid (And.intro h1 (And.intro h2 (And.intro hl hk)))
  clear B1 B2 hz M h1 h2 hl hk
  go_enter Tryz.func58, Tryz.ntmps58
  go_wp2
  generalize hwa : (w.alloc (.cells (bv l).toArray 40)).alloc (.cells (bv k).toArray 40) = wa at *
  clear hwa
  go_loopw [5] (fun i wr => ∃ n : Nat, n ≤ 40 ∧ i = .int .i64 n ∧ Hid (∀ j, j < n → l.getD j 0 = k.getD j 0) ∧ Mod Nn wa wr) (fun i _ => 40 - (intOf i).toNat)
  case atStart => exact ⟨0, by omega, rfl, Lib.hid (fun j h => by omega), Mod.refl _ _⟩
  case round =>
    obtain ⟨n, hn, rfl, hrel, hm⟩ := hrel
    by_cases hlt : n < 40
    · have hlt' : (n : Int) < 40 := by omega
      have hd := lexc_diff (l := l) (k := k) (i := n) (by rw [HL.out.1, HL.out.2.1]) (by rw [HL.out.1]; exact hlt) hrel.out
      have ha : ∀ w', Mod Nn wa w' → w'.cell? ⟨w.heap.size, n, none⟩ = some (.int .u8 ((l.getD n 0 : Nat) : Int)) := fun w' m => by
        refine ((HB.out.1.mod m (fun f => f)).cell n).trans ?_
        rw [List.getElem?_toArray, bv_at, List.getD_eq_getElem?_getD, List.getElem?_eq_getElem (by rw [HL.out.1]; exact hlt)]
        rfl
      have hb : ∀ w', Mod Nn wa w' → w'.cell? ⟨w.heap.size + 1, n, none⟩ = some (.int .u8 ((k.getD n 0 : Nat) : Int)) := fun w' m => by
        refine ((HB.out.2.1.mod m (fun f => f)).cell n).trans ?_
        rw [List.getElem?_toArray, bv_at, List.getD_eq_getElem?_getD, List.getElem?_eq_getElem (by rw [HL.out.2.1]; exact hlt)]
        rfl
      have hsn : l.getD n 0 = k.getD n 0 → ∀ j, j < n + 1 → l.getD j 0 = k.getD j 0 := fun h j hj => by
        rcases Nat.lt_or_ge j n with h' | h'
        · exact hrel.out j h'
        · have : j = n := by omega
          rw [this]; exact h
      generalize l.getD n 0 = a at *
      generalize k.getD n 0 = b at *
      have HX := Lib.hid (And.intro ha (And.intro hb (And.intro hd hsn)))
      clear ha hb hd hsn hrel
      go_wp2_with fail
      have hm1 := hm.drew
      have HM := Lib.hid (HB.out.2.2.trans hm1)
      by_cases hab : a < b
      · have HR := Lib.hid (HX.out.2.2.1.1 hab)
        have hab' : decide (a < b) = true := decide_eq_true hab
        clear hab
        refine wp_region_planV (fun w' => Mod Nn wa w') 6 (.pure 0 (.pure 1 (.read 2 (.pure 3 (.pure 4 (.read 5 (.alone 6 .nil))))))) (by kernel_rfl) (by kernel_rfl) hm1 ?_
        iterate 2 (refine pv_pure rfl rfl (fun K hK => ?_); go_simp; refine hK _ ?_; clear hK K)
        refine pv_take _ rfl rfl (fun w' hS => exec_load1 (P := Tryz.prog) 5 _ rfl rfl (HX.out.1 w' hS) Tryz.underlying5 rfl) (fun K hK => ?_); go_simp; refine hK _ ?_; clear hK K
        iterate 2 (refine pv_pure rfl rfl (fun K hK => ?_); go_simp; refine hK _ ?_; clear hK K)
        refine pv_take _ rfl rfl (fun w' hS => exec_load1 (P := Tryz.prog) 5 _ rfl rfl (HX.out.2.1 w' hS) Tryz.underlying5 rfl) (fun K hK => ?_); go_simp; refine hK _ ?_; clear hK K
        refine pv_mem rfl rfl (fun K hK => ?_); go_simp; refine ⟨_, _, ⟨rfl, rfl⟩, hK _ _ ?_ ?_⟩; clear hK K
        · intro h; simp at h
        refine pv_nil ?_
        go_wp2
        go_ret
        exact ⟨by rw [HR.out]; rfl, HM.out⟩
      · have hab' : decide (a < b) = false := decide_eq_false hab
        refine wp_region_planV (fun w' => Mod Nn wa w') 6 (.pure 0 (.pure 1 (.read 2 (.pure 3 (.pure 4 (.read 5 (.alone 6 .nil))))))) (by kernel_rfl) (by kernel_rfl) hm1 ?_
        iterate 2 (refine pv_pure rfl rfl (fun K hK => ?_); go_simp; refine hK _ ?_; clear hK K)
        refine pv_take _ rfl rfl (fun w' hS => exec_load1 (P := Tryz.prog) 5 _ rfl rfl (HX.out.1 w' hS) Tryz.underlying5 rfl) (fun K hK => ?_); go_simp; refine hK _ ?_; clear hK K
        iterate 2 (refine pv_pure rfl rfl (fun K hK => ?_); go_simp; refine hK _ ?_; clear hK K)
        refine pv_take _ rfl rfl (fun w' hS => exec_load1 (P := Tryz.prog) 5 _ rfl rfl (HX.out.2.1 w' hS) Tryz.underlying5 rfl) (fun K hK => ?_); go_simp; refine hK _ ?_; clear hK K
        refine pv_mem rfl rfl (fun K hK => ?_); go_simp; refine ⟨_, _, ⟨rfl, rfl⟩, hK _ _ ?_ ?_⟩; clear hK K
        · intro h; simp at h
        refine pv_nil ?_
        have hm2 := hm1.drew
        have HM2 := Lib.hid (HB.out.2.2.trans hm2)
        by_cases hba : b < a
        · have HR := Lib.hid (HX.out.2.2.1.2 hba)
          have hba' : decide (b < a) = true := decide_eq_true hba
          clear hab hba
          go_wp2_with fail
          refine wp_region_planV (fun w' => Mod Nn wa w') 6 (.pure 0 (.pure 1 (.read 2 (.pure 3 (.pure 4 (.read 5 (.alone 6 .nil))))))) (by kernel_rfl) (by kernel_rfl) hm2 ?_
          iterate 2 (refine pv_pure rfl rfl (fun K hK => ?_); go_simp; refine hK _ ?_; clear hK K)
          refine pv_take _ rfl rfl (fun w' hS => exec_load1 (P := Tryz.prog) 5 _ rfl rfl (HX.out.1 w' hS) Tryz.underlying5 rfl) (fun K hK => ?_); go_simp; refine hK _ ?_; clear hK K
          iterate 2 (refine pv_pure rfl rfl (fun K hK => ?_); go_simp; refine hK _ ?_; clear hK K)
          refine pv_take _ rfl rfl (fun w' hS => exec_load1 (P := Tryz.prog) 5 _ rfl rfl (HX.out.2.1 w' hS) Tryz.underlying5 rfl) (fun K hK => ?_); go_simp; refine hK _ ?_; clear hK K
          refine pv_mem rfl rfl (fun K hK => ?_); go_simp; refine ⟨_, _, ⟨rfl, rfl⟩, hK _ _ ?_ ?_⟩; clear hK K
          · intro h; simp at h
          refine pv_nil ?_
          go_wp2
          go_ret
          exact ⟨by rw [HR.out]; rfl, HM2.out⟩
        · have hba' : decide (b < a) = false := decide_eq_false hba
          have HE := Lib.hid (HX.out.2.2.2 (by omega))
          clear hab hba
          go_wp2_with fail
          refine wp_region_planV (fun w' => Mod Nn wa w') 6 (.pure 0 (.pure 1 (.read 2 (.pure 3 (.pure 4 (.read 5 (.alone 6 .nil))))))) (by kernel_rfl) (by kernel_rfl) hm2 ?_
          iterate 2 (refine pv_pure rfl rfl (fun K hK => ?_); go_simp; refine hK _ ?_; clear hK K)
          refine pv_take _ rfl rfl (fun w' hS => exec_load1 (P := Tryz.prog) 5 _ rfl rfl (HX.out.1 w' hS) Tryz.underlying5 rfl) (fun K hK => ?_); go_simp; refine hK _ ?_; clear hK K
          iterate 2 (refine pv_pure rfl rfl (fun K hK => ?_); go_simp; refine hK _ ?_; clear hK K)
          refine pv_take _ rfl rfl (fun w' hS => exec_load1 (P := Tryz.prog) 5 _ rfl rfl (HX.out.2.1 w' hS) Tryz.underlying5 rfl) (fun K hK => ?_); go_simp; refine hK _ ?_; clear hK K
          refine pv_mem rfl rfl (fun K hK => ?_); go_simp; refine ⟨_, _, ⟨rfl, rfl⟩, hK _ _ ?_ ?_⟩; clear hK K
          · intro h; simp at h
          refine pv_nil ?_
          go_wp2
          go_roundw
          case rel => exact ⟨n + 1, by omega, by go_num, HE, hm2⟩
          case measure => simp [intOf]; omega
    · have hn40 : n = 40 := by omega
      have HE := Lib.hid (show lexc l k = 0 by
        rw [lexc_step n l k (by rw [HL.out.1, HL.out.2.1]) (by rw [HL.out.1]; exact hn) hrel.out, List.drop_of_length_le (by rw [HL.out.1]; omega), List.drop_of_length_le (by rw [HL.out.2.1]; omega)]
        rfl)
      have HM := Lib.hid (HB.out.2.2.trans hm)
      have hlt' : ¬ (n : Int) < 40 := by omega
      clear hrel hn40
      go_wp2
      go_ret
      exact ⟨by rw [HE.out]; rfl, HM.out⟩
end Go.Proofs.YtkcpmkeckcnobaaGreat
