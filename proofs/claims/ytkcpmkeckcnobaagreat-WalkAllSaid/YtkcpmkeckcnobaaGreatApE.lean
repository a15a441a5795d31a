/- The kit's ApartEntries: rows of entries handed out lie apart. -/
import Derived.Test.YtkcpmkeckcnobaaGreatBgN
namespace Go.Proofs.YtkcpmkeckcnobaaGreat
open Go.RowKit

theorem no_rowsY {w : World} {e : TypeId} {s : Nat} {Y : Nat → List Value} : RowsY w e s [] Y := fun j r h => by simp at h
theorem no_apt : AptR [] := fun i j r q g h => by simp at h
set_option maxRecDepth 100000 in
set_option maxHeartbeats 6400000 in
theorem apartE_any {w : World} {A0 : Option Addr} {m c0 : Nat} {L : List Row} {YE : Nat → List Value} (h0 : Rd w A0 m (L.map Row.v)) (rE : RowsY w 43 80 L YE) (aE : AptR L) (hm : m ≤ 400)
    (sE : ∀ (j : Nat) (r : Row), L[j]? = some r → r.n ≤ 1099511627776) :
    Calls Tryz.prog 21 #[.slice A0 m c0] w fun e w' => e = .returned (.bool true) ∧ Mod (Bks L) w w' := by
  have hlen : L.length = m := by simpa using h0.1
  have HH := Lib.hid (And.intro h0 (And.intro rE (And.intro aE (And.intro hlen sE))))
  clear h0 rE aE hlen sE
  go_enter Tryz.func21, Tryz.ntmps21
  go_wp2
  have B0 : Hid (BagS w (w.alloc (.cells (bagN (.slice none 0 0) (.slice none 0 0) (.slice none 0 0) (.slice none 0 0)) 110)) w.heap.size [] [] [] [] (.slice none 0 0) (.slice none 0 0) (.slice none 0 0) (.slice none 0 0)) :=
    Lib.hid ⟨Blk.new _ _ _, own_nil _ _ _ _, own_nil _ _ _ _, own_nil _ _ _ _, own_nil _ _ _ _, (Mod.refl Nn w).alloc _, Nat.le_refl _⟩
  unfold bagN at B0
  generalize hw1 : w.alloc (Obj.cells #[.slice none 0 0, .slice none 0 0, .slice none 0 0, .slice none 0 0, .slice none 0 0, .slice none 0 0, .slice none 0 0, .slice none 0 0, .slice none 0 0, .slice none 0 0, .slice none 0 0, .slice none 0 0, .slice none 0 0, .slice none 0 0, .slice none 0 0, .slice none 0 0, .slice none 0 0, .slice none 0 0, .slice none 0 0, .slice none 0 0, .slice none 0 0] 110) = w1 at *
  clear hw1
  obtain ⟨bb, hbb⟩ : ∃ bb, w.heap.size = bb := ⟨_, rfl⟩
  rw [hbb] at B0 ⊢
  have HB := Lib.hid hbb; clear hbb
  go_loopw [4] (fun i wr => ∃ (k : Nat) (vI vK vE vN : Value), k ≤ m ∧ i = .int .i64 k ∧ Hid (BagS w wr bb [] [] (L.take k) [] vI vK vE vN)) (fun i _ => m - (intOf i).toNat)
  case atStart => exact ⟨0, _, _, _, _, Nat.zero_le _, rfl, B0⟩
  case round =>
    clear B0
    obtain ⟨k, vI, vK, vE, vN, hk, rfl, HG⟩ := hrel
    obtain ⟨wo, rfl⟩ : ∃ wo : World, wo = wr := ⟨_, rfl⟩
    by_cases hlt : k < m
    · have hlt' : (k : Int) < m := by omega
      obtain ⟨g0, off, r, rfl, hr, hc0⟩ := rowv_at (HH.out.1.mod HG.out.m (fun _ _ f => f)) hlt
      have hput := putE_any HG.out (by rw [List.length_take]; omega) r
      have HT := Lib.hid (show L.take k ++ [r] = L.take (k + 1) by rw [List.take_add_one, hr]; rfl)
      clear hr
      obtain ⟨rA, rn, rc⟩ := r
      change _ = some (Value.slice rA rn rc) at hc0
      change Calls _ _ #[_, .slice rA rn rc] _ _ at hput
      go_wp2_with fail
      refine hput.mono ?_
      rintro e w2 ⟨rfl, v1, h2, -⟩
      rw [HT.out] at h2
      have H2 := Lib.hid h2
      clear hput h2 hc0
      go_wp2
      exact ⟨⟨k + 1, _, _, v1, _, by omega, by go_num, H2⟩, by simp [intOf]; omega⟩
    · have hlt' : ¬ (k : Int) < m := by omega
      have hkm : k = m := by omega
      subst hkm
      have h9 := HG.out
      rw [List.take_of_length_le (by rw [HH.out.2.2.2.1]; exact Nat.le_refl _)] at h9
      have hap := bagApartN_any h9 (YI := fun _ => []) (YK := fun _ => []) (YN := fun _ => []) no_rowsY no_rowsY (HH.out.2.1.mod h9.m (fun _ _ f => f)) no_rowsY no_apt no_apt HH.out.2.2.1 no_apt (by simp) (by simp) (by rw [HH.out.2.2.2.1]; exact hm) (by simp) (fun j r h => by simp at h) (fun j r h => by simp at h) HH.out.2.2.2.2 (fun j r h => by simp at h)
      have HM := Lib.hid (And.intro h9.m hap)
      clear h9 hap HG
      go_wp2_with fail
      refine HM.out.2.mono ?_
      rintro e w2 ⟨rfl, m2⟩
      have M2 := Lib.hid (HM.out.1.nn.trans (m2.mono (T := Bks L) (fun g _ h => by
        rcases h with h | h | h | h
        · obtain ⟨j, r, hj, _⟩ := h; simp at hj
        · obtain ⟨j, r, hj, _⟩ := h; simp at hj
        · exact h
        · obtain ⟨j, r, hj, _⟩ := h; simp at hj)))
      clear m2
      go_wp2
      go_ret
      exact ⟨rfl, M2.out⟩
end Go.Proofs.YtkcpmkeckcnobaaGreat
