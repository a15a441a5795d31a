/- peatbankkit: TurnBytes. -/
import Derived.Test.YtgmkibckbbbhkaaBytesO
namespace Go.Proofs.Ytgmkibckbbbhkaa
open Go.RowKit

def turn8 (z : Int) : Int := bits .xor .u8 z 255
def turnL (xs : List Int) : List Int := xs.map turn8
set_option maxRecDepth 100000 in
set_option maxHeartbeats 1600000 in
theorem turn_any {w : World} {base n : Nat} {v : Value} {xs : List Int} (h : w.ownsRow base 5 1 v n (xs.map (Value.int .u8))) (hn : n ≤ 140737488355328) :
    Calls Try.prog 42 #[v] w fun r w' => r = .returned (.tuple #[]) ∧ w'.ownsRow base 5 1 v n ((turnL xs).map (Value.int .u8)) ∧ Mod (fun k => v.ownBlock = some k) w w' := by
  have hxl : xs.length = n := by have := h.1; simpa using this
  rcases h.2 with ⟨rfl, h0⟩ | ⟨g, cap, cur, rfl, -, -, hnc, hcm, -⟩
  · subst h0
    have hx0 : xs = [] := List.eq_nil_of_length_eq_zero hxl
    subst hx0
    have HH := Lib.hid h; clear h hxl
    go_enter Try.func42, Try.ntmps42
    go_wp2
    go_loop [2] (fun i => i = .int .i64 0) (fun _ => 0)
    case atStart => exact rfl
    case round =>
      subst hrel
      go_wp2
      go_end0
      exact ⟨rfl, HH.out, Mod.refl _ _⟩
  · have HXL := Lib.hid hxl; clear hxl
    go_enter Try.func42, Try.ntmps42
    go_wp2
    go_loopw [2] (fun i wr => ∃ k : Nat, k ≤ n ∧ i = .int .i64 k ∧ wr.ownsRow base 5 1 (.slice (some ⟨g, 0, none⟩) n cap) n (((xs.take k).map turn8 ++ xs.drop k).map (Value.int .u8)) ∧ Mod (At g) w wr) (fun i _ => n - (intOf i).toNat)
    case atStart => exact ⟨0, Nat.zero_le _, rfl, by simpa using h, Mod.refl _ _⟩
    case round =>
      clear h
      obtain ⟨k, hk, rfl, hown, hm⟩ := hrel
      obtain ⟨wo, rfl⟩ : ∃ wo : World, wo = wr := ⟨_, rfl⟩
      by_cases hlt : k < n
      · have hlt' : (k : Int) < n := by omega
        have hz : xs[k]? = some (xs[k]'(by rw [HXL.out]; exact hlt)) := List.getElem?_eq_getElem _
        generalize xs[k]'(by rw [HXL.out]; exact hlt) = z at *
        have hl : ((xs.take k).map turn8).length = k := by simp [HXL.out]; omega
        have hcell : wo.cell? ⟨g, k, none⟩ = some (.int .u8 z) := own_cell hown (by
          rw [List.getElem?_map, List.getElem?_append_right (by omega), hl, Nat.sub_self, List.getElem?_drop, Nat.add_zero, hz]; rfl)
        have hfz := own_free hown k
        have hset : ((((xs.take k).map turn8 ++ xs.drop k).map (Value.int .u8)).set k (.int .u8 (turn8 z))) = ((xs.take (k + 1)).map turn8 ++ xs.drop (k + 1)).map (Value.int .u8) := by
          have hd : xs.drop k = z :: xs.drop (k + 1) := by rw [List.drop_eq_getElem_cons (by rw [HXL.out]; exact hlt), (List.getElem?_eq_some_iff.1 hz).2]
          rw [← List.map_set, List.set_append_right _ _ (by omega), hl, Nat.sub_self, hd, List.set_cons_zero, List.take_add_one, hz]
          simp
        have hs := own_set hown k (.int .u8 (turn8 z))
        rw [hset] at hs
        have HS := Lib.hid (And.intro hs (hm.setCell (p := ⟨g, k, none⟩) (.inr rfl) (.int .u8 (turn8 z))))
        clear hset hs hz hl hown hm
        go_wp2
        exact ⟨⟨k + 1, by omega, by go_num, HS.out⟩, by simp [intOf]; omega⟩
      · have hlt' : ¬ (k : Int) < n := by omega
        have hkn : k = n := by omega
        subst hkn
        rw [List.take_of_length_le (by rw [HXL.out]; omega), List.drop_of_length_le (by rw [HXL.out]; omega), List.append_nil] at hown
        have HH := Lib.hid (show wo.ownsRow base 5 1 (.slice (some ⟨g, 0, none⟩) k cap) k ((turnL xs).map (Value.int .u8)) from hown)
        clear hown
        go_wp2
        go_end0
        exact ⟨rfl, HH.out, hm.mono (fun j _ e => by have e : j = g := e; rw [e]; rfl)⟩
end Go.Proofs.Ytgmkibckbbbhkaa
