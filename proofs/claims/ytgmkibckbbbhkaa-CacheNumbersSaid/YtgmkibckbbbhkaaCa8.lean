/- peatbanklaw09: life's list of those that were touched: place, forget, touch. -/
import Derived.Test.YtgmkibckbbbhkaaCa6
namespace Go.Proofs.Ytgmkibckbbbhkaa
open Go.RowKit

theorem info_int8 : (Try.prog.info? 3).map (fun i => (i.zero, i.size, i.bytes)) = some (some (.int .i64 0), 1, 8) := by kernel_rfl
theorem placeL_at {L : List Int} {k : Int} {j : Nat} (h : L[j]? = some k) (hb : ∀ x ∈ L.take j, x ≠ k) : placeL L k = (L.length : Int) - 1 - j := by
  unfold placeL
  have : L.findIdx? (fun x => x == k) = some j := by
    rw [List.findIdx?_eq_some_iff_getElem]
    obtain ⟨hlt, hk⟩ := List.getElem?_eq_some_iff.1 h
    refine ⟨hlt, by simp [hk], fun i hi => ?_⟩
    have hil : i < L.length := by omega
    have : L[i] ∈ L.take j := by
      rw [List.mem_take_iff_getElem]
      exact ⟨i, by omega, rfl⟩
    simpa using hb _ this
  rw [this]
section
variable {w w' : World} {x base n cap : Nat} {A : Option Addr} {xs : List Int} {cs : Array Value}
set_option maxRecDepth 100000 in
set_option maxHeartbeats 800000 in
theorem place_raw (hb : Blk w x 84 cs) (h4 : cs[4]? = some (.slice A n cap)) (hr : w.ownsRow base 3 1 (.slice A n cap) n (xs.map (Value.int .i64))) (hn : n ≤ 1048576) (k : Int) :
    Calls Try.prog 86 #[.pointer (some ⟨x, 0, none⟩), .int .i64 k] w fun e w' => e = .returned (.int .i64 (placeL xs k)) ∧ w = w' := by
  have c4 : w.cell? ⟨x, 4, none⟩ = some (.slice A n cap) := by rw [hb.cell 4]; exact h4
  have hxl : xs.length = n := by have := hr.1; simpa using this
  have HXL := Lib.hid hxl; clear hxl hb h4
  go_enter Try.func86, Try.ntmps86
  go_wp2
  go_loop [5] (fun i => ∃ j : Nat, j ≤ n ∧ i = .int .i64 j ∧ ∀ z ∈ xs.take j, z ≠ k) (fun i => n - (intOf i).toNat)
  case atStart => exact ⟨0, Nat.zero_le _, rfl, fun z hz => by simp at hz⟩
  case round =>
    obtain ⟨j, hj, rfl, hne⟩ := hrel
    have HNE := Lib.hid hne; clear hne
    by_cases hlt : j < n
    · have hlt' : (j : Int) < n := by omega
      obtain ⟨g, cap', cur, hv, -, -, -, -, -, -⟩ := own_blk hr (by omega)
      injection hv with hA _ hcap; subst hA; subst hcap
      have hz : xs[j]? = some (xs[j]'(by rw [HXL.out]; exact hlt)) := List.getElem?_eq_getElem _
      generalize xs[j]'(by rw [HXL.out]; exact hlt) = z at *
      have hcell : w.cell? ⟨g, j, none⟩ = some (.int .i64 z) := own_cell hr (by rw [List.getElem?_map, hz]; rfl)
      have HZ := Lib.hid hz; clear hz
      by_cases hzk : z = k
      · subst hzk
        have HP := Lib.hid (show placeL xs z = (n : Int) - 1 - j by rw [placeL_at HZ.out HNE.out, HXL.out])
        go_wp2
        go_ret
        rw [HP.out]
        exact ⟨rfl, rfl⟩
      · have hzk' : (z == k) = false := by rw [beq_eq_false_iff_ne]; exact hzk
        have HZK := Lib.hid hzk; clear hzk
        go_wp2
        go_round
        case rel => exact ⟨j + 1, by omega, by go_num, fun y hy => by
          rw [List.take_add_one, HZ.out] at hy
          rcases List.mem_append.1 hy with h | h
          · exact HNE.out y h
          · simp only [Option.toList_some, List.mem_singleton] at h; rw [h]; exact HZK.out⟩
        case measure => simp [intOf]; omega
    · have hlt' : ¬ (j : Int) < n := by omega
      have HP := Lib.hid (show placeL xs k = -1 from place_none (fun z hz => HNE.out z (by rw [List.take_of_length_le (by rw [HXL.out]; omega)]; exact hz)))
      go_wp2
      go_ret
      rw [HP.out]
      exact ⟨rfl, rfl⟩

def LifeP (w : World) (x : Nat) (cs : Array Value) (ys : List Int) (e : Ending) (w' : World) : Prop :=
  ∃ A cap, e = .returned (.tuple #[]) ∧ Blk w' x 84 (cs.setIfInBounds 4 (.slice A ys.length cap)) ∧ w'.ownsRow w.heap.size 3 1 (.slice A ys.length cap) ys.length (ys.map (Value.int .i64)) ∧ Mod (At x) w w'
theorem filter_take (k : Int) {j : Nat} {z : Int} (hz : xs[j]? = some z) : (xs.take (j + 1)).filter (fun y => !(y == k)) = (xs.take j).filter (fun y => !(y == k)) ++ (if z = k then [] else [z]) := by
  rw [List.take_add_one, hz, List.filter_append]
  congr 1
  by_cases h : z = k
  · simp [h]
  · simp [h]
set_option maxRecDepth 100000 in
set_option maxHeartbeats 1600000 in
theorem forget_raw (hb : Blk w x 84 cs) (h4 : cs[4]? = some (.slice A n cap)) (hr : w.ownsRow base 3 1 (.slice A n cap) n (xs.map (Value.int .i64))) (hn : n ≤ 1048576) (k : Int) (hxr : ∀ g, Of A g → g ≠ x) :
    Calls Try.prog 118 #[.pointer (some ⟨x, 0, none⟩), .int .i64 k] w (LifeP w x cs (xs.filter (fun y => !(y == k)))) := by
  have hxl : xs.length = n := by have := hr.1; simpa using this
  have hlt0 := hb.lt
  have HXL := Lib.hid hxl; clear hxl
  have HXR := Lib.hid hxr; clear hxr
  have H4 := Lib.hid h4; clear h4
  go_enter Try.func118, Try.ntmps118
  go_wp2
  go_loopw [4, 5] (fun vv i wr => ∃ (v : Value) (j m : Nat) (ys : List Int), v = vv ∧ j ≤ n ∧ m ≤ j ∧ i = .int .i64 j ∧ Mod Nn w wr ∧ wr.ownsRow w.heap.size 3 1 v m (ys.map (Value.int .i64)) ∧ ys = (xs.take j).filter (fun y => !(y == k))) (fun _ i _ => n - (intOf i).toNat)
  case atStart => exact ⟨_, 0, 0, [], rfl, Nat.zero_le _, Nat.le_refl _, rfl, Mod.refl _ _, World.ownsRow_nil _ _ _ _, by simp⟩
  case round =>
    obtain ⟨v, j, m, ys, rfl, hj, hm, rfl, hmr, hown, hys⟩ := hrel
    obtain ⟨wo, rfl⟩ : ∃ wo : World, wo = wr := ⟨_, rfl⟩
    have HYS := Lib.hid hys; clear hys
    have c4 : wo.cell? ⟨x, 4, none⟩ = some (.slice A n cap) := by rw [(hb.mod hmr (fun f => f)).cell 4]; exact H4.out
    by_cases hlt : j < n
    · have hlt' : (j : Int) < n := by omega
      obtain ⟨g, cap', cur, hv, -, -, -, -, -, -⟩ := own_blk hr (by omega)
      injection hv with hA _ hcap; subst hA; subst hcap
      have hz : xs[j]? = some (xs[j]'(by rw [HXL.out]; exact hlt)) := List.getElem?_eq_getElem _
      generalize xs[j]'(by rw [HXL.out]; exact hlt) = z at *
      have hcell : wo.cell? ⟨g, j, none⟩ = some (.int .i64 z) := own_cell (own_mod hr hmr (fun _ _ f => f)) (by rw [List.getElem?_map, hz]; rfl)
      have HF := Lib.hid (filter_take k hz); clear hz
      by_cases hzk : z = k
      · subst hzk
        go_wp2
        exact ⟨⟨v, j + 1, m, ys, rfl, by omega, by omega, by go_num, hmr, hown, by rw [HF.out, if_pos rfl, List.append_nil]; exact HYS.out⟩, by simp [intOf]; omega⟩
      · have hzk' : (z == k) = false := by rw [beq_eq_false_iff_ne]; exact hzk
        have hzk'' : (z != k) = true := by rw [bne_iff_ne]; exact hzk
        have HZK := Lib.hid hzk; clear hzk
        have hsz := hmr.size
        go_wp2_with (first
          | (with_reducible change wpList _ _ _ (⟨some 33, _, _, _, _, _⟩ :: _) _ _
             go_must (refine wpList_append_rd 82 _ _ rfl rfl w.heap.size 3 (.int .i64 0) 1 8 Try.underlying82 info_int8 rfl (by omega) v m (ys.map (Value.int .i64)) rfl (own_mod hown ((Mod.refl Nn _).alloc _) (fun _ _ f => f)) _ 1 1 ([z].map (Value.int .i64)) rfl (Rd.of_blk0 (Blk.new _ _ _) rfl).toC (ints_oneCell _ _) (by omega) (by omega) (by simp; omega) ?_)
             intro v7 w7 hv7 hg7 hbl7
             have M7 := (hmr.alloc (.cells #[.int .i64 z] 3)).grown hg7 (fun g hg => .inl ((own_ge5 hown) g hg))
             have HV7 := Lib.hid (And.intro hv7 M7)
             clear hg7 hbl7 hv7 M7))
        exact ⟨⟨v7, j + 1, m + 1, ys ++ [z], rfl, by omega, by omega, by go_num, HV7.out.2, by rw [List.map_append]; exact HV7.out.1, by rw [HF.out, if_neg HZK.out, HYS.out]⟩, by simp [intOf]; omega⟩
    · have hlt' : ¬ (j : Int) < n := by omega
      have hyl : ys = xs.filter (fun y => !(y == k)) := by rw [HYS.out, List.take_of_length_le (by rw [HXL.out]; omega)]
      have hml : ys.length = m := by have := hown.1; simpa using this
      obtain ⟨A2, c2, rfl, -, hA2⟩ := own_form hown
      have f4 := (hb.mod hmr (fun f => f)).frozen 4
      have HP : Hid (LifeP w x cs (xs.filter (fun y => !(y == k))) (.returned (.tuple #[])) (wo.setCell ⟨x, 4, none⟩ (.slice A2 m c2))) := Lib.hid (by
        refine ⟨A2, c2, rfl, ?_, ?_, (hmr.nn (S := At x)).setCell (p := ⟨x, 4, none⟩) (.inr rfl) _⟩
        · rw [← hyl, hml]; exact (hb.mod hmr (fun f => f)).set_ 4 _
        · rw [← hyl, hml]; exact own_mod hown (Mod.cellAt _ _ _ _) (fun g hg e => by have := (hA2 g (own_of hg)).1; have e : g = x := e; omega))
      clear hown hA2 hyl hml
      go_wp2
      go_end0
      exact HP.out
set_option maxRecDepth 100000 in
set_option maxHeartbeats 1600000 in
theorem touch_raw (hb : Blk w x 84 cs) (hcs : 4 < cs.size) (h4 : cs[4]? = some (.slice A n cap)) (hr : w.ownsRow base 3 1 (.slice A n cap) n (xs.map (Value.int .i64))) (hn : n ≤ 1048576) (k : Int) (hxr : ∀ g, Of A g → g ≠ x) :
    Calls Try.prog 87 #[.pointer (some ⟨x, 0, none⟩), .int .i64 k] w (LifeP w x cs (xs.filter (fun y => !(y == k)) ++ [k])) := by
  have hxl : xs.length = n := by have := hr.1; simpa using this
  have hfl : (xs.filter (fun y => !(y == k))).length ≤ n := by rw [← hxl]; exact List.length_filter_le _ _
  have hlt0 := hb.lt
  have hF := forget_raw hb h4 hr hn k hxr
  generalize xs.filter (fun y => !(y == k)) = ys at *
  clear hxl hr h4 hxr
  go_enter Try.func87, Try.ntmps87
  go_wp2_with fail
  refine hF.mono ?_
  rintro e w1 ⟨A1, c1, rfl, hb1, hr1, m1⟩
  clear hF
  have c4 : w1.cell? ⟨x, 4, none⟩ = some (.slice A1 ys.length c1) := by rw [hb1.cell 4]; simp [hcs]
  have hA1 := own_ge5 hr1
  have hsz := m1.size
  generalize hyl : ys.length = m at *
  have HYL := Lib.hid hyl; clear hyl
  go_wp2_with (first
    | (with_reducible change wpList _ _ _ (⟨some 14, _, _, _, _, _⟩ :: _) _ _
       go_must (refine wpList_append_rd 82 _ _ rfl rfl w.heap.size 3 (.int .i64 0) 1 8 Try.underlying82 info_int8 rfl (by omega) _ m (ys.map (Value.int .i64)) rfl (own_mod hr1 ((Mod.refl Nn _).alloc _) (fun _ _ f => f)) _ 1 1 ([k].map (Value.int .i64)) rfl (Rd.of_blk0 (Blk.new _ _ _) rfl).toC (ints_oneCell _ _) (by omega) (by omega) (by simp; omega) ?_)
       intro v7 w7 hv7 hg7 hbl7
       have M7 : Mod (fun g => (Value.slice A1 m c1).ownBlock = some g) w1 w7 := ((Mod.refl _ _).alloc (.cells #[.int .i64 k] 3)).grown hg7 (fun g hg => .inr hg)
       have hb7 := hb1.mod M7 (fun e => by have := hA1 x e; omega)
       have M7' : Mod (At x) w w7 := m1.then_ M7 (fun g hg e => by have := hA1 g e; omega)
       have f4 := hb7.frozen 4
       have c47 : w7.cell? ⟨x, 4, none⟩ = some (.slice A1 m c1) := by rw [hb7.cell 4]; simp [hcs]
       rw [← List.map_append] at hv7
       obtain ⟨A7, c7, rfl, -, hA7⟩ := own_form hv7
       have HP : Hid (LifeP w x cs (ys ++ [k]) (.returned (.tuple #[])) (w7.setCell ⟨x, 4, none⟩ (.slice A7 (m + 1) c7))) := Lib.hid (by
         have hl : (ys ++ [k]).length = m + 1 := by rw [List.length_append, HYL.out]; rfl
         refine ⟨A7, c7, rfl, ?_, ?_, M7'.setCell (p := ⟨x, 4, none⟩) (.inr rfl) _⟩
         · rw [hl]
           have := hb7.set_ 4 (.slice A7 (m + 1) c7)
           rwa [Array.setIfInBounds_setIfInBounds] at this
         · rw [hl]; exact own_mod hv7 (Mod.cellAt _ _ _ _) (fun g hg e => by have := (hA7 g (own_of hg)).1; have e : g = x := e; omega))
       clear hg7 hbl7 c4 M7 hr1 hb1 m1 hv7 hA7 hb7 M7'))
  go_end0
  exact HP.out
end
end Go.Proofs.Ytgmkibckbbbhkaa
