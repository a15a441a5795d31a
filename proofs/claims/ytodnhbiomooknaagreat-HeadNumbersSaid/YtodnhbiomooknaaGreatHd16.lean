/- peatbanklaw12.HeadPuts. -/
import Derived.Test.YtodnhbiomooknaaGreatHd14
import Derived.Test.YtodnhbiomooknaaGreatFrK0
import Derived.Test.YtodnhbiomooknaaGreatApB3
namespace Go.Proofs.YtodnhbiomooknaaGreat
open Go.RowKit

theorem hbytes_lt (h : Hd) : (hbytes h).length ≤ 512 := by
  unfold hbytes
  split
  · rw [h.bytes_len]; omega
  · exact Nat.zero_le _
section
variable {w : World}
set_option maxRecDepth 100000 in
set_option maxHeartbeats 12800000 in
theorem hputs_any (h : Hd) (w : World) : Calls Tryz.prog 3 #[hdV h] w fun r w' => r = .returned (.bool true) ∧ Mod Nn w w' := by
  unfold hdV
  have hl := hbytes_lt h
  have m1 : Mod Nn w (w.alloc (.cells (hC h) 25)) := (Mod.refl Nn w).alloc _
  have b1 : Blk (w.alloc (.cells (hC h) 25)) w.heap.size 25 (hC h) := Blk.new _ _ _
  have H1 := Lib.hid (And.intro m1 b1)
  clear m1 b1
  go_enter Tryz.func3, Tryz.ntmps3
  go_wp2_with (first
    | (with_reducible change wpList _ _ _ (⟨some 10, Op.load _ _, _, _, _, _⟩ :: _) _ _
       go_must (refine wpList_load_var 25 _ rfl rfl w.heap.size (hC h) _ _ rfl H1.out.2 Tryz.underlying25 rfl size_head ?_)))
  refine (hput_any h _).mono ?_
  rintro r w2 ⟨A2, c2, rfl, o2, m2⟩
  have hA2 : ∀ g, Of A2 g → w.heap.size ≤ g ∧ g < w2.heap.size := by obtain ⟨_, _, e, _, hA⟩ := own_form o2; injection e with e _ _; subst e; exact fun g hg => ⟨by have := (hA g hg).1; have := H1.out.1.size; omega, (hA g hg).2⟩
  have H2 := Lib.hid (And.intro (H1.out.1.nn_ m2) (And.intro (H1.out.2.mod m2 (fun f => f)) (And.intro o2 hA2)))
  clear o2 m2 hA2
  go_wp2_with (first
    | (with_reducible change wpList _ _ _ (⟨some 15, Op.load _ _, _, _, _, _⟩ :: _) _ _
       go_must (refine wpList_load_var 25 _ rfl rfl w.heap.size (hC h) _ _ rfl H2.out.2.1 Tryz.underlying25 rfl size_head ?_)))
  refine (hput_any h _).mono ?_
  rintro r w3 ⟨A3, c3, rfl, o3, m3⟩
  have hA3 : ∀ g, Of A3 g → w2.heap.size ≤ g ∧ g < w3.heap.size := by obtain ⟨_, _, e, _, hA⟩ := own_form o3; injection e with e _ _; subst e; exact fun g hg => ⟨(hA g hg).1, (hA g hg).2⟩
  have H3 := Lib.hid (And.intro (H2.out.1.nn_ m3) (And.intro (H2.out.2.1.mod m3 (fun f => f)) (And.intro (own_mod H2.out.2.2.1 m3 (fun _ _ f => f)) (And.intro o3 hA3))))
  clear o3 m3 hA3
  go_wp2_with (first
    | (with_reducible change wpList _ _ _ (⟨some 20, Op.load _ _, _, _, _, _⟩ :: _) _ _
       go_must (refine wpList_load_var 25 _ rfl rfl w.heap.size (hC h) _ _ rfl H3.out.2.1 Tryz.underlying25 rfl size_head ?_)))
  refine (r12put_any h _).mono ?_
  rintro r w4 ⟨A4, c4, rfl, o4, m4⟩
  have H4 := Lib.hid (And.intro (H3.out.1.nn_ m4) (And.intro (own_mod H3.out.2.2.1 m4 (fun _ _ f => f)) (And.intro (own_mod H3.out.2.2.2.1 m4 (fun _ _ f => f)) (Rd.of_own o4))))
  clear o4 m4
  generalize (hbytes h).length = L at *
  generalize herr h = E at *
  go_wp2_with fail
  refine (sameb_yes (Rd.of_own H4.out.2.1) H4.out.2.2.2 (by omega)).mono ?_
  rintro r w5 ⟨rfl, m5⟩
  have H5 := Lib.hid (And.intro (H4.out.1.nn_ m5) (And.intro (own_mod H4.out.2.1 m5 (fun _ _ f => f)) (own_mod H4.out.2.2.1 m5 (fun _ _ f => f))))
  clear m5
  go_wp2_with fail
  have hb7 : Blk (w5.alloc (.cells #[.slice A2 L c2, .slice A3 L c3] 26)) w5.heap.size 26 #[.slice A2 L c2, .slice A3 L c3] := Blk.new _ _ _
  have m7 : Mod Nn w5 (w5.alloc (.cells #[.slice A2 L c2, .slice A3 L c3] 26)) := (Mod.refl Nn w5).alloc _
  refine (apartB2 (cc := 2) hb7 (own_mod H5.out.2.1 m7 (fun _ _ f => f)) (own_mod H5.out.2.2 m7 (fun _ _ f => f)) (by omega) (by omega) (fun g h h' => by have := (H2.out.2.2.2 g h).2; have := (H3.out.2.2.2.2 g h').1; omega)).mono ?_
  rintro r w8 ⟨rfl, m8⟩
  have M8 : Mod Nn w w8 := (H5.out.1.nn_ m7).then_ m8 (fun g hg h => by
    rcases h with h | h
    · have := (H2.out.2.2.2 g h).1; omega
    · have := (H3.out.2.2.2.2 g h).1; have := H2.out.1.size; omega)
  have M8' := Lib.hid M8
  clear M8 m8 m7 hb7
  go_wp2_with fail
  refine (hd_awake _).mono ?_
  rintro r w9 ⟨rfl, m9⟩
  have M9 := Lib.hid (M8'.out.nn_ m9)
  clear m9
  go_wp2
  go_ret
  exact ⟨rfl, M9.out⟩
end
end Go.Proofs.YtodnhbiomooknaaGreat
