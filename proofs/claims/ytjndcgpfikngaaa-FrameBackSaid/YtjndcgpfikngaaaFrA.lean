/- peatbanklaw10.awake. -/
import Derived.Test.YtjndcgpfikngaaaFrK
namespace Go.Proofs.Ytjndcgpfikngaaa
open Go.RowKit

def f0 : Fr := ⟨1, 2, 3, [4]⟩
theorem f0_ok : f0.ok := ⟨by decide, by decide, by decide, by decide⟩
theorem f0_lt : ∀ z ∈ f0.data, z < 256 := by decide
theorem f0_at (f : Fr) (i z : Nat) (h : f.body[i]? = some z) : (bv f.bytes)[i]? = some (.int .u8 (z : Int)) := by
  unfold bv Fr.bytes
  rw [List.getElem?_map, List.append_assoc, List.getElem?_append_left (List.getElem?_eq_some_iff.1 h).1, h]; rfl
theorem fput_f0 {w : World} {A : Option Addr} {c : Nat} (hr : Rd w A 1 (bv [4])) :
    Calls Try.prog 13 #[frV 1 2 3 A 1 c] w fun r w' => ∃ g, r = .returned (.tuple #[.slice (some ⟨g, 0, none⟩) 512 512, .int .i64 0]) ∧ Blk w' g 5 (bv f0.bytes).toArray ∧ Mod Nn w w' ∧ w.heap.size ≤ g :=
  (fput_ok (w := w) (A := A) (n := 1) (c := c) f0 f0_ok hr f0_lt).mono fun r w' ⟨g, h1, h2, h3, h4⟩ => ⟨g, h1, h2.bytes rfl, h3, h4⟩
theorem f0_bytes : f0.bytes.length = 512 := by rw [f0.bytes_len]; decide
theorem fget_f0 {w : World} {g : Nat} {t : TypeId} (hb : Blk w g t (bv f0.bytes).toArray) :
    Calls Try.prog 18 #[.slice (some ⟨g, 0, none⟩) 512 512] w fun r w' => ∃ A' c', r = .returned (.tuple #[frV 1 2 3 A' 1 c', .int .i64 1, .int .i64 0]) ∧ w'.ownsRow (w.heap.size + 1) 5 1 (.slice A' 1 c') 1 (bv [4]) ∧ Mod Nn w w' := by
  have hl := f0_bytes
  have hh := f0.holds f0_ok []
  have hg := f0.got f0_ok []
  rw [List.append_nil] at hh hg
  refine (fget_any (w := w) (l := f0.bytes) (Rd.of_blk0 hb (by rw [bv_len, hl])) (f0.bytes_lt f0_lt) (by omega) (by omega) (by unfold maxLen; omega)).mono ?_
  rintro r w' (⟨_, A', c', h1, h2, h3⟩ | ⟨h, _⟩)
  · rw [hg.1, hg.2] at h1 h2
    exact ⟨A', c', h1, h2, h3⟩
  · exact (h hh).elim
set_option maxRecDepth 100000 in
set_option maxHeartbeats 1600000 in
theorem f_awake (w : World) : Calls Try.prog 11 #[] w fun r w' => r = .returned (.bool true) ∧ Mod Nn w w' := by
  have m0 : Mod Nn w (w.alloc (.cells #[.int .u8 4] 5)) := (Mod.refl Nn w).alloc _
  have r0 : Rd (w.alloc (.cells #[.int .u8 4] 5)) (some ⟨w.heap.size, 0, none⟩) 1 (bv [4]) := Rd.of_blk0 (Blk.new _ _ _) rfl
  have hz1 : (w.alloc (.cells #[.int .u8 4] 5)).heap.size = w.heap.size + 1 := by simp
  have H0 := Lib.hid (And.intro m0 (And.intro r0 hz1))
  clear m0 r0 hz1
  go_enter Try.func11, Try.ntmps11
  go_wp2_with (first
    | (with_reducible change wpList _ _ _ (⟨some 1, Op.alloc _, _, _, _, _⟩ :: _) _ _
       go_loud (
         go_must (refine wpList_alloc_var 24 rfl rfl info_frame ?_)
         intro w2 b2 m2 z2
         rw [H0.out.2.2] at b2 ⊢
         have H2 := Lib.hid (And.intro (H0.out.1.trans m2) (And.intro (H0.out.2.1.mod m2 (fun _ _ f => f)) b2))
         clear b2 m2 z2))
    | (with_reducible change wpList _ _ _ (⟨none, Op.store _ (.tmp 1) _, _, _, _, _⟩ :: _) _ _
       go_loud (
         go_must (refine wpList_store_var 24 _ _ rfl rfl (w.heap.size + 1) #[.int .i64 1, .int .i64 2, .int .i64 3, .slice (some ⟨w.heap.size, 0, none⟩) 1 1] _ _ rfl rfl H2.out.2.2 size_frame rfl (one4 _ _ _ _ _ _) ?_)
         intro w3 b3 m3 z3
         have H3 := Lib.hid (And.intro (H2.out.1.new_ m3 (by omega)) (And.intro (H2.out.2.1.mod m3 (fun g hg e => by have e : g = w.heap.size + 1 := e; obtain ⟨a, ha, hga⟩ := hg; injection ha with ha; subst ha; have hga : w.heap.size = g := hga; omega)) b3))
         clear b3 m3 z3))
    | (with_reducible change wpList _ _ _ (⟨some 10, Op.load _ _, _, _, _, _⟩ :: _) _ _
       go_loud (
         go_must (refine wpList_load_var 24 _ rfl rfl (w.heap.size + 1) #[.int .i64 1, .int .i64 2, .int .i64 3, .slice (some ⟨w.heap.size, 0, none⟩) 1 1] _ _ rfl H3.out.2.2 Try.underlying24 rfl size_frame ?_))))
  refine (fput_f0 H3.out.2.1).mono ?_
  rintro r w4 ⟨g, rfl, b4, m4, hg⟩
  have H4 := Lib.hid (And.intro (H3.out.1.nn_ m4) (And.intro (H3.out.2.1.mod m4 (fun _ _ f => f)) (And.intro (H3.out.2.2.mod m4 (fun f => f)) b4)))
  clear b4 m4 hg
  go_wp2_with fail
  refine (fget_f0 H4.out.2.2.2).mono ?_
  rintro r w5 ⟨A', c', rfl, o5, m5⟩
  have H5 := Lib.hid (And.intro (H4.out.1.nn_ m5) (And.intro (H4.out.2.1.mod m5 (fun _ _ f => f)) (And.intro (H4.out.2.2.1.mod m5 (fun f => f)) (And.intro (H4.out.2.2.2.mod m5 (fun f => f)) o5))))
  clear o5 m5
  have hz5 : w.heap.size + 1 < w5.heap.size := H5.out.2.2.1.lt
  go_wp2_with (first
    | (with_reducible change wpList _ _ _ (⟨some 4, Op.alloc _, _, _, _, _⟩ :: _) _ _
       go_loud (
         go_must (refine wpList_alloc_var 24 rfl rfl info_frame ?_)
         intro w6 b6 m6 z6
         have H6 := Lib.hid (And.intro (H5.out.1.nn_ m6) (And.intro (H5.out.2.1.mod m6 (fun _ _ f => f)) (And.intro (H5.out.2.2.1.mod m6 (fun f => f)) (And.intro (H5.out.2.2.2.1.mod m6 (fun f => f)) (And.intro (own_mod H5.out.2.2.2.2 m6 (fun _ _ f => f)) b6)))))
         have hA6 : ∀ h, Of A' h → h < w5.heap.size := by obtain ⟨_, _, e, _, hA⟩ := own_form H5.out.2.2.2.2; injection e with e _ _; subst e; exact fun h hh => (hA h hh).2
         have HA6 := Lib.hid hA6
         clear b6 m6 z6 hA6))
    | (with_reducible change wpList _ _ _ (⟨none, Op.store _ (.tmp 4) _, _, _, _, _⟩ :: _) _ _
       go_loud (
         go_must (refine wpList_store_var 24 _ _ rfl rfl w5.heap.size #[.int .i64 1, .int .i64 2, .int .i64 3, .slice A' 1 c'] _ _ rfl rfl H6.out.2.2.2.2.2 size_frame rfl (one4 _ _ _ _ _ _) ?_)
         intro w7 b7 m7 z7
         have hbg := H5.out.2.2.2.1.lt
         have H7 := Lib.hid (And.intro (H6.out.1.new_ m7 (by omega)) (And.intro (H6.out.2.1.mod m7 (fun g hg e => by have e : g = w5.heap.size := e; obtain ⟨a, ha, hga⟩ := hg; injection ha with ha; subst ha; have hga : w.heap.size = g := hga; omega)) (And.intro (H6.out.2.2.1.mod m7 (fun e => by have e : w.heap.size + 1 = w5.heap.size := e; omega)) (And.intro (H6.out.2.2.2.1.mod m7 (fun e => by have e : g = w5.heap.size := e; omega)) (And.intro ((Rd.of_own H6.out.2.2.2.2.1).mod m7 (fun h hh e => by have e : h = w5.heap.size := e; have := HA6.out h hh; omega)) b7)))))
         have D0 : w7.cell? ⟨g, 0, none⟩ = some (.int .u8 112) := (H7.out.2.2.2.1.cell 0).trans (by rw [List.getElem?_toArray]; exact f0_at f0 0 112 rfl)
         have D1 : w7.cell? ⟨g, 15, none⟩ = some (.int .u8 2) := (H7.out.2.2.2.1.cell 15).trans (by rw [List.getElem?_toArray]; exact f0_at f0 15 2 rfl)
         have D2 : w7.cell? ⟨g, 27, none⟩ = some (.int .u8 1) := (H7.out.2.2.2.1.cell 27).trans (by rw [List.getElem?_toArray]; exact f0_at f0 27 1 rfl)
         have D3 : w7.cell? ⟨g, 28, none⟩ = some (.int .u8 4) := (H7.out.2.2.2.1.cell 28).trans (by rw [List.getElem?_toArray]; exact f0_at f0 28 4 rfl)
         clear b7 m7 z7 hbg))
    | (with_reducible change wpList _ _ _ (⟨some 60, Op.load _ _, _, _, _, _⟩ :: _) _ _
       go_loud (
         refine wpList_load_var 24 _ rfl rfl (w.heap.size + 1) #[.int .i64 1, .int .i64 2, .int .i64 3, .slice (some ⟨w.heap.size, 0, none⟩) 1 1] _ _ rfl H7.out.2.2.1 Try.underlying24 rfl size_frame ?_))
    | (with_reducible change wpList _ _ _ (⟨some 61, Op.load _ _, _, _, _, _⟩ :: _) _ _
       go_loud (
         refine wpList_load_var 24 _ rfl rfl w5.heap.size #[.int .i64 1, .int .i64 2, .int .i64 3, .slice A' 1 c'] _ _ rfl H7.out.2.2.2.2.2 Try.underlying24 rfl size_frame ?_)))
  refine (samef_yes 1 2 3 H7.out.2.1 H7.out.2.2.2.2.1 (by omega)).mono ?_
  rintro r w8 ⟨rfl, m8⟩
  have M8 := H7.out.1.nn_ m8
  go_wp2
  go_ret
  exact ⟨rfl, M8⟩
end Go.Proofs.Ytjndcgpfikngaaa
