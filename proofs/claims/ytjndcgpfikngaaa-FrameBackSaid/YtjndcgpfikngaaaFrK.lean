/- peatbankkit over frames: SameFrame, LentFrame, KeptFrame, CopyFrame. -/
import Derived.Test.YtjndcgpfikngaaaFrG
import Derived.Test.YtjndcgpfikngaaaBytesC
import Derived.Test.YtjndcgpfikngaaaBytes1
namespace Go.Proofs.Ytjndcgpfikngaaa
open Go.RowKit

theorem bv_ints (l : List Nat) : (l.map (fun c : Nat => (c : Int))).map (Value.int .u8) = bv l := by unfold bv; rw [List.map_map]; rfl
def nats (l : List Nat) : List Int := l.map (fun c : Nat => (c : Int))
theorem bv_nats (l : List Nat) : (nats l).map (Value.int .u8) = bv l := bv_ints l
theorem nats_inj {l m : List Nat} : nats l = nats m ↔ l = m := by
  constructor
  · intro h
    unfold nats at h
    exact (List.map_inj_right (f := fun c : Nat => (c : Int)) (fun a b h => by have h : (a : Int) = b := h; omega)).1 h
  · rintro rfl; rfl
section
variable {w : World} {A B : Option Addr} {n m c d : Nat} {l r : List Nat}
/-- SameBytes of bytes -/
theorem sameb_any (ha : Rd w A n (bv l)) (hb : Rd w B m (bv r)) (hn : n ≤ 140737488355328) (hm : m ≤ 140737488355328) :
    Calls Try.prog 15 #[.slice A n c, .slice B m d] w fun e w' => e = .returned (.bool (decide (l = r))) ∧ Mod Nn w w' := by
  have h := same_any (ca := c) (cb := d) (xs := nats l) (ys := nats r) (by rw [bv_nats]; exact ha) (by rw [bv_nats]; exact hb) hn hm
  have e : decide (nats l = nats r) = decide (l = r) := by
    by_cases h : l = r
    · rw [decide_eq_true h, decide_eq_true (nats_inj.2 h)]
    · rw [decide_eq_false h, decide_eq_false (fun h' => h (nats_inj.1 h'))]
  rw [e] at h; exact h
theorem sameb_yes (ha : Rd w A n (bv l)) (hb : Rd w B n (bv l)) (hn : n ≤ 140737488355328) :
    Calls Try.prog 15 #[.slice A n c, .slice B n d] w fun e w' => e = .returned (.bool true) ∧ Mod Nn w w' := by
  have := sameb_any (c := c) (d := d) ha hb hn hn
  rwa [decide_eq_true rfl] at this
set_option maxRecDepth 100000 in
set_option maxHeartbeats 1600000 in
theorem samef_yes (k e s : Int) (ha : Rd w A n (bv l)) (hb : Rd w B n (bv l)) (hn : n ≤ 140737488355328) :
    Calls Try.prog 20 #[frV k e s A n c, frV k e s B n d] w fun r w' => r = .returned (.bool true) ∧ Mod Nn w w' := by
  unfold frV
  have m1 : Mod Nn w ((w.alloc (.cells #[.int .i64 k, .int .i64 e, .int .i64 s, .slice A n c] 24)).alloc (.cells #[.int .i64 k, .int .i64 e, .int .i64 s, .slice B n d] 24)) := ((Mod.refl Nn w).alloc _).alloc _
  have HM := Lib.hid m1
  have hc := sameb_yes (c := c) (d := d) (ha.mod m1 (fun _ _ f => f)) (hb.mod m1 (fun _ _ f => f)) hn
  have HC := Lib.hid hc
  clear m1 hc ha hb
  go_enter Try.func20, Try.ntmps20
  go_wp2_with fail
  refine HC.out.mono ?_
  rintro r w2 ⟨rfl, m2⟩
  have M := HM.out.nn_ m2
  go_wp2
  go_ret
  exact ⟨rfl, M⟩
/-- an argument lent out, with room behind that is watched -/
theorem lentb_any (hr : Rd w A n (bv l)) (hn : n ≤ 1099511627776) :
    Calls Try.prog 17 #[.slice A n c] w fun r w' => ∃ g, r = .returned (.slice (some ⟨g, 0, none⟩) n (n + 12)) ∧ Blk w' g 5 ((nats l ++ mks 1 12).map (Value.int .u8)).toArray ∧ Mod Nn w w' ∧ w.heap.size ≤ g :=
  lent_any (xs := nats l) (by rw [bv_nats]; exact hr) hn
theorem keptb_any {g : Nat} (hr : Rd w A n (bv l)) (hb : Blk w g 5 ((nats l ++ mks 1 12).map (Value.int .u8)).toArray) (hn : n ≤ 1099511627776) :
    Calls Try.prog 21 #[.slice (some ⟨g, 0, none⟩) n (n + 12), .slice A n c] w fun r w' => r = .returned (.bool true) ∧ Mod Nn w w' :=
  kept_any (xs := nats l) (by rw [bv_nats]; exact hr) hb hn
theorem lent_rd {g : Nat} {t : TypeId} {ys : List Int} (h : Blk w g t ((nats l ++ ys).map (Value.int .u8)).toArray) (hl : l.length = n) : Rd w (some ⟨g, 0, none⟩) n (bv l) :=
  Rd.of_blk h 0 (by simpa [bv] using hl) (fun j v hv => by
    rw [List.getElem?_toArray, Nat.zero_add, List.map_append, bv_nats, List.getElem?_append_left (List.getElem?_eq_some_iff.1 hv).1]; exact hv)
theorem size_slice8 : (Try.prog.info? 22).map (·.size) = some 1 := by kernel_rfl
set_option maxRecDepth 100000 in
set_option maxHeartbeats 1600000 in
theorem lentf_any (k e s : Int) (hr : Rd w A n (bv l)) (hn : n ≤ 1099511627776) :
    Calls Try.prog 12 #[frV k e s A n c] w fun r w' => ∃ g, r = .returned (frV k e s (some ⟨g, 0, none⟩) n (n + 12)) ∧ Blk w' g 5 ((nats l ++ mks 1 12).map (Value.int .u8)).toArray ∧ Mod Nn w w' ∧ w.heap.size ≤ g := by
  unfold frV
  have HR := Lib.hid hr; clear hr
  have m1 : Mod Nn w (w.alloc (.cells #[.int .i64 k, .int .i64 e, .int .i64 s, .slice A n c] 24)) := (Mod.refl Nn w).alloc _
  have b1 : Blk (w.alloc (.cells #[.int .i64 k, .int .i64 e, .int .i64 s, .slice A n c] 24)) w.heap.size 24 #[.int .i64 k, .int .i64 e, .int .i64 s, .slice A n c] := Blk.new _ _ _
  have HM := Lib.hid (And.intro m1 b1)
  clear m1 b1
  go_enter Try.func12, Try.ntmps12
  go_wp2_with (first
    | (with_reducible change wpList _ _ _ (⟨_, Op.alloc _, _, _, _, _⟩ :: _) _ _
       go_loud (
         go_must (refine wpList_alloc_var 24 rfl rfl info_frame ?_)
         intro w2 b2 m2 z2
         have hz1 : (w.alloc (.cells #[.int .i64 k, .int .i64 e, .int .i64 s, .slice A n c] 24)).heap.size = w.heap.size + 1 := by simp
         rw [hz1] at b2 ⊢
         have HB := Lib.hid (And.intro (HM.out.1.trans m2) (And.intro (HM.out.2.mod m2 (fun f => f)) b2))
         have C3 := HB.out.2.1.cell 3
         have hz2 : w.heap.size + 1 < w2.heap.size := by omega
         clear b2 m2 hz1 z2)))
  refine (lentb_any (HR.out.mod HB.out.1 (fun _ _ f => f)) hn).mono ?_
  rintro r w3 ⟨g, rfl, b3, m3, hg⟩
  have hw3 := m3.size
  have B3 := HB.out.2.1.mod m3 (fun f => f)
  have Z3 := HB.out.2.2.mod m3 (fun f => f)
  have HB3 := Lib.hid (And.intro (HB.out.1.nn_ m3) (And.intro B3 (And.intro Z3 (And.intro b3 hg))))
  clear b3 m3 hg B3 Z3 C3
  have C3 : w3.cell? ⟨w.heap.size, 3, none⟩ = some (.slice A n c) := HB3.out.2.1.cell 3
  have F3 := HB3.out.2.1.frozen 3
  go_wp2_with (first
    | (with_reducible change wpList _ _ _ (⟨_, Op.load _ _, _, _, _, _⟩ :: _) _ _
       go_loud (
         have b4 := HB3.out.2.1.set_ 3 (.slice (some ⟨g, 0, none⟩) n (n + 12))
         go_must (refine wpList_load_var 24 _ rfl rfl w.heap.size #[.int .i64 k, .int .i64 e, .int .i64 s, .slice (some ⟨g, 0, none⟩) n (n + 12)] _ _ rfl b4 Try.underlying24 rfl size_frame ?_)
         have m4 : Mod (At w.heap.size) w3 (w3.setCell ⟨w.heap.size, 3, none⟩ (.slice (some ⟨g, 0, none⟩) n (n + 12))) := Mod.cellAt _ _ _ _
         have M4 := HB3.out.1.new_ m4 (Nat.le_refl _)
         have Z4 := HB3.out.2.2.1.mod m4 (fun e => by have e : w.heap.size + 1 = w.heap.size := e; omega)
         have G4 := HB3.out.2.2.2.1.mod m4 (fun e => by have e : g = w.heap.size := e; have := HB3.out.2.2.2.2; omega)
         have HX := Lib.hid (And.intro M4 (And.intro Z4 G4))
         clear m4 M4 Z4 G4 b4 C3 F3
         generalize w3.setCell ⟨w.heap.size, 3, none⟩ (.slice (some ⟨g, 0, none⟩) n (n + 12)) = w4 at *))
    | (with_reducible change wpList _ _ _ (⟨none, Op.store _ _ (.tmp 7), _, _, _, _⟩ :: _) _ _
       go_loud (
         go_must (refine wpList_store_var 24 _ _ rfl rfl (w.heap.size + 1) #[.int .i64 k, .int .i64 e, .int .i64 s, .slice (some ⟨g, 0, none⟩) n (n + 12)] _ _ rfl rfl HX.out.2.1 size_frame rfl (one4 _ _ _ _ _ _) ?_)
         intro w6 b6 m6 z6
         have M6 := HX.out.1.new_ m6 (by omega)
         have G6 := HX.out.2.2.mod m6 (fun e => by have e : g = w.heap.size + 1 := e; have := HB3.out.2.2.2.2; omega)
         have C0 := b6.cell 0; have C1 := b6.cell 1; have C2 := b6.cell 2; have C3 := b6.cell 3
         clear m6)))
  refine bodyPost_ret (v := .agg #[.int .i64 k, .int .i64 e, .int .i64 s, .slice (some ⟨g, 0, none⟩) n (n + 12)]) (by simp [results, Try.results12, go_sem, C0, C1, C2, C3]) rfl ⟨g, rfl, G6, M6, by have := HB3.out.2.2.2.2; omega⟩
set_option maxRecDepth 100000 in
set_option maxHeartbeats 1600000 in
theorem copyf_any (k e s : Int) (hr : Rd w A n (bv l)) (hn : n ≤ 1099511627776) :
    Calls Try.prog 24 #[frV k e s A n c] w fun r w' => ∃ A' c', r = .returned (frV k e s A' n c') ∧ w'.ownsRow w.heap.size 5 1 (.slice A' n c') n (bv l) ∧ Mod Nn w w' := by
  unfold frV
  have HR := Lib.hid hr; clear hr
  have m1 : Mod Nn w (w.alloc (.cells #[.int .i64 k, .int .i64 e, .int .i64 s, .slice A n c] 24)) := (Mod.refl Nn w).alloc _
  have b1 : Blk (w.alloc (.cells #[.int .i64 k, .int .i64 e, .int .i64 s, .slice A n c] 24)) w.heap.size 24 #[.int .i64 k, .int .i64 e, .int .i64 s, .slice A n c] := Blk.new _ _ _
  have HM := Lib.hid (And.intro m1 b1)
  clear m1 b1
  go_enter Try.func24, Try.ntmps24
  go_wp2_with (first
    | (with_reducible change wpList _ _ _ (⟨_, Op.alloc _, _, _, _, _⟩ :: _) _ _
       go_loud (
         go_must (refine wpList_alloc_var 24 rfl rfl info_frame ?_)
         intro w2 b2 m2 z2
         have hz1 : (w.alloc (.cells #[.int .i64 k, .int .i64 e, .int .i64 s, .slice A n c] 24)).heap.size = w.heap.size + 1 := by simp
         rw [hz1] at b2 ⊢
         have HB := Lib.hid (And.intro (HM.out.1.trans m2) (And.intro (HM.out.2.mod m2 (fun f => f)) b2))
         have C3 := HB.out.2.1.cell 3
         have hz2 : w.heap.size + 1 < w2.heap.size := by omega
         clear b2 m2 hz1 z2)))
  refine (copy_any (xs := nats l) (by rw [bv_nats]; exact HR.out.mod HB.out.1 (fun _ _ f => f)) hn).mono ?_
  rintro r w3 ⟨v3, rfl, b3, m3⟩
  rw [bv_nats] at b3
  obtain ⟨A', c', rfl, -, -⟩ := own_form b3
  have hw3 := m3.size
  have B3 := HB.out.2.1.mod m3 (fun f => f)
  have Z3 := HB.out.2.2.mod m3 (fun f => f)
  have HB3 := Lib.hid (And.intro (HB.out.1.nn_ m3) (And.intro B3 (And.intro Z3 b3)))
  clear b3 m3 B3 Z3 C3
  have C3 : w3.cell? ⟨w.heap.size, 3, none⟩ = some (.slice A n c) := HB3.out.2.1.cell 3
  have F3 := HB3.out.2.1.frozen 3
  go_wp2_with (first
    | (with_reducible change wpList _ _ _ (⟨_, Op.load _ _, _, _, _, _⟩ :: _) _ _
       go_loud (
         have b4 := HB3.out.2.1.set_ 3 (.slice A' n c')
         go_must (refine wpList_load_var 24 _ rfl rfl w.heap.size #[.int .i64 k, .int .i64 e, .int .i64 s, .slice A' n c'] _ _ rfl b4 Try.underlying24 rfl size_frame ?_)
         have m4 : Mod (At w.heap.size) w3 (w3.setCell ⟨w.heap.size, 3, none⟩ (.slice A' n c')) := Mod.cellAt _ _ _ _
         have M4 := HB3.out.1.new_ m4 (Nat.le_refl _)
         have Z4 := HB3.out.2.2.1.mod m4 (fun e => by have e : w.heap.size + 1 = w.heap.size := e; omega)
         have G4 := own_mod HB3.out.2.2.2 m4 (fun g hg e => by have e : g = w.heap.size := e; have := own_ge HB3.out.2.2.2 g hg; omega)
         have HX := Lib.hid (And.intro M4 (And.intro Z4 G4))
         clear m4 M4 Z4 G4 b4 C3 F3
         generalize w3.setCell ⟨w.heap.size, 3, none⟩ (.slice A' n c') = w4 at *))
    | (with_reducible change wpList _ _ _ (⟨none, Op.store _ _ (.tmp 7), _, _, _, _⟩ :: _) _ _
       go_loud (
         go_must (refine wpList_store_var 24 _ _ rfl rfl (w.heap.size + 1) #[.int .i64 k, .int .i64 e, .int .i64 s, .slice A' n c'] _ _ rfl rfl HX.out.2.1 size_frame rfl (one4 _ _ _ _ _ _) ?_)
         intro w6 b6 m6 z6
         have M6 := HX.out.1.new_ m6 (by omega)
         have G6 := own_mod HX.out.2.2 m6 (fun g hg e => by have e : g = w.heap.size + 1 := e; have := own_ge HX.out.2.2 g hg; omega)
         have C0 := b6.cell 0; have C1 := b6.cell 1; have C2 := b6.cell 2; have C3 := b6.cell 3
         clear m6)))
  refine bodyPost_ret (v := .agg #[.int .i64 k, .int .i64 e, .int .i64 s, .slice A' n c']) (by simp [results, Try.results24, go_sem, C0, C1, C2, C3]) rfl ⟨A', c', rfl, own_base G6 (fun g hg => by have := own_ge G6 g hg; omega), M6⟩
set_option maxRecDepth 100000 in
set_option maxHeartbeats 1600000 in
theorem keptf_any {g : Nat} (k e s : Int) (hr : Rd w A n (bv l)) (hb : Blk w g 5 ((nats l ++ mks 1 12).map (Value.int .u8)).toArray) (hn : n ≤ 1099511627776) :
    Calls Try.prog 16 #[frV k e s (some ⟨g, 0, none⟩) n (n + 12), frV k e s A n c] w fun r w' => r = .returned (.bool true) ∧ Mod Nn w w' := by
  have hL : l.length = n := by have := hr.1; simpa [bv] using this
  have HL := Lib.hid hL; clear hL
  have m1 : Mod Nn w ((w.alloc (.cells #[.int .i64 k, .int .i64 e, .int .i64 s, .slice (some ⟨g, 0, none⟩) n (n + 12)] 24)).alloc (.cells #[.int .i64 k, .int .i64 e, .int .i64 s, .slice A n c] 24)) := ((Mod.refl Nn w).alloc _).alloc _
  have b1 : Blk ((w.alloc (.cells #[.int .i64 k, .int .i64 e, .int .i64 s, .slice (some ⟨g, 0, none⟩) n (n + 12)] 24)).alloc (.cells #[.int .i64 k, .int .i64 e, .int .i64 s, .slice A n c] 24)) w.heap.size 24 #[.int .i64 k, .int .i64 e, .int .i64 s, .slice (some ⟨g, 0, none⟩) n (n + 12)] := (Blk.new w _ _).alloc _
  have b2 : Blk ((w.alloc (.cells #[.int .i64 k, .int .i64 e, .int .i64 s, .slice (some ⟨g, 0, none⟩) n (n + 12)] 24)).alloc (.cells #[.int .i64 k, .int .i64 e, .int .i64 s, .slice A n c] 24)) (w.heap.size + 1) 24 #[.int .i64 k, .int .i64 e, .int .i64 s, .slice A n c] := by
    have := Blk.new (w.alloc (.cells #[.int .i64 k, .int .i64 e, .int .i64 s, .slice (some ⟨g, 0, none⟩) n (n + 12)] 24)) 24 #[.int .i64 k, .int .i64 e, .int .i64 s, .slice A n c]
    rwa [show (w.alloc (.cells #[.int .i64 k, .int .i64 e, .int .i64 s, .slice (some ⟨g, 0, none⟩) n (n + 12)] 24)).heap.size = w.heap.size + 1 from by simp] at this
  have hs := samef_yes (c := n + 12) (d := c) k e s (lent_rd (hb.mod m1 (fun f => f)) HL.out) (hr.mod m1 (fun _ _ f => f)) (by omega)
  have HS := Lib.hid (And.intro m1 (And.intro b1 (And.intro b2 (And.intro hs (And.intro hr hb)))))
  clear m1 b1 b2 hs hr hb
  unfold frV at *
  go_enter Try.func16, Try.ntmps16
  go_wp2_with fail
  refine HS.out.2.2.2.1.mono ?_
  rintro r w2 ⟨rfl, m2⟩
  have C3 : w2.cell? ⟨w.heap.size, 3, none⟩ = some (.slice (some ⟨g, 0, none⟩) n (n + 12)) := (HS.out.2.1.mod m2 (fun f => f)).cell 3
  have D3 : w2.cell? ⟨w.heap.size + 1, 3, none⟩ = some (.slice A n c) := (HS.out.2.2.1.mod m2 (fun f => f)).cell 3
  have hz := m2.size
  have M2 := Lib.hid (HS.out.1.nn_ m2)
  clear m2
  go_wp2_with fail
  refine (keptb_any (HS.out.2.2.2.2.1.mod M2.out (fun _ _ f => f)) (HS.out.2.2.2.2.2.mod M2.out (fun f => f)) hn).mono ?_
  rintro r w3 ⟨rfl, m3⟩
  have M3 := Lib.hid (M2.out.nn_ m3)
  clear m3
  go_wp2
  go_ret
  exact ⟨rfl, M3.out⟩
end
end Go.Proofs.Ytjndcgpfikngaaa
