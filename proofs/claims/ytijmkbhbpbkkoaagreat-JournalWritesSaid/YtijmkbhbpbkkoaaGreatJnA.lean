/- Own lemmas of several kinds, put together: Jn1, Jn2, Jn3, Kit38, Jn4. -/
import Derived.Test.YtijmkbhbpbkkoaaGreatHdX
import Derived.Test.YtijmkbhbpbkkoaaGreatCa7
import Derived.Test.YtijmkbhbpbkkoaaGreatBlA
import Derived.Test.YtijmkbhbpbkkoaaGreatFrM
import Derived.Test.YtijmkbhbpbkkoaaGreatBytesL
import Derived.Test.YtijmkbhbpbkkoaaGreatKitC
/- layout.Sectors, Half; peatbankref11.Sectors, Half; peatbankref21.May; journal.may (printed by wip/gen/jn1.py). -/
namespace Go.Proofs.YtijmkbhbpbkkoaaGreat
open Go.RowKit

def Geo.nsec (g : Geo) : Int := if g.right then g.sectors else 0
/-- where the half of an epoch begins -/
def Geo.half (g : Geo) (i : Int) : Int := 2 + i % 2 * g.j
theorem Geo.sec_bound {g : Geo} (h : g.right) : 2 + 2 * g.j ≤ g.sectors ∧ 8 ≤ g.j ∧ g.j ≤ 64 ∧ g.sectors ≤ 262144 := by
  have hp := Geo.pages_le h.1
  have hq := Geo.prod h.1
  obtain ⟨h1, h2, h3, h4, h5, h6, h7, h8, h9, h10, h11, h12⟩ := h.1
  have hs : g.sectors = 2 + 2 * g.j + 4 * g.pages + g.S * g.s := rfl
  have := h.2
  omega
section
variable {w : World}
set_option maxRecDepth 100000 in
set_option maxHeartbeats 1600000 in
theorem lsectors_any (g : Geo) (w : World) : Calls Tryz.prog 41 #[gV g] w fun e w' => e = .returned (.int .i64 g.nsec) ∧ Mod Nn w w' := by
  have m1 : Mod Nn w (w.alloc (.cells (gC g) 23)) := (Mod.refl Nn w).alloc _
  have b1 : Blk (w.alloc (.cells (gC g) 23)) w.heap.size 23 (gC g) := Blk.new _ _ _
  have H1 := Lib.hid (And.intro m1 b1)
  clear m1 b1
  by_cases h : g.right
  · rw [show g.nsec = g.sectors from if_pos h]
    have HR := Lib.hid (fun w => lright_yes g w h)
    have HP := Lib.hid (fun w => lplan_any g w h.1)
    have hix : ∀ w : World, (Instr.index 99 (plan4 g) (.int .i64 3)).run Tryz.prog w = .ok (.int .i64 g.sectors) w := fun _ => by kernel_rfl
    generalize plan4 g = PL at *
    generalize g.sectors = X at *
    unfold gV gC at *
    go_enter Tryz.func41, Tryz.ntmps41
    go_wp2_with (first
      | (with_reducible change wpList _ _ _ (⟨some 3, Op.load _ _, _, _, _, _⟩ :: _) _ _
         go_must (refine wpList_load_var 23 _ rfl rfl w.heap.size #[.int .i64 g.v, .int .i64 g.S, .int .i64 g.s, .int .i64 g.u, .int .i64 g.j] _ _ rfl H1.out.2 Tryz.underlying23 rfl size_geo ?_))
      | ((with_reducible refine (HR.out _).mono ?_); rintro r w2 ⟨rfl, m2⟩
         have H2 := Lib.hid (And.intro (H1.out.1.nn_ m2) (H1.out.2.mod m2 (fun f => f))); clear m2)
      | (with_reducible change wpList _ _ _ (⟨some 6, Op.load _ _, _, _, _, _⟩ :: _) _ _
         go_must (refine wpList_load_var 23 _ rfl rfl w.heap.size #[.int .i64 g.v, .int .i64 g.S, .int .i64 g.s, .int .i64 g.u, .int .i64 g.j] _ _ rfl H2.out.2 Tryz.underlying23 rfl size_geo ?_))
      | ((with_reducible refine (HP.out _).mono ?_); rintro r w3 ⟨rfl, m3⟩
         have H3 := Lib.hid (And.intro (H2.out.1.nn_ m3) (H2.out.2.mod m3 (fun f => f))); clear m3))
    go_ret
    exact ⟨rfl, H3.out.1⟩
  · rw [show g.nsec = 0 from if_neg h]
    have HR := Lib.hid (fun w => lright_no g w h)
    unfold gV gC at *
    go_enter Tryz.func41, Tryz.ntmps41
    go_wp2_with (first
      | (with_reducible change wpList _ _ _ (⟨some 3, Op.load _ _, _, _, _, _⟩ :: _) _ _
         go_must (refine wpList_load_var 23 _ rfl rfl w.heap.size #[.int .i64 g.v, .int .i64 g.S, .int .i64 g.s, .int .i64 g.u, .int .i64 g.j] _ _ rfl H1.out.2 Tryz.underlying23 rfl size_geo ?_))
      | ((with_reducible refine (HR.out _).mono ?_); rintro r w2 ⟨rfl, m2⟩
         have H2 := Lib.hid (And.intro (H1.out.1.nn_ m2) (H1.out.2.mod m2 (fun f => f))); clear m2))
    go_ret
    exact ⟨rfl, H2.out.1⟩
set_option maxRecDepth 100000 in
set_option maxHeartbeats 1600000 in
theorem r11sectors_any (g : Geo) (w : World) : Calls Tryz.prog 6 #[gV g] w fun e w' => e = .returned (.int .i64 g.nsec) ∧ Mod Nn w w' := by
  have m1 : Mod Nn w (w.alloc (.cells (gC g) 23)) := (Mod.refl Nn w).alloc _
  have b1 : Blk (w.alloc (.cells (gC g) 23)) w.heap.size 23 (gC g) := Blk.new _ _ _
  have H1 := Lib.hid (And.intro m1 b1)
  clear m1 b1
  by_cases h : g.right
  · rw [show g.nsec = g.sectors from if_pos h]
    have hr := fun w => r11right_any g w
    rw [decide_eq_true h] at hr
    have HR := Lib.hid hr; clear hr
    have HP := Lib.hid (fun w => rsectors_any g w h.1)
    generalize g.sectors = X at *
    unfold gV gC at *
    go_enter Tryz.func6, Tryz.ntmps6
    go_wp2_with (first
      | (with_reducible change wpList _ _ _ (⟨some 3, Op.load _ _, _, _, _, _⟩ :: _) _ _
         go_must (refine wpList_load_var 23 _ rfl rfl w.heap.size #[.int .i64 g.v, .int .i64 g.S, .int .i64 g.s, .int .i64 g.u, .int .i64 g.j] _ _ rfl H1.out.2 Tryz.underlying23 rfl size_geo ?_))
      | ((with_reducible refine (HR.out _).mono ?_); rintro r w2 ⟨rfl, m2⟩
         have H2 := Lib.hid (And.intro (H1.out.1.nn_ m2) (H1.out.2.mod m2 (fun f => f))); clear m2)
      | (with_reducible change wpList _ _ _ (⟨some 6, Op.load _ _, _, _, _, _⟩ :: _) _ _
         go_must (refine wpList_load_var 23 _ rfl rfl w.heap.size #[.int .i64 g.v, .int .i64 g.S, .int .i64 g.s, .int .i64 g.u, .int .i64 g.j] _ _ rfl H2.out.2 Tryz.underlying23 rfl size_geo ?_))
      | ((with_reducible refine (HP.out _).mono ?_); rintro r w3 ⟨rfl, m3⟩
         have H3 := Lib.hid (And.intro (H2.out.1.nn_ m3) (H2.out.2.mod m3 (fun f => f))); clear m3))
    go_ret
    exact ⟨rfl, H3.out.1⟩
  · rw [show g.nsec = 0 from if_neg h]
    have hr := fun w => r11right_any g w
    rw [decide_eq_false h] at hr
    have HR := Lib.hid hr; clear hr
    unfold gV gC at *
    go_enter Tryz.func6, Tryz.ntmps6
    go_wp2_with (first
      | (with_reducible change wpList _ _ _ (⟨some 3, Op.load _ _, _, _, _, _⟩ :: _) _ _
         go_must (refine wpList_load_var 23 _ rfl rfl w.heap.size #[.int .i64 g.v, .int .i64 g.S, .int .i64 g.s, .int .i64 g.u, .int .i64 g.j] _ _ rfl H1.out.2 Tryz.underlying23 rfl size_geo ?_))
      | ((with_reducible refine (HR.out _).mono ?_); rintro r w2 ⟨rfl, m2⟩
         have H2 := Lib.hid (And.intro (H1.out.1.nn_ m2) (H1.out.2.mod m2 (fun f => f))); clear m2))
    go_ret
    exact ⟨rfl, H2.out.1⟩
theorem wrap64_id {x : Int} (h0 : -9223372036854775808 ≤ x) (h1 : x ≤ 9223372036854775807) : wrap64 x = x := by
  unfold wrap64; omega
set_option maxRecDepth 100000 in
set_option maxHeartbeats 1600000 in
theorem lone_any (g : Geo) (i a s : Int) (w : World) (h : g.right) (h0 : 0 ≤ i) (hi : i ≤ 4611686018427387904) (ha : 0 ≤ a ∧ a ≤ 1000000) (hs : 0 ≤ s ∧ s ≤ 1000000) : Calls Tryz.prog 45 #[gV g, .int .i64 i, .int .i64 a, .int .i64 s] w fun e w' => e = .returned (.int .i64 (a + i % 2 * s)) ∧ Mod Nn w w' := by
  have m1 : Mod Nn w (w.alloc (.cells (gC g) 23)) := (Mod.refl Nn w).alloc _
  have b1 : Blk (w.alloc (.cells (gC g) 23)) w.heap.size 23 (gC g) := Blk.new _ _ _
  have H1 := Lib.hid (And.intro m1 b1)
  clear m1 b1
  have HR := Lib.hid (fun w => lright_yes g w h)
  have hi0 : ¬ i < 0 := by omega
  unfold gV gC at *
  obtain ⟨q, hq⟩ : ∃ q, q = i % 2 := ⟨_, rfl⟩
  rw [← hq]
  have hq2 : q = 0 ∨ q = 1 := by omega
  have ht : i.tmod 2 = q := by rw [hq, Int.tmod_eq_emod_of_nonneg h0]
  have hp : 0 ≤ q * s ∧ q * s ≤ 1000000 := by
    rcases hq2 with e | e <;> rw [e] <;> omega
  generalize hqs : q * s = qs at *
  have HQS := Lib.hid hqs; clear hqs hq
  go_enter Tryz.func45, Tryz.ntmps45
  go_wp2_with (first
    | (with_reducible change wpList _ _ _ (⟨some 9, Op.load _ _, _, _, _, _⟩ :: _) _ _
       go_must (refine wpList_load_var 23 _ rfl rfl w.heap.size #[.int .i64 g.v, .int .i64 g.S, .int .i64 g.s, .int .i64 g.u, .int .i64 g.j] _ _ rfl H1.out.2 Tryz.underlying23 rfl size_geo ?_))
    | ((with_reducible refine (HR.out _).mono ?_); rintro r w2 ⟨rfl, m2⟩
       have H2 := Lib.hid (And.intro (H1.out.1.nn_ m2) (H1.out.2.mod m2 (fun f => f))); clear m2))
  have e1 : wrap64 (q * s) = qs := by rw [HQS.out]; exact wrap64_id (by omega) (by omega)
  rw [e1]
  have e2 : wrap64 (a + qs) = a + qs := wrap64_id (by omega) (by omega)
  rw [e2]
  go_ret
  exact ⟨rfl, H2.out.1⟩
set_option maxRecDepth 100000 in
set_option maxHeartbeats 1600000 in
theorem lhalf_any (g : Geo) (i : Int) (w : World) (h : g.right) (h0 : 0 ≤ i) (hi : i ≤ 4611686018427387904) : Calls Tryz.prog 29 #[gV g, .int .i64 i] w fun e w' => e = .returned (.int .i64 (g.half i)) ∧ Mod Nn w w' := by
  have m1 : Mod Nn w (w.alloc (.cells (gC g) 23)) := (Mod.refl Nn w).alloc _
  have b1 : Blk (w.alloc (.cells (gC g) 23)) w.heap.size 23 (gC g) := Blk.new _ _ _
  have H1 := Lib.hid (And.intro m1 b1)
  clear m1 b1
  have hb := Geo.sec_bound h
  have HO := Lib.hid (fun w => lone_any g i 2 g.j w h h0 hi (by omega) (by omega))
  have hh : 2 + i % 2 * g.j = g.half i := rfl
  rw [hh] at HO
  generalize g.half i = X at *
  clear hh hb
  have C4 : (w.alloc (.cells (gC g) 23)).cell? ⟨w.heap.size, 4, none⟩ = some (.int .i64 g.j) := H1.out.2.cell 4
  unfold gV gC at *
  go_enter Tryz.func29, Tryz.ntmps29
  go_wp2_with (first
    | (with_reducible change wpList _ _ _ (⟨some 5, Op.load _ _, _, _, _, _⟩ :: _) _ _
       go_must (refine wpList_load_var 23 _ rfl rfl w.heap.size #[.int .i64 g.v, .int .i64 g.S, .int .i64 g.s, .int .i64 g.u, .int .i64 g.j] _ _ rfl H1.out.2 Tryz.underlying23 rfl size_geo ?_))
    | ((with_reducible refine (HO.out _).mono ?_); rintro r w2 ⟨rfl, m2⟩
       have H2 := Lib.hid (And.intro (H1.out.1.nn_ m2) (H1.out.2.mod m2 (fun f => f))); clear m2))
  go_ret
  exact ⟨rfl, H2.out.1⟩
set_option maxRecDepth 100000 in
set_option maxHeartbeats 1600000 in
theorem r11half_any (g : Geo) (i : Int) (w : World) (h : g.right) (h0 : 0 ≤ i) (hi : i ≤ 4611686018427387904) : Calls Tryz.prog 12 #[gV g, .int .i64 i] w fun e w' => e = .returned (.int .i64 (g.half i)) ∧ Mod Nn w w' := by
  have m1 : Mod Nn w (w.alloc (.cells (gC g) 23)) := (Mod.refl Nn w).alloc _
  have b1 : Blk (w.alloc (.cells (gC g) 23)) w.heap.size 23 (gC g) := Blk.new _ _ _
  have H1 := Lib.hid (And.intro m1 b1)
  clear m1 b1
  have hb := Geo.sec_bound h
  have hr := fun w => r11right_any g w
  rw [decide_eq_true h] at hr
  have HR := Lib.hid hr; clear hr
  have hi0 : ¬ i < 0 := by omega
  obtain ⟨q, hq⟩ : ∃ q, q = i % 2 := ⟨_, rfl⟩
  have hh : g.half i = 2 + q * g.j := by rw [hq]; rfl
  have hq2 : q = 0 ∨ q = 1 := by omega
  have ht : i.tmod 2 = q := by rw [hq, Int.tmod_eq_emod_of_nonneg h0]
  have hp : 0 ≤ q * g.j ∧ q * g.j ≤ 1000000 := by
    rcases hq2 with e | e <;> rw [e] <;> omega
  rw [hh]
  clear hh hq hb
  unfold gV gC at *
  generalize hjj : g.j = jj at *
  generalize hqs : q * jj = qs at *
  have HQS := Lib.hid hqs; clear hqs
  go_enter Tryz.func12, Tryz.ntmps12
  go_wp2_with (first
    | (with_reducible change wpList _ _ _ (⟨some 5, Op.load _ _, _, _, _, _⟩ :: _) _ _
       go_must (refine wpList_load_var 23 _ rfl rfl w.heap.size #[.int .i64 g.v, .int .i64 g.S, .int .i64 g.s, .int .i64 g.u, .int .i64 jj] _ _ rfl H1.out.2 Tryz.underlying23 rfl size_geo ?_))
    | ((with_reducible refine (HR.out _).mono ?_); rintro r w2 ⟨rfl, m2⟩
       have C4 : w2.cell? ⟨w.heap.size, 4, none⟩ = some (.int .i64 jj) := (H1.out.2.mod m2 (fun f => f)).cell 4
       have H2 := Lib.hid (H1.out.1.nn_ m2); clear m2))
  have e1 : wrap64 (q * jj) = qs := by rw [HQS.out]; exact wrap64_id (by omega) (by omega)
  rw [e1]
  have e2 : wrap64 (2 + qs) = 2 + qs := wrap64_id (by omega) (by omega)
  rw [e2]
  go_ret
  exact ⟨rfl, H2.out⟩
/-- may there be a journal, on so many sectors? -/
def jmay (g : Geo) (ep n : Int) : Prop := g.right ∧ 0 ≤ ep ∧ ep ≤ 1099511627776 ∧ g.sectors ≤ n
instance (g : Geo) (ep n : Int) : Decidable (jmay g ep n) := by unfold jmay; infer_instance
set_option maxRecDepth 100000 in
set_option maxHeartbeats 3200000 in
theorem rmay_any (g : Geo) (ep n : Int) (w : World) : Calls Tryz.prog 7 #[gV g, .int .i64 ep, .int .i64 n] w fun e w' => e = .returned (.bool (decide (jmay g ep n))) ∧ Mod Nn w w' := by
  have m1 : Mod Nn w (w.alloc (.cells (gC g) 23)) := (Mod.refl Nn w).alloc _
  have b1 : Blk (w.alloc (.cells (gC g) 23)) w.heap.size 23 (gC g) := Blk.new _ _ _
  have H1 := Lib.hid (And.intro m1 b1)
  clear m1 b1
  by_cases h : g.right
  · by_cases h1 : 0 ≤ ep
    · by_cases h2 : ep ≤ 1099511627776
      · by_cases h3 : g.sectors ≤ n
        · rw [show decide (jmay g ep n) = true from decide_eq_true ⟨h, h1, h2, h3⟩]
          have hr := fun w => r11right_any g w
          rw [decide_eq_true h] at hr
          have HR := Lib.hid hr; clear hr
          have hn : g.nsec = g.sectors := if_pos h
          have hs := fun w => r11sectors_any g w
          rw [hn] at hs
          have HS := Lib.hid hs; clear hs hn
          generalize g.sectors = X at *
          have g1 : decide (X ≤ n) = true := decide_eq_true h3
          unfold gV gC at *
          go_enter Tryz.func7, Tryz.ntmps7
          go_wp2_with (first
            | (with_reducible change wpList _ _ _ (⟨some 7, Op.load _ _, _, _, _, _⟩ :: _) _ _
               go_must (refine wpList_load_var 23 _ rfl rfl w.heap.size #[.int .i64 g.v, .int .i64 g.S, .int .i64 g.s, .int .i64 g.u, .int .i64 g.j] _ _ rfl H1.out.2 Tryz.underlying23 rfl size_geo ?_))
            | ((with_reducible refine (HR.out _).mono ?_); rintro r w2 ⟨rfl, m2⟩
               have H2 := Lib.hid (And.intro (H1.out.1.nn_ m2) (H1.out.2.mod m2 (fun f => f))); clear m2)
            | (with_reducible change wpList _ _ _ (⟨some 19, Op.load _ _, _, _, _, _⟩ :: _) _ _
               go_must (refine wpList_load_var 23 _ rfl rfl w.heap.size #[.int .i64 g.v, .int .i64 g.S, .int .i64 g.s, .int .i64 g.u, .int .i64 g.j] _ _ rfl H2.out.2 Tryz.underlying23 rfl size_geo ?_))
            | ((with_reducible refine (HS.out _).mono ?_); rintro r w3 ⟨rfl, m3⟩
               have H3 := Lib.hid (And.intro (H2.out.1.nn_ m3) (H2.out.2.mod m3 (fun f => f))); clear m3))
          go_ret
          exact ⟨rfl, H3.out.1⟩
        · rw [show decide (jmay g ep n) = false from decide_eq_false (fun k => h3 k.2.2.2)]
          have hr := fun w => r11right_any g w
          rw [decide_eq_true h] at hr
          have HR := Lib.hid hr; clear hr
          have hn : g.nsec = g.sectors := if_pos h
          have hs := fun w => r11sectors_any g w
          rw [hn] at hs
          have HS := Lib.hid hs; clear hs hn
          generalize g.sectors = X at *
          have g1 : decide (X ≤ n) = false := decide_eq_false h3
          unfold gV gC at *
          go_enter Tryz.func7, Tryz.ntmps7
          go_wp2_with (first
            | (with_reducible change wpList _ _ _ (⟨some 7, Op.load _ _, _, _, _, _⟩ :: _) _ _
               go_must (refine wpList_load_var 23 _ rfl rfl w.heap.size #[.int .i64 g.v, .int .i64 g.S, .int .i64 g.s, .int .i64 g.u, .int .i64 g.j] _ _ rfl H1.out.2 Tryz.underlying23 rfl size_geo ?_))
            | ((with_reducible refine (HR.out _).mono ?_); rintro r w2 ⟨rfl, m2⟩
               have H2 := Lib.hid (And.intro (H1.out.1.nn_ m2) (H1.out.2.mod m2 (fun f => f))); clear m2)
            | (with_reducible change wpList _ _ _ (⟨some 19, Op.load _ _, _, _, _, _⟩ :: _) _ _
               go_must (refine wpList_load_var 23 _ rfl rfl w.heap.size #[.int .i64 g.v, .int .i64 g.S, .int .i64 g.s, .int .i64 g.u, .int .i64 g.j] _ _ rfl H2.out.2 Tryz.underlying23 rfl size_geo ?_))
            | ((with_reducible refine (HS.out _).mono ?_); rintro r w3 ⟨rfl, m3⟩
               have H3 := Lib.hid (And.intro (H2.out.1.nn_ m3) (H2.out.2.mod m3 (fun f => f))); clear m3))
          go_ret
          exact ⟨rfl, H3.out.1⟩
      · rw [show decide (jmay g ep n) = false from decide_eq_false (fun k => h2 k.2.2.1)]
        have hr := fun w => r11right_any g w
        rw [decide_eq_true h] at hr
        have HR := Lib.hid hr; clear hr
        have g1 : decide (ep ≤ 1099511627776) = false := decide_eq_false h2
        unfold gV gC at *
        go_enter Tryz.func7, Tryz.ntmps7
        go_wp2_with (first
          | (with_reducible change wpList _ _ _ (⟨some 7, Op.load _ _, _, _, _, _⟩ :: _) _ _
             go_must (refine wpList_load_var 23 _ rfl rfl w.heap.size #[.int .i64 g.v, .int .i64 g.S, .int .i64 g.s, .int .i64 g.u, .int .i64 g.j] _ _ rfl H1.out.2 Tryz.underlying23 rfl size_geo ?_))
          | ((with_reducible refine (HR.out _).mono ?_); rintro r w2 ⟨rfl, m2⟩
             have H2 := Lib.hid (And.intro (H1.out.1.nn_ m2) (H1.out.2.mod m2 (fun f => f))); clear m2))
        go_ret
        exact ⟨rfl, H2.out.1⟩
    · rw [show decide (jmay g ep n) = false from decide_eq_false (fun k => h1 k.2.1)]
      have hr := fun w => r11right_any g w
      rw [decide_eq_true h] at hr
      have HR := Lib.hid hr; clear hr
      have g1 : decide (0 ≤ ep) = false := decide_eq_false h1
      unfold gV gC at *
      go_enter Tryz.func7, Tryz.ntmps7
      go_wp2_with (first
        | (with_reducible change wpList _ _ _ (⟨some 7, Op.load _ _, _, _, _, _⟩ :: _) _ _
           go_must (refine wpList_load_var 23 _ rfl rfl w.heap.size #[.int .i64 g.v, .int .i64 g.S, .int .i64 g.s, .int .i64 g.u, .int .i64 g.j] _ _ rfl H1.out.2 Tryz.underlying23 rfl size_geo ?_))
        | ((with_reducible refine (HR.out _).mono ?_); rintro r w2 ⟨rfl, m2⟩
           have H2 := Lib.hid (And.intro (H1.out.1.nn_ m2) (H1.out.2.mod m2 (fun f => f))); clear m2))
      go_ret
      exact ⟨rfl, H2.out.1⟩
  · rw [show decide (jmay g ep n) = false from decide_eq_false (fun k => h k.1)]
    have hr := fun w => r11right_any g w
    rw [decide_eq_false h] at hr
    have HR := Lib.hid hr; clear hr
    unfold gV gC at *
    go_enter Tryz.func7, Tryz.ntmps7
    go_wp2_with (first
      | (with_reducible change wpList _ _ _ (⟨some 7, Op.load _ _, _, _, _, _⟩ :: _) _ _
         go_must (refine wpList_load_var 23 _ rfl rfl w.heap.size #[.int .i64 g.v, .int .i64 g.S, .int .i64 g.s, .int .i64 g.u, .int .i64 g.j] _ _ rfl H1.out.2 Tryz.underlying23 rfl size_geo ?_))
      | ((with_reducible refine (HR.out _).mono ?_); rintro r w2 ⟨rfl, m2⟩
         have H2 := Lib.hid (And.intro (H1.out.1.nn_ m2) (H1.out.2.mod m2 (fun f => f))); clear m2))
    go_ret
    exact ⟨rfl, H2.out.1⟩
end
end Go.Proofs.YtijmkbhbpbkkoaaGreat

/- journal.may of a cache that is there; journal.Room (printed by wip/gen/jn2.py). -/
namespace Go.Proofs.YtijmkbhbpbkkoaaGreat
open Go.RowKit

section
variable {w : World} {c b ms mo mk : Nat} {D : Dk} {most now hits misses : Int} {l : KL} {T : TL}
/-- why there may be none -/
def mayE (g : Geo) (ep n : Int) : Int := if jmay g ep n then 0 else 2
set_option maxRecDepth 100000 in
set_option maxHeartbeats 6400000 in
theorem jmay_any (h : CAt w c b ms mo mk D most now hits misses l T) (g : Geo) (ep : Int) :
    Calls Tryz.prog 27 #[.pointer (some ⟨c, 0, none⟩), gV g, .int .i64 ep] w fun e w' => e = .returned (.int .i64 (mayE g ep D.n)) ∧ Mod Nn w w' := by
  obtain ⟨W, hW⟩ : ∃ W, w.alloc (.cells (gC g) 23) = W := ⟨_, rfl⟩
  have hm : Mod Nn w W := by rw [← hW]; exact (Mod.refl Nn w).alloc _
  have hb : Blk W w.heap.size 23 (gC g) := by rw [← hW]; exact Blk.new _ _ _
  have HB := Lib.hid (show ∀ w', Mod Nn W.drew w' → Blk w' w.heap.size 23 (gC g) from fun w' m => (hb.mod (Mod.refl Nn W).drew (fun f => f)).mod m (fun f => f))
  have H1 := Lib.hid (h.quiet hm)
  have HM := Lib.hid hm
  have hn0 : (D.n == 0) = false := by have := h.d.ok.n1; simp; omega
  obtain ⟨N, hN⟩ : ∃ N, D.n = N := ⟨_, rfl⟩
  have HN := Lib.hid hN
  rw [hN]
  rw [hN] at hn0
  clear hm hb h hN
  have hw : w.alloc (.cells #[.int .i64 g.v, .int .i64 g.S, .int .i64 g.s, .int .i64 g.u, .int .i64 g.j] 23) = W := hW
  clear hW
  unfold mayE
  by_cases h : g.right
  · by_cases h1 : 0 ≤ ep
    · by_cases h2 : ep ≤ 1099511627776
      · by_cases h3 : g.sectors ≤ N
        · rw [if_pos (show jmay g ep N from ⟨h, h1, h2, h3⟩)]
          have HR := Lib.hid (fun w => lright_yes g w h)
          have hn : g.nsec = g.sectors := if_pos h
          have hs := fun w => lsectors_any g w
          rw [hn] at hs
          have HS := Lib.hid hs; clear hs hn
          generalize g.sectors = X at *
          have g1 : decide (ep < 0) = false := decide_eq_false (by omega)
          have g2 : decide (1099511627776 < ep) = false := decide_eq_false (by omega)
          have g3 : decide (N < X) = false := decide_eq_false (by omega)
          unfold gV gC at *
          go_enter Tryz.func27, Tryz.ntmps27
          go_wp2_with fail
          refine (csectors_any H1.out).mono ?_
          rintro e w1 ⟨rfl, rfl⟩
          rw [HN.out]
          go_wp2_with fail
          refine wp_region_planC (fun w' => Mod Nn W.drew w') [(0, true), (1, false), (2, true), (3, true), (4, true), (5, true), (6, true), (7, true), (8, true), (9, true), (10, true), (11, true), (12, true), (14, true), (13, false), (15, false), (16, true), (17, true), (18, true)] (by kernel_rfl) (by kernel_rfl) (Mod.refl _ _) ?_
          refine pc_take _ rfl rfl (fun w' hS => exec_load_row (P := Tryz.prog) 23 _ rfl rfl (HB.out w' hS) Tryz.underlying23 rfl size_geo) (fun K hK => ?_); go_simp; refine hK _ ?_; clear hK K
          refine pc_call rfl rfl (fun K hK => ?_); go_simp; refine ⟨_, _, ⟨rfl, rfl⟩, hK _ _ _ ?_⟩; clear hK K
          refine (HR.out _).mono ?_
          rintro e w2 ⟨rfl, m2⟩
          have M1 := m2
          refine ⟨_, rfl, M1, ?_⟩
          iterate 11 (refine pc_pure rfl rfl (fun K hK => ?_); go_simp; refine hK _ ?_; clear hK K)
          refine pc_take _ rfl rfl (fun w' hS => exec_load_row (P := Tryz.prog) 23 _ rfl rfl (HB.out w' hS) Tryz.underlying23 rfl size_geo) (fun K hK => ?_); go_simp; refine hK _ ?_; clear hK K
          refine pc_call rfl rfl (fun K hK => ?_); go_simp; refine ⟨_, _, ⟨rfl, rfl⟩, hK _ _ _ ?_⟩; clear hK K
          refine (csectors_any ((H1.out.quiet (Mod.refl Nn W).drew).quiet M1)).mono ?_
          rintro e w3 ⟨rfl, rfl⟩
          rw [HN.out]
          refine ⟨_, rfl, M1, ?_⟩
          refine pc_call rfl rfl (fun K hK => ?_); go_simp; refine ⟨_, _, ⟨rfl, rfl⟩, hK _ _ _ ?_⟩; clear hK K
          refine (HS.out _).mono ?_
          rintro e w4 ⟨rfl, m4⟩
          have M3 := M1.nn_ m4
          refine ⟨_, rfl, M3, ?_⟩
          iterate 3 (refine pc_pure rfl rfl (fun K hK => ?_); go_simp; refine hK _ ?_; clear hK K)
          refine pc_nil ?_
          go_wp2
          go_ret
          exact ⟨rfl, HM.out.drew.nn_ M3⟩
        · rw [if_neg (fun k : jmay g ep N => h3 k.2.2.2)]
          have HR := Lib.hid (fun w => lright_yes g w h)
          have hn : g.nsec = g.sectors := if_pos h
          have hs := fun w => lsectors_any g w
          rw [hn] at hs
          have HS := Lib.hid hs; clear hs hn
          generalize g.sectors = X at *
          have g1 : decide (ep < 0) = false := decide_eq_false (by omega)
          have g2 : decide (1099511627776 < ep) = false := decide_eq_false (by omega)
          have g3 : decide (N < X) = true := decide_eq_true (by omega)
          unfold gV gC at *
          go_enter Tryz.func27, Tryz.ntmps27
          go_wp2_with fail
          refine (csectors_any H1.out).mono ?_
          rintro e w1 ⟨rfl, rfl⟩
          rw [HN.out]
          go_wp2_with fail
          refine wp_region_planC (fun w' => Mod Nn W.drew w') [(0, true), (1, false), (2, true), (3, true), (4, true), (5, true), (6, true), (7, true), (8, true), (9, true), (10, true), (11, true), (12, true), (14, true), (13, false), (15, false), (16, true), (17, true), (18, true)] (by kernel_rfl) (by kernel_rfl) (Mod.refl _ _) ?_
          refine pc_take _ rfl rfl (fun w' hS => exec_load_row (P := Tryz.prog) 23 _ rfl rfl (HB.out w' hS) Tryz.underlying23 rfl size_geo) (fun K hK => ?_); go_simp; refine hK _ ?_; clear hK K
          refine pc_call rfl rfl (fun K hK => ?_); go_simp; refine ⟨_, _, ⟨rfl, rfl⟩, hK _ _ _ ?_⟩; clear hK K
          refine (HR.out _).mono ?_
          rintro e w2 ⟨rfl, m2⟩
          have M1 := m2
          refine ⟨_, rfl, M1, ?_⟩
          iterate 11 (refine pc_pure rfl rfl (fun K hK => ?_); go_simp; refine hK _ ?_; clear hK K)
          refine pc_take _ rfl rfl (fun w' hS => exec_load_row (P := Tryz.prog) 23 _ rfl rfl (HB.out w' hS) Tryz.underlying23 rfl size_geo) (fun K hK => ?_); go_simp; refine hK _ ?_; clear hK K
          refine pc_call rfl rfl (fun K hK => ?_); go_simp; refine ⟨_, _, ⟨rfl, rfl⟩, hK _ _ _ ?_⟩; clear hK K
          refine (csectors_any ((H1.out.quiet (Mod.refl Nn W).drew).quiet M1)).mono ?_
          rintro e w3 ⟨rfl, rfl⟩
          rw [HN.out]
          refine ⟨_, rfl, M1, ?_⟩
          refine pc_call rfl rfl (fun K hK => ?_); go_simp; refine ⟨_, _, ⟨rfl, rfl⟩, hK _ _ _ ?_⟩; clear hK K
          refine (HS.out _).mono ?_
          rintro e w4 ⟨rfl, m4⟩
          have M3 := M1.nn_ m4
          refine ⟨_, rfl, M3, ?_⟩
          iterate 3 (refine pc_pure rfl rfl (fun K hK => ?_); go_simp; refine hK _ ?_; clear hK K)
          refine pc_nil ?_
          go_wp2
          go_ret
          exact ⟨rfl, HM.out.drew.nn_ M3⟩
      · rw [if_neg (fun k : jmay g ep N => h2 k.2.2.1)]
        have HR := Lib.hid (fun w => lright_yes g w h)
        have g1 : decide (ep < 0) = false := decide_eq_false (by omega)
        have g2 : decide (1099511627776 < ep) = true := decide_eq_true (by omega)
        unfold gV gC at *
        go_enter Tryz.func27, Tryz.ntmps27
        go_wp2_with fail
        refine (csectors_any H1.out).mono ?_
        rintro e w1 ⟨rfl, rfl⟩
        rw [HN.out]
        go_wp2_with fail
        refine wp_region_planC (fun w' => Mod Nn W.drew w') [(0, true), (1, false), (2, true), (3, true), (4, true), (5, true), (6, true), (7, true), (8, true), (9, true), (10, true), (11, true), (12, true), (14, true), (13, false), (15, false), (16, true), (17, true), (18, true)] (by kernel_rfl) (by kernel_rfl) (Mod.refl _ _) ?_
        refine pc_take _ rfl rfl (fun w' hS => exec_load_row (P := Tryz.prog) 23 _ rfl rfl (HB.out w' hS) Tryz.underlying23 rfl size_geo) (fun K hK => ?_); go_simp; refine hK _ ?_; clear hK K
        refine pc_call rfl rfl (fun K hK => ?_); go_simp; refine ⟨_, _, ⟨rfl, rfl⟩, hK _ _ _ ?_⟩; clear hK K
        refine (HR.out _).mono ?_
        rintro e w2 ⟨rfl, m2⟩
        have M1 := m2
        refine ⟨_, rfl, M1, ?_⟩
        iterate 10 (refine pc_pure rfl rfl (fun K hK => ?_); go_simp; refine hK _ ?_; clear hK K)
        iterate 2 (refine pc_skip rfl rfl (fun K hK => ?_); go_simp; refine hK _ ?_; clear hK K)
        refine pc_skipD rfl rfl (fun K hK => ?_); go_simp; refine hK _ ?_; clear hK K
        refine pc_skipD rfl rfl (fun K hK => ?_); go_simp; refine hK _ ?_; clear hK K
        iterate 1 (refine pc_skip rfl rfl (fun K hK => ?_); go_simp; refine hK _ ?_; clear hK K)
        iterate 2 (refine pc_pure rfl rfl (fun K hK => ?_); go_simp; refine hK _ ?_; clear hK K)
        refine pc_nil ?_
        go_wp2
        go_ret
        exact ⟨rfl, HM.out.drew.nn_ M1⟩
    · rw [if_neg (fun k : jmay g ep N => h1 k.2.1)]
      have HR := Lib.hid (fun w => lright_yes g w h)
      have g1 : decide (ep < 0) = true := decide_eq_true (by omega)
      unfold gV gC at *
      go_enter Tryz.func27, Tryz.ntmps27
      go_wp2_with fail
      refine (csectors_any H1.out).mono ?_
      rintro e w1 ⟨rfl, rfl⟩
      rw [HN.out]
      go_wp2_with fail
      refine wp_region_planC (fun w' => Mod Nn W.drew w') [(0, true), (1, false), (2, true), (3, true), (4, true), (5, true), (6, true), (7, true), (8, true), (9, true), (10, true), (11, true), (12, true), (14, true), (13, false), (15, false), (16, true), (17, true), (18, true)] (by kernel_rfl) (by kernel_rfl) (Mod.refl _ _) ?_
      refine pc_take _ rfl rfl (fun w' hS => exec_load_row (P := Tryz.prog) 23 _ rfl rfl (HB.out w' hS) Tryz.underlying23 rfl size_geo) (fun K hK => ?_); go_simp; refine hK _ ?_; clear hK K
      refine pc_call rfl rfl (fun K hK => ?_); go_simp; refine ⟨_, _, ⟨rfl, rfl⟩, hK _ _ _ ?_⟩; clear hK K
      refine (HR.out _).mono ?_
      rintro e w2 ⟨rfl, m2⟩
      have M1 := m2
      refine ⟨_, rfl, M1, ?_⟩
      iterate 6 (refine pc_pure rfl rfl (fun K hK => ?_); go_simp; refine hK _ ?_; clear hK K)
      iterate 2 (refine pc_skip rfl rfl (fun K hK => ?_); go_simp; refine hK _ ?_; clear hK K)
      iterate 2 (refine pc_pure rfl rfl (fun K hK => ?_); go_simp; refine hK _ ?_; clear hK K)
      iterate 2 (refine pc_skip rfl rfl (fun K hK => ?_); go_simp; refine hK _ ?_; clear hK K)
      refine pc_skipD rfl rfl (fun K hK => ?_); go_simp; refine hK _ ?_; clear hK K
      refine pc_skipD rfl rfl (fun K hK => ?_); go_simp; refine hK _ ?_; clear hK K
      iterate 1 (refine pc_skip rfl rfl (fun K hK => ?_); go_simp; refine hK _ ?_; clear hK K)
      iterate 2 (refine pc_pure rfl rfl (fun K hK => ?_); go_simp; refine hK _ ?_; clear hK K)
      refine pc_nil ?_
      go_wp2
      go_ret
      exact ⟨rfl, HM.out.drew.nn_ M1⟩
  · rw [if_neg (fun k : jmay g ep N => h k.1)]
    have HR := Lib.hid (fun w => lright_no g w h)
    unfold gV gC at *
    go_enter Tryz.func27, Tryz.ntmps27
    go_wp2_with fail
    refine (csectors_any H1.out).mono ?_
    rintro e w1 ⟨rfl, rfl⟩
    rw [HN.out]
    go_wp2_with fail
    refine wp_region_planC (fun w' => Mod Nn W.drew w') [(0, true), (1, false), (2, true), (3, true), (4, true), (5, true), (6, true), (7, true), (8, true), (9, true), (10, true), (11, true), (12, true), (14, true), (13, false), (15, false), (16, true), (17, true), (18, true)] (by kernel_rfl) (by kernel_rfl) (Mod.refl _ _) ?_
    refine pc_take _ rfl rfl (fun w' hS => exec_load_row (P := Tryz.prog) 23 _ rfl rfl (HB.out w' hS) Tryz.underlying23 rfl size_geo) (fun K hK => ?_); go_simp; refine hK _ ?_; clear hK K
    refine pc_call rfl rfl (fun K hK => ?_); go_simp; refine ⟨_, _, ⟨rfl, rfl⟩, hK _ _ _ ?_⟩; clear hK K
    refine (HR.out _).mono ?_
    rintro e w2 ⟨rfl, m2⟩
    have M1 := m2
    refine ⟨_, rfl, M1, ?_⟩
    iterate 2 (refine pc_pure rfl rfl (fun K hK => ?_); go_simp; refine hK _ ?_; clear hK K)
    iterate 2 (refine pc_skip rfl rfl (fun K hK => ?_); go_simp; refine hK _ ?_; clear hK K)
    iterate 2 (refine pc_pure rfl rfl (fun K hK => ?_); go_simp; refine hK _ ?_; clear hK K)
    iterate 2 (refine pc_skip rfl rfl (fun K hK => ?_); go_simp; refine hK _ ?_; clear hK K)
    iterate 2 (refine pc_pure rfl rfl (fun K hK => ?_); go_simp; refine hK _ ?_; clear hK K)
    iterate 2 (refine pc_skip rfl rfl (fun K hK => ?_); go_simp; refine hK _ ?_; clear hK K)
    refine pc_skipD rfl rfl (fun K hK => ?_); go_simp; refine hK _ ?_; clear hK K
    refine pc_skipD rfl rfl (fun K hK => ?_); go_simp; refine hK _ ?_; clear hK K
    iterate 1 (refine pc_skip rfl rfl (fun K hK => ?_); go_simp; refine hK _ ?_; clear hK K)
    iterate 2 (refine pc_pure rfl rfl (fun K hK => ?_); go_simp; refine hK _ ?_; clear hK K)
    refine pc_nil ?_
    go_wp2
    go_ret
    exact ⟨rfl, HM.out.drew.nn_ M1⟩
set_option maxRecDepth 100000 in
theorem jmay_nil (g : Geo) (ep : Int) (w : World) : Calls Tryz.prog 27 #[.pointer none, gV g, .int .i64 ep] w fun e w' => e = .returned (.int .i64 1) ∧ Mod Nn w w' := by
  have M := Lib.hid ((Mod.refl Nn w).alloc (.cells #[.int .i64 g.v, .int .i64 g.S, .int .i64 g.s, .int .i64 g.u, .int .i64 g.j] 23))
  unfold gV
  go_enter Tryz.func27, Tryz.ntmps27
  go_wp2
  go_ret
  exact ⟨rfl, M.out⟩
end
end Go.Proofs.YtijmkbhbpbkkoaaGreat

/- journal.Room, Append (printed by wip/gen/jn3.py). -/
namespace Go.Proofs.YtijmkbhbpbkkoaaGreat
open Go.RowKit

/-- a journal's cells -/
def jC (c : Nat) (at_ size ep n seq : Int) : Array Value := #[.pointer (some ⟨c, 0, none⟩), .int .i64 at_, .int .i64 size, .int .i64 ep, .int .i64 n, .int .i64 seq]
section
variable {w w' : World} {c jb : Nat} {at_ size ep n seq : Int}
set_option maxRecDepth 100000 in
theorem room_nil (w : World) : Calls Tryz.prog 17 #[.pointer none] w fun e w' => e = .returned (.int .i64 0) ∧ Mod Nn w w' := by
  go_enter Tryz.func17, Tryz.ntmps17
  go_wp2
  go_ret
  exact ⟨rfl, Mod.refl _ _⟩
set_option maxRecDepth 100000 in
theorem room_zero (hc : w.cell? ⟨jb, 0, none⟩ = some (.pointer none)) : Calls Tryz.prog 17 #[.pointer (some ⟨jb, 0, none⟩)] w fun e w' => e = .returned (.int .i64 0) ∧ Mod Nn w w' := by
  go_enter Tryz.func17, Tryz.ntmps17
  go_wp2
  go_ret
  exact ⟨rfl, Mod.refl _ _⟩
set_option maxRecDepth 100000 in
set_option maxHeartbeats 1600000 in
theorem room_any (hj : Blk w jb 69 (jC c at_ size ep n seq)) (h0 : 0 ≤ n) (h1 : n ≤ size) (h2 : size ≤ 1000000) :
    Calls Tryz.prog 17 #[.pointer (some ⟨jb, 0, none⟩)] w fun e w' => e = .returned (.int .i64 (size - n)) ∧ Mod Nn w w' := by
  have c0 : w.cell? ⟨jb, 0, none⟩ = some (.pointer (some ⟨c, 0, none⟩)) := hj.cell 0
  have HJ := Lib.hid (show ∀ w', Mod Nn w.drew w' → Blk w' jb 69 (jC c at_ size ep n seq) from fun w' m => (hj.mod (Mod.refl Nn w).drew (fun f => f)).mod m (fun f => f))
  clear hj
  have e1 : IntKind.i64.wrap (size - n) = size - n := by rw [IntKind.wrap_i64]; omega
  have e2 : wrap64 (size - n) = size - n := wrap64_id (by omega) (by omega)
  go_enter Tryz.func17, Tryz.ntmps17
  go_wp2_with fail
  refine wp_region_planC (fun w' => Mod Nn w.drew w') [(0, true), (1, true), (2, true), (3, true), (4, true), (5, true), (6, true), (7, true), (8, true), (9, true)] (by kernel_rfl) (by kernel_rfl) (Mod.refl _ _) ?_
  iterate 3 (refine pc_pure rfl rfl (fun K hK => ?_); go_simp; refine hK _ ?_; clear hK K)
  refine pc_take (.int .i64 size) rfl rfl (fun w' hS => exec_load1 (P := Tryz.prog) 3 _ rfl rfl ((HJ.out w' hS).cell 2) Tryz.underlying3 rfl) (fun K hK => ?_); go_simp; refine hK _ ?_; clear hK K
  iterate 3 (refine pc_pure rfl rfl (fun K hK => ?_); go_simp; refine hK _ ?_; clear hK K)
  refine pc_take (.int .i64 n) rfl rfl (fun w' hS => exec_load1 (P := Tryz.prog) 3 _ rfl rfl ((HJ.out w' hS).cell 4) Tryz.underlying3 rfl) (fun K hK => ?_); go_simp; refine hK _ ?_; clear hK K
  iterate 2 (refine pc_pure rfl rfl (fun K hK => ?_); go_simp; refine hK _ ?_; clear hK K)
  refine pc_nil ?_
  go_wp2
  go_ret
  exact ⟨rfl, (Mod.refl Nn w).drew⟩
end
section
variable {w w' : World} {c b ms mo mk jb : Nat} {D : Dk} {most now hits misses : Int} {l : KL} {T : TL} {at_ size ep n : Int} {seq : Nat}
set_option maxRecDepth 100000 in
theorem append_nil (A : Option Addr) (m cc : Nat) (w : World) : Calls Tryz.prog 14 #[.pointer none, .slice A m cc] w fun e w' => e = .returned (.int .i64 1) ∧ Mod Nn w w' := by
  go_enter Tryz.func14, Tryz.ntmps14
  go_wp2
  go_ret
  exact ⟨rfl, Mod.refl _ _⟩
set_option maxRecDepth 100000 in
theorem append_zero (A : Option Addr) (m cc : Nat) (hc : w.cell? ⟨jb, 0, none⟩ = some (.pointer none)) : Calls Tryz.prog 14 #[.pointer (some ⟨jb, 0, none⟩), .slice A m cc] w fun e w' => e = .returned (.int .i64 1) ∧ Mod Nn w w' := by
  go_enter Tryz.func14, Tryz.ntmps14
  go_wp2
  go_ret
  exact ⟨rfl, Mod.refl _ _⟩
set_option maxRecDepth 100000 in
set_option maxHeartbeats 3200000 in
theorem append_long (hj : Blk w jb 69 (jC c at_ size ep n seq)) {A : Option Addr} {m cc : Nat} {Dt : List Nat} (hr : Rd w A m (bv Dt)) (hl : ∀ z ∈ Dt, z < 256) (he0 : 0 ≤ ep) (he1 : ep ≤ 1099511627776) (hq : seq ≤ 1099511627776) (hm : 32768 < m) :
    Calls Tryz.prog 14 #[.pointer (some ⟨jb, 0, none⟩), .slice A m cc] w fun e w' => e = .returned (.int .i64 3) ∧ Mod Nn w w' := by
  have c0 : w.cell? ⟨jb, 0, none⟩ = some (.pointer (some ⟨c, 0, none⟩)) := hj.cell 0
  have HJ := Lib.hid (show ∀ w', Mod Nn w.drew w' → Blk w' jb 69 (jC c at_ size ep n seq) from fun w' m => (hj.mod (Mod.refl Nn w).drew (fun f => f)).mod m (fun f => f))
  have hput := fput_all (c := cc) 2 ep (seq : Int) (hr.mod (Mod.refl Nn w).drew (fun _ _ f => f)) hl
  have hL : Dt.length = m := by have := hr.1; rwa [bv_len] at this
  have hp : perr 2 ep seq Dt.length = 3 := by unfold perr; rw [if_neg (by omega), if_pos (by omega)]
  have hb : pbytes 2 ep seq Dt = [] := by unfold pbytes; rw [if_neg (by rw [hp]; decide)]
  unfold PutP at hput
  rw [hp, hb] at hput
  clear hj hr hl hL hp hb
  go_enter Tryz.func14, Tryz.ntmps14
  go_wp2_with fail
  refine wp_region_planC (fun w' => Mod Nn w.drew w') [(0, true), (1, true), (2, true), (3, true), (4, true), (5, true), (6, true), (7, true), (8, true), (9, true), (10, false), (11, true), (12, true), (13, true), (14, true), (15, true)] (by kernel_rfl) (by kernel_rfl) (Mod.refl _ _) ?_
  iterate 3 (refine pc_pure rfl rfl (fun K hK => ?_); go_simp; refine hK _ ?_; clear hK K)
  refine pc_take (.int .i64 ep) rfl rfl (fun w' hS => exec_load1 (P := Tryz.prog) 3 _ rfl rfl ((HJ.out w' hS).cell 3) Tryz.underlying3 rfl) (fun K hK => ?_); go_simp; refine hK _ ?_; clear hK K
  iterate 3 (refine pc_pure rfl rfl (fun K hK => ?_); go_simp; refine hK _ ?_; clear hK K)
  refine pc_take (.int .i64 seq) rfl rfl (fun w' hS => exec_load1 (P := Tryz.prog) 3 _ rfl rfl ((HJ.out w' hS).cell 5) Tryz.underlying3 rfl) (fun K hK => ?_); go_simp; refine hK _ ?_; clear hK K
  iterate 2 (refine pc_pure rfl rfl (fun K hK => ?_); go_simp; refine hK _ ?_; clear hK K)
  refine pc_call rfl rfl (fun K hK => ?_); go_simp; refine ⟨_, _, ⟨rfl, rfl⟩, hK _ _ _ ?_⟩; clear hK K
  refine hput.mono ?_
  rintro e w1 ⟨A1, c1, rfl, own1, m1⟩
  have M1 := (Mod.refl Nn w).drew.nn_ m1
  refine ⟨_, rfl, m1, ?_⟩
  clear own1 hput m1
  iterate 5 (refine pc_pure rfl rfl (fun K hK => ?_); go_simp; refine hK _ ?_; clear hK K)
  refine pc_nil ?_
  go_wp2
  go_ret
  exact ⟨rfl, M1⟩
/-- what the frame of a record is -/
def recB (ep : Int) (seq : Nat) (Dt : List Nat) : List Nat := (Fr.mk 2 ep.toNat seq Dt).bytes
theorem recB_len (ep : Int) (seq : Nat) (Dt : List Nat) : (recB ep seq Dt).length = 512 * fsec Dt.length := Fr.bytes_len _
theorem recB_lt (ep : Int) (seq : Nat) {Dt : List Nat} (hl : ∀ z ∈ Dt, z < 256) : ∀ z ∈ recB ep seq Dt, z < 256 := Fr.bytes_lt _ hl
theorem pbytes_rec {ep : Int} {seq : Nat} {Dt : List Nat} (he0 : 0 ≤ ep) (he1 : ep ≤ 1099511627776) (hq : seq ≤ 1099511627776) (hm : Dt.length ≤ 32768) : perr 2 ep seq Dt.length = 0 ∧ pbytes 2 ep seq Dt = recB ep seq Dt := by
  have hp : perr 2 ep seq Dt.length = 0 := by unfold perr; rw [if_neg (by omega), if_neg (by omega)]
  refine ⟨hp, ?_⟩
  unfold pbytes; rw [if_pos hp]; rfl
theorem fput_rec {w : World} {A : Option Addr} {m cc : Nat} {Dt : List Nat} {ep : Int} {seq : Nat} (hr : Rd w A m (bv Dt)) (hl : ∀ z ∈ Dt, z < 256) (he0 : 0 ≤ ep) (he1 : ep ≤ 1099511627776) (hq : seq ≤ 1099511627776) (hm : m ≤ 32768) {p : Nat} (hp : p = 512 * fsec m) :
    Calls Tryz.prog 33 #[frV 2 ep seq A m cc] w fun r w' => ∃ g, r = .returned (.tuple #[.slice (some ⟨g, 0, none⟩) p p, .int .i64 0]) ∧ w'.ownsRow w.heap.size 5 1 (.slice (some ⟨g, 0, none⟩) p p) p (bv (recB ep seq Dt)) ∧ Mod Nn w w' := by
  have hL : Dt.length = m := by have := hr.1; rwa [bv_len] at this
  have hf : (Fr.mk 2 ep.toNat seq Dt).ok := ⟨by show (2 : Nat) ≤ 255; omega, by show ep.toNat ≤ _; omega, hq, by show Dt.length ≤ _; omega⟩
  have he : ((ep.toNat : Nat) : Int) = ep := by omega
  have h0 := fput_ok (c := cc) (Fr.mk 2 ep.toNat seq Dt) hf hr hl
  have e2 : ((Fr.mk 2 ep.toNat seq Dt).epoch : Int) = ep := he
  rw [e2] at h0
  subst hp
  refine h0.mono fun r w' ⟨g, h1, h2, h3, h4⟩ => ⟨g, h1, ?_, h3⟩
  have hbl : (Fr.mk 2 ep.toNat seq Dt).bytes.length = 512 * fsec m := by rw [Fr.bytes_len]; show 512 * fsec Dt.length = _; rw [hL]
  unfold recB
  exact own_of_blk (h2.bytes hL) h4 (by simp [bv_len, hbl]) (by unfold fsec maxLen; omega) (Nat.le_refl _) (by rw [List.toList_toArray, List.take_of_length_le (by rw [bv_len, hbl]; exact Nat.le_refl _)])
set_option maxRecDepth 100000 in
set_option maxHeartbeats 3200000 in
theorem append_full (hj : Blk w jb 69 (jC c at_ size ep n seq)) {A : Option Addr} {m cc : Nat} {Dt : List Nat} (hr : Rd w A m (bv Dt)) (hl : ∀ z ∈ Dt, z < 256) (he0 : 0 ≤ ep) (he1 : ep ≤ 1099511627776) (hq : seq ≤ 1099511627776) (hm : m ≤ 32768)
    (h0 : 0 ≤ n) (h1 : n ≤ size) (h2 : size ≤ 1000000) (hf : size - n < fsec m) :
    Calls Tryz.prog 14 #[.pointer (some ⟨jb, 0, none⟩), .slice A m cc] w fun e w' => e = .returned (.int .i64 5) ∧ Mod Nn w w' := by
  have c0 : w.cell? ⟨jb, 0, none⟩ = some (.pointer (some ⟨c, 0, none⟩)) := hj.cell 0
  have HJ := Lib.hid (show ∀ w', Mod Nn w.drew w' → Blk w' jb 69 (jC c at_ size ep n seq) from fun w' m => (hj.mod (Mod.refl Nn w).drew (fun f => f)).mod m (fun f => f))
  have hput := fput_all (c := cc) 2 ep (seq : Int) (hr.mod (Mod.refl Nn w).drew (fun _ _ f => f)) hl
  have hL : Dt.length = m := by have := hr.1; rwa [bv_len] at this
  obtain ⟨hp, hb⟩ := pbytes_rec (Dt := Dt) he0 he1 hq (by omega)
  have hbl := recB_len ep seq Dt
  unfold PutP at hput
  rw [hp, hb, hbl, hL] at hput
  obtain ⟨q, hqq⟩ : ∃ q, q = fsec m := ⟨_, rfl⟩
  rw [← hqq] at hput hf
  obtain ⟨p, hpp⟩ : ∃ p, p = 512 * q := ⟨_, rfl⟩
  rw [← hpp] at hput
  have e0 : (p : Int) / 512 = (q : Int) := by omega
  have HX := Lib.hid hpp
  have e1 : IntKind.i64.wrap (size - n) = size - n := by rw [IntKind.wrap_i64]; omega
  have e2 : wrap64 (size - n) = size - n := wrap64_id (by omega) (by omega)
  have hq65 : q ≤ 66 := by rw [hqq]; unfold fsec; omega
  have e7 : wrap64 (q : Int) = q := wrap64_id (by omega) (by omega)
  have g1 : decide (size - n < (q : Int)) = true := decide_eq_true hf
  clear hj hr hl hL hp hb hbl hpp hqq
  go_enter Tryz.func14, Tryz.ntmps14
  go_wp2_with fail
  refine wp_region_planC (fun w' => Mod Nn w.drew w') [(0, true), (1, true), (2, true), (3, true), (4, true), (5, true), (6, true), (7, true), (8, true), (9, true), (10, false), (11, true), (12, true), (13, true), (14, true), (15, true)] (by kernel_rfl) (by kernel_rfl) (Mod.refl _ _) ?_
  iterate 3 (refine pc_pure rfl rfl (fun K hK => ?_); go_simp; refine hK _ ?_; clear hK K)
  refine pc_take (.int .i64 ep) rfl rfl (fun w' hS => exec_load1 (P := Tryz.prog) 3 _ rfl rfl ((HJ.out w' hS).cell 3) Tryz.underlying3 rfl) (fun K hK => ?_); go_simp; refine hK _ ?_; clear hK K
  iterate 3 (refine pc_pure rfl rfl (fun K hK => ?_); go_simp; refine hK _ ?_; clear hK K)
  refine pc_take (.int .i64 seq) rfl rfl (fun w' hS => exec_load1 (P := Tryz.prog) 3 _ rfl rfl ((HJ.out w' hS).cell 5) Tryz.underlying3 rfl) (fun K hK => ?_); go_simp; refine hK _ ?_; clear hK K
  iterate 2 (refine pc_pure rfl rfl (fun K hK => ?_); go_simp; refine hK _ ?_; clear hK K)
  refine pc_call rfl rfl (fun K hK => ?_); go_simp; refine ⟨_, _, ⟨rfl, rfl⟩, hK _ _ _ ?_⟩; clear hK K
  refine hput.mono ?_
  rintro e w1 ⟨A1, c1, rfl, own1, m1⟩
  have M1 := (Mod.refl Nn w).drew.nn_ m1
  have HJ1 := Lib.hid (show ∀ w', Mod Nn w1.drew w' → Blk w' jb 69 (jC c at_ size ep n seq) from fun w' m => HJ.out w' ((m1.nn_ (Mod.refl Nn w1).drew).nn_ m))
  refine ⟨_, rfl, m1, ?_⟩
  clear own1 hput m1
  iterate 5 (refine pc_pure rfl rfl (fun K hK => ?_); go_simp; refine hK _ ?_; clear hK K)
  refine pc_nil ?_
  go_wp2_with fail
  refine wp_region_planC (fun w' => Mod Nn w1.drew w') [(0, true), (1, true), (2, true), (3, true), (4, true), (5, true), (6, true), (7, true), (8, true), (9, true), (10, true), (11, true)] (by kernel_rfl) (by kernel_rfl) (Mod.refl _ _) ?_
  iterate 4 (refine pc_pure rfl rfl (fun K hK => ?_); go_simp; refine hK _ ?_; clear hK K)
  refine pc_take (.int .i64 size) rfl rfl (fun w' hS => exec_load1 (P := Tryz.prog) 3 _ rfl rfl ((HJ1.out w' hS).cell 2) Tryz.underlying3 rfl) (fun K hK => ?_); go_simp; refine hK _ ?_; clear hK K
  iterate 3 (refine pc_pure rfl rfl (fun K hK => ?_); go_simp; refine hK _ ?_; clear hK K)
  refine pc_take (.int .i64 n) rfl rfl (fun w' hS => exec_load1 (P := Tryz.prog) 3 _ rfl rfl ((HJ1.out w' hS).cell 4) Tryz.underlying3 rfl) (fun K hK => ?_); go_simp; refine hK _ ?_; clear hK K
  iterate 3 (refine pc_pure rfl rfl (fun K hK => ?_); go_simp; refine hK _ ?_; clear hK K)
  refine pc_nil ?_
  go_wp2
  go_ret
  exact ⟨rfl, M1.nn_ (Mod.refl Nn w1).drew⟩
/-- what a record appended leaves -/
def AppP (w : World) (jb c b ms mo mk : Nat) (D' : Dk) (most now hits misses : Int) (l : KL) (at_ size ep n : Int) (seq q : Nat) (e : Ending) (w' : World) : Prop :=
  ∃ now' l' T', e = .returned (.int .i64 0) ∧ CAt w' c b ms mo mk D' most now' hits misses l' T' ∧ Blk w' jb 69 (jC c at_ size ep (n + q) ((seq + 1 : Nat) : Int)) ∧ Mod (fun k => InW c b ms mo mk k ∨ k = jb) w w' ∧
    (∀ e ∈ l', ∀ g, Of e.2.A g → (∃ x ∈ l, Of x.2.A g) ∨ w.heap.size ≤ g) ∧ now' ≤ now + q
set_option maxRecDepth 100000 in
set_option maxHeartbeats 6400000 in
theorem append_ok (h : CAt w c b ms mo mk D most now hits misses l T) (hj : Blk w jb 69 (jC c at_ size ep n seq)) (sep : ¬ InA c b ms mo mk l jb) {A : Option Addr} {m cc : Nat} {Dt : List Nat} (hr : Rd w A m (bv Dt)) (hl : ∀ z ∈ Dt, z < 256) (he0 : 0 ≤ ep) (he1 : ep ≤ 1099511627776) (hq : seq ≤ 1099511627776) (hm : m ≤ 32768)
    (h0 : 0 ≤ n) (h1 : n ≤ size) (h2 : size ≤ 1000000) (hf : fsec m ≤ size - n) (ha0 : 0 ≤ at_) (ha1 : at_ ≤ 1000000) (hnow : now ≤ 1000000000000) {D' : Dk} (hw : bwrite D (at_ + n) (natsn (recB ep seq Dt)) = (0, D')) :
    Calls Tryz.prog 14 #[.pointer (some ⟨jb, 0, none⟩), .slice A m cc] w (AppP w jb c b ms mo mk D' most now hits misses l at_ size ep n seq (fsec m)) := by
  have c0 : w.cell? ⟨jb, 0, none⟩ = some (.pointer (some ⟨c, 0, none⟩)) := hj.cell 0
  have HJ := Lib.hid (show ∀ w', Mod Nn w.drew w' → Blk w' jb 69 (jC c at_ size ep n seq) from fun w' m => (hj.mod (Mod.refl Nn w).drew (fun f => f)).mod m (fun f => f))
  have hput := fput_rec (cc := cc) (hr.mod (Mod.refl Nn w).drew (fun _ _ f => f)) hl he0 he1 hq hm rfl
  have hL : Dt.length = m := by have := hr.1; rwa [bv_len] at this
  obtain ⟨q, hqq⟩ : ∃ q, q = fsec m := ⟨_, rfl⟩
  rw [← hqq] at hput hf
  obtain ⟨p, hpp⟩ : ∃ p, p = 512 * q := ⟨_, rfl⟩
  rw [← hpp] at hput
  have e0 : (p : Int) / 512 = (q : Int) := by omega
  have HX := Lib.hid (And.intro hpp (And.intro (recB_len ep seq Dt) (And.intro hL hqq)))
  have HS := Lib.hid (And.intro h (And.intro sep (And.intro hw (And.intro hj.lt h.lt))))
  rw [← hqq]
  have e1 : IntKind.i64.wrap (size - n) = size - n := by rw [IntKind.wrap_i64]; omega
  have e2 : wrap64 (size - n) = size - n := wrap64_id (by omega) (by omega)
  have e3 : IntKind.i64.wrap (at_ + n) = at_ + n := by rw [IntKind.wrap_i64]; omega
  have e4 : wrap64 (at_ + n) = at_ + n := wrap64_id (by omega) (by omega)
  have e5 : wrap64 (n + (q : Int)) = n + q := wrap64_id (by omega) (by omega)
  have e6 : wrap64 ((seq : Int) + 1) = seq + 1 := wrap64_id (by omega) (by omega)
  have g1 : decide (size - n < (q : Int)) = false := decide_eq_false (by omega)
  have hq64 : q ≤ 66 := by rw [hqq]; unfold fsec; omega
  have hp64 : p ≤ 40000 := by omega
  have e7 : wrap64 (q : Int) = q := wrap64_id (by omega) (by omega)
  have HE := Lib.hid (And.intro e3 (And.intro e4 (And.intro e5 (And.intro e6 (And.intro hq64 (And.intro hp64 hf))))))
  clear e3 e4 e5 e6 hq64 hp64 hf
  clear hj hr hl hL hpp hqq h sep hw
  go_enter Tryz.func14, Tryz.ntmps14
  go_wp2_with fail
  refine wp_region_planC (fun w' => Mod Nn w.drew w') [(0, true), (1, true), (2, true), (3, true), (4, true), (5, true), (6, true), (7, true), (8, true), (9, true), (10, false), (11, true), (12, true), (13, true), (14, true), (15, true)] (by kernel_rfl) (by kernel_rfl) (Mod.refl _ _) ?_
  iterate 3 (refine pc_pure rfl rfl (fun K hK => ?_); go_simp; refine hK _ ?_; clear hK K)
  refine pc_take (.int .i64 ep) rfl rfl (fun w' hS => exec_load1 (P := Tryz.prog) 3 _ rfl rfl ((HJ.out w' hS).cell 3) Tryz.underlying3 rfl) (fun K hK => ?_); go_simp; refine hK _ ?_; clear hK K
  iterate 3 (refine pc_pure rfl rfl (fun K hK => ?_); go_simp; refine hK _ ?_; clear hK K)
  refine pc_take (.int .i64 seq) rfl rfl (fun w' hS => exec_load1 (P := Tryz.prog) 3 _ rfl rfl ((HJ.out w' hS).cell 5) Tryz.underlying3 rfl) (fun K hK => ?_); go_simp; refine hK _ ?_; clear hK K
  iterate 2 (refine pc_pure rfl rfl (fun K hK => ?_); go_simp; refine hK _ ?_; clear hK K)
  refine pc_call rfl rfl (fun K hK => ?_); go_simp; refine ⟨_, _, ⟨rfl, rfl⟩, hK _ _ _ ?_⟩; clear hK K
  refine hput.mono ?_
  rintro e w1 ⟨gA, rfl, own1, m1⟩
  have HW1 := Lib.hid own1
  clear own1
  have M1 := (Mod.refl Nn w).drew.nn_ m1
  have HJ1 := Lib.hid (show ∀ w', Mod Nn w1.drew w' → Blk w' jb 69 (jC c at_ size ep n seq) from fun w' m => HJ.out w' ((m1.nn_ (Mod.refl Nn w1).drew).nn_ m))
  refine ⟨_, rfl, m1, ?_⟩
  clear hput m1
  iterate 5 (refine pc_pure rfl rfl (fun K hK => ?_); go_simp; refine hK _ ?_; clear hK K)
  refine pc_nil ?_
  go_wp2_with fail
  refine wp_region_planC (fun w' => Mod Nn w1.drew w') [(0, true), (1, true), (2, true), (3, true), (4, true), (5, true), (6, true), (7, true), (8, true), (9, true), (10, true), (11, true)] (by kernel_rfl) (by kernel_rfl) (Mod.refl _ _) ?_
  iterate 4 (refine pc_pure rfl rfl (fun K hK => ?_); go_simp; refine hK _ ?_; clear hK K)
  refine pc_take (.int .i64 size) rfl rfl (fun w' hS => exec_load1 (P := Tryz.prog) 3 _ rfl rfl ((HJ1.out w' hS).cell 2) Tryz.underlying3 rfl) (fun K hK => ?_); go_simp; refine hK _ ?_; clear hK K
  iterate 3 (refine pc_pure rfl rfl (fun K hK => ?_); go_simp; refine hK _ ?_; clear hK K)
  refine pc_take (.int .i64 n) rfl rfl (fun w' hS => exec_load1 (P := Tryz.prog) 3 _ rfl rfl ((HJ1.out w' hS).cell 4) Tryz.underlying3 rfl) (fun K hK => ?_); go_simp; refine hK _ ?_; clear hK K
  iterate 3 (refine pc_pure rfl rfl (fun K hK => ?_); go_simp; refine hK _ ?_; clear hK K)
  refine pc_nil ?_
  clear e7 e0 e1 e2 g1
  obtain ⟨e3, e4, e5, e6, hq64, hp64, -⟩ := HE.out
  have own1 := HW1.out
  have M2 : Mod Nn w w1.drew.drew := (M1.nn_ (Mod.refl Nn w1).drew).nn_ (Mod.refl Nn _).drew
  have own2 : w1.drew.drew.ownsRow w.drew.heap.size 5 1 (.slice (some ⟨gA, 0, none⟩) p p) p (bv (recB ep seq Dt)) := own_mod own1 ((Mod.refl Nn w1).drew.nn_ (Mod.refl Nn _).drew) (fun _ _ f => f)
  have HJ2 := Lib.hid (show ∀ w', Mod (InW c b ms mo mk) w1.drew.drew w' → Blk w' jb 69 (jC c at_ size ep n seq) from fun w' m => (HJ1.out _ (Mod.refl Nn _).drew).mod m (fun hin => HS.out.2.1 (inA_of hin)))
  have HO := Lib.hid (And.intro own2 M2)
  clear own1 own2 M1 M2
  go_wp2_with fail
  refine wp_region_planC (fun w' => Mod (InW c b ms mo mk) w1.drew.drew w') [(0, true), (1, true), (2, true), (3, true), (4, true), (5, true), (6, true), (7, true), (8, true), (9, true), (10, true), (11, true), (12, true), (13, true), (14, false), (15, true)] (by kernel_rfl) (by kernel_rfl) (Mod.refl _ _) ?_
  iterate 3 (refine pc_pure rfl rfl (fun K hK => ?_); go_simp; refine hK _ ?_; clear hK K)
  refine pc_take (.pointer (some ⟨c, 0, none⟩)) rfl rfl (fun w' hS => exec_load1 (P := Tryz.prog) 32 _ rfl rfl ((HJ2.out w' hS).cell 0) Tryz.underlying32 rfl) (fun K hK => ?_); go_simp; refine hK _ ?_; clear hK K
  iterate 3 (refine pc_pure rfl rfl (fun K hK => ?_); go_simp; refine hK _ ?_; clear hK K)
  refine pc_take (.int .i64 at_) rfl rfl (fun w' hS => exec_load1 (P := Tryz.prog) 3 _ rfl rfl ((HJ2.out w' hS).cell 1) Tryz.underlying3 rfl) (fun K hK => ?_); go_simp; refine hK _ ?_; clear hK K
  iterate 3 (refine pc_pure rfl rfl (fun K hK => ?_); go_simp; refine hK _ ?_; clear hK K)
  refine pc_take (.int .i64 n) rfl rfl (fun w' hS => exec_load1 (P := Tryz.prog) 3 _ rfl rfl ((HJ2.out w' hS).cell 4) Tryz.underlying3 rfl) (fun K hK => ?_); go_simp; refine hK _ ?_; clear hK K
  iterate 2 (refine pc_pure rfl rfl (fun K hK => ?_); go_simp; refine hK _ ?_; clear hK K)
  refine pc_call rfl rfl (fun K hK => ?_); go_simp; refine ⟨_, _, ⟨rfl, rfl⟩, hK _ _ _ ?_⟩; clear hK K
  have hlt := HS.out.2.2.2.2
  refine (bwrite_any (HS.out.1.quiet HO.out.2) (at_ + n) (by omega) (n := p) (bs := natsn (recB ep seq Dt)) (by rw [bv_natsn]; exact Rd.of_own HO.out.1) (Nat.le_refl p) (by omega) (by omega) (fun g hg => by
    obtain ⟨a, ha, hga⟩ := hg
    injection ha with ha; subst ha
    have hga : gA = g := hga
    subst hga
    have h1 : w.heap.size ≤ gA := own_ge HO.out.1 gA rfl
    obtain ⟨_, _, e, _, h2⟩ := own_form HO.out.1
    exact ⟨fun hin => by have := hlt gA (inA_of hin); omega, (h2 gA (by injection e with e1 _ _; rw [← e1]; exact ⟨_, rfl, rfl⟩)).2⟩)).mono ?_
  rintro e w2 ⟨now2, l2, T2, rfl, hC2, hT2, hn2⟩
  rw [HS.out.2.2.1] at hC2
  rw [HS.out.2.2.1]
  refine ⟨_, rfl, hT2.md, ?_⟩
  have bj := HJ2.out w2 hT2.md
  have C4 : w2.cell? ⟨jb, 4, none⟩ = some (.int .i64 n) := bj.cell 4
  have C5 : w2.cell? ⟨jb, 5, none⟩ = some (.int .i64 (seq : Int)) := bj.cell 5
  have f4 := bj.frozen 4
  have f5 := bj.frozen 5
  have HF := Lib.hid (And.intro hC2 (And.intro hT2 (And.intro hn2 bj)))
  clear hC2 hT2 hn2 bj hlt
  clear hq64 hp64 e3 e4
  iterate 1 (refine pc_pure rfl rfl (fun K hK => ?_); go_simp; refine hK _ ?_; clear hK K)
  refine pc_nil ?_
  go_wp2
  go_ret
  obtain ⟨hC2, hT2, hn2, bj⟩ := HF.out
  have m3 : Mod (At jb) w2 (w2.setCell ⟨jb, 4, none⟩ (.int .i64 (n + q))) := Mod.cellAt _ _ _ _
  have m4 : Mod (At jb) (w2.setCell ⟨jb, 4, none⟩ (.int .i64 (n + q))) ((w2.setCell ⟨jb, 4, none⟩ (.int .i64 (n + q))).setCell ⟨jb, 5, none⟩ (.int .i64 (seq + 1))) := Mod.cellAt _ _ _ _
  have sep2 : ∀ k, InA c b ms mo mk l2 k → ¬ At jb k := fun k hk e => by
    have e : k = jb := e
    subst e
    rcases hT2.A hk with h1 | h1
    · exact HS.out.2.1 h1
    · have h2 := HO.out.2.size
      have h3 := HS.out.2.2.2.1
      omega
  refine ⟨now2, l2, T2, rfl, (hC2.mod m3 sep2).mod m4 sep2, ?_, ?_, ?_, ?_⟩
  · have := (bj.set_ 4 (.int .i64 (n + q))).set_ 5 (.int .i64 ((seq + 1 : Nat) : Int))
    exact this
  · exact (HO.out.2.mono (fun _ _ f => f.elim)).trans ((hT2.md.mono (fun _ _ e => .inl e)).trans ((m3.mono (fun _ _ e => .inr e)).trans (m4.mono (fun _ _ e => .inr e))))
  · exact fun e he g hg => (hT2.G e he g hg).imp id (fun h1 => Nat.le_trans HO.out.2.size h1)
  · have e1 : (natsn (recB ep seq Dt)).length = p := by
      unfold natsn; rw [List.length_map, HX.out.2.1, HX.out.2.2.1, ← HX.out.2.2.2, HX.out.1]
    rw [e1] at hn2
    have := HX.out.1
    omega
end
end Go.Proofs.YtijmkbhbpbkkoaaGreat

/- A region that draws its order, by a plan with pairs (Kit16): a call that comes up alone. No program is named. -/
namespace Go.Proofs.YtijmkbhbpbkkoaaGreat
open Go.RowKit

section
variable {P : Program} {ops : Array Oper} {Q : Exit → Act → World → Prop} {S : World → Prop} {c k : Nat} {d : Bool} {ps : List (Nat × Nat)} {a : Act} {w : World} {o : Oper}
theorem pu_call (ho : ops[k]? = some o) (hg : ∀ y, Region.wanted o y = true)
    (h : ∀ K : FuncId → Array Value → (Value → Act) → Prop, (∀ f args (cc : Value → Act), (Calls P f args w fun e w1 => ∃ v, e = .returned v ∧ ((d || k == c) = false → S w1) ∧ wpPU P ops Q S c ps (d || k == c) (cc v) w1) → K f args cc) →
      ∃ f args, (execOp a.eval o).run P w = .ok (.enter f args) w ∧ K f args (fun v => a.put o.dst v)) : wpPU P ops Q S c ((k, 2) :: ps) d a w := by
  obtain ⟨f, args, hrun, hc⟩ := h _ (fun _ _ _ h => h)
  exact ⟨o, ho, hg, by
    unfold Oper.wp; rw [hrun]
    exact hc.mono fun e w1 hr => by obtain ⟨v, rfl, h1, h2⟩ := hr; exact ⟨h1, h2⟩⟩
end
end Go.Proofs.YtijmkbhbpbkkoaaGreat

/- journal.Clear (printed by wip/gen/jn4.py). -/
namespace Go.Proofs.YtijmkbhbpbkkoaaGreat
open Go.RowKit

theorem mayE_yes {g : Geo} {ep n : Int} (h : jmay g ep n) : mayE g ep n = 0 := if_pos h
theorem mayE_no {g : Geo} {ep n : Int} (h : ¬ jmay g ep n) : mayE g ep n = 2 := if_neg h
theorem half_bound {g : Geo} (h : g.right) (ep : Int) : 2 ≤ g.half ep ∧ g.half ep + g.j ≤ g.sectors ∧ 8 ≤ g.j ∧ g.j ≤ 64 ∧ g.sectors ≤ 262144 := by
  have hb := Geo.sec_bound h
  have hh : g.half ep = 2 + ep % 2 * g.j := rfl
  have h2 : ep % 2 = 0 ∨ ep % 2 = 1 := by omega
  rw [hh]
  rcases h2 with e | e <;> rw [e] <;> omega
section
variable {w : World} {c b ms mo mk : Nat} {D D' : Dk} {most now hits misses : Int} {l : KL} {T : TL}
set_option maxRecDepth 100000 in
set_option maxHeartbeats 1600000 in
theorem clear_nil (g : Geo) (ep : Int) (w : World) : Calls Tryz.prog 10 #[.pointer none, gV g, .int .i64 ep] w fun e w' => e = .returned (.int .i64 1) ∧ Mod Nn w w' := by
  have m1 : Mod Nn w (w.alloc (.cells (gC g) 23)) := (Mod.refl Nn w).alloc _
  have b1 : Blk (w.alloc (.cells (gC g) 23)) w.heap.size 23 (gC g) := Blk.new _ _ _
  have H1 := Lib.hid (And.intro m1 b1)
  have HR := Lib.hid (fun w => jmay_nil g ep w)
  clear m1 b1
  unfold gV gC at *
  go_enter Tryz.func10, Tryz.ntmps10
  go_wp2_with (first
    | (with_reducible change wpList _ _ _ (⟨some 9, Op.load _ _, _, _, _, _⟩ :: _) _ _
       go_must (refine wpList_load_var 23 _ rfl rfl w.heap.size #[.int .i64 g.v, .int .i64 g.S, .int .i64 g.s, .int .i64 g.u, .int .i64 g.j] _ _ rfl H1.out.2 Tryz.underlying23 rfl size_geo ?_)))
  refine (HR.out _).mono ?_
  rintro r w2 ⟨rfl, m2⟩
  have M := H1.out.1.nn_ m2
  clear m2
  go_wp2
  go_ret
  exact ⟨rfl, M⟩
set_option maxRecDepth 100000 in
set_option maxHeartbeats 1600000 in
theorem clear_no (h : CAt w c b ms mo mk D most now hits misses l T) (g : Geo) (ep : Int) (hn : ¬ jmay g ep D.n) : Calls Tryz.prog 10 #[.pointer (some ⟨c, 0, none⟩), gV g, .int .i64 ep] w fun e w' => e = .returned (.int .i64 2) ∧ Mod Nn w w' := by
  have m1 : Mod Nn w (w.alloc (.cells (gC g) 23)) := (Mod.refl Nn w).alloc _
  have b1 : Blk (w.alloc (.cells (gC g) 23)) w.heap.size 23 (gC g) := Blk.new _ _ _
  have H1 := Lib.hid (And.intro m1 b1)
  have hr := jmay_any (h.quiet m1) g ep
  rw [mayE_no hn] at hr
  have HR := Lib.hid hr; clear hr h hn
  clear m1 b1
  unfold gV gC at *
  go_enter Tryz.func10, Tryz.ntmps10
  go_wp2_with (first
    | (with_reducible change wpList _ _ _ (⟨some 9, Op.load _ _, _, _, _, _⟩ :: _) _ _
       go_must (refine wpList_load_var 23 _ rfl rfl w.heap.size #[.int .i64 g.v, .int .i64 g.S, .int .i64 g.s, .int .i64 g.u, .int .i64 g.j] _ _ rfl H1.out.2 Tryz.underlying23 rfl size_geo ?_)))
  refine HR.out.mono ?_
  rintro r w2 ⟨rfl, m2⟩
  have M := H1.out.1.nn_ m2
  clear m2
  go_wp2
  go_ret
  exact ⟨rfl, M⟩
/-- what Clear leaves -/
def ClP (w : World) (c b ms mo mk : Nat) (D' : Dk) (most now hits misses : Int) (l : KL) (e : Ending) (w' : World) : Prop :=
  ∃ now' l' T', e = .returned (.int .i64 0) ∧ CAt w' c b ms mo mk D' most now' hits misses l' T' ∧ CTo w w' c b ms mo mk l l' ∧ now' ≤ now + 64
theorem CTo.nn_l {w w1 w2 : World} {l' : KL} (m : Mod Nn w w1) (h : CTo w1 w2 c b ms mo mk l l') : CTo w w2 c b ms mo mk l l' :=
  ⟨(m.mono (fun _ _ f => f.elim)).trans h.md, fun e he g hg => (h.G e he g hg).imp id (fun h1 => Nat.le_trans m.size h1)⟩
set_option maxRecDepth 100000 in
set_option maxHeartbeats 3200000 in
theorem clear_ok (h : CAt w c b ms mo mk D most now hits misses l T) (g : Geo) (ep : Int) (hm : jmay g ep D.n) (hnow : now ≤ 1000000000000) (hw : bwrite D (g.half ep) (List.replicate (512 * g.j.toNat) 0) = (0, D')) :
    Calls Tryz.prog 10 #[.pointer (some ⟨c, 0, none⟩), gV g, .int .i64 ep] w (ClP w c b ms mo mk D' most now hits misses l) := by
  have m1 : Mod Nn w (w.alloc (.cells (gC g) 23)) := (Mod.refl Nn w).alloc _
  have b1 : Blk (w.alloc (.cells (gC g) 23)) w.heap.size 23 (gC g) := Blk.new _ _ _
  have H1 := Lib.hid (And.intro m1 b1)
  have hr := jmay_any (h.quiet m1) g ep
  rw [mayE_yes hm] at hr
  have HR := Lib.hid hr; clear hr
  have hb := half_bound hm.1 ep
  obtain ⟨q, hq⟩ : ∃ q : Nat, q = g.j.toNat := ⟨_, rfl⟩
  have hgj : g.j = (q : Int) := by omega
  have HH := Lib.hid (fun w => lhalf_any g ep w hm.1 hm.2.1 (by have := hm.2.2.1; omega))
  obtain ⟨hf, hhf⟩ : ∃ hf, hf = g.half ep := ⟨_, rfl⟩
  rw [← hhf] at HH hw hb
  rw [← hq] at hw
  have HS := Lib.hid (And.intro h (And.intro hw (And.intro hb h.lt)))
  obtain ⟨p, hp⟩ : ∃ p, p = 512 * q := ⟨_, rfl⟩
  have e1 : wrap64 (512 * (q : Int)) = (p : Int) := by rw [wrap64_id (by omega) (by omega)]; omega
  have e2 : IntKind.i64.wrap (512 * (q : Int)) = (p : Int) := by rw [IntKind.wrap_i64]; omega
  have HQ := Lib.hid (And.intro (show q ≤ 64 by omega) hp)
  clear m1 b1 h hm hw hb hhf hq hp
  unfold gV gC at *
  generalize g.j = J at *
  subst hgj
  go_enter Tryz.func10, Tryz.ntmps10
  go_wp2_with (first
    | (with_reducible change wpList _ _ _ (⟨some 9, Op.load _ _, _, _, _, _⟩ :: _) _ _
       go_must (refine wpList_load_var 23 _ rfl rfl w.heap.size #[.int .i64 g.v, .int .i64 g.S, .int .i64 g.s, .int .i64 g.u, .int .i64 (q : Int)] _ _ rfl H1.out.2 Tryz.underlying23 rfl size_geo ?_)))
  refine HR.out.mono ?_
  rintro r w2 ⟨rfl, m2⟩
  have M2 := (H1.out.1.nn_ m2).nn_ (Mod.refl Nn w2).drew
  have HB := Lib.hid (show ∀ w', Mod Nn w2.drew w' → Blk w' w.heap.size 23 #[.int .i64 g.v, .int .i64 g.S, .int .i64 g.s, .int .i64 g.u, .int .i64 (q : Int)] from fun w' m => ((H1.out.2.mod m2 (fun f => f)).mod (Mod.refl Nn w2).drew (fun f => f)).mod m (fun f => f))
  have HM := Lib.hid M2
  clear m2 M2
  go_wp2_with fail
  refine wp_region_planU (fun w' => Mod Nn w2.drew w') 8 [(0, 0), (1, 1), (2, 0), (4, 0), (5, 1), (6, 0), (7, 6), (8, 2), (9, 0)] (by kernel_rfl) (by kernel_rfl) (Mod.refl _ _) ?_
  iterate 1 (refine pu_pure rfl rfl (fun K hK => ?_); go_simp; refine hK _ ?_; clear hK K)
  refine pu_take _ rfl rfl (fun w' hS => exec_load_row (P := Tryz.prog) 23 _ rfl rfl (HB.out w' hS) Tryz.underlying23 rfl size_geo) (fun K hK => ?_); go_simp; refine hK _ ?_; clear hK K
  iterate 2 (refine pu_pure rfl rfl (fun K hK => ?_); go_simp; refine hK _ ?_; clear hK K)
  refine pu_take (.int .i64 (q : Int)) rfl rfl (fun w' hS => exec_load1 (P := Tryz.prog) 3 _ rfl rfl ((HB.out w' hS).cell 4) Tryz.underlying3 rfl) (fun K hK => ?_); go_simp; refine hK _ ?_; clear hK K
  iterate 1 (refine pu_pure rfl rfl (fun K hK => ?_); go_simp; refine hK _ ?_; clear hK K)
  refine pu_pair rfl rfl (fun _ => rfl) (fun _ => rfl) (fun K hK => ?_)
  have hmk : ∀ (W : World) (a : Act) (o : Oper), o.op = .makeSlice 29 (.tmp 21) (.tmp 21) → a.eval (.tmp 21) = .int .i64 (p : Int) → (execOp a.eval o).run Tryz.prog W = .ok (.value (.slice (some ⟨W.heap.size, 0, none⟩) p p)) (W.alloc (.cells (Array.replicate p (.int .u8 0)) 5)) :=
    fun W a o ho ha => exec_make1 (P := Tryz.prog) 29 _ _ ho 5 (.int .u8 0) 1 Tryz.underlying29 info_byte rfl p p ha ha (Nat.le_refl _) (by have := HQ.out; omega) (by have := HQ.out; omega)
  refine ⟨_, _, 29, #[.agg #[.int .i64 g.v, .int .i64 g.S, .int .i64 g.s, .int .i64 g.u, .int .i64 (q : Int)], .int .i64 ep], ⟨hmk _ _ _ rfl rfl, by go_simp, by go_simp⟩, fun _ => (Mod.refl Nn w2.drew).alloc _, ?_, ?_⟩
  · refine (HH.out _).mono ?_
    rintro r w3 ⟨rfl, m3⟩
    refine ⟨_, rfl, fun _ => ((Mod.refl Nn w2.drew).alloc _).nn_ m3, ?_⟩
    have bz := (Blk.new w2.drew 5 (Array.replicate p (.int .u8 0))).mod m3 (fun f => f)
    have mz : Mod Nn w2.drew w3 := ((Mod.refl Nn w2.drew).alloc _).nn_ m3
    generalize hgq : w2.drew.heap.size = gz at bz ⊢
    have hgz : w2.drew.heap.size ≤ gz := Nat.le_of_eq hgq
    clear hgq
    have Hz := Lib.hid (And.intro bz (And.intro mz hgz))
    clear bz mz hgz
    refine hK _ _ ?_
    clear hK K
    go_simp
    refine pu_call rfl (fun _ => rfl) (fun K hK => ?_); go_simp; refine ⟨_, _, ⟨rfl, rfl⟩, hK _ _ _ ?_⟩; clear hK K
    clear hmk
    refine (bwrite_any (HS.out.1.quiet (HM.out.nn_ Hz.out.2.1)) hf (by have := HS.out.2.2.1; omega) (n := p) (cc := p) (bs := List.replicate p 0) (by rw [List.map_replicate]; exact Rd.of_blk0 (by have := Hz.out.1; rwa [← List.toArray_replicate] at this) (by simp)) (Nat.le_refl p) (by have := HQ.out; omega) (by have := HQ.out; omega) (fun g' hg' => by
      obtain ⟨a', ha', hga⟩ := hg'
      injection ha' with ha'; subst ha'
      have hga : gz = g' := hga
      subst hga
      exact ⟨fun hin => by have := HS.out.2.2.2 gz (inA_of hin); have h1 := HM.out.size; have h2 := Hz.out.2.2; omega, Hz.out.1.lt⟩)).mono ?_
    rintro r w4 ⟨now4, l4, T4, rfl, hC4, hT4, hn4⟩
    have hw4 : bwrite D hf (List.replicate p 0) = (0, D') := by rw [HQ.out.2]; exact HS.out.2.1
    rw [hw4] at hC4 ⊢
    refine ⟨_, rfl, (fun h => by simp at h), ?_⟩
    have HF := Lib.hid (And.intro hC4 (And.intro (CTo.nn_l (HM.out.nn_ Hz.out.2.1) hT4) hn4))
    clear hC4 hT4 hn4 hw4
    iterate 1 (refine pu_pure rfl rfl (fun K hK => ?_); go_simp; refine hK _ ?_; clear hK K)
    refine pu_nil ?_
    go_wp2
    go_ret
    exact ⟨now4, l4, T4, rfl, HF.out.1, HF.out.2.1, by have h1 := HF.out.2.2; have h2 := HQ.out; rw [List.length_replicate] at h1; omega⟩
  · refine (HH.out _).mono ?_
    rintro r w3 ⟨rfl, m3⟩
    refine ⟨_, rfl, fun _ => m3, _, _, hmk _ _ _ rfl rfl, fun _ => m3.alloc _, ?_⟩
    have bz := Blk.new w3 5 (Array.replicate p (.int .u8 0))
    have mz : Mod Nn w2.drew (w3.alloc (.cells (Array.replicate p (.int .u8 0)) 5)) := m3.alloc _
    have hgz := m3.size
    generalize w3.alloc (.cells (Array.replicate p (.int .u8 0)) 5) = Z at bz mz ⊢
    generalize w3.heap.size = gz at bz hgz ⊢
    have Hz := Lib.hid (And.intro bz (And.intro mz hgz))
    clear bz mz hgz
    refine hK _ _ ?_
    clear hK K
    go_simp
    refine pu_call rfl (fun _ => rfl) (fun K hK => ?_); go_simp; refine ⟨_, _, ⟨rfl, rfl⟩, hK _ _ _ ?_⟩; clear hK K
    clear hmk
    refine (bwrite_any (HS.out.1.quiet (HM.out.nn_ Hz.out.2.1)) hf (by have := HS.out.2.2.1; omega) (n := p) (cc := p) (bs := List.replicate p 0) (by rw [List.map_replicate]; exact Rd.of_blk0 (by have := Hz.out.1; rwa [← List.toArray_replicate] at this) (by simp)) (Nat.le_refl p) (by have := HQ.out; omega) (by have := HQ.out; omega) (fun g' hg' => by
      obtain ⟨a', ha', hga⟩ := hg'
      injection ha' with ha'; subst ha'
      have hga : gz = g' := hga
      subst hga
      exact ⟨fun hin => by have := HS.out.2.2.2 gz (inA_of hin); have h1 := HM.out.size; have h2 := Hz.out.2.2; omega, Hz.out.1.lt⟩)).mono ?_
    rintro r w4 ⟨now4, l4, T4, rfl, hC4, hT4, hn4⟩
    have hw4 : bwrite D hf (List.replicate p 0) = (0, D') := by rw [HQ.out.2]; exact HS.out.2.1
    rw [hw4] at hC4 ⊢
    refine ⟨_, rfl, (fun h => by simp at h), ?_⟩
    have HF := Lib.hid (And.intro hC4 (And.intro (CTo.nn_l (HM.out.nn_ Hz.out.2.1) hT4) hn4))
    clear hC4 hT4 hn4 hw4
    iterate 1 (refine pu_pure rfl rfl (fun K hK => ?_); go_simp; refine hK _ ?_; clear hK K)
    refine pu_nil ?_
    go_wp2
    go_ret
    exact ⟨now4, l4, T4, rfl, HF.out.1, HF.out.2.1, by have h1 := HF.out.2.2; have h2 := HQ.out; rw [List.length_replicate] at h1; omega⟩
end
end Go.Proofs.YtijmkbhbpbkkoaaGreat
