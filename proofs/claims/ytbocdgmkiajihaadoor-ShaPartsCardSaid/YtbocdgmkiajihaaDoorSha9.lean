/- The once of a hash; Sum. -/
import Derived.Test.YtbocdgmkiajihaaDoorSha8
import Derived.Test.YtbocdgmkiajihaaDoorOnce1
namespace Go.Proofs.YtbocdgmkiajihaaDoor
open Go.RowKit

theorem load_any (a : Addr) (x : Int) (c : Bool) (w : World) (h0 : w.cell? a = some (.int .u32 x)) (hc : (x != 0) = c) :
    Calls Tryd.prog 29 #[.pointer (some a)] w fun e w' => e = .returned (.bool c) ∧ w = w' := by
  have hl := run_call_load (P := Tryd.prog) Tryd.func33 (by kernel_rfl) (by kernel_rfl) (by kernel_rfl) .u32 (by kernel_rfl) h0
  go_enter Tryd.func29, Tryd.ntmps29
  go_wp2
  go_ret
  exact ⟨rfl, rfl⟩
section
variable {w w' : World} {hb sb : Nat} {rv : Value} {t : List Nat} {d st : Int}
theorem HA.hB (h : HA w hb sb rv t) : HB w hb sb rv t 0 0 := ⟨h.blk, h.st, h.row, h.h1, h.s1, h.r0, h.lt⟩
theorem HB.keep (h : HB w hb sb rv t d st) (hm : Mod (At hb) w w') {d' st' : Int} (hb' : Blk w' hb 48 (hashC (.pointer (some ⟨sb, 0, none⟩)) rv (t.length : Int) d' st' false z32)) : HB w' hb sb rv t d' st' :=
  ⟨hb', h.st.mod hm (fun e => Blk.ne_ h.blk h.st (by decide) (by have e : sb = hb := e; exact e.symm)), own_mod h.row hm (fun g hg e => by have e : g = hb := e; subst e; exact own_ne h.row h.blk (by decide) hg), h.h1, h.s1, h.r0, h.lt⟩
/-- a hash that told its digest -/
def HT (w : World) (hb sb : Nat) (rv : Value) (n : Int) (k : List Nat) : Prop := Blk w hb 48 (hashC (.pointer (some ⟨sb, 0, none⟩)) rv n 1 0 true k)
set_option maxRecDepth 100000 in
set_option maxHeartbeats 1600000 in
theorem slow_any (hg : Gl w) (h : HB w hb sb rv t 0 0) (hN : t.length ≤ 1099511627776) :
    Calls Tryd.prog 30 #[.pointer (some ⟨hb, 3, none⟩), .func (.func 24) #[.pointer (some ⟨hb, 0, none⟩)] #[]] w fun r w' => r = .returned (.tuple #[]) ∧
      HT w' hb sb rv (t.length : Int) (digL t) ∧ Mod (InH hb sb rv) w w' := by
  have hnot : ∀ (x : Bool) (w : World), (Op.unary .not (.bool x)).run Tryd.prog w = .ok (.bool (!x)) w := fun _ _ => rfl
  have hl : w.cell? ⟨hb, 4, none⟩ = some (.int .i32 0) := (h.blk.cell 4).trans hashC_4
  have hlz := h.blk.frozen 4
  have hi1 : ∀ g, InH hb sb rv g → 1 < g := InH.n1 h
  go_enter_defers Tryd.func30, Tryd.ntmps30
  go_wp2_with fail
  refine (lock_free ⟨hb, 4, none⟩ _ hl hlz).mono ?_
  rintro r w1 ⟨rfl, hw⟩
  have m1 : Mod (At hb) w w1 := by rw [← hw]; exact Mod.cellAt _ _ _ _
  have hb1 : HB w1 hb sb rv t 0 1 := h.keep m1 (by rw [← hw, ← hashC_s4 (st := 0)]; exact h.blk.set_ 4 _)
  have hg1 : Gl w1 := hg.mod m1 (fun e => by have e : 0 = hb := e; have := h.h1; omega) (fun e => by have e : 1 = hb := e; have := h.h1; omega)
  have HH := Lib.hid (And.intro hg (And.intro h hi1))
  clear hl hlz hw h hg hi1
  have hfin := finish_any hg1 hb1 hN
  go_wp2_with fail
  refine (load_any ⟨hb, 3, none⟩ 0 false _ ((hb1.blk.cell 3).trans hashC_3) rfl).mono ?_
  rintro r w2 ⟨rfl, rfl⟩
  have M1 := Lib.hid m1
  clear hb1 hg1 m1
  go_wp2_with fail
  refine hfin.mono ?_
  rintro r w3 ⟨rfl, hb3, m3⟩
  clear hfin
  go_wp2
  refine leaves_cons (f := 36) (args := #[.pointer (some ⟨hb, 3, none⟩), .bool true]) (by simp) (by simp [go_sem]) ?_
  refine (store_deferred ⟨hb, 3, none⟩ (.int .u32 0) .returning _ ((hb3.cell 3).trans hashC_3) (hb3.frozen 3)).mono ?_
  rintro r u' w4 ⟨rfl, rfl, hw⟩
  have hb4 : Blk w4 hb 48 (hashC (.pointer (some ⟨sb, 0, none⟩)) rv (t.length : Int) 1 1 true (digL t)) := by
    rw [hw, ← hashC_s3 (d := 0)]; exact hb3.drew.set_ 3 _
  have m4 : Mod (At hb) w3 w4 := by rw [hw]; exact ((Mod.refl (At hb) w3).drew).setCell (p := ⟨hb, 3, none⟩) (.inr rfl) _
  refine leaves_cons (f := 35) (args := #[.pointer (some ⟨hb, 4, none⟩)]) (by simp [settle]) (by simp [go_sem]) ?_
  refine (unlock_deferred ⟨hb, 4, none⟩ _ _ ((hb4.cell 4).trans hashC_4) (hb4.frozen 4)).mono ?_
  rintro r u'' w5 ⟨rfl, rfl, hw5⟩
  have hb5 : HT w5 hb sb rv (t.length : Int) (digL t) := by
    unfold HT
    rw [hw5, ← hashC_s4 (st := 1)]; exact hb4.set_ 4 _
  have m5 : Mod (At hb) w4 w5 := by rw [hw5]; exact Mod.cellAt _ _ _ _
  have hend : HT w5 hb sb rv (t.length : Int) (digL t) ∧ Mod (InH hb sb rv) w w5 := ⟨hb5, (((M1.out.mono (fun _ _ e => .inl e)).trans m3).then_ m4 (fun _ _ e => .inl e)).then_ m5 (fun _ _ e => .inl e)⟩
  have HE := Lib.hid hend
  simp [Leaves, settle, results, Tryd.results30]
  exact HE.out
set_option maxRecDepth 100000 in
set_option maxHeartbeats 1600000 in
theorem do_first (hg : Gl w) (h : HB w hb sb rv t 0 0) (hN : t.length ≤ 1099511627776) :
    Calls Tryd.prog 23 #[.pointer (some ⟨hb, 3, none⟩), .func (.func 24) #[.pointer (some ⟨hb, 0, none⟩)] #[]] w fun r w' => r = .returned (.tuple #[]) ∧
      HT w' hb sb rv (t.length : Int) (digL t) ∧ Mod (InH hb sb rv) w w' := by
  have hnot : ∀ (x : Bool) (w : World), (Op.unary .not (.bool x)).run Tryd.prog w = .ok (.bool (!x)) w := fun _ _ => rfl
  have hc := (h.blk.cell 3).trans hashC_3
  have hsl := slow_any hg h hN
  clear h hg
  go_enter Tryd.func23, Tryd.ntmps23
  go_wp2_with fail
  refine (load_any ⟨hb, 3, none⟩ 0 false _ hc rfl).mono ?_
  rintro r w2 ⟨rfl, rfl⟩
  clear hc
  go_wp2_with fail
  refine hsl.mono ?_
  rintro r w3 ⟨rfl, hb3, m3⟩
  clear hsl
  have HE := Lib.hid (And.intro hb3 m3)
  clear hb3 m3
  go_wp2
  go_end0
  exact ⟨rfl, HE.out⟩
set_option maxRecDepth 100000 in
set_option maxHeartbeats 1600000 in
theorem do_done {n : Int} {k : List Nat} (fv : Value) (h : HT w hb sb rv n k) :
    Calls Tryd.prog 23 #[.pointer (some ⟨hb, 3, none⟩), fv] w fun r w' => r = .returned (.tuple #[]) ∧ w = w' := by
  have hnot : ∀ (x : Bool) (w : World), (Op.unary .not (.bool x)).run Tryd.prog w = .ok (.bool (!x)) w := fun _ _ => rfl
  have hc := (Blk.cell h 3).trans hashC_3
  clear h
  go_enter Tryd.func23, Tryd.ntmps23
  go_wp2_with fail
  refine (load_any ⟨hb, 3, none⟩ 1 true _ hc rfl).mono ?_
  rintro r w2 ⟨rfl, rfl⟩
  clear hc
  go_wp2
  go_end0
  exact ⟨rfl, rfl⟩
theorem hash_keyc {s r : Value} {n d st : Int} {told : Bool} {k : List Nat} (h : Blk w hb 48 (hashC s r n d st told k)) : ∀ (j : Nat) (v : Value), (u8s k)[j]? = some v → w.cell? ⟨hb, 7 + j, none⟩ = some v := fun j v hv => by
  rw [h.cell (7 + j)]
  unfold hashC
  rw [List.getElem?_toArray, List.getElem?_append_right (by simp)]
  simpa using hv
theorem digL_len (t : List Nat) : (digL t).length = 32 := keyL_len _
theorem zeroK_size : (u8s (List.replicate 32 0)).toArray.size = 32 := by simp [u8s]
def SumP (w : World) (S : Nat → Prop) (hb sb : Nat) (rv : Value) (n : Int) (k : List Nat) (e : Ending) (w' : World) : Prop := e = .returned (.agg (u8s k).toArray) ∧ HT w' hb sb rv n k ∧ Mod S w w'
set_option maxRecDepth 100000 in
set_option maxHeartbeats 1600000 in
theorem sum_first (hg : Gl w) (h : HA w hb sb rv t) (hN : t.length ≤ 1099511627776) : Calls Tryd.prog 15 #[.pointer (some ⟨hb, 0, none⟩)] w (SumP w (InH hb sb rv) hb sb rv (t.length : Int) (digL t)) := by
  have H := Lib.hid (And.intro hg h)
  clear hg h
  go_enter Tryd.func15, Tryd.ntmps15
  go_upto_region 1 with (first
    | (with_reducible change wpList _ _ _ (⟨some 2, Op.alloc _, _, _, _, _⟩ :: _) _ _
       go_must (refine wpList_alloc_var 26 rfl rfl zeroK ?_)
       intro w1 b1 m1 z1
       have B1 := Lib.hid (show Blk w1 w.heap.size 26 (u8s (List.replicate 32 0)).toArray ∧ Mod Nn w w1 from ⟨b1, m1⟩)
       clear b1 m1 z1))
  obtain ⟨KB, hKB⟩ : ∃ x, w.heap.size = x := ⟨_, rfl⟩
  rw [hKB] at B1 ⊢
  have HKB := Lib.hid hKB
  clear hKB
  have hA := H.out.2.nn B1.out.2
  have c0 : w1.cell? ⟨hb, 0, none⟩ = some (.pointer (some ⟨sb, 0, none⟩)) := (hA.blk.cell 0).trans hashC_0
  have hdo := do_first (H.out.1.nn B1.out.2) hA.hB hN
  have HA1 := Lib.hid hA
  clear hA
  go_wp2_with fail
  refine hdo.mono ?_
  rintro r w2 ⟨rfl, h2, m2⟩
  clear hdo c0
  have hbk := B1.out.1.mod m2 (fun e => by have := HA1.out.inlt KB e; have := H.out.2.inlt KB e; have := HKB.out; omega)
  have h2k := hash_keyc h2
  have hsz : (u8s (digL t)).length = 32 := by rw [u8s_len, digL_len]
  have hszk : (u8s (List.replicate 32 0)).toArray.size = (u8s (digL t)).toArray.size := by rw [zeroK_size]; simp [hsz]
  have HX := Lib.hid (And.intro h2 (And.intro m2 (And.intro hbk (And.intro h2k (And.intro hsz hszk)))))
  clear h2 m2 hbk h2k hsz hszk
  go_wp2_with (first
    | (with_reducible change wpList _ _ _ (⟨some 22, _, _, _, _, _⟩ :: _) _ _
       go_must (refine wpList_val rfl (exec_load_cells (P := Tryd.prog) 26 _ rfl (cs := u8s (digL t)) rfl HX.out.2.2.2.1 Tryd.underlying26 rfl (by rw [sizeK, HX.out.2.2.2.2.1])) ?_))
    | (with_reducible change wpList _ _ _ (⟨none, Op.store 26 (Operand.tmp 2) _, _, _, _, _⟩ :: _) _ _
       go_must (refine wpList_store_var 26 _ _ rfl rfl KB (u8s (digL t)).toArray (u8s (List.replicate 32 0)).toArray _ rfl rfl HX.out.2.2.1 (by rw [sizeK]; simp [HX.out.2.2.2.2.1]) HX.out.2.2.2.2.2 (u8s_all _) ?_)
       intro w9 b9 m9 z9))
  have hH9 : HT w9 hb sb rv (t.length : Int) (digL t) := Blk.mod HX.out.1 m9 (fun e => by have e : hb = KB := e; have := H.out.2.blk.lt; have := HKB.out; omega)
  exact bodyPost_ret (results_cell_row (P := Tryd.prog) rfl _ w9 _ _ _ (0, 0) _ rfl b9 Tryd.underlying26 rfl (by rw [sizeK]; simp [HX.out.2.2.2.2.1])) rfl ⟨rfl, hH9, ((B1.out.2.nn).trans HX.out.2.1).new_ m9 (by have := HKB.out; omega)⟩
set_option maxRecDepth 100000 in
set_option maxHeartbeats 1600000 in
theorem sum_again {n : Int} {k : List Nat} (h : HT w hb sb rv n k) (hk : k.length = 32) : Calls Tryd.prog 15 #[.pointer (some ⟨hb, 0, none⟩)] w (SumP w Nn hb sb rv n k) := by
  have H := Lib.hid (And.intro h hk)
  clear h hk
  go_enter Tryd.func15, Tryd.ntmps15
  go_upto_region 1 with (first
    | (with_reducible change wpList _ _ _ (⟨some 2, Op.alloc _, _, _, _, _⟩ :: _) _ _
       go_must (refine wpList_alloc_var 26 rfl rfl zeroK ?_)
       intro w1 b1 m1 z1
       have B1 := Lib.hid (show Blk w1 w.heap.size 26 (u8s (List.replicate 32 0)).toArray ∧ Mod Nn w w1 from ⟨b1, m1⟩)
       clear b1 m1 z1))
  obtain ⟨KB, hKB⟩ : ∃ x, w.heap.size = x := ⟨_, rfl⟩
  rw [hKB] at B1 ⊢
  have HKB := Lib.hid hKB
  clear hKB
  have h2 : HT w1 hb sb rv n k := Blk.mod H.out.1 B1.out.2 (fun f => f)
  have c0 : w1.cell? ⟨hb, 0, none⟩ = some (.pointer (some ⟨sb, 0, none⟩)) := (Blk.cell h2 0).trans hashC_0
  have hdo := fun fv => do_done fv h2
  have h2k := hash_keyc h2
  have hsz : (u8s k).length = 32 := by rw [u8s_len, H.out.2]
  have hszk : (u8s (List.replicate 32 0)).toArray.size = (u8s k).toArray.size := by rw [zeroK_size]; simp [hsz]
  have HX := Lib.hid (And.intro h2 (And.intro h2k (And.intro hsz hszk)))
  have HDO := Lib.hid hdo
  clear h2 h2k hsz hszk hdo
  go_wp2_with fail
  refine (HDO.out _).mono ?_
  rintro r w2 ⟨rfl, rfl⟩
  clear c0
  go_wp2_with (first
    | (with_reducible change wpList _ _ _ (⟨some 22, _, _, _, _, _⟩ :: _) _ _
       go_must (refine wpList_val rfl (exec_load_cells (P := Tryd.prog) 26 _ rfl (cs := u8s k) rfl HX.out.2.1 Tryd.underlying26 rfl (by rw [sizeK, HX.out.2.2.1])) ?_))
    | (with_reducible change wpList _ _ _ (⟨none, Op.store 26 (Operand.tmp 2) _, _, _, _, _⟩ :: _) _ _
       go_must (refine wpList_store_var 26 _ _ rfl rfl KB (u8s k).toArray (u8s (List.replicate 32 0)).toArray _ rfl rfl B1.out.1 (by rw [sizeK]; simp [HX.out.2.2.1]) HX.out.2.2.2 (u8s_all _) ?_)
       intro w9 b9 m9 z9))
  have hH9 : HT w9 hb sb rv n k := Blk.mod HX.out.1 m9 (fun e => by have e : hb = KB := e; have := Blk.lt H.out.1; have := HKB.out; omega)
  exact bodyPost_ret (results_cell_row (P := Tryd.prog) rfl _ w9 _ _ _ (0, 0) _ rfl b9 Tryd.underlying26 rfl (by rw [sizeK]; simp [HX.out.2.2.1])) rfl ⟨rfl, hH9, B1.out.2.new_ m9 (by have := HKB.out; omega)⟩
end
end Go.Proofs.YtbocdgmkiajihaaDoor
