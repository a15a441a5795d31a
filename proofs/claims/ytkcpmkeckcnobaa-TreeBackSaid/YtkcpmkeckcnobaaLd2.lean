/- The loader's look at a leaf's entries: slices.ContainsFunc with the closure that asks whether an entry is within. -/
import Derived.Test.YtkcpmkeckcnobaaLd1
namespace Go.Proofs.Ytkcpmkeckcnobaa
open Go.RowKit

section
variable {w : World} {sb : Nat} {pl ph : Option Addr} {s : Spn} {e : List Nat}
set_option maxRecDepth 100000 in
set_option maxHeartbeats 3200000 in
theorem part1_any (hb : Blk w sb 130 #[.pointer pl, .pointer ph]) (hl : PtrAt w pl s.lo) (hh : PtrAt w ph s.hi) (he : e.length = 80) (hez : ∀ z ∈ e, z < 256) : Calls Try.prog 80 #[.agg (bv e).toArray, .pointer (some ⟨sb, 0, none⟩)] w fun r w' => r = .returned (.bool (!s.has (keyOf e))) ∧ Mod Nn w w' := by
  have HB := Lib.hid (And.intro hb (And.intro hl hh))
  have hk : (keyOf e).length = 40 := by unfold keyOf; rw [List.length_take, he]; rfl
  have hkz : ∀ z ∈ keyOf e, z < 256 := fun z hz => hez z (List.mem_of_mem_take hz)
  have HK := Lib.hid (And.intro hk hkz)
  have hsz : (bv e).toArray.size = 80 := by rw [List.size_toArray, bv_len, he]
  clear hb hl hh hk hkz
  go_enter Try.func80, Try.ntmps80
  go_wp2_with (first
    | (with_reducible change wpList _ _ _ (⟨some 2, Op.box _ _, _, _, _, _⟩ :: _) _ _
       go_must (refine wpList_box_var 28 _ rfl rfl (bv e).toArray rfl ?_)
       intro w1 b1 m1 z1
       clear z1
       have H1 := Lib.hid (And.intro b1 m1)
       clear b1 m1)
    | (with_reducible change wpList _ _ _ (⟨some 4, _, _, _, _, _⟩ :: _) _ _
       go_must (refine wpList_val rfl (exec_load_row (P := Try.prog) (g := sb) (cs := #[.pointer pl, .pointer ph]) 130 _ rfl rfl (HB.out.1.mod H1.out.2 (fun f => f)) Try.underlying130 rfl size_span) ?_))
    | (with_reducible change wpList _ _ _ (⟨some 6, _, _, _, _, _⟩ :: _) _ _
       go_must (refine wpList_val rfl (exec_load_cells (P := Try.prog) (b := w.heap.size) (off := 0) (cs := bv (keyOf e)) 23 _ rfl rfl (fun j v hj => by
         rw [Nat.zero_add]
         have hj' : j < 40 := by have := (List.getElem?_eq_some_iff.1 hj).1; rw [bv_len, HK.out.1] at this; exact this
         refine (H1.out.1.cell j).trans ?_
         rw [List.getElem?_toArray, ← hj]
         unfold keyOf bv
         rw [List.map_take, List.getElem?_take_of_lt hj']) Try.underlying23 rfl (by rw [bv_len, HK.out.1]; exact size_keyT)) ?_)))
  refine (has_any (HB.out.2.1.nn H1.out.2) (HB.out.2.2.nn H1.out.2) HK.out.1 HK.out.2).mono ?_
  rintro r w2 ⟨rfl, m2⟩
  have H2 := Lib.hid (H1.out.2.nn_ m2)
  clear m2
  go_wp2
  go_ret
  exact ⟨rfl, H2.out⟩
end
section
variable {w : World} {sb n c : Nat} {A : Option Addr} {pl ph : Option Addr} {s : Spn} {L : List (List Nat)}
set_option maxRecDepth 100000 in
set_option maxHeartbeats 3200000 in
theorem indexf_any (hb : Blk w sb 130 #[.pointer pl, .pointer ph]) (hl : PtrAt w pl s.lo) (hh : PtrAt w ph s.hi) (hR : RdC w A n 80 (bv L.flatten)) (hr : Rows 80 L) (hL : L.length = n) (hn : n ≤ 1099511627776) :
    Calls Try.prog 108 #[.slice A n c, .func (.func 80) #[] #[.pointer (some ⟨sb, 0, none⟩)]] w fun r w' => ∃ z : Int, r = .returned (.int .i64 z) ∧ decide (0 ≤ z) = !s.all L ∧ Mod Nn w w' := by
  have HH := Lib.hid (And.intro hb (And.intro hl (And.intro hh (And.intro hR hr))))
  clear hb hl hh hR hr
  go_enter Try.func108, Try.ntmps108
  go_wp2_with fail
  go_loopw [8] (fun i wr => ∃ q : Nat, q ≤ n ∧ i = .int .i64 q ∧ Mod Nn w wr ∧ Hid (∀ (t : Nat) (r : List Nat), t < q → L[t]? = some r → s.has (keyOf r) = true)) (fun i _ => n - (intOf i).toNat)
  case atStart => exact ⟨0, Nat.zero_le _, rfl, Mod.refl _ _, Lib.hid (fun t r ht => by omega)⟩
  case round =>
    obtain ⟨q, hq, rfl, hm, hs⟩ := hrel
    by_cases hlt : q < n
    · have hlt' : (q : Int) < n := by omega
      obtain ⟨r, hrx⟩ : ∃ r, L[q]? = some r := ⟨_, List.getElem?_eq_getElem (by omega)⟩
      have hrr := HH.out.2.2.2.2 r (List.mem_of_getElem? hrx)
      obtain ⟨g, off, rfl, hcell⟩ := row_cells HH.out.2.2.2.1 HH.out.2.2.2.2 hrx hL (by omega)
      have HR := Lib.hid (And.intro hm (And.intro hcell (And.intro hrr (And.intro hrx hs.out))))
      clear hm hcell hrr hrx hs
      go_wp2_with (first
        | (with_reducible change wpList _ _ _ (⟨some 14, _, _, _, _, _⟩ :: _) _ _
           go_must (refine wpList_val rfl (exec_elem (P := Try.prog) (g := g) (off := off) (q := q) 40 _ _ rfl 28 80 uuE sizeE rfl rfl hlt) ?_))
        | (with_reducible change wpList _ _ _ (⟨some 15, _, _, _, _, _⟩ :: _) _ _
           go_must (refine wpList_val rfl (exec_load_cells (P := Try.prog) (b := g) (off := off + q * 80) (cs := bv r) 28 _ rfl rfl (cellsP HR.out.2.1 HR.out.1) Try.underlying28 rfl (by rw [bv_len, HR.out.2.2.1.1]; exact size_entT)) ?_)))
      refine (part1_any (HH.out.1.mod HR.out.1 (fun f => f)) (HH.out.2.1.nn HR.out.1) (HH.out.2.2.1.nn HR.out.1) HR.out.2.2.1.1 HR.out.2.2.1.2).mono ?_
      rintro r2 w2 ⟨rfl, m2⟩
      have H2 := Lib.hid (HR.out.1.nn_ m2)
      clear m2
      obtain ⟨bb, hbb⟩ : ∃ bb, s.has (keyOf r) = bb := ⟨_, rfl⟩
      rw [hbb]
      have HBB := Lib.hid hbb
      clear hbb
      cases bb
      · go_wp2
        go_ret
        refine ⟨(q : Int), rfl, ?_, H2.out⟩
        have : s.all L = false := by
          cases hx : s.all L with
          | false => rfl
          | true =>
            have := List.all_eq_true.1 hx r (List.mem_of_getElem? HR.out.2.2.2.1)
            rw [HBB.out] at this; cases this
        rw [this, decide_eq_true (by omega)]; rfl
      · go_wp2
        refine ⟨⟨q + 1, by omega, by go_num, H2.out, Lib.hid (fun t r' ht ht' => ?_)⟩, by simp [intOf]; omega⟩
        rcases Nat.lt_or_ge t q with h | h
        · exact HR.out.2.2.2.2 t r' h ht'
        · obtain rfl : t = q := by omega
          rw [HR.out.2.2.2.1] at ht'
          injection ht' with ht'
          subst ht'
          exact HBB.out
    · have hlt' : ¬ (q : Int) < n := by omega
      go_wp2
      go_ret
      refine ⟨-1, rfl, ?_, hm⟩
      have : s.all L = true := List.all_eq_true.2 (fun e he => by
        obtain ⟨t, ht⟩ := List.mem_iff_getElem?.1 he
        exact hs.out t e (by have := (List.getElem?_eq_some_iff.1 ht).1; omega) ht)
      rw [this]; rfl
set_option maxRecDepth 100000 in
set_option maxHeartbeats 3200000 in
theorem containsf_any (hb : Blk w sb 130 #[.pointer pl, .pointer ph]) (hl : PtrAt w pl s.lo) (hh : PtrAt w ph s.hi) (hR : RdC w A n 80 (bv L.flatten)) (hr : Rows 80 L) (hL : L.length = n) (hn : n ≤ 1099511627776) :
    Calls Try.prog 79 #[.slice A n c, .func (.func 80) #[] #[.pointer (some ⟨sb, 0, none⟩)]] w fun r w' => r = .returned (.bool (!s.all L)) ∧ Mod Nn w w' := by
  have hi := indexf_any (c := c) hb hl hh hR hr hL hn
  clear hb hl hh hR hr
  obtain ⟨bb, hbb⟩ : ∃ bb, (!s.all L) = bb := ⟨_, rfl⟩
  rw [hbb] at hi ⊢
  clear hbb
  go_enter Try.func79, Try.ntmps79
  go_wp2_with fail
  refine hi.mono ?_
  rintro r w1 ⟨z, rfl, hz, m1⟩
  have HZ := Lib.hid hz
  clear hz hi
  go_wp2
  go_ret
  exact ⟨by rw [← HZ.out]; rfl, m1⟩
end
end Go.Proofs.Ytkcpmkeckcnobaa
