/- law16's do: Get, After (printed by wip/gen/trdo.py). -/
import Derived.Test.YtkcpmkeckcnobaaTd2
import Derived.Test.YtkcpmkeckcnobaaWkA
namespace Go.Proofs.Ytkcpmkeckcnobaa
open Go.RowKit

theorem optE_ok {L : List (List Nat)} (hr : Rows 80 L) : ∀ (o : Option (List Nat)), (∀ x, o = some x → x ∈ L) → (o.getD ze).length = 80 ∧ ∀ z ∈ o.getD ze, z < 256
  | none, _ => ⟨ze_len, fun z hz => by have := List.eq_of_mem_replicate hz; omega⟩
  | some x, h => hr x (h x rfl)
theorem getL_mem {L : List (List Nat)} {κ x : List Nat} (h : getL L κ = some x) : x ∈ L := by
  unfold getL at h
  exact aft_mem (Option.filter_eq_some_iff.1 h).1
section
variable {w0 w : World} {b rb n c : Nat} {L : List (List Nat)} {G : List Nat} {A : Option Addr} {kd kv : Int} {v : Nat}
set_option maxRecDepth 100000 in
set_option maxHeartbeats 6400000 in
theorem do16_get (h : Dbl w0 w b rb L L G A n c) (hL : L.length ≤ 1000) (hv : v < 256) (hp : pick kd 6 = 3) : Calls Try.prog 33 #[.pointer (some ⟨b, 0, none⟩), .pointer (some ⟨rb, 0, none⟩), deedV kd kv v] w (DoP w0 b rb L) := by
  have hn : n = L.length := h.u.len.symm
  subst hn
  have hk1 := (pk_spec kv).2
  obtain ⟨k, hk⟩ : ∃ k, pk kv = k := ⟨_, rfl⟩
  rw [hk] at hk1
  have HK := Lib.hid hk
  have HH := Lib.hid h
  have hbw := h.t.self
  have hrw := h.u.blk.lt
  clear hk h
  unfold deedV
  go_enter Try.func33, Try.ntmps33
  go_wp2_with (first
    | (with_reducible change wpList _ _ _ (⟨some 5, Op.box _ _, _, _, _, _⟩ :: _) _ _
       go_must (refine wpList_box_var 69 _ rfl rfl #[.int .i64 kd, .int .i64 kv, .int .u8 (v : Int)] rfl ?_)
       intro w1 b1 m1 z1
       clear z1
       have hs1 : w.heap.size < w1.heap.size := b1.lt
       have H1 := Lib.hid (And.intro (HH.out.nn m1) b1)
       clear m1 b1)
    | (with_reducible change wpList _ _ _ (⟨some 17, _, _, _, _, _⟩ :: _) _ _
       go_must (refine wpList_val rfl (exec_load1 (P := Try.prog) (v := .int .i64 kv) (ad := ⟨w.heap.size, 1, none⟩) 3 _ rfl rfl (H1.out.2.cell 1) Try.underlying3 rfl) ?_)))
  refine (key16_any w1 kv).mono ?_
  rintro r w2 ⟨rfl, m2⟩
  rw [HK.out]
  have hs2 : w1.heap.size ≤ w2.heap.size := m2.size
  have H2 := Lib.hid (And.intro (H1.out.1.nn m2) (H1.out.2.mod m2 (fun f => f)))
  clear m2
  go_wp2_with (first
    | (with_reducible change wpList _ _ _ (⟨some 7, Op.alloc _, _, _, _, _⟩ :: _) _ _
       go_must (refine wpList_alloc_var 23 rfl rfl info_keyz ?_)
       intro w3 b3 m3 z3
       clear z3
       have hs3 : w2.heap.size < w3.heap.size := b3.lt
       have H3 := Lib.hid (And.intro m3 b3)
       clear m3 b3)
    | (with_reducible change wpList _ _ _ (⟨none, Op.store _ (Operand.tmp 7) _, _, _, _, _⟩ :: _) _ _
       go_must (refine wpList_store_var 23 _ _ rfl rfl w2.heap.size (bv (kn k)).toArray _ _ rfl rfl H3.out.2 (size_keyk (kn_len k)) (by rw [bv_size, kn_len]; rfl) (bv_all _) ?_)
       intro w4 b4 m4 z4
       clear z4
       have hm4 : Mod Nn w2 w4 := H3.out.1.new_ m4 (Nat.le_refl _)
       have H4 := Lib.hid (And.intro (H2.out.1.nn hm4) (And.intro (H2.out.2.mod hm4 (fun f => f)) b4))
       have hs4 : w2.heap.size ≤ w4.heap.size := hm4.size
       clear m4 b4 hm4)
    | (with_reducible change wpList _ _ _ (⟨some 20, _, _, _, _, _⟩ :: _) _ _
       go_must (refine wpList_val rfl (exec_load1 (P := Try.prog) (v := .int .i64 kd) (ad := ⟨w.heap.size, 0, none⟩) 3 _ rfl rfl (H4.out.2.1.cell 0) Try.underlying3 rfl) ?_)))
  refine (pick_any kd 6 _ (by omega)).mono ?_
  rintro r w5 ⟨rfl, rfl⟩
  -- zzA
  obtain ⟨o, ho⟩ : ∃ o, getL L (kn k) = o := ⟨_, rfl⟩
  have hor : ((o).getD ze).length = 80 ∧ ∀ z ∈ o.getD ze, z < 256 := by
    rw [← ho]; exact optE_ok HH.out.t.rows _ (fun x hx => getL_mem hx)
  obtain ⟨eo, heo⟩ : ∃ eo, o.getD ze = eo := ⟨_, rfl⟩
  obtain ⟨bo, hbo⟩ : ∃ bo, o.isSome = bo := ⟨_, rfl⟩
  rw [heo] at hor
  have hel := hor.1
  have HO := Lib.hid (And.intro ho (And.intro hor.2 (And.intro heo hbo)))
  clear ho hor heo hbo
  (
    rw [hp]
    clear hp
    go_wp2_with (first
    | (with_reducible change wpList _ _ _ (⟨some 67, _, _, _, _, _⟩ :: _) _ _
       go_must (refine wpList_val rfl (exec_load_row (P := Try.prog) (g := w2.heap.size) (cs := (bv (kn k)).toArray) 23 _ rfl rfl H4.out.2.2 Try.underlying23 rfl (size_keyk (kn_len k))) ?_)))
    refine (tget_gen H4.out.1.t.rows (kn_len k) (kn_lt hk1) (fun wz hz => tafter_any (H4.out.1.t.nn hz) (kn_len k) (kn_lt hk1))).mono ?_
    rintro r w6 ⟨rfl, m6⟩
    rw [HO.out.1]
    unfold optV
    rw [HO.out.2.2.1, HO.out.2.2.2]
    have H6 := Lib.hid (And.intro (H4.out.1.nn m6) (And.intro (H4.out.2.1.mod m6 (fun f => f)) (H4.out.2.2.mod m6 (fun f => f))))
    clear m6
    go_wp2_with (first
    | (with_reducible change wpList _ _ _ (⟨some 8, Op.alloc _, _, _, _, _⟩ :: _) _ _
       go_must (refine wpList_alloc_var 28 rfl rfl info_entz ?_)
       intro w7 bx mx zx
       clear zx
       have H7 := Lib.hid (And.intro mx bx)
       clear mx bx)
    | (with_reducible change wpList _ _ _ (⟨none, Op.store _ (Operand.tmp 8) _, _, _, _, _⟩ :: _) _ _
       go_must (refine wpList_store_var 28 _ _ rfl rfl w6.heap.size (bv eo).toArray _ _ rfl rfl H7.out.2 (size_ente hel) (by rw [bv_size, hel]; rfl) (bv_all _) ?_)
       intro w8 bx mx zx
       clear zx
       have H8 := Lib.hid (And.intro (H7.out.1.new_ mx (Nat.le_refl _)) bx)
       clear mx bx)
    | (with_reducible change wpList _ _ _ (⟨some 73, _, _, _, _, _⟩ :: _) _ _
       go_must (refine wpList_val rfl (exec_load_row (P := Try.prog) (g := w2.heap.size) (cs := (bv (kn k)).toArray) 23 _ rfl rfl (H6.out.2.2.mod H8.out.1 (fun f => f)) Try.underlying23 rfl (size_keyk (kn_len k))) ?_)))
    refine (rget16_any (H6.out.1.nn H8.out.1).u (kn_len k) (kn_lt hk1) (by omega)).mono ?_
    rintro r w9 ⟨rfl, m9⟩
    rw [HO.out.1]
    unfold optV
    rw [HO.out.2.2.1, HO.out.2.2.2]
    have hs8 : w6.heap.size < w8.heap.size := H8.out.2.lt
    have hs9 : w8.heap.size ≤ w9.heap.size := m9.size
    have H9 := Lib.hid (And.intro ((H6.out.1.nn H8.out.1).nn m9) (H8.out.2.mod m9 (fun f => f)))
    clear m9
    go_wp2_with (first
    | (with_reducible change wpList _ _ _ (⟨some 10, Op.alloc _, _, _, _, _⟩ :: _) _ _
       go_must (refine wpList_alloc_var 28 rfl rfl info_entz ?_)
       intro w10 bx mx zx
       clear zx
       have H10 := Lib.hid (And.intro mx bx)
       clear mx bx)
    | (with_reducible change wpList _ _ _ (⟨none, Op.store _ (Operand.tmp 10) _, _, _, _, _⟩ :: _) _ _
       go_must (refine wpList_store_var 28 _ _ rfl rfl w9.heap.size (bv eo).toArray _ _ rfl rfl H10.out.2 (size_ente hel) (by rw [bv_size, hel]; rfl) (bv_all _) ?_)
       intro w11 bx mx zx
       clear zx
       have H11 := Lib.hid (And.intro (H10.out.1.new_ mx (Nat.le_refl _)) bx)
       clear mx bx)
    | (with_reducible change wpList _ _ _ (⟨some 77, _, _, _, _, _⟩ :: _) _ _
       go_must (refine wpList_val rfl (exec_load_row (P := Try.prog) (g := w6.heap.size) (cs := (bv eo).toArray) 28 _ rfl rfl (H9.out.2.mod H11.out.1 (fun f => f)) Try.underlying28 rfl (size_ente hel)) ?_))
    | (with_reducible change wpList _ _ _ (⟨some 78, _, _, _, _, _⟩ :: _) _ _
       go_must (refine wpList_val rfl (exec_load_row (P := Try.prog) (g := w9.heap.size) (cs := (bv eo).toArray) 28 _ rfl rfl H11.out.2 Try.underlying28 rfl (size_ente hel)) ?_))
    | (with_reducible change wpList _ _ _ (⟨some 79, _, _, _, _, _⟩ :: _) _ _
       go_must (refine wpList_val rfl (exec_eql_agg (P := Try.prog) (b := true) 28 28 _ _ rfl rfl rfl Try.eqGuardType28 (eqE hel HO.out.2.1)) ?_)))
    go_ret
    exact ⟨by cases bo <;> rfl, _, _, _, _, H9.out.1.nn H11.out.1⟩)

end
end Go.Proofs.Ytkcpmkeckcnobaa
