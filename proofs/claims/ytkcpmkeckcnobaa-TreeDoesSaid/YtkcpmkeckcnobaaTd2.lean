/- law16's do: sets. -/
import Derived.Test.YtkcpmkeckcnobaaTd1
namespace Go.Proofs.Ytkcpmkeckcnobaa
open Go.RowKit

theorem size_deed2 : (Try.prog.info? 69).map (·.size) = some 3 := by kernel_rfl
section
variable {w0 w : World} {b rb n c : Nat} {L : List (List Nat)} {G : List Nat} {A : Option Addr} {kd kv : Int} {v : Nat}
set_option maxRecDepth 100000 in
set_option maxHeartbeats 6400000 in
theorem do16_set (h : Dbl w0 w b rb L L G A n c) (hL : L.length ≤ 1000) (hv : v < 256) (hp : pick kd 6 = 0 ∨ pick kd 6 = 1) : Calls Try.prog 33 #[.pointer (some ⟨b, 0, none⟩), .pointer (some ⟨rb, 0, none⟩), deedV kd kv v] w (DoP w0 b rb (ins L (en (pk kv) v))) := by
  have hn : n = L.length := h.u.len.symm
  subst hn
  have hk1 := (pk_spec kv).2
  obtain ⟨k, hk⟩ : ∃ k, pk kv = k := ⟨_, rfl⟩
  rw [hk] at hk1 ⊢
  have HK := Lib.hid hk
  have HH := Lib.hid h
  have hbw := h.t.self
  have hrw := h.u.blk.lt
  clear hk h
  unfold deedV
  go_enter Try.func33, Try.ntmps33
  go_wp2_with (first
    | (with_reducible change wpList _ _ _ (⟨some 5, Op.box _ _, _, _, _, _⟩ :: _) _ _
       go_must (refine wpList_box_var 69 _ rfl rfl #[.int .i64 kd, .int .i64 kv, .int .u8 (v : Int)] rfl ?_)
       intro w1 b1 m1 z1
       clear z1
       have hs1 : w.heap.size < w1.heap.size := b1.lt
       have H1 := Lib.hid (And.intro (HH.out.nn m1) b1)
       clear m1 b1)
    | (with_reducible change wpList _ _ _ (⟨some 17, _, _, _, _, _⟩ :: _) _ _
       go_must (refine wpList_val rfl (exec_load1 (P := Try.prog) (v := .int .i64 kv) (ad := ⟨w.heap.size, 1, none⟩) 3 _ rfl rfl (H1.out.2.cell 1) Try.underlying3 rfl) ?_)))
  refine (key16_any w1 kv).mono ?_
  rintro r w2 ⟨rfl, m2⟩
  rw [HK.out]
  have hs2 : w1.heap.size ≤ w2.heap.size := m2.size
  have H2 := Lib.hid (And.intro (H1.out.1.nn m2) (H1.out.2.mod m2 (fun f => f)))
  clear m2
  go_wp2_with (first
    | (with_reducible change wpList _ _ _ (⟨some 7, Op.alloc _, _, _, _, _⟩ :: _) _ _
       go_must (refine wpList_alloc_var 23 rfl rfl info_keyz ?_)
       intro w3 b3 m3 z3
       clear z3
       have hs3 : w2.heap.size < w3.heap.size := b3.lt
       have H3 := Lib.hid (And.intro m3 b3)
       clear m3 b3)
    | (with_reducible change wpList _ _ _ (⟨none, Op.store _ (Operand.tmp 7) _, _, _, _, _⟩ :: _) _ _
       go_must (refine wpList_store_var 23 _ _ rfl rfl w2.heap.size (bv (kn k)).toArray _ _ rfl rfl H3.out.2 (size_keyk (kn_len k)) (by rw [bv_size, kn_len]; rfl) (bv_all _) ?_)
       intro w4 b4 m4 z4
       clear z4
       have hm4 : Mod Nn w2 w4 := H3.out.1.new_ m4 (Nat.le_refl _)
       have H4 := Lib.hid (And.intro (H2.out.1.nn hm4) (And.intro (H2.out.2.mod hm4 (fun f => f)) b4))
       have hs4 : w2.heap.size ≤ w4.heap.size := hm4.size
       clear m4 b4 hm4)
    | (with_reducible change wpList _ _ _ (⟨some 20, _, _, _, _, _⟩ :: _) _ _
       go_must (refine wpList_val rfl (exec_load1 (P := Try.prog) (v := .int .i64 kd) (ad := ⟨w.heap.size, 0, none⟩) 3 _ rfl rfl (H4.out.2.1.cell 0) Try.underlying3 rfl) ?_)))
  refine (pick_any kd 6 _ (by omega)).mono ?_
  rintro r w5 ⟨rfl, rfl⟩
  -- zzA
  rcases hp with hp | hp <;> (
    rw [hp]
    clear hp
    go_wp2_with (first
      | (with_reducible change wpList _ _ _ (⟨some 26, _, _, _, _, _⟩ :: _) _ _
         go_must (refine wpList_val rfl (exec_load_row (P := Try.prog) (g := w.heap.size) (cs := #[.int .i64 kd, .int .i64 kv, .int .u8 (v : Int)]) 69 _ rfl rfl H4.out.2.1 Try.underlying69 rfl size_deed2) ?_)))
    refine (entry16_any w4 kd kv v hv).mono ?_
    rintro r w6 ⟨rfl, m6⟩
    rw [HK.out]
    have H6 := Lib.hid (And.intro (H4.out.1.nn m6) (H4.out.2.1.mod m6 (fun f => f)))
    have hs6 : w4.heap.size ≤ w6.heap.size := m6.size
    clear m6
    have hel := en_len k v
    go_wp2_with fail
    refine (rset16_any H6.out.1.u hel (en_lt hk1 hv) (by omega) H6.out.1.cm).mono ?_
    rintro r w7 ⟨rfl, A', c', hu7, hc7, hA7, m7⟩
    have hwrb : w.heap.size ≠ rb := by omega
    have H7 := Lib.hid (And.intro (H6.out.1.rf hu7 hc7 hA7 m7) (H6.out.2.mod m7 (fun e => hwrb e)))
    have hs7 : w6.heap.size ≤ w7.heap.size := m7.size
    clear hu7 hc7 hA7 m7
    have hwG : w.heap.size ∉ G := fun hx => by have := HH.out.t.lt _ hx; omega
    go_wp2_with fail
    -- zzB
    refine wp_region_planC (fun w' => Blk w' rb 83 #[.slice A' (ins L (en k v)).length c'] ∧ Blk w' w.heap.size 69 #[.int .i64 kd, .int .i64 kv, .int .u8 (v : Int)]) [(0, true), (1, true), (2, false), (3, false), (4, true), (5, true), (6, true), (8, true), (9, true), (10, true), (11, true), (12, true), (7, false), (13, true), (14, true), (15, true)] (by kernel_rfl) (by kernel_rfl) ⟨H7.out.1.u.blk.drew, H7.out.2.drew⟩ ?_
    iterate 1 (refine pc_pure rfl rfl (fun K hK => ?_); go_simp; refine hK _ ?_; clear hK K)
    refine pc_take (deedV kd kv v) rfl rfl (fun w' hS => exec_load_row (P := Try.prog) (g := w.heap.size) (cs := #[.int .i64 kd, .int .i64 kv, .int .u8 (v : Int)]) 69 (.tmp 5) rfl rfl hS.2 Try.underlying69 rfl size_deed2) (fun K hK => ?_); go_simp; refine hK _ ?_; clear hK K
    refine pc_call rfl rfl (fun K hK => ?_); go_simp; refine ⟨_, _, ⟨rfl, rfl⟩, hK _ _ _ ?_⟩; clear hK K
    refine (entry16_any _ kd kv v hv).mono ?_
    rintro r w8 ⟨rfl, m8⟩
    rw [HK.out]
    have H8 := Lib.hid (And.intro (H7.out.1.nn m8.of_drew) (H7.out.2.mod m8.of_drew (fun f => f)))
    clear m8
    refine ⟨_, rfl, ⟨H8.out.1.u.blk, H8.out.2⟩, ?_⟩
    refine pc_call rfl rfl (fun K hK => ?_); go_simp; refine ⟨_, _, ⟨rfl, rfl⟩, hK _ _ _ ?_⟩; clear hK K
    refine (tset_any H8.out.1.t hel (en_lt hk1 hv) (by omega)).mono ?_
    rintro r w9 ⟨rfl, G9, ht9, hG9, m9⟩
    have H9 := Lib.hid (And.intro (H8.out.1.tr ht9 hG9 m9) (H8.out.2.mod m9 hwG))
    clear ht9 hG9 m9
    refine ⟨_, rfl, ⟨H9.out.1.u.blk, H9.out.2⟩, ?_⟩
    iterate 6 (refine pc_pure rfl rfl (fun K hK => ?_); go_simp; refine hK _ ?_; clear hK K)
    refine pc_take (.slice A' (ins L (en k v)).length c') rfl rfl (fun w' hS => exec_load1 (P := Try.prog) (v := .slice A' (ins L (en k v)).length c') (ad := ⟨rb, 0, none⟩) 40 (.tmp 39) rfl rfl (hS.1.cell 0) Try.underlying40 rfl) (fun K hK => ?_); go_simp; refine hK _ ?_; clear hK K
    iterate 1 (refine pc_pure rfl rfl (fun K hK => ?_); go_simp; refine hK _ ?_; clear hK K)
    refine pc_call rfl rfl (fun K hK => ?_); go_simp; refine ⟨_, _, ⟨rfl, rfl⟩, hK _ _ _ ?_⟩; clear hK K
    refine (tlen_any H9.out.1.t).mono ?_
    rintro r w10 ⟨rfl, m10⟩
    have H10 := Lib.hid (And.intro (H9.out.1.nn m10) (H9.out.2.mod m10 (fun f => f)))
    clear m10
    refine ⟨_, rfl, ⟨H10.out.1.u.blk, H10.out.2⟩, ?_⟩
    iterate 3 (refine pc_pure rfl rfl (fun K hK => ?_); go_simp; refine hK _ ?_; clear hK K)
    refine pc_nil ?_
    go_wp2
    go_ret
    exact ⟨rfl, _, _, _, _, H10.out.1⟩)
end
end Go.Proofs.Ytkcpmkeckcnobaa
