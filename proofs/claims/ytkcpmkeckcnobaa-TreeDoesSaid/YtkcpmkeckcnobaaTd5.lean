/- law16's do: Del (printed by wip/gen/trdodel.py). -/
import Derived.Test.YtkcpmkeckcnobaaTd2
import Derived.Test.YtkcpmkeckcnobaaKitD
namespace Go.Proofs.Ytkcpmkeckcnobaa
open Go.RowKit

section
variable {w0 w : World} {b rb n c : Nat} {L : List (List Nat)} {G : List Nat} {A : Option Addr} {kd kv : Int} {v : Nat}
set_option maxRecDepth 100000 in
set_option maxHeartbeats 6400000 in
theorem do16_del (h : Dbl w0 w b rb L L G A n c) (hL : L.length ≤ 1000) (hv : v < 256) (hp : pick kd 6 = 2) : Calls Try.prog 33 #[.pointer (some ⟨b, 0, none⟩), .pointer (some ⟨rb, 0, none⟩), deedV kd kv v] w (DoP w0 b rb (dele L (kn (pk kv)))) := by
  have hn : n = L.length := h.u.len.symm
  subst hn
  have hk1 := (pk_spec kv).2
  obtain ⟨k, hk⟩ : ∃ k, pk kv = k := ⟨_, rfl⟩
  rw [hk] at hk1 ⊢
  have HK := Lib.hid hk
  have HH := Lib.hid h
  have hbw := h.t.self
  have hrw := h.u.blk.lt
  clear hk h
  unfold deedV
  go_enter Try.func33, Try.ntmps33
  go_wp2_with (first
    | (with_reducible change wpList _ _ _ (⟨some 5, Op.box _ _, _, _, _, _⟩ :: _) _ _
       go_must (refine wpList_box_var 69 _ rfl rfl #[.int .i64 kd, .int .i64 kv, .int .u8 (v : Int)] rfl ?_)
       intro w1 b1 m1 z1
       clear z1
       have hs1 : w.heap.size < w1.heap.size := b1.lt
       have H1 := Lib.hid (And.intro (HH.out.nn m1) b1)
       clear m1 b1)
    | (with_reducible change wpList _ _ _ (⟨some 17, _, _, _, _, _⟩ :: _) _ _
       go_must (refine wpList_val rfl (exec_load1 (P := Try.prog) (v := .int .i64 kv) (ad := ⟨w.heap.size, 1, none⟩) 3 _ rfl rfl (H1.out.2.cell 1) Try.underlying3 rfl) ?_)))
  refine (key16_any w1 kv).mono ?_
  rintro r w2 ⟨rfl, m2⟩
  rw [HK.out]
  have hs2 : w1.heap.size ≤ w2.heap.size := m2.size
  have H2 := Lib.hid (And.intro (H1.out.1.nn m2) (H1.out.2.mod m2 (fun f => f)))
  clear m2
  go_wp2_with (first
    | (with_reducible change wpList _ _ _ (⟨some 7, Op.alloc _, _, _, _, _⟩ :: _) _ _
       go_must (refine wpList_alloc_var 23 rfl rfl info_keyz ?_)
       intro w3 b3 m3 z3
       clear z3
       have hs3 : w2.heap.size < w3.heap.size := b3.lt
       have H3 := Lib.hid (And.intro m3 b3)
       clear m3 b3)
    | (with_reducible change wpList _ _ _ (⟨none, Op.store _ (Operand.tmp 7) _, _, _, _, _⟩ :: _) _ _
       go_must (refine wpList_store_var 23 _ _ rfl rfl w2.heap.size (bv (kn k)).toArray _ _ rfl rfl H3.out.2 (size_keyk (kn_len k)) (by rw [bv_size, kn_len]; rfl) (bv_all _) ?_)
       intro w4 b4 m4 z4
       clear z4
       have hm4 : Mod Nn w2 w4 := H3.out.1.new_ m4 (Nat.le_refl _)
       have H4 := Lib.hid (And.intro (H2.out.1.nn hm4) (And.intro (H2.out.2.mod hm4 (fun f => f)) b4))
       have hs4 : w2.heap.size ≤ w4.heap.size := hm4.size
       clear m4 b4 hm4)
    | (with_reducible change wpList _ _ _ (⟨some 20, _, _, _, _, _⟩ :: _) _ _
       go_must (refine wpList_val rfl (exec_load1 (P := Try.prog) (v := .int .i64 kd) (ad := ⟨w.heap.size, 0, none⟩) 3 _ rfl rfl (H4.out.2.1.cell 0) Try.underlying3 rfl) ?_)))
  refine (pick_any kd 6 _ (by omega)).mono ?_
  rintro r w5 ⟨rfl, rfl⟩
  -- zzA
  obtain ⟨er, her⟩ : ∃ er : Int, (if has L (kn k) then 0 else 6 : Int) = er := ⟨_, rfl⟩
  have HER := Lib.hid her
  clear her
  have hwG : w2.heap.size ∉ G := fun hx => by have := HH.out.t.lt _ hx; omega
  rw [hp]
  clear hp
  go_wp2_with fail
  -- zzB
  refine wp_region_planV (fun w' => Blk w' w2.heap.size 23 (bv (kn k)).toArray) 5 (.pure 0 (.read 1 (.pure 3 (.read 4 (.alone 2 (.alone 5 (.pure 6 (.pure 7 (.pure 8 (.pure 10 (.pure 11 (.pure 12 (.fork 9 13 (.alone 13 (.pure 14 (.pure 15 (.pure 16 (.pure 17 .nil))))) (.pure 14 (.alone 9 (.pure 15 (.pure 16 (.pure 17 .nil)))))))))))))))))) (by kernel_rfl) (by kernel_rfl) H4.out.2.2.drew ?_
  iterate 1 (refine pv_pure rfl rfl (fun K hK => ?_); go_simp; refine hK _ ?_; clear hK K)
  refine pv_take (.agg (bv (kn k)).toArray) rfl rfl (fun w' hS => exec_load_row (P := Try.prog) (g := w2.heap.size) (cs := (bv (kn k)).toArray) 23 (.tmp 7) rfl rfl hS Try.underlying23 rfl (size_keyk (kn_len k))) (fun K hK => ?_); go_simp; refine hK _ ?_; clear hK K
  iterate 1 (refine pv_pure rfl rfl (fun K hK => ?_); go_simp; refine hK _ ?_; clear hK K)
  refine pv_take (.agg (bv (kn k)).toArray) rfl rfl (fun w' hS => exec_load_row (P := Try.prog) (g := w2.heap.size) (cs := (bv (kn k)).toArray) 23 (.tmp 7) rfl rfl hS Try.underlying23 rfl (size_keyk (kn_len k))) (fun K hK => ?_); go_simp; refine hK _ ?_; clear hK K
  refine pv_call rfl rfl (fun K hK => ?_); go_simp; refine ⟨_, _, ⟨rfl, rfl⟩, hK _ _ _ ?_⟩; clear hK K
  refine (tdel_any (H4.out.1.nn (Mod.refl Nn w4).drew).t (kn_len k) (kn_lt hk1) (by omega)).mono ?_
  rintro r w6 ⟨rfl, G6, ht6, hG6, m6⟩
  rw [HER.out]
  have hD4 := H4.out.1.nn (Mod.refl Nn w4).drew
  have H6 := Lib.hid (And.intro (hD4.tr ht6 hG6 m6) (H4.out.2.2.drew.mod m6 hwG))
  clear ht6 hG6 m6 hD4
  refine ⟨_, rfl, fun _ => H6.out.2, ?_⟩
  refine pv_call rfl rfl (fun K hK => ?_); go_simp; refine ⟨_, _, ⟨rfl, rfl⟩, hK _ _ _ ?_⟩; clear hK K
  refine (rdel16_any H6.out.1.u (kn_len k) (kn_lt hk1) (by omega) H6.out.1.cm).mono ?_
  rintro r w7 ⟨rfl, A', c', hu7, hc7, hA7, m7⟩
  rw [HER.out]
  have H7 := Lib.hid (H6.out.1.rf hu7 hc7 hA7 m7)
  clear hu7 hc7 hA7 m7
  refine ⟨_, rfl, fun h => by simp at h, ?_⟩
  iterate 6 (refine pv_pure rfl rfl (fun K hK => ?_); go_simp; refine hK _ ?_; clear hK K)
  refine pv_fork ?_ ?_
  · refine pv_call rfl rfl (fun K hK => ?_); go_simp; refine ⟨_, _, ⟨rfl, rfl⟩, hK _ _ _ ?_⟩; clear hK K
    refine (tlen_any H7.out.t).mono ?_
    rintro r w8 ⟨rfl, m8⟩
    have H8 := Lib.hid (H7.out.nn m8)
    clear m8
    refine ⟨_, rfl, fun h => by simp at h, ?_⟩
    refine pv_val rfl rfl (exec_load1 (P := Try.prog) (v := .slice A' (dele L (kn k)).length c') (ad := ⟨rb, 0, none⟩) 40 (.tmp 58) rfl rfl (H8.out.u.blk.cell 0) Try.underlying40 rfl) (fun h => by simp at h) (fun K hK => ?_); go_simp; refine hK _ ?_; clear hK K
    iterate 4 (refine pv_pure rfl rfl (fun K hK => ?_); go_simp; refine hK _ ?_; clear hK K)
    refine pv_nil ?_
    go_wp2
    go_ret
    exact ⟨rfl, _, _, _, _, H8.out⟩
  · refine pv_val rfl rfl (exec_load1 (P := Try.prog) (v := .slice A' (dele L (kn k)).length c') (ad := ⟨rb, 0, none⟩) 40 (.tmp 58) rfl rfl (H7.out.u.blk.cell 0) Try.underlying40 rfl) (fun h => by simp at h) (fun K hK => ?_); go_simp; refine hK _ ?_; clear hK K
    iterate 1 (refine pv_pure rfl rfl (fun K hK => ?_); go_simp; refine hK _ ?_; clear hK K)
    refine pv_call rfl rfl (fun K hK => ?_); go_simp; refine ⟨_, _, ⟨rfl, rfl⟩, hK _ _ _ ?_⟩; clear hK K
    refine (tlen_any H7.out.t).mono ?_
    rintro r w8 ⟨rfl, m8⟩
    have H8 := Lib.hid (H7.out.nn m8)
    clear m8
    refine ⟨_, rfl, fun h => by simp at h, ?_⟩
    iterate 3 (refine pv_pure rfl rfl (fun K hK => ?_); go_simp; refine hK _ ?_; clear hK K)
    refine pv_nil ?_
    go_wp2
    go_ret
    exact ⟨rfl, _, _, _, _, H8.out⟩
end
end Go.Proofs.Ytkcpmkeckcnobaa
