/- law16's all. -/
import Derived.Test.YtkcpmkeckcnobaaTrK
import Derived.Test.YtkcpmkeckcnobaaWkA
namespace Go.Proofs.Ytkcpmkeckcnobaa
open Go.RowKit

section
variable {w : World} {b : Nat} {L : List (List Nat)} {G : List Nat}
set_option maxRecDepth 100000 in
set_option maxHeartbeats 6400000 in
theorem all16_any (h : TrAt w b L G) (hL : L.length ≤ 2000) : Calls Try.prog 31 #[.pointer (some ⟨b, 0, none⟩)] w fun r w' => ∃ v, r = .returned v ∧ OwnE w' w.heap.size v L ∧ Mod Nn w w' := by
  have hs := h.srt
  have hr := h.rows
  have hfirst := aft_first hr
  have hlen : ∀ j : Nat, ((L[j]?).getD ze).length = 80 := fun j => by
    cases h : L[j]? with
    | none => exact ze_len
    | some r => exact (hr r (List.mem_of_getElem? h)).1
  have HB := Lib.hid (And.intro hs (And.intro hr (And.intro h (And.intro hfirst hlen))))
  clear hs hr h hfirst hlen
  have hzk : (List.replicate 40 0 : List Nat).length = 40 := rfl
  have hz40 : ∀ z ∈ (List.replicate 40 0 : List Nat), z < 256 := fun z hz => by have := List.eq_of_mem_replicate hz; omega
  have HZ := Lib.hid hz40
  clear hz40
  go_enter Try.func31, Try.ntmps31
  go_wp2_with (first
    | (with_reducible change wpList _ _ _ (⟨some 4, Op.alloc _, _, _, _, _⟩ :: _) _ _
       go_must (refine wpList_alloc_var 23 rfl rfl info_keyz ?_)
       intro w0 b0 m0 z0
       clear z0
       have H0 := Lib.hid (And.intro m0 b0)
       clear m0 b0)
    | (with_reducible change wpList _ _ _ (⟨some 9, _, _, _, _, _⟩ :: _) _ _
       go_must (refine wpList_val rfl (exec_load_row (P := Try.prog) (g := w.heap.size) (cs := (bv (List.replicate 40 0)).toArray) 23 _ rfl rfl H0.out.2 Try.underlying23 rfl (size_keyk hzk)) ?_)))
  refine (tafter_any (HB.out.2.2.1.nn H0.out.1) hzk HZ.out).mono ?_
  rintro r w1 ⟨rfl, m1⟩
  rw [HB.out.2.2.2.1]
  unfold optV
  obtain ⟨e0, he0⟩ : ∃ e0, (L[0]?).getD ze = e0 := ⟨_, rfl⟩
  have hl0 : e0.length = 80 := by rw [← he0]; exact HB.out.2.2.2.2 0
  rw [he0]
  have hs0 : w.heap.size ≤ w0.heap.size := H0.out.1.size
  have hs1 : w0.heap.size ≤ w1.heap.size := m1.size
  have H1 := Lib.hid (And.intro (H0.out.1.nn_ m1) he0)
  clear m1 he0
  go_wp2_with (first
    | (with_reducible change wpList _ _ _ (⟨some 5, Op.alloc _, _, _, _, _⟩ :: _) _ _
       go_must (refine wpList_alloc_var 28 rfl rfl info_entz ?_)
       intro w2 b2 m2 z2
       clear z2
       have H2 := Lib.hid (And.intro (H1.out.1.nn_ m2) b2)
       clear m2 b2)
    | (with_reducible change wpList _ _ _ (⟨none, Op.store _ (Operand.tmp 5) _, _, _, _, _⟩ :: _) _ _
       go_must (refine wpList_store_var 28 _ _ rfl rfl w1.heap.size (bv e0).toArray _ _ rfl rfl H2.out.2 (size_ente hl0) (by rw [bv_size, hl0]; rfl) (bv_all _) ?_)
       intro w3 b3 m3 z3
       clear z3
       have H3 := Lib.hid (And.intro (H2.out.1.new_ m3 (by omega)) b3)
       clear m3 b3))
  -- zzL
  obtain ⟨g, hg⟩ : ∃ g, w1.heap.size = g := ⟨_, rfl⟩
  rw [hg] at H2 H3 ⊢
  have hgw : w.heap.size ≤ g := by omega
  go_loopw [3, 6] (fun s o wr => ∃ (j : Nat), j ≤ L.length ∧ o = .bool (L[j]?).isSome ∧ Hid (OwnE wr w.heap.size s (L.take j) ∧ Blk wr g 28 (bv ((L[j]?).getD ze)).toArray ∧ Mod Nn w wr ∧ ∀ gb, s.ownBlock = some gb → gb ≠ g)) (fun s _ _ => L.length - lenV s)
  case atStart => exact ⟨0, Nat.zero_le _, rfl, Lib.hid ⟨OwnE.nil _ _, by rw [H1.out.2]; exact H3.out.2, H3.out.1, fun gb h => by cases h⟩⟩
  case round =>
    obtain ⟨j, hj, rfl, HR⟩ := hrel
    obtain ⟨bo, hbo⟩ : ∃ bo, (L[j]?).isSome = bo := ⟨_, rfl⟩
    rw [hbo]
    rcases hLj : L[j]? with _ | e
    · have hb0 : bo = false := by rw [← hbo, hLj]; rfl
      clear hbo
      subst hb0
      have hjn : L.take j = L := List.take_of_length_le (List.getElem?_eq_none_iff.1 hLj)
      have HJ := Lib.hid hjn
      clear hjn
      go_wp2
      go_ret
      exact ⟨_, rfl, by have := HR.out.1; rwa [HJ.out] at this, HR.out.2.2.1⟩
    · have hb0 : bo = true := by rw [← hbo, hLj]; rfl
      clear hbo
      subst hb0
      rw [hLj] at HR
      have he := HB.out.2.1 e (List.mem_of_getElem? hLj)
      have hel := he.1
      have hjl : j < L.length := (List.getElem?_eq_some_iff.1 hLj).1
      obtain ⟨wo, rfl⟩ : ∃ wo : World, wo = wr := ⟨_, rfl⟩
      have hsr : w.heap.size ≤ wo.heap.size := HR.out.2.2.1.size
      have hgo : g < wo.heap.size := HR.out.2.1.lt
      have HE := Lib.hid (And.intro he.2 hLj)
      have htl : (L.take j).length = j := by rw [List.length_take]; omega
      obtain ⟨A3, c3, hu3, -⟩ := HR.out.1.slice
      rw [htl] at hu3
      subst hu3
      have HT := Lib.hid htl
      clear he hLj htl
      have hj2 : (j : Int) < 2000 := by omega
      go_wp2_with (first
        | (with_reducible change wpList _ _ _ (⟨some 20, _, _, _, _, _⟩ :: _) _ _
           go_must (refine wpList_val rfl (exec_load_row (P := Try.prog) (g := g) (cs := (bv e).toArray) 28 _ rfl rfl HR.out.2.1 Try.underlying28 rfl (size_ente hel)) ?_))
        | (with_reducible change wpList _ _ _ (⟨some 21, _, _, _, _, _⟩ :: _) _ _
           go_must (refine wpList_mk1 (P := Try.prog) 40 28 _ rfl rfl (s := 80) Try.underlying40 infoE2 (by omega) (by omega) (v := .agg (bv e).toArray) (ys := bv e) rfl rfl (by rw [bv_len, hel]) ?_)
           intro w4 b4 m4
           have H4 := Lib.hid (And.intro m4 b4)
           clear b4 m4)
        | (with_reducible change wpList _ _ _ (⟨some 22, _, _, _, _, _⟩ :: _) _ _
           go_must (refine wpList_append_rd 40 _ _ rfl rfl w.heap.size 28 zE 80 80 Try.underlying40 infoE zsE (by omega) _ (L.take j).length (bv (L.take j).flatten) rfl (HR.out.1.nn H4.out.1) (some ⟨wo.heap.size, 0, none⟩) 1 1 (bv e) rfl (RdC.of_blk H4.out.2 (by rw [bv_len, hel])) (bv_one _) (by rw [HT.out]; omega) (by rw [HT.out]; omega) (by have := H4.out.1.size; omega) ?_)
           intro v5 w5 own5 gr5 ob5
           have m5 : Mod (fun x => (Value.slice A3 j c3).ownBlock = some x) w4 w5 := (Mod.refl _ _).grown gr5 (fun x h => .inr h)
           have H5 := Lib.hid (And.intro (OwnE.snoc rfl own5) (And.intro m5 ob5))
           have hb5 : Blk w5 g 28 (bv e).toArray := (HR.out.2.1.mod H4.out.1 (fun f => f)).mod m5 (fun h => HR.out.2.2.2 g h rfl)
           have HB5 := Lib.hid hb5
           clear own5 gr5 ob5 m5 hb5)
        | (with_reducible change wpList _ _ _ (⟨some 26, _, _, _, _, _⟩ :: _) _ _
           go_must (refine wpList_val rfl (exec_load_cells (P := Try.prog) (b := g) (off := 0) (cs := bv (keyOf e)) 23 _ rfl rfl (key_cells HB5.out) Try.underlying23 rfl (by rw [bv_len, keyOf_len hel]; exact size_keyT)) ?_)))
      -- zzC
      have hs4 : wo.heap.size < w4.heap.size := H4.out.2.lt
      have hs5 : w4.heap.size ≤ w5.heap.size := H5.out.2.1.size
      have hu3 : ∀ gb, (Value.slice A3 j c3).ownBlock = some gb → w.heap.size ≤ gb ∧ gb < wo.heap.size := fun gb h => HR.out.1.blk h
      have hv5 : ∀ gb, v5.ownBlock = some gb → gb ≠ g := fun gb h => by
        rcases H5.out.2.2 with h5 | h5
        · exact HR.out.2.2.2 gb (h5.symm.trans h)
        · rw [h5] at h; injection h with h; omega
      have hm5 : Mod Nn w w5 := (HR.out.2.2.1.nn_ H4.out.1).then_ H5.out.2.1 (fun x hx h => by have := hu3 x h; omega)
      have HS := Lib.hid (And.intro hm5 hv5)
      clear hm5 hu3 hv5
      refine (tafter_any (HB.out.2.2.1.nn HS.out.1) (keyOf_len hel) (keyOf_lt HE.out.1)).mono ?_
      rintro r w8 ⟨rfl, m8⟩
      have hs8 : w5.heap.size ≤ w8.heap.size := m8.size
      rw [aft_step HB.out.1 HE.out.2]
      unfold optV
      obtain ⟨e1, he1⟩ : ∃ e1, (L[j + 1]?).getD ze = e1 := ⟨_, rfl⟩
      have hl1 : e1.length = 80 := by rw [← he1]; exact HB.out.2.2.2.2 (j + 1)
      rw [he1]
      have H8 := Lib.hid (And.intro (HS.out.1.nn_ m8) (And.intro (HB5.out.mod m8 (fun f => f)) (And.intro (H5.out.1.nn m8) he1)))
      clear m8 he1
      go_wp2_with (first
        | (with_reducible change wpList _ _ _ (⟨none, Op.store _ (Operand.tmp 5) _, _, _, _, _⟩ :: _) _ _
           go_must (refine wpList_store_var 28 _ _ rfl rfl g (bv e1).toArray _ _ rfl rfl H8.out.2.1 (size_ente hl1) (by rw [bv_size, bv_size, hl1, hel]) (bv_all _) ?_)
           intro w9 b9 m9 z9
           clear z9
           have H9 := Lib.hid (And.intro m9 b9)
           clear m9 b9))
      have hlv5 := own_lenV H5.out.1
      have hown9 : OwnE w9 w.heap.size v5 (L.take (j + 1)) := by
        have := H8.out.2.2.1.mod H9.out.1 (fun gb h => HS.out.2 gb h)
        rw [List.take_add_one, HE.out.2]
        exact this
      refine ⟨⟨j + 1, by omega, rfl, Lib.hid ⟨hown9, by rw [H8.out.2.2.2]; exact H9.out.2, H8.out.1.new_ H9.out.1 (by omega), HS.out.2⟩⟩, ?_⟩
      rw [hlv5, List.length_append, HT.out]
      simp only [List.length_cons, List.length_nil, lenV]
      omega
end
end Go.Proofs.Ytkcpmkeckcnobaa
