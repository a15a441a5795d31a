/- peatbanklaw17: told. -/
import Derived.Test.YtkcpmkeckcnobaaWk5
namespace Go.Proofs.Ytkcpmkeckcnobaa
open Go.RowKit

section
variable {w : World} {b c : Nat} {L : List (List Nat)} {G κ μ : List Nat}
/-- where a cursor stands that has told j of these -/
def CurSeg (w : World) (c b : Nat) (T : List (List Nat)) (κ μ : List Nat) (j : Nat) : Prop :=
  ∃ at_ wi, CurAt w c (.pointer (some ⟨b, 0, none⟩)) at_ μ wi ∧ ((j = 0 ∧ at_ = κ ∧ wi = true) ∨ ∃ i x, j = i + 1 ∧ T[i]? = some x ∧ at_ = keyOf x ∧ wi = false)
set_option maxRecDepth 100000 in
set_option maxHeartbeats 6400000 in
theorem told_any (hc : CurAt w c (.pointer (some ⟨b, 0, none⟩)) κ μ true) (ht : TrAt w b L G) (hG : ∀ x ∈ G, x ≠ c) (hL : L.length ≤ 200) : Calls Try.prog 18 #[.pointer (some ⟨c, 0, none⟩)] w fun r w' => ∃ v, r = .returned v ∧ OwnE w' w.heap.size v (seg L κ μ) ∧ Mod (At c) w w' := by
  obtain ⟨T, hT⟩ : ∃ T, seg L κ μ = T := ⟨_, rfl⟩
  have hTl : T.length ≤ 200 := by have := seg_len (L := L) κ μ; rw [hT] at this; omega
  have hfirst : nxt L κ true μ = T[0]? := by rw [← hT]; exact seg_first ht.srt
  have hstep : ∀ (i : Nat) (x : List Nat), T[i]? = some x → nxt L (keyOf x) false μ = T[i + 1]? := fun i x hx => by rw [← hT] at hx ⊢; exact seg_step ht.srt hx
  have hrow : ∀ x ∈ T, x.length = 80 ∧ ∀ z ∈ x, z < 256 := fun x hx => by rw [← hT] at hx; exact ht.rows x (mem_seg.1 hx).1
  have HB := Lib.hid (And.intro hc (And.intro ht (And.intro hG (And.intro hfirst (And.intro hstep hrow)))))
  have hcl : c < w.heap.size := hc.blk.lt
  rw [hT]
  clear hc ht hG hfirst hstep hrow hT
  go_enter Try.func18, Try.ntmps18
  go_wp2_with fail
  go_loopw [3, 4] (fun s i wr => ∃ j : Nat, j ≤ T.length ∧ i = .int .i64 j ∧ Hid (OwnE wr w.heap.size s (T.take j) ∧ CurSeg wr c b T κ μ j ∧ Mod (At c) w wr)) (fun _ i _ => T.length + 1 - (intOf i).toNat)
  case atStart => exact ⟨0, Nat.zero_le _, rfl, Lib.hid ⟨OwnE.nil _ _, ⟨κ, true, HB.out.1, .inl ⟨rfl, rfl, rfl⟩⟩, Mod.refl _ _⟩⟩
  case round =>
    obtain ⟨j, hj, rfl, HR⟩ := hrel
    obtain ⟨wo, rfl⟩ : ∃ wo : World, wo = wr := ⟨_, rfl⟩
    have hj200 : (j : Int) ≤ 200 := by omega
    obtain ⟨at_, wi, hcur, hst⟩ := HR.out.2.1
    have hnx : nxt L at_ wi μ = T[j]? := by
      rcases hst with ⟨rfl, rfl, rfl⟩ | ⟨i, x, rfl, hx, rfl, rfl⟩
      · exact HB.out.2.2.2.1
      · exact HB.out.2.2.2.2.1 i x hx
    have HN := Lib.hid (And.intro hcur hnx)
    have hso : w.heap.size ≤ wo.heap.size := HR.out.2.2.size
    clear hcur hst hnx
    go_wp2_with fail
    refine (next_any HN.out.1 (HB.out.2.1.mod HR.out.2.2 (fun x hx e => HB.out.2.2.1 x hx e))).mono ?_
    rintro r w4 ⟨rfl, m4, hn4, hx4⟩
    rw [HN.out.2] at hn4 hx4 ⊢
    have hs4 : wo.heap.size ≤ w4.heap.size := m4.size
    have hown4 : OwnE w4 w.heap.size u3 (T.take j) := HR.out.1.mod m4 (fun x hx e => by
      obtain ⟨_, _, _, _, hb, _⟩ := own_blk_eq HR.out.1 hx
      exact hb.ne_ HN.out.1.blk (by decide) e)
    have H4 := Lib.hid (And.intro m4 (And.intro hn4 (And.intro hx4 hown4)))
    clear m4 hn4 hx4 hown4
    unfold optV
    rcases hTj : T[j]? with _ | e
    · have htk : T.take j = T := List.take_of_length_le (List.getElem?_eq_none_iff.1 hTj)
      have HT := Lib.hid htk
      clear htk
      simp only [Option.getD_none, Option.isSome_none]
      go_wp2_with (first
        | (with_reducible change wpList _ _ _ (⟨some 5, Op.alloc _, _, _, _, _⟩ :: _) _ _
           go_must (refine wpList_alloc_var 28 rfl rfl info_entz ?_)
           intro w5 b5 m5 z5
           clear z5
           have H5 := Lib.hid (And.intro m5 b5)
           clear m5 b5)
        | (with_reducible change wpList _ _ _ (⟨none, Op.store _ (Operand.tmp 5) _, _, _, _, _⟩ :: _) _ _
           go_must (refine wpList_store_var 28 _ _ rfl rfl w4.heap.size (bv ze).toArray _ _ rfl rfl H5.out.2 (size_ente ze_len) rfl (bv_all _) ?_)
           intro w6 b6 m6 z6
           clear z6 b6
           have H6 := Lib.hid (H5.out.1.new_ m6 (Nat.le_refl _))
           clear m6))
      go_ret
      refine ⟨_, rfl, ?_, (HR.out.2.2.trans H4.out.1).nn_ H6.out⟩
      have := H4.out.2.2.2
      rw [HT.out] at this
      exact this.nn H6.out
    · have he := HB.out.2.2.2.2.2 e (List.mem_of_getElem? hTj)
      have hel := he.1
      have hjl : j < T.length := (List.getElem?_eq_some_iff.1 hTj).1
      have htl : (T.take j).length = j := by rw [List.length_take]; omega
      have HT := Lib.hid (And.intro htl (And.intro hTj (H4.out.2.2.1 e hTj)))
      clear htl hTj he
      simp only [Option.getD_some, Option.isSome_some]
      go_wp2_with (first
        | (with_reducible change wpList _ _ _ (⟨some 5, Op.alloc _, _, _, _, _⟩ :: _) _ _
           go_must (refine wpList_alloc_var 28 rfl rfl info_entz ?_)
           intro w5 b5 m5 z5
           clear z5
           have H5 := Lib.hid (And.intro m5 b5)
           clear m5 b5)
        | (with_reducible change wpList _ _ _ (⟨none, Op.store _ (Operand.tmp 5) _, _, _, _, _⟩ :: _) _ _
           go_must (refine wpList_store_var 28 _ _ rfl rfl w4.heap.size (bv e).toArray _ _ rfl rfl H5.out.2 (size_ente hel) (by rw [bv_size, hel]; rfl) (bv_all _) ?_)
           intro w6 b6 m6 z6
           clear z6
           have H6 := Lib.hid (And.intro (H5.out.1.new_ m6 (Nat.le_refl _)) b6)
           clear m6 b6)
        | (with_reducible change wpList _ _ _ (⟨some 19, _, _, _, _, _⟩ :: _) _ _
           go_must (refine wpList_val rfl (exec_load_row (P := Try.prog) (g := w4.heap.size) (cs := (bv e).toArray) 28 _ rfl rfl H6.out.2 Try.underlying28 rfl (size_ente hel)) ?_))
        | (with_reducible change wpList _ _ _ (⟨some 20, _, _, _, _, _⟩ :: _) _ _
           go_must (refine wpList_mk1 (P := Try.prog) 40 28 _ rfl rfl (s := 80) Try.underlying40 infoE2 (by omega) (by omega) (v := .agg (bv e).toArray) (ys := bv e) rfl rfl (by rw [bv_len, hel]) ?_)
           intro w7 b7 m7
           have H7 := Lib.hid (And.intro m7 b7)
           clear b7 m7)
        | (with_reducible change wpList _ _ _ (⟨some 21, _, _, _, _, _⟩ :: _) _ _
           go_must (refine wpList_append_rd 40 _ _ rfl rfl w.heap.size 28 zE 80 80 Try.underlying40 infoE zsE (by omega) _ (T.take j).length (bv (T.take j).flatten) rfl ((H4.out.2.2.2.nn H6.out.1).nn H7.out.1) (some ⟨w6.heap.size, 0, none⟩) 1 1 (bv e) rfl (RdC.of_blk H7.out.2 (by rw [bv_len, hel])) (bv_one _) (by rw [HT.out.1]; omega) (by rw [HT.out.1]; omega) (by have := H7.out.1.size; have := H6.out.1.size; omega) ?_)
           intro v8 w8 own8 gr8 ob8
           have m8 : Mod (fun x => u3.ownBlock = some x) w7 w8 := (Mod.refl _ _).grown gr8 (fun x h => .inr h)
           have H8 := Lib.hid (And.intro (OwnE.snoc rfl own8) m8)
           clear own8 gr8 ob8 m8))
      have hm7 : Mod (At c) w w7 := ((HR.out.2.2.trans H4.out.1).nn_ H6.out.1).nn_ H7.out.1
      have hm8 : Mod (At c) w w8 := hm7.then_ H8.out.2 (fun x hx h => by have := HR.out.1.blk h; omega)
      have hcur8 : CurAt w8 c (.pointer (some ⟨b, 0, none⟩)) (keyOf e) μ false := ((HT.out.2.2.mod H6.out.1 (fun f => f)).mod H7.out.1 (fun f => f)).mod H8.out.2 (fun h => by have := HR.out.1.blk h; omega)
      refine ⟨⟨j + 1, by omega, by go_num, Lib.hid ⟨?_, ⟨keyOf e, false, hcur8, .inr ⟨j, e, rfl, HT.out.2.1, rfl, rfl⟩⟩, hm8⟩⟩, by simp [intOf]; omega⟩
      rw [List.take_add_one, HT.out.2.1]
      exact H8.out.1
end
end Go.Proofs.Ytkcpmkeckcnobaa
