/- The document's device: Of. -/
import Derived.Test.YtgmkibckbbbhkaaDevO1
namespace Go.Proofs.Ytgmkibckbbbhkaa
open Go.RowKit

theorem ofD_safe (zs : List Int) (n j : Nat) (i : Int) : (ofD zs n j).safe i = if 0 ≤ i ∧ i < (j : Int) then some (ofS zs i.toNat) else none := rfl
theorem like_of {zs : List Int} {n j : Nat} {L : List Sec} {A : Option Addr} {c : Nat} (h : LikeD (ofD zs n j) L) (hb : ∀ s ∈ L, s.n < (j : Int)) :
    LikeD (ofD zs n (j + 1)) (L ++ [⟨j, A, c, ofS zs j, A, c, ofS zs j, false⟩]) := by
  have hf : L.find? (fun s => s.n == (j : Int)) = none := by
    rw [List.find?_eq_none]; intro s hs
    have := hb s hs
    simp; omega
  intro k
  rw [find_add (k := (j : Int)) rfl hf]
  by_cases hk : k = (j : Int)
  · subst hk
    rw [if_pos rfl]
    refine ⟨fun s hs => ?_, fun hs => by cases hs⟩
    injection hs with hs; subst hs
    have hsf : (ofD zs n (j + 1)).safe (j : Int) = some (ofS zs j) := by rw [ofD_safe, if_pos (by omega)]; simp
    refine ⟨?_, ?_, rfl⟩
    · unfold Dk.latest; rw [hsf]; rfl
    · rw [hsf]; rfl
  · rw [if_neg hk]
    have hsf : (ofD zs n (j + 1)).safe k = (ofD zs n j).safe k := by
      rw [ofD_safe, ofD_safe]
      by_cases h0 : 0 ≤ k ∧ k < (j : Int)
      · rw [if_pos h0, if_pos (by omega)]
      · rw [if_neg h0, if_neg (by omega)]
    have hlt : (ofD zs n (j + 1)).latest k = (ofD zs n j).latest k := by unfold Dk.latest; rw [hsf]; rfl
    rw [hsf, hlt]
    exact h k
def OfR (w : World) (zs : List Int) (n : Nat) (e : Ending) (w' : World) : Prop :=
  ∃ b lv F L, e = .returned (.pointer (some ⟨b, 0, none⟩)) ∧ RefAt w' b lv F (ofD zs n n) L ∧ Mod Nn w w' ∧ (∀ k, InR b lv k ∨ F k → w.heap.size ≤ k)
set_option maxRecDepth 100000 in
set_option maxHeartbeats 3200000 in
theorem rof_any {w : World} {A : Option Addr} {n c m : Nat} {zs : List Int} (hr : Rd w A m (zs.map (Value.int .u8))) (hc : m ≤ c) (hcm : c ≤ maxLen) (hn : m / 512 = n) (h1 : 1 ≤ n) (h2 : n ≤ 262144) :
    Calls Try.prog 38 #[.slice A m c] w (OfR w zs n) := by
  have hzl : zs.length = m := by simpa using hr.1
  have HZ := Lib.hid hzl; clear hzl
  have hq : (m : Int) / 512 = (n : Int) := by omega
  have HQ := Lib.hid hn; clear hn
  have HR := Lib.hid hr; clear hr
  have hcm' : c ≤ 9223372036854775807 := by unfold maxLen at hcm; omega
  clear hcm
  go_enter Try.func38, Try.ntmps38
  go_wp2_with fail
  clear hq
  refine (rnew_any n _ (by omega) (by omega)).mono ?_
  rintro r w1 ⟨b, rfl, hd, m1, hb⟩
  rw [← ofD_zero zs] at hd
  have H0 := Lib.hid (And.intro hd m1); have HB := Lib.hid hb
  clear hd m1 hb
  go_wp2
  go_loopw [4] (fun i wr => ∃ (j : Nat) (lv : Value) (F : Nat → Prop) (L : List Sec), j ≤ n ∧ i = .int .i64 j ∧ RefAt wr b lv F (ofD zs n j) L ∧ Mod Nn w wr ∧ (∀ s ∈ L, s.n < (j : Int)) ∧ (∀ k, InR b lv k ∨ F k → w.heap.size ≤ k)) (fun i _ => n - (intOf i).toNat)
  case atStart => exact ⟨0, _, _, _, Nat.zero_le _, rfl, H0.out.1, H0.out.2, fun s hs => (by cases hs), fun k hk => by
    rcases hk with (hk | hk) | hk
    · have := HB.out; omega
    · exact absurd hk (by simp [Value.ownBlock])
    · exact hk.elim⟩
  case round =>
    obtain ⟨j, lv, F, L, hj, rfl, hd, hm, hsn, hnew⟩ := hrel
    obtain ⟨wo, rfl⟩ : ∃ wo : World, wo = wr := ⟨_, rfl⟩
    have c0 : wo.cell? ⟨b, 0, none⟩ = some (.int .i64 (n : Int)) := hd.c0
    by_cases hlt : j < n
    · have hlt' : (j : Int) < n := by omega
      obtain ⟨lo, hlo⟩ : ∃ x : Nat, 512 * j = x := ⟨_, rfl⟩
      obtain ⟨hi, hhi⟩ : ∃ x : Nat, 512 * (j + 1) = x := ⟨_, rfl⟩
      have hlm : lo + 512 ≤ m := by have := HQ.out; omega
      have hsub := (HR.out.mod hm (fun _ _ f => f)).sub (c := c) lo 512 hlm hc
      have hofs : (((zs.map (Value.int .u8)).drop lo).take 512) = (ofS zs j).map (Value.int .u8) := by
        unfold ofS; rw [hlo, List.map_take, List.map_drop]
      rw [hofs] at hsub
      obtain ⟨A', hA'⟩ : ∃ x, subA A c lo 1 = x := ⟨_, rfl⟩
      rw [hA'] at hsub
      have HA' := Lib.hid hA'
      have HSB := Lib.hid hsub
      have e1 : (512 : Int) * (j : Int) = (lo : Int) := by omega
      have e2 : (512 : Int) * ((j : Int) + 1) = (hi : Int) := by omega
      have HE := Lib.hid (And.intro e1 e2)
      have HS := Lib.hid (show hi - lo = 512 ∧ lo ≤ hi ∧ hi ≤ c from by omega)
      have hbl := hd.blk.lt
      have HH := Lib.hid hd
      have HM := Lib.hid (And.intro hm (And.intro hsn hnew))
      have hrow := hd.row
      have hlen := hd.len
      have HRW := Lib.hid hrow
      clear hsub hofs hA' e1 e2 hlo hhi hlm hd hm hsn hnew hrow
      go_wp2_with (first
        | (with_reducible change wpList _ _ _ (⟨some 27, _, _, _, _, _⟩ :: _) _ _
           go_must (refine wpList_sub_lh 35 _ _ _ rfl rfl 5 1 Try.underlying35 size_u8' (A := A) (n := m) (c := c) lo hi rfl (congrArg (Value.int .i64) HE.out.1) (congrArg (Value.int .i64) HE.out.2) HS.out.2.1 HS.out.2.2 ?_)
           rw [HA'.out, HS.out.1])
        | (with_reducible change wpList _ _ _ (⟨some 28, _, _, _, _, _⟩ :: _) _ _
           go_must (refine wpList_append_rd 35 _ _ rfl rfl wo.heap.size 5 (.int .u8 0) 1 1 Try.underlying35 info_byte rfl (by omega) _ 0 [] rfl (own_empty wo.heap.size (Nat.le_refl _)) A' 512 (c - lo) ((ofS zs j).map (Value.int .u8)) rfl (HSB.out.mod ((Mod.refl Nn wo).alloc _) (fun _ _ f => f)).toC (ints_oneCell _ _) (by omega) (by omega) (by simp) ?_)
           intro v w4 hv hg hbk
           clear c0 hlt'
           simp only [Nat.zero_add, List.nil_append] at hv
           have m4 : Mod Nn wo w4 := ((Mod.refl Nn wo).alloc _).grown hg (fun g h => .inl (by have h' : some wo.heap.size = some g := h; injection h' with h'; omega))
           have hrd0 : ∀ A'' c'', v = .slice A'' 512 c'' → Rd w4 A'' 512 ((ofS zs j).map (Value.int .u8)) := fun A'' c'' e => Rd.of_own (e ▸ hv)
           obtain ⟨g', cap', cur', rfl, hg', hb', hnc', _, _, _⟩ := own_blk hv (by omega)
           have hrd := hrd0 _ _ rfl
           have hlt4 := hb'.lt
           have bk4 := HH.out.blk.mod m4 (fun f => f)
           have c1 : w4.cell? ⟨b, 1, none⟩ = some lv := bk4.cell 1
           have row4 := own_mod HRW.out m4 (fun _ _ f => f)
           have hbl4 := bk4.lt
           have HV := Lib.hid (And.intro hrd (And.intro m4 (And.intro hg' (And.intro hlt4 (And.intro bk4 row4)))))
           clear hv hg hbk hb' hrd hrd0 hg' hlt4 bk4 row4 m4 hnc')
        | (with_reducible change wpList _ _ _ (⟨some 39, _, _, _, _, _⟩ :: _) _ _
           have m12 : Mod Nn w4 (w4.alloc (.cells #[.int .i64 j, .slice (some ⟨g', 0, none⟩) 512 cap', .slice (some ⟨g', 0, none⟩) 512 cap', .bool false] 112)) := (Mod.refl Nn w4).alloc _
           have bn : Blk (w4.alloc (.cells #[.int .i64 j, .slice (some ⟨g', 0, none⟩) 512 cap', .slice (some ⟨g', 0, none⟩) 512 cap', .bool false] 112)) w4.heap.size 112 [.int .i64 j, .slice (some ⟨g', 0, none⟩) 512 cap', .slice (some ⟨g', 0, none⟩) 512 cap', .bool false].toArray := Blk.new _ _ _
           go_must (refine wpList_append_rd 105 _ _ rfl rfl 0 112 (.agg #[.int .i64 0, .slice none 0 0, .slice none 0 0, .bool false]) 4 64 Try.underlying105 info_rsec rfl (by omega) lv L.length (flat Sec.enc L) rfl (own_mod HV.out.2.2.2.2.2 m12 (fun _ _ f => f)) _ 1 1 [.int .i64 j, .slice (some ⟨g', 0, none⟩) 512 cap', .slice (some ⟨g', 0, none⟩) 512 cap', .bool false] rfl (RdC.of_blk bn rfl) (by intro u hu; simp only [List.mem_cons, List.not_mem_nil, or_false] at hu; rcases hu with rfl | rfl | rfl | rfl <;> rfl) (by omega) (by omega) (Nat.zero_le _) ?_)
           intro v5 w5 own5 gr5 ob5
           have hlb : ∀ x, lv.ownBlock = some x → x ≠ b ∧ x < wo.heap.size ∧ ¬ F x := fun x hx => ⟨(HH.out.sep x hx).1, HH.out.lt x (.inl (.inr hx)), (HH.out.sep x hx).2⟩
           have hob : ∀ x, v5.ownBlock = some x → lv.ownBlock = some x ∨ (w4.heap.size < x + 1 ∧ x < w5.heap.size) := fun x hx => by
             obtain ⟨A5, c5, hv5, _, hlt5⟩ := own_form own5
             rcases ob5 with h | h
             · exact .inl (h.symm.trans hx)
             · have h' : some (w4.alloc (.cells #[.int .i64 j, .slice (some ⟨g', 0, none⟩) 512 cap', .slice (some ⟨g', 0, none⟩) 512 cap', .bool false] 112)).heap.size = some x := h.symm.trans hx
               injection h' with h'
               simp at h'
               rw [hv5] at hx
               exact .inr ⟨by omega, (hlt5 x (own_of hx)).2⟩
           have m5 : Mod (InR b lv) wo w5 := ((HV.out.2.1.trans m12).nn).grown gr5 (fun g h => .inr (.inr h))
           have bk5 : Blk w5 b 107 #[.int .i64 (ofD zs n j).n, lv, .int .i64 (ofD zs n j).armed, .bool (ofD zs n j).down] := (gr5.block b (HV.out.2.2.2.2.1.mod m12 (fun f => f)).lt (fun e => (hlb _ e.symm).1 rfl)).trans (HV.out.2.2.2.2.1.mod m12 (fun f => f))
           have c5 := bk5.cell 1
           have f5 := bk5.frozen 1
           obtain ⟨g, cap, cur, rfl, -, -, hnc, hcm5, -, -⟩ := own_blk own5 (by omega)
           have m45 : Mod (InR b lv) w4 w5 := (m12.nn).grown gr5 (fun g h => .inr (.inr h))
           have rd5 := HV.out.1.mod m45 (fun k hk e => by
             obtain ⟨a, ha, hka⟩ := hk; injection ha with ha; subst ha
             have hz := HV.out.2.2.1
             have hka : g' = k := hka
             rcases e with e | e
             · have e : k = b := e
               omega
             · have := (hlb k e).2.1; omega)
           have zs5 := m45.size
           have HG := Lib.hid (And.intro (hob g rfl) (And.intro hlb (And.intro own5 (And.intro m5 (And.intro bk5 (And.intro rd5 (show w4.heap.size ≤ w5.heap.size from zs5)))))))
           clear hob hlb own5 m5 bk5 gr5 ob5 bn m12 m45 rd5 zs5))
      obtain ⟨hob, hlb, own5, m5, bk5, rd5, hz5⟩ := HG.out
      obtain ⟨-, m4, hg', hg4, -, -⟩ := HV.out
      have hgb : g ≠ b := by
        rcases hob with h | h
        · exact (hlb g h).1
        · omega
      have hgg : g' ≠ g := by
        rcases hob with h | h
        · have := (hlb g h).2.1; omega
        · omega
      have hgF : ¬ F g := by
        rcases hob with h | h
        · exact (hlb g h).2.2
        · intro hf; have := HH.out.flt g hf; have := m4.size; omega
      have hsn := HM.out.2.1
      have hnew := HM.out.2.2
      have hm := HM.out.1
      have m6 : Mod (InR b lv) wo (w5.setCell ⟨b, 1, none⟩ (.slice (some ⟨g, 0, none⟩) (L.length + 1) cap)) := m5.setCell (.inr (.inl rfl)) _
      have bk6 : Blk (w5.setCell ⟨b, 1, none⟩ (.slice (some ⟨g, 0, none⟩) (L.length + 1) cap)) b 107 #[.int .i64 (ofD zs n (j + 1)).n, .slice (some ⟨g, 0, none⟩) (L.length + 1) cap, .int .i64 (ofD zs n (j + 1)).armed, .bool (ofD zs n (j + 1)).down] := bk5.set_ 1 _
      have row6 := own_setRow own5 (u := ⟨b, 1, none⟩) (fun e => hgb e.symm) (.slice (some ⟨g, 0, none⟩) (L.length + 1) cap)
      have rd6 := rd5.mod ((Mod.refl (At b) w5).setCell (p := ⟨b, 1, none⟩) (.inr rfl) (.slice (some ⟨g, 0, none⟩) (L.length + 1) cap)) (fun k hk e => by
        obtain ⟨a, ha, hka⟩ := hk; injection ha with ha; subst ha
        have hka : g' = k := hka
        have e : k = b := e
        omega)
      have z6 : (w5.setCell ⟨b, 1, none⟩ (.slice (some ⟨g, 0, none⟩) (L.length + 1) cap)).heap.size = w5.heap.size := by simp
      generalize w5.setCell ⟨b, 1, none⟩ (.slice (some ⟨g, 0, none⟩) (L.length + 1) cap) = w6 at *
      have hnd : L.find? (fun s => s.n == (j : Int)) = none := by
        rw [List.find?_eq_none]; intro s hs
        have := hsn s hs
        simp; omega
      have hR : RefAt w6 b (.slice (some ⟨g, 0, none⟩) (L.length + 1) cap) (fun x => F x ∨ x = g') (ofD zs n (j + 1)) (L ++ [⟨j, some ⟨g', 0, none⟩, cap', ofS zs j, some ⟨g', 0, none⟩, cap', ofS zs j, false⟩]) := by
        refine HH.out.rowed _ m6 bk6 (by rw [List.length_append, flat_append, flat_one]; exact row6) (fun x hx => ?_) (fun x hx => ?_) (fun y hy => ?_) ?_ (fun y hy => ?_) (like_of HH.out.like hsn) ?_
        · have hx : g = x := by injection hx
          subst hx
          rcases hob with h | h
          · exact .inl h
          · have := m4.size; exact .inr (by omega)
        · rcases hx with h | h
          · exact .inl h
          · subst h
            refine .inr ⟨hg', by omega, fun e => ?_⟩
            have e : g = x := by injection e
            exact hgg e.symm
        · rcases List.mem_append.1 hy with hy | hy
          · exact ((HH.out.sec y hy).mod m6 (fun j hj e => by
              rcases e with e | e
              · exact HH.out.fb (e ▸ hj)
              · exact (HH.out.sep j e).2 hj)).mono (fun j hj => .inl hj)
          · simp only [List.mem_singleton] at hy
            subst hy
            refine ⟨rd6, rd6, fun j hj => ?_, fun j hj => ?_⟩
            · obtain ⟨a, ha, hka⟩ := hj; injection ha with ha; subst ha; exact .inr hka.symm
            · obtain ⟨a, ha, hka⟩ := hj; injection ha with ha; subst ha; exact .inr hka.symm
        · rw [List.map_append, List.nodup_append]
          refine ⟨HH.out.nd, by simp, fun x hx y hy => ?_⟩
          simp only [List.map_cons, List.map_nil, List.mem_singleton] at hy
          subst hy
          obtain ⟨s, hs, rfl⟩ := List.mem_map.1 hx
          have := hsn s hs
          omega
        · rcases List.mem_append.1 hy with hy | hy
          · exact HH.out.rng y hy
          · simp only [List.mem_singleton] at hy
            subst hy
            show 0 ≤ (j : Int) ∧ (j : Int) < (n : Int)
            omega
        · have ho := HH.out.ok
          refine ⟨ho.n1, ho.n2, ho.a1, ho.a2, fun i v hv => ?_, fun i v hv => (by cases hv)⟩
          rw [ofD_safe] at hv
          split at hv
          · injection hv with hv
            rw [← hv]
            exact ofS_len (n := n) (by rw [HZ.out, HQ.out]; omega) (by omega)
          · cases hv
      refine ⟨⟨j + 1, _, _, _, by omega, by go_num, hR, hm.then_ m6 (fun k hk e => ?_), fun s hs => ?_, fun k hk => ?_⟩, by simp [intOf]; omega⟩
      · have := hnew k (.inl e); omega
      · rcases List.mem_append.1 hs with hs | hs
        · have := hsn s hs; omega
        · simp only [List.mem_singleton] at hs
          subst hs
          show (j : Int) < ((j + 1 : Nat) : Int)
          omega
      · have hwz := hm.size
        rcases hk with (hk | hk) | hk | hk
        · exact hnew k (.inl (.inl hk))
        · have hk : g = k := by injection hk
          subst hk
          rcases hob with h | h
          · exact hnew g (.inl (.inr h))
          · have := m4.size; omega
        · exact hnew k (.inr hk)
        · omega
    · have hlt' : ¬ (j : Int) < n := by omega
      have hjn : j = n := by omega
      subst hjn
      have HP := Lib.hid (show OfR w zs j (.returned (.pointer (some ⟨b, 0, none⟩))) wo from ⟨b, lv, F, L, rfl, hd, hm, hnew⟩)
      clear hd hm hsn hnew
      go_wp2
      go_ret
      exact HP.out
end Go.Proofs.Ytgmkibckbbbhkaa
