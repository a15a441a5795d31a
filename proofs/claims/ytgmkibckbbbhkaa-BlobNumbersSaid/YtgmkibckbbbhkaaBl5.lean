/- blob without a cache; peatbanklaw20: full, awake, BlobNil. -/
import Derived.Test.YtgmkibckbbbhkaaBl4
import Derived.Test.YtgmkibckbbbhkaaCa7
import Derived.Test.YtgmkibckbbbhkaaBytes1
namespace Go.Proofs.Ytgmkibckbbbhkaa
open Go.RowKit

section
variable {w : World} {p : Value}
set_option maxRecDepth 100000 in
set_option maxHeartbeats 400000 in
theorem bread_not (h : NotC w p) (a n : Int) : Calls Try.prog 61 #[p, .int .i64 a, .int .i64 n] w fun e w' => e = .returned (.tuple #[.slice none 0 0, .int .i64 1]) ∧ w = w' := by
  go_enter Try.func61, Try.ntmps61
  go_wp2_with fail
  refine (sectors_not h).mono ?_
  rintro r w1 ⟨rfl, rfl⟩
  clear h
  go_wp2
  go_ret2
  exact ⟨rfl, rfl⟩
set_option maxRecDepth 100000 in
set_option maxHeartbeats 400000 in
theorem bwrite_not {q : Option Addr} (h : NotC w (.pointer q)) (a : Int) {A : Option Addr} {n cc : Nat} : Calls Try.prog 62 #[.pointer q, .int .i64 a, .slice A n cc] w fun e w' => e = .returned (.int .i64 1) ∧ Mod Nn w w' := by
  have m1 : Mod Nn w ((w.alloc (.cells #[.pointer q] 67)).alloc (.cells #[.int .i64 0] 32)) := ((Mod.refl _ _).alloc _).alloc _
  have h1 := h.nn m1
  have hbx := Blk.new (w.alloc (.cells #[.pointer q] 67)) 32 #[.int .i64 0]
  rw [show (w.alloc (.cells #[.pointer q] 67)).heap.size = w.heap.size + 1 from by simp] at hbx
  have HBX := Lib.hid (And.intro hbx m1)
  clear h m1 hbx
  go_enter Try.func62, Try.ntmps62
  go_wp2_with fail
  refine (sectors_not h1).mono ?_
  rintro r w1 ⟨rfl, rfl⟩
  clear h1
  generalize hww : (w.alloc (.cells #[.pointer q] 67)).alloc (.cells #[.int .i64 0] 32) = ww at *
  clear hww
  have c6 : ww.cell? ⟨w.heap.size + 1, 0, none⟩ = some (.int .i64 0) := HBX.out.1.cell 0
  have f6 := HBX.out.1.frozen 0
  go_wp2
  have hc6 : (ww.setCell ⟨w.heap.size + 1, 0, none⟩ (.int .i64 1)).cell? ⟨w.heap.size + 1, 0, none⟩ = some (.int .i64 1) := World.cell?_setCell_same' _ _ _ (by rw [c6]; rfl)
  exact bodyPost_ret (v := .int .i64 1) (by simp [results, Try.results62, go_sem, hc6]) rfl ⟨rfl, HBX.out.2.new_ (Mod.cellAt ww (w.heap.size + 1) 0 (.int .i64 1)) (by omega)⟩
end

set_option maxRecDepth 100000 in
set_option maxHeartbeats 800000 in
theorem ful20_any (b : Int) (n : Nat) (w : World) (_hb0 : 0 ≤ b) (_hb1 : b ≤ 255) (hn : n ≤ 20000) :
    Calls Try.prog 64 #[.int .i64 n, .int .u8 b] w fun e w' => ∃ g, e = .returned (.slice (some ⟨g, 0, none⟩) n n) ∧ Blk w' g 5 ((fulL b n).map (Value.int .u8)).toArray ∧ w.heap.size ≤ g ∧ Mod Nn w w' := by
  go_enter Try.func64, Try.ntmps64
  go_wp2_with (first
    | (with_reducible change wpList _ _ _ (⟨_, Op.makeSlice _ _ _, _, _, _, _⟩ :: _) _ _
       go_must (refine wpList_make1 35 _ _ rfl rfl 5 (.int .u8 0) 1 Try.underlying35 info_byte rfl n n n n rfl rfl rfl rfl (by omega) (by omega) (by omega) ?_)
       intro w1 b1 m1 z1
       rw [fulP_zero b] at b1
       clear z1))
  generalize hg : w.heap.size = g at *
  have HG := Lib.hid hg; clear hg
  go_loopw [6] (fun i wr => ∃ k : Nat, k ≤ n ∧ i = .int .i64 k ∧ Blk wr g 5 ((fulP b n k).map (Value.int .u8)).toArray ∧ Mod Nn w wr) (fun i _ => n - (intOf i).toNat)
  case atStart => exact ⟨0, by omega, rfl, b1, m1⟩
  case round =>
    obtain ⟨k, hk, rfl, hbr, hmr⟩ := hrel
    by_cases hlt : k < n
    · have hc : wr.cell? ⟨g, k, none⟩ = some (.int .u8 ((fulP b n k).getD k 0)) := by
        rw [hbr.cell k]; simp [fulP_len, hlt]
      have hf := hbr.frozen k
      generalize (fulP b n k).getD k 0 = old at hc
      have hlt' : (k : Int) < n := by omega
      have hk20 : (k : Int) < 20000 := by omega
      go_wp2
      have hb2 := hbr.set_ k (.int .u8 ((b + ↑k / 100) % 256))
      have he : ((fulP b n k).map (Value.int .u8)).toArray.setIfInBounds k (.int .u8 ((b + ↑k / 100) % 256)) = ((fulP b n (k + 1)).map (Value.int .u8)).toArray := by
        rw [← fulP_set, List.map_set]; simp [fulB]
      rw [he] at hb2
      exact ⟨⟨k + 1, by omega, by go_num, hb2, hmr.setCell (p := ⟨g, k, none⟩) (.inl (by have := HG.out; show w.heap.size ≤ g; omega)) _⟩, by simp [intOf]; omega⟩
    · have hk' : k = n := by omega
      have hbf : Blk wr g 5 ((fulL b n).map (Value.int .u8)).toArray := by
        rw [← fulP_all]; rw [hk'] at hbr; exact hbr
      have hlt' : ¬ (k : Int) < n := by omega
      clear hk' hbr
      go_wp2
      go_ret
      exact ⟨g, rfl, hbf, by have := HG.out; omega, hmr⟩

/-! ### one cache of one's own -/
section
variable {w0 w w' : World} {c b ms mo mk : Nat} {D : Dk} {most now hits misses : Int} {l : KL} {T : TL}
def OBW (w0 : World) (c b ms mo mk : Nat) (D' : Dk) (most hits misses : Int) (r : Int) (N : Int) (e : Ending) (w' : World) : Prop :=
  ∃ now' l' T', e = .returned (.int .i64 r) ∧ OwnC w0 w' c b ms mo mk D' most now' hits misses l' T' ∧ now' ≤ N
theorem ob_write (h : OwnC w0 w c b ms mo mk D most now hits misses l T) (at_ : Int) (ha : -9223372036854775808 ≤ at_ ∧ at_ ≤ 9223372036854775807) {A : Option Addr} {n cc : Nat} {bs : List Int} (hr : Rd w A n (bs.map (Value.int .u8))) (hcc : n ≤ cc) (hcm : cc ≤ 1152921504606846976)
    (hnow : now + ((n / 512 : Nat) : Int) ≤ 1152921504606846976) (hA : ∀ g, Of A g → ¬ InW c b ms mo mk g ∧ g < w.heap.size) {r : Int} {D' : Dk} (hw : bwrite D at_ bs = (r, D')) :
    Calls Try.prog 62 #[.pointer (some ⟨c, 0, none⟩), .int .i64 at_, .slice A n cc] w (OBW w0 c b ms mo mk D' most hits misses r (now + ((n / 512 : Nat) : Int))) :=
  (bwrite_any h.at_ at_ ha hr hcc hcm hnow hA).mono fun e w' ⟨now', l', T', he, hC, hT, hn⟩ => by
    rw [hw] at he hC
    have hL : bs.length = n := by simpa using hr.1
    rw [hL] at hn
    exact ⟨now', l', T', he, h.step hC hT, hn⟩
def OBR (w0 w : World) (c b ms mo mk : Nat) (D : Dk) (most : Int) (l : KL) (r : Int) (xs : List Int) (n : Nat) (N : Int) (e : Ending) (w' : World) : Prop :=
  ∃ v now' hits' misses' l' T', e = .returned (.tuple #[v, .int .i64 r]) ∧ OwnC w0 w' c b ms mo mk D most now' hits' misses' l' T' ∧ now' ≤ N ∧ w'.ownsRow w.heap.size 5 1 v n (xs.map (Value.int .u8)) ∧ (∀ g, v.ownBlock = some g → ¬ InA c b ms mo mk l' g) ∧ CTo w w' c b ms mo mk l l'
theorem ob_read (h : OwnC w0 w c b ms mo mk D most now hits misses l T) (at_ k : Int) (ha : -9223372036854775808 ≤ at_ ∧ at_ ≤ 9223372036854775807) (hnow : now ≤ 1000000000000) {r : Int} {xs : List Int} {n : Nat} (hb : bread D at_ k = (r, xs)) (hn : xs.length = n) :
    Calls Try.prog 61 #[.pointer (some ⟨c, 0, none⟩), .int .i64 at_, .int .i64 k] w (OBR w0 w c b ms mo mk D most l r xs n (now + 1024)) :=
  (bread_any h.at_ at_ k ha hnow).mono fun e w' ⟨v, now', hits', misses', l', T', he, hC, hT, hnw, ho, hnin⟩ => by
    rw [hb] at he ho
    rw [hn] at ho
    exact ⟨v, now', hits', misses', l', T', he, h.step hC hT, hnw, ho, hnin, hT⟩
/-- bytes just made lie apart -/
theorem OwnC.apart {g : Nat} (h : OwnC w0 w c b ms mo mk D most now hits misses l T) (hg : w.heap.size ≤ g) (hgl : g < w'.heap.size) : ∀ k, Of (some (⟨g, 0, none⟩ : Addr)) k → ¬ InW c b ms mo mk k ∧ k < w'.heap.size := fun k hk => by
  obtain ⟨a, ha, hka⟩ := hk; injection ha with ha; subst ha
  have hka : g = k := hka
  exact ⟨fun hin => by have := h.at_.lt k (inA_of hin); omega, by omega⟩
end

def awD : Dk := ((Dk.new 4).put 1 ((fulL 9 1024).take 512)).put 2 ((fulL 9 1024).drop 512)
theorem aw_w : bwrite (Dk.new 4) 1 (fulL 9 1024) = (0, awD) := by
  have hl : (fulL 9 1024).length = 1024 := fulL_len _ _
  have h1 : ((fulL 9 1024).take 512).length = 512 := by rw [List.length_take, hl]; rfl
  have h2 : ((fulL 9 1024).drop 512).length = 512 := by rw [List.length_drop, hl]
  have h3 : ((fulL 9 1024).drop 512).take 512 = (fulL 9 1024).drop 512 := List.take_of_length_le (by omega)
  unfold bwrite
  rw [hl, if_neg (by decide), if_neg (by decide)]
  show bw (Dk.new 4) 1 (fulL 9 1024) (1 + 1) = _
  unfold bw
  rw [write_up rfl rfl (by omega) (by decide) h1, if_pos rfl]
  unfold bw
  rw [h3, write_up rfl rfl (by omega) (by decide) h2, if_pos rfl]
  rfl
theorem aw_r : bread awD 1 3 = (0, fulL 9 1024 ++ zsec) := by
  unfold bread
  rw [if_neg (by decide), if_neg (by decide), if_neg (by decide)]
  show (0, rowsL awD 1 (0 + 1 + 1 + 1)) = _
  rw [rowsL_succ, rowsL_succ, rowsL_succ]
  have e1 : awD.latest (1 + (0 : Nat)) = (fulL 9 1024).take 512 := by unfold awD; rw [put_latest, if_neg (by decide), put_latest, if_pos (by decide)]
  have e2 : awD.latest (1 + ((0 + 1 : Nat) : Int)) = (fulL 9 1024).drop 512 := by unfold awD; rw [put_latest, if_pos (by decide)]
  have e3 : awD.latest (1 + ((0 + 1 + 1 : Nat) : Int)) = zsec := by unfold awD; rw [put_latest, if_neg (by decide), put_latest, if_neg (by decide)]; rfl
  rw [e1, e2, e3]
  show (0, ([] ++ (fulL 9 1024).take 512 ++ (fulL 9 1024).drop 512) ++ zsec) = _
  rw [List.nil_append, List.take_append_drop]
theorem aw_at : (fulL 9 1024 ++ zsec)[1024]? = some 0 := by
  rw [List.getElem?_append_right (by rw [fulL_len]; omega), fulL_len]; rfl
theorem aw_len : (fulL 9 1024 ++ zsec).length = 1536 := by rw [List.length_append, fulL_len, zsec_len]
theorem bw_bad {D : Dk} {at_ : Int} {bs : List Int} {k : Nat} (hl : bs.length = k) (h : k % 512 = 0) (hb : bmay D at_ ((k / 512 : Nat) : Int) = 6) : bwrite D at_ bs = (6, D) := by
  unfold bwrite; rw [hl, if_neg (by omega), if_pos (by rw [hb]; decide)]
theorem bw_odd {D : Dk} {at_ : Int} {bs : List Int} {k : Nat} (hl : bs.length = k) (h : k % 512 ≠ 0) : bwrite D at_ bs = (2, D) := by
  unfold bwrite; rw [hl, if_pos h]
set_option maxRecDepth 100000 in
set_option maxHeartbeats 6400000 in
theorem bawake_any (w : World) : Calls Try.prog 60 #[] w fun e w' => e = .returned (.bool true) ∧ Mod Nn w w' := by
  go_enter Try.func60, Try.ntmps60
  go_wp2_with fail
  refine (new_any 4 _ (by omega) (by omega)).mono ?_
  rintro e w1 ⟨b, ms, mo, rfl, hd1, m1, hfr⟩
  go_wp2_with fail
  refine (cnew_any hd1 3 (by omega)).mono ?_
  rintro e w2 ⟨c, mk, rfl, hC2, m2, hc2, hmk2⟩
  have h2 : OwnC w w2 c b ms mo mk (Dk.new 4) 3 0 0 0 [] [] := ⟨hC2, m1.nn_ m2, fun k hk => by
    have hz := m1.size
    rcases hk with (rfl | rfl | ⟨e, he, -⟩) | hk
    · omega
    · omega
    · cases he
    · exact hfr k hk⟩
  clear hd1 m1 hfr hC2 m2 hc2 hmk2
  go_wp2_with fail
  refine (ful20_any 1 1024 _ (by omega) (by omega) (by omega)).mono ?_
  rintro e w3 ⟨g3, rfl, b3, l3, m3⟩
  have h3 := h2.quiet m3
  go_wp2_with fail
  refine (ob_write h3 3 (by omega) (Rd.of_blk0 b3 (n := 1024) (by simp [fulL_len])) (Nat.le_refl _) (by omega) (by omega) (h2.apart l3 b3.lt) (bw_bad (fulL_len _ _) (by decide) (by decide))).mono ?_
  rintro e w4 ⟨now4, l4, T4, rfl, h4, n4⟩
  clear h2 h3 b3 l3 m3
  go_wp2_with fail
  refine (ob_write h4 (-1) (by omega) (n := 0) (bs := []) (Rd.nil _ none) (Nat.le_refl _) (by omega) (by omega) (fun g hg => by obtain ⟨a, ha, -⟩ := hg; cases ha) (bw_bad (k := 0) rfl (by decide) (by decide))).mono ?_
  rintro e w5 ⟨now5, l5, T5, rfl, h5, n5⟩
  clear h4
  go_wp2_with fail
  refine (ob_write h5 4 (by omega) (n := 0) (bs := []) (Rd.nil _ none) (Nat.le_refl _) (by omega) (by omega) (fun g hg => by obtain ⟨a, ha, -⟩ := hg; cases ha) (r := 0) (D' := Dk.new 4) rfl).mono ?_
  rintro e w6 ⟨now6, l6, T6, rfl, h6, n6⟩
  clear h5
  go_wp2_with fail
  refine (ful20_any 1 5 _ (by omega) (by omega) (by omega)).mono ?_
  rintro e w7 ⟨g7, rfl, b7, l7, m7⟩
  have h7 := h6.quiet m7
  go_wp2_with fail
  refine (ob_write h7 0 (by omega) (Rd.of_blk0 b7 (n := 5) (by simp [fulL_len])) (Nat.le_refl _) (by omega) (by omega) (h6.apart l7 b7.lt) (bw_odd (fulL_len _ _) (by decide))).mono ?_
  rintro e w8 ⟨now8, l8, T8, rfl, h8, n8⟩
  clear h6 h7 b7 l7 m7
  go_wp2_with fail
  refine (ful20_any 9 1024 _ (by omega) (by omega) (by omega)).mono ?_
  rintro e w9 ⟨g9, rfl, b9, l9, m9⟩
  have h9 := h8.quiet m9
  go_wp2_with fail
  refine (ob_write h9 1 (by omega) (Rd.of_blk0 b9 (n := 1024) (by simp [fulL_len])) (Nat.le_refl _) (by omega) (by omega) (h8.apart l9 b9.lt) aw_w).mono ?_
  rintro e w10 ⟨now10, l10, T10, rfl, h10, n10⟩
  clear h8 h9 b9 l9 m9
  have hn10 : now10 ≤ 4 := by omega
  clear n4 n5 n6 n8 n10
  go_wp2_with fail
  refine (ob_read h10 1 3 (by omega) (by omega) aw_r aw_len).mono ?_
  rintro e w11 ⟨v11, now11, hits11, misses11, l11, T11, rfl, h11, n11, o11, nin11, -⟩
  clear h10
  obtain ⟨g, cap, cur, rfl, hgb, -, hcap, hcapm, -, -⟩ := own_blk o11 (by omega)
  go_wp2_with fail
  refine (ob_read h11 1 (-1) (by omega) (by omega) (r := 2) (xs := []) (n := 0) rfl rfl).mono ?_
  rintro e w12 ⟨v12, now12, hits12, misses12, l12, T12, rfl, h12, n12, -, -, hT12⟩
  have o12 := own_mod o11 hT12.md (fun g' hg' hin => nin11 g' hg' (inA_of hin))
  have M12 := h12.md
  clear h11 h12 hT12 o11 nin11 n11 n12 hn10
  go_wp2_with fail
  refine (bread_not (.inl rfl) 0 0).mono ?_
  rintro e w13 ⟨rfl, rfl⟩
  have hcell : ∀ w', Mod Nn w12.drew w' → w'.cell? ⟨g, 1024, none⟩ = some (.int .u8 0) := fun w' hm => own_cell (own_mod (own_mod o12 (Mod.refl Nn w12).drew (fun _ _ f => f)) hm (fun _ _ f => f)) (by rw [List.getElem?_map, aw_at]; rfl)
  have hrd : Rd w12.drew (subA (some ⟨g, 0, none⟩) cap 0 1) 1024 ((fulL 9 1024).map (Value.int .u8)) := by
    have h0 : Rd w12.drew (some ⟨g, 0, none⟩) 1536 ((fulL 9 1024 ++ zsec).map (Value.int .u8)) := Rd.of_own (own_mod o12 (Mod.refl Nn w12).drew (fun _ _ f => f))
    have := h0.pre (c := cap) 1024 (by omega) hcap
    rwa [← List.map_take, List.take_left' (fulL_len 9 1024)] at this
  rw [subA_zero] at hrd
  have HR := Lib.hid (And.intro hcell hrd); clear hcell hrd o12
  go_wp2_with fail
  refine wp_region_planC (fun w' => Mod Nn w12.drew w') [(0, true), (1, true), (2, true), (3, true), (4, true), (5, true), (6, true), (7, true), (8, true), (9, true), (10, false), (11, false), (12, true), (13, true), (14, true), (15, true), (16, true), (17, true), (18, true), (19, true), (20, true), (21, true), (22, true), (23, true), (24, true), (25, true), (26, true), (27, true)] (by kernel_rfl) (by kernel_rfl) (Mod.refl _ _) ?_
  iterate 9 (refine pc_pure rfl rfl (fun K hK => ?_); go_simp; refine hK _ ?_; clear hK K)
  refine pc_take _ rfl rfl (fun w' _ => exec_sub_h (P := Try.prog) 35 _ _ rfl 5 1 Try.underlying35 (by kernel_rfl) (A := some ⟨g, 0, none⟩) (n := 1536) (c := cap) (h := 1024) rfl rfl (by omega)) (fun K hK => ?_); go_simp; refine hK _ ?_; clear hK K
  simp only [subA_zero]
  refine pc_call rfl rfl (fun K hK => ?_); go_simp; refine ⟨_, _, ⟨rfl, rfl⟩, hK _ _ _ ?_⟩; clear hK K
  refine (ful20_any 9 1024 _ (by omega) (by omega) (by omega)).mono ?_
  rintro r w14 ⟨g14, rfl, b14, l14, m14⟩
  refine ⟨_, rfl, m14, ?_⟩
  refine pc_call rfl rfl (fun K hK => ?_); go_simp; refine ⟨_, _, ⟨rfl, rfl⟩, hK _ _ _ ?_⟩; clear hK K
  refine (same_any (HR.out.2.mod m14 (fun _ _ f => f)) (Rd.of_blk0 b14 (n := 1024) (by simp [fulL_len])) (by omega) (by omega)).mono ?_
  rintro r w15 ⟨rfl, m15⟩
  rw [show decide (fulL 9 1024 = fulL 9 1024) = true from by simp]
  have M15 := m14.nn_ m15
  refine ⟨_, rfl, M15, ?_⟩
  have MM : Mod Nn w w15 := M12.drew.nn_ M15
  clear b14 l14 m14 m15
  iterate 4 (refine pc_pure rfl rfl (fun K hK => ?_); go_simp; refine hK _ ?_; clear hK K)
  refine pc_take _ rfl rfl (fun w' hS => exec_load1 (P := Try.prog) 5 _ rfl rfl (HR.out.1 w' hS) Try.underlying5 rfl) (fun K hK => ?_); go_simp; refine hK _ ?_; clear hK K
  iterate 11 (refine pc_pure rfl rfl (fun K hK => ?_); go_simp; refine hK _ ?_; clear hK K)
  refine pc_nil ?_
  go_wp2
  go_ret
  exact ⟨rfl, MM⟩
end Go.Proofs.Ytgmkibckbbbhkaa
