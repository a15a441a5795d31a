/- peatbanklaw20.step: bytes are written. -/
import Derived.Test.YtgmkibckbbbhkaaBl8
namespace Go.Proofs.Ytgmkibckbbbhkaa
open Go.RowKit

section
variable {w0 w w' : World} {I : Id5} {r : Nat} {sz : Int} {s : BS}
theorem pick_nat (x : Int) (m : Int) (hm : 0 < m) : ∃ k : Nat, pick x m = k ∧ (k : Int) < m := by
  have := pick_range x m hm
  exact ⟨(pick x m).toNat, by omega, by omega⟩
set_option maxRecDepth 100000 in
set_option maxHeartbeats 6400000 in
theorem b_write0e (h : Bp w0 w I r sz s) (he : s.E = s.D) (hn : s.now ≤ 1000000) (x : D4) (hx : x.ok) (hq : pick x.op 6 = 0) (h11 : (x.num.tmod 11 == 7) = false) :
    Calls Try.prog 63 #[.pointer (some ⟨I.c, 0, none⟩), .pointer (some ⟨I.b, 0, none⟩), .pointer (some ⟨r, 0, none⟩), d4A x] w (BStep w0 I r sz s) := by
    have hop := hx.o
    have hps := hx.p
    have hbt := hx.b
    unfold d4A
    have h1 := h.quiet ((Mod.refl Nn w).alloc (.cells (d4C x) 95))
    have b1 : Blk (w.alloc (.cells (d4C x) 95)) w.heap.size 95 (d4C x) := Blk.new _ _ _
    have hxb : ∀ k, InB I r s k → k ≠ w.heap.size := fun k hk => by have := h.lt k hk; omega
    have hm0 := h.md.size
    unfold d4C at h1 b1
    have HE := Lib.hid he
    have HLT := Lib.hid h.lt
    obtain ⟨m6, hm6, hm6'⟩ := pick_nat x.num 6 (by omega)
    obtain ⟨m15, hm15, hm15'⟩ := pick_nat x.num 1500 (by omega)
    have H6 := Lib.hid hm6; have H15 := Lib.hid hm15; clear hm6 hm15
    clear h hx he
    have hws : w.heap.size < (w.alloc (.cells #[.int .i64 x.op, .int .i64 x.pos, .int .i64 x.num, .int .u8 x.byt] 95)).heap.size := by simp
    go_enter Try.func63, Try.ntmps63
    go_wp2_with fail
    refine (pick_any x.op 6 _ (by omega)).mono ?_
    rintro q w1 ⟨rfl, rfl⟩
    rw [hq]
    clear hq
    generalize w.alloc (.cells #[.int .i64 x.op, .int .i64 x.pos, .int .i64 x.num, .int .u8 x.byt] 95) = w1 at *
    generalize hxe : w.heap.size = xb at *
    have HXE := Lib.hid hxe; clear hxe
    have HXB := Lib.hid hxb; clear hxb
    go_wp2_with fail
    refine wp_region_planC (fun w' => w'.cell? ⟨xb, 2, none⟩ = some (.int .i64 x.num) ∧ w'.cell? ⟨xb, 3, none⟩ = some (.int .u8 x.byt)) [(0, true), (1, true), (4, true), (5, true), (2, false), (3, true), (6, false), (7, true)] (by kernel_rfl) (by kernel_rfl) ⟨b1.drew.cell 2, b1.drew.cell 3⟩ ?_
    iterate 1 (refine pc_pure rfl rfl (fun K hK => ?_); go_simp; refine hK _ ?_; clear hK K)
    refine pc_take _ rfl rfl (fun w' hS => exec_load1 (P := Try.prog) 3 _ rfl rfl hS.1 Try.underlying3 rfl) (fun K hK => ?_); go_simp; refine hK _ ?_; clear hK K
    iterate 1 (refine pc_pure rfl rfl (fun K hK => ?_); go_simp; refine hK _ ?_; clear hK K)
    refine pc_take _ rfl rfl (fun w' hS => exec_load1 (P := Try.prog) 5 _ rfl rfl hS.2 Try.underlying5 rfl) (fun K hK => ?_); go_simp; refine hK _ ?_; clear hK K
    refine pc_call rfl rfl (fun K hK => ?_); go_simp; refine ⟨_, _, ⟨rfl, rfl⟩, hK _ _ _ ?_⟩; clear hK K
    refine (pick_any x.num 6 _ (by omega)).mono ?_
    rintro q _ ⟨rfl, rfl⟩
    refine ⟨_, rfl, ⟨b1.drew.cell 2, b1.drew.cell 3⟩, ?_⟩
    rw [H6.out]
    iterate 1 (refine pc_pure rfl rfl (fun K hK => ?_); go_simp; refine hK _ ?_; clear hK K)
    refine pc_call rfl rfl (fun K hK => ?_); go_simp; refine ⟨_, _, ⟨rfl, rfl⟩, hK _ _ _ ?_⟩; clear hK K
    rw [show IntKind.i64.wrap ((m6 : Int) * 512) = ((m6 * 512 : Nat) : Int) from by rw [IntKind.wrap_i64]; omega]
    refine (ful20_any x.byt (m6 * 512) _ hbt.1 hbt.2 (by omega)).mono ?_
    rintro q w2 ⟨g2, rfl, bb2, l2, m2⟩
    have h2 := (h1.quiet (Mod.refl Nn w1).drew).quiet m2
    have b2 := b1.drew.mod m2 (fun f => f)
    have z12 : w1.heap.size ≤ g2 := by simpa using l2
    refine ⟨_, rfl, ⟨b2.cell 2, b2.cell 3⟩, ?_⟩
    iterate 1 (refine pc_pure rfl rfl (fun K hK => ?_); go_simp; refine hK _ ?_; clear hK K)
    refine pc_nil ?_
    have cc2 : w2.cell? ⟨xb, 2, none⟩ = some (.int .i64 x.num) := b2.cell 2
    clear h1 b1 m2 l2
    have HB2 := Lib.hid (show ∀ k, InB I r s k → k ≠ g2 from fun k hk e => by have := HLT.out k hk; omega)
    have hxg : xb ≠ g2 := by omega
    obtain ⟨n, hnn, hnl⟩ : ∃ n : Nat, n = m6 * 512 ∧ n ≤ 2560 := ⟨_, rfl, by omega⟩
    rw [← hnn] at bb2 ⊢
    generalize w2 = w3 at *
    generalize g2 = g3 at *
    have bb3 := bb2
    have h3 := h2
    have b3 := b2
    clear hnn h2 b2 bb2 z12
    have HBL := Lib.hid (fulL_len x.byt n)
    generalize fulL x.byt n = bs at *
    have rb3 : Rd w3 (some ⟨g3, 0, none⟩) n (bs.map (Value.int .u8)) := Rd.of_blk0 bb3 (by simp [HBL.out])
    have hl3 := bb3.lt
    clear bb3
    go_wp2_with fail
    refine (lent_any rb3 (by omega)).mono ?_
    rintro q w4 ⟨g, rfl, bb4, m4, hg⟩
    have h4 := h3.quiet m4
    have b4 := b3.mod m4 (fun f => f)
    have rb4 := rb3.mod m4 (fun _ _ f => f)
    have HBg := Lib.hid (show ∀ k, InB I r s k → k ≠ g from fun k hk e => by have := h3.lt k hk; omega)
    have hg0 := h3.md.size
    have rin4 : Rd w4 (some ⟨g, 0, none⟩) n (bs.map (Value.int .u8)) := Rd.of_blk bb4 0 (by simp [HBL.out]) (fun j v hv => by
      rw [List.getElem?_toArray, Nat.zero_add, List.map_append, List.getElem?_append_left (List.getElem?_eq_some_iff.1 hv).1]; exact hv)
    have HG0 := Lib.hid (show w0.heap.size ≤ g from by omega)
    have cc1 : w4.cell? ⟨xb, 1, none⟩ = some (.int .i64 x.pos) := b4.cell 1
    have hl4 : g3 < w4.drew.heap.size := by have := m4.size; simpa using (by omega : g3 < w4.heap.size)
    clear h3 b3 rb3 m4 hg0 cc2 hl3
    go_wp2_with fail
    refine wp_region_planC (fun w' => w'.cell? ⟨xb, 1, none⟩ = some (.int .i64 x.pos)) [(0, true), (1, true), (2, true), (3, true), (5, true), (6, true), (7, true), (8, true), (4, false), (9, false), (10, true), (11, true), (12, true), (13, true), (14, false), (15, true), (16, true)] (by kernel_rfl) (by kernel_rfl) (b4.drew.cell 1) ?_
    have h5 := h4.quiet (Mod.refl Nn w4).drew
    have b5 := b4.drew
    have rb5 := rb4.drew
    have rin5 := rin4.drew
    have bb5 := bb4.drew
    clear h4 b4 rb4 rin4 bb4 cc1
    generalize w4.drew = w5 at *
    iterate 2 (refine pc_pure rfl rfl (fun K hK => ?_); go_simp; refine hK _ ?_; clear hK K)
    refine pc_take _ rfl rfl (fun w' hS => exec_load1 (P := Try.prog) 3 _ rfl rfl hS Try.underlying3 rfl) (fun K hK => ?_); go_simp; refine hK _ ?_; clear hK K
    iterate 3 (refine pc_pure rfl rfl (fun K hK => ?_); go_simp; refine hK _ ?_; clear hK K)
    refine pc_take _ rfl rfl (fun w' hS => exec_load1 (P := Try.prog) 3 _ rfl rfl hS Try.underlying3 rfl) (fun K hK => ?_); go_simp; refine hK _ ?_; clear hK K
    iterate 1 (refine pc_pure rfl rfl (fun K hK => ?_); go_simp; refine hK _ ?_; clear hK K)
    generalize hR : (bwrite s.D x.pos bs).1 = R at *
    have HR := Lib.hid hR; clear hR
    have hgl5 := bb5.lt
    refine pc_call rfl rfl (fun K hK => ?_); go_simp; refine ⟨_, _, ⟨rfl, rfl⟩, hK _ _ _ ?_⟩; clear hK K
    refine (bwrite_any h5.ca x.pos hps (cc := n + 12) rin5 (by omega) (by omega) (by omega) (fun k hk => by
      obtain ⟨a, ha, hka⟩ := hk; injection ha with ha; subst ha
      have hka : k = g := hka.symm
      subst hka
      exact ⟨fun hin => HBg.out k (.inl (inA_of hin)) rfl, hgl5⟩)).mono ?_
    rintro q w6 ⟨now6, l6, T6, rfl, hC6, hT6, n6⟩
    rw [HR.out]
    have h6 := h5.cache hC6 hT6
    have b6 := b5.mod hT6.md (fun hin => HXB.out xb (.inl (inA_of hin)) rfl)
    have rb6 := rb5.mod hT6.md (fun k hk hin => by
      obtain ⟨a, ha, hka⟩ := hk; injection ha with ha; subst ha
      have hka : k = g3 := hka.symm
      exact HB2.out k (.inl (inA_of hin)) hka)
    have bb6 := bb5.mod hT6.md (fun hin => HBg.out g (.inl (inA_of hin)) rfl)
    have HGI := Lib.hid (show ¬ InI I l6 g from fun hin => by
      rcases hT6.A hin with h | h
      · exact HBg.out g (.inl h) rfl
      · omega)
    have z56 := hT6.md.size
    have HN6 : Hid (now6 ≤ s.now + 1024) := Lib.hid (by rw [HBL.out] at n6; omega)
    have hgl6 := bb6.lt
    have hl6 : g3 < w6.heap.size := by omega
    refine ⟨_, rfl, b6.cell 1, ?_⟩
    have hrw := rbwrite_any (cc := n) h6.rf x.pos hps rb6 (by omega) (by omega) (fun k hk => by
      obtain ⟨a, ha, hka⟩ := hk; injection ha with ha; subst ha
      have hka : k = g3 := hka.symm
      subst hka
      exact ⟨fun hin => HB2.out k (.inr (.inl hin)) rfl, hl6⟩)
    try simp only at hrw
    rw [HE.out, HR.out] at hrw
    clear h5 b5 rb5 rin5 bb5 hT6 n6
    refine pc_call rfl rfl (fun K hK => ?_); go_simp; refine ⟨_, _, ⟨rfl, rfl⟩, hK _ _ _ ?_⟩; clear hK K
    refine hrw.mono ?_
    clear hrw
    rintro q w7 ⟨lv7, F7, L7, rfl, hR7, to7⟩
    have h7 := h6.ref hR7 to7
    have b7 := b6.mod to7.md (fun hin => HXB.out xb (.inr (.inl hin)) rfl)
    have rb7 := rb6.mod to7.md (fun k hk hin => by
      obtain ⟨a, ha, hka⟩ := hk; injection ha with ha; subst ha
      have hka : k = g3 := hka.symm
      exact HB2.out k (.inr (.inl hin)) hka)
    have bb7 := bb6.mod to7.md (fun hin => HBg.out g (.inr (.inl hin)) rfl)
    have HGR := Lib.hid (show ¬ (InR r lv7 g ∨ F7 g) from fun hin => by
      rcases hin with (hin | hin) | hin
      · exact HBg.out g (.inr (.inl (.inl hin))) rfl
      · rcases to7.lv g hin with h | h
        · exact HBg.out g (.inr (.inl (.inr h))) rfl
        · omega
      · rcases to7.F g hin with h | h
        · exact HBg.out g (.inr (.inr h)) rfl
        · omega)
    refine ⟨_, rfl, b7.cell 1, ?_⟩
    clear h6 b6 rb6 bb6 hR7 to7 hC6
    iterate 4 (refine pc_pure rfl rfl (fun K hK => ?_); go_simp; refine hK _ ?_; clear hK K)
    refine pc_call rfl rfl (fun K hK => ?_); go_simp; refine ⟨_, _, ⟨rfl, rfl⟩, hK _ _ _ ?_⟩; clear hK K
    refine (kept_any rb7 bb7 (by omega)).mono ?_
    rintro q w8 ⟨rfl, m8⟩
    have h8 := h7.quiet m8
    have b8 := b7.mod m8 (fun f => f)
    have bb8 := bb7.mod m8 (fun f => f)
    refine ⟨_, rfl, b8.cell 1, ?_⟩
    clear h7 b7 rb7 bb7 m8
    iterate 2 (refine pc_pure rfl rfl (fun K hK => ?_); go_simp; refine hK _ ?_; clear hK K)
    refine pc_nil ?_
    have hcs : ((bs ++ mks 1 12).map (Value.int .u8)).toArray.size = n + 12 := by simp [HBL.out, mks_len]
    go_wp2_with fail
    refine (over_any bb8 hcs (by omega)).mono ?_
    rintro q w9 ⟨rfl, m9⟩
    have h9 : Bp w0 w9 I r sz _ := h8.mod m9 (fun k hk hs => by
      have hs : k = g := hs
      subst hs
      rcases hk with hk | hk
      · exact HGI.out hk
      · exact HGR.out hk) (fun k hs => by have hs : k = g := hs; have := HG0.out; omega)
    have HP : Hid (BStep w0 I r sz s (.returned (.bool true)) w9) := Lib.hid ⟨_, rfl, h9, rfl, HN6.out, bwrite_n _ _ _⟩
    clear h8 h9 b8 bb8 m9 hcs
    go_wp2
    go_ret
    exact HP.out
end
end Go.Proofs.Ytgmkibckbbbhkaa
