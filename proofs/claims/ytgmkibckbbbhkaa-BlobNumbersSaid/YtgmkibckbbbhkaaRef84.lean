/- The document's device: Write, the walk. -/
import Derived.Test.YtgmkibckbbbhkaaRef83
import Derived.Deep.DeepCutAuto
import Derived.BigQuiet
namespace Go.Proofs.Ytgmkibckbbbhkaa
open Go.RowKit

theorem info_rsec : (Try.prog.info? 112).map (fun i => (i.zero, i.size, i.bytes)) = some (some (.agg #[.int .i64 0, .slice none 0 0, .slice none 0 0, .bool false]), 4, 64) := by kernel_rfl
theorem size_slice8 : (Try.prog.info? 35).map (·.size) = some 1 := by kernel_rfl
theorem size_rslice : (Try.prog.info? 105).map (·.size) = some 1 := by kernel_rfl
/-- a sector written anew, in place -/
theorem RefAt.wrote {w w' : World} {b g cap : Nat} {F : Nat → Prop} {D : Dk} {L : List Sec} {i : Nat} {s : Sec} {k : Int} {bs : List Int} {A' : Option Addr} {c' : Nat}
    (h : RefAt w b (.slice (some ⟨g, 0, none⟩) L.length cap) F D L) (hs : L[i]? = some s) (hk : s.n = k) (hf : L.find? (fun s => s.n == k) = some s) (hb : bs.length = 512)
    (hm : Mod (InR b (.slice (some ⟨g, 0, none⟩) L.length cap)) w w') (hblk : Blk w' b 107 #[.int .i64 D.n, .slice (some ⟨g, 0, none⟩) L.length cap, .int .i64 D.armed, .bool D.down])
    (hrow : w'.ownsRow 0 112 4 (.slice (some ⟨g, 0, none⟩) L.length cap) L.length (flat Sec.enc (L.set i { s with la := A', lc := c', lt := bs, op := true })))
    (hA : ∀ g, Of A' g → w.heap.size ≤ g ∧ g < w'.heap.size) (hr : Rd w' A' 512 (bs.map (Value.int .u8))) :
    RefAt w' b (.slice (some ⟨g, 0, none⟩) L.length cap) (fun k => F k ∨ Of A' k) (D.put k bs) (L.set i { s with la := A', lc := c', lt := bs, op := true }) := by
  have hgl : g < w.heap.size := own_lt h.row
  refine h.rowed (L' := L.set i { s with la := A', lc := c', lt := bs, op := true }) (D' := D.put k bs) _ hm hblk (by rw [List.length_set]; exact hrow) (fun _ h => .inl h) ?_ ?_ (by rw [set_ns (t := { s with la := A', lc := c', lt := bs, op := true }) hs rfl]; exact h.nd) ?_ (like_put h.like (find_set hs hk hk h.nd) rfl ((h.like k).1 s hf).2.1 rfl) (put_ok h.ok hb)
  · rintro k (h1 | h1)
    · exact .inl h1
    · refine .inr ⟨(hA k h1).1, (hA k h1).2, fun e => ?_⟩
      injection e with e
      have := (hA k h1).1
      have e : g = k := e
      omega
  · intro x hx
    have key : ∀ y ∈ L, SecOk w' (fun k => F k ∨ Of A' k) y := fun y hy => ((h.sec y hy).mod hm (fun k hk e => by
      rcases e with e | e
      · exact h.fb (e ▸ hk)
      · exact (h.sep k e).2 hk)).mono (fun k hk => .inl hk)
    rcases mem_set hx with hx | hx
    · exact key x hx
    · subst hx
      have hs' := key s (List.mem_of_getElem? hs)
      exact ⟨hr, hs'.f, fun g hg => .inr hg, hs'.fF⟩
  · intro x hx
    rcases mem_set hx with hx | hx
    · exact h.rng x hx
    · subst hx; exact h.rng s (List.mem_of_getElem? hs)

set_option maxRecDepth 100000 in
set_option maxHeartbeats 3200000 in
theorem rwrite_some {w : World} {b : Nat} {lv : Value} {F : Nat → Prop} {D : Dk} {L : List Sec} (h : RefAt w b lv F D L) (k : Int) {A : Option Addr} {c : Nat} {bs : List Int} (hr : Rd w A 512 (bs.map (Value.int .u8)))
    (hd : D.down = false) (h0 : ¬ k < 0) (h1 : ¬ D.n ≤ k) {s : Sec} (hf : L.find? (fun s => s.n == k) = some s) :
    Calls Try.prog 69 #[.pointer (some ⟨b, 0, none⟩), .int .i64 k, .slice A 512 c] w (RefPost w b lv F (.int .i64 (D.write k bs).1) (D.write k bs).2) := by
  have hb : bs.length = 512 := by have := hr.1; simpa using this
  have hw : D.write k bs = (if (D.put k bs).crash.down then 9 else 0, (D.put k bs).crash) := by
    have hm : D.may k = 0 := by unfold Dk.may; rw [if_neg (by rw [hd]; exact Bool.false_ne_true), if_neg (by omega)]
    unfold Dk.write; rw [if_pos hm, if_pos hb]
  rw [hw]
  generalize hRR : (if (D.put k bs).crash.down = true then (9 : Int) else 0) = R
  have HRR := Lib.hid hRR; clear hRR
  have hfind := rfind_any h k
  obtain ⟨i, hfi, hsi, hsn⟩ := fnd_some hf
  rw [hfi] at hfind
  obtain ⟨g, cap, rfl, d0, d1, d2, d3⟩ := h.at_ hsi
  have hrow := h.row
  have hlt : i < L.length := (List.getElem?_eq_some_iff.1 hsi).1
  have hlt' : (i : Int) < L.length := by omega
  have hlen := h.len
  have hbl := h.blk.lt
  have hgl := own_lt hrow
  have hgb : g ≠ b := (h.sep g rfl).1
  have c0 := h.c0; have c1 := h.c1; have c3 := h.c3
  rw [hd] at c3
  have HD := Lib.hid (show (D.put k bs).down = false from hd)
  have HH := Lib.hid h
  have HS := Lib.hid (And.intro hsi (And.intro hsn (And.intro hf (And.intro hb hrow))))
  clear hw hsi hsn hf hb hrow h hfi d0 d2 hd
  clear d1 d3
  generalize hgn : D.n = n at *
  have HGN := Lib.hid hgn; clear hgn
  go_enter Try.func69, Try.ntmps69
  go_wp2_with fail
  refine hfind.mono ?_
  rintro r w1 ⟨rfl, rfl⟩
  clear hfind c0 c3
  go_wp2_with fail
  clear hlt' h0 h1
  refine wp_region_planT (fun w' => w'.cell? ⟨b, 1, none⟩ = some (.slice (some ⟨g, 0, none⟩) L.length cap)) 10 [(0, 0), (1, 0), (2, 0), (3, 1), (4, 0), (6, 0), (5, 2), (7, 2), (8, 0), (9, 0), (10, 2)] (by kernel_rfl) (by kernel_rfl) c1 ?_
  have hlt' : (i : Int) < L.length := by omega
  iterate 3 (refine pt_pure rfl rfl (fun K hK => ?_); go_simp; refine hK _ ?_; clear hK K)
  refine pt_take _ rfl rfl (fun w' hS => exec_load1 (P := Try.prog) 105 _ rfl rfl hS Try.underlying105 rfl) (fun K hK => ?_); go_simp; refine hK _ ?_; clear hK K
  iterate 2 (refine pt_pure rfl rfl (fun K hK => ?_); go_simp; refine hK _ ?_; clear hK K)
  refine pt_mem rfl rfl (fun K hK => ?_); go_simp; refine ⟨_, _, ⟨rfl, rfl⟩, hK _ _ ?_ ?_⟩; clear hK K
  · intro _
    go_simp
  have m1 : Mod Nn w (w.alloc (.cells #[] 5)).drew := ((Mod.refl Nn w).alloc _).drew
  refine pt_append 35 _ _ rfl rfl rfl w.heap.size 5 (.int .u8 0) 1 1 Try.underlying35 info_byte rfl (by omega) _ 0 [] rfl (own_empty w.heap.size (Nat.le_refl _)) _ 512 _ (bs.map (Value.int .u8)) rfl (hr.mod m1 (fun _ _ f => f)).toC (ints_oneCell _ _) (by omega) (by omega) (by simp) ?_
  intro v w3 own3 gr3 ob3
  have m3 : Mod Nn w w3 := m1.grown gr3 (fun g h => .inl (by have h' : some w.heap.size = some g := h; injection h' with h'; omega))
  have c13 := (m3.cell (p := ⟨b, 1, none⟩) hbl (fun f => f)).trans c1
  refine ⟨fun _ => c13, fun K hK => ?_⟩; go_simp; refine hK _ ?_; clear hK K
  iterate 2 (refine pt_pure rfl rfl (fun K hK => ?_); go_simp; refine hK _ ?_; clear hK K)
  simp only [Nat.zero_add, List.nil_append] at own3
  have hrd3 : ∀ A'' c'', v = .slice A'' 512 c'' → Rd w3 A'' 512 (bs.map (Value.int .u8)) := fun A'' c'' e => Rd.of_own (e ▸ own3)
  obtain ⟨g', cap', cur', rfl, hg', hb', hnc', _, _, _⟩ := own_blk own3 (by omega)
  have hrd := hrd3 _ _ rfl
  have hlt' := hb'.lt
  have row3 := own_mod HS.out.2.2.2.2 m3 (fun _ _ f => f)
  have d1 := at_cell0 row3 HS.out.1 1 (by omega) (v := .slice s.la 512 s.lc) rfl
  have d3 := at_cell0 row3 HS.out.1 3 (by omega) (v := .bool s.op) rfl
  have f1 := own_free row3 (i * 4 + 1)
  have blk3 := HH.out.blk.mod m3 (fun f => f)
  refine pt_unit (w1 := w3.setCell ⟨g, i * 4 + 1, none⟩ (.slice (some ⟨g', 0, none⟩) 512 cap')) rfl rfl (exec_store1 (P := Try.prog) 35 _ _ rfl rfl rfl d1 f1 rfl rfl rfl size_slice8) (fun h => by simp at h) (fun K hK => ?_); go_simp; refine hK _ ?_; clear hK K
  refine pt_nil ?_
  clear f1 d1
  have row4 := own_set row3 (i * 4 + 1) (.slice (some ⟨g', 0, none⟩) 512 cap')
  have c14 : (w3.setCell ⟨g, i * 4 + 1, none⟩ (.slice (some ⟨g', 0, none⟩) 512 cap')).cell? ⟨b, 1, none⟩ = some (.slice (some ⟨g, 0, none⟩) L.length cap) := by rw [cell_far hgb]; exact c13
  have d4 : (w3.setCell ⟨g, i * 4 + 1, none⟩ (.slice (some ⟨g', 0, none⟩) 512 cap')).cell? ⟨g, i * 4 + 3, none⟩ = some (.bool s.op) := by
    rw [World.cell?_setCell_other _ _ _ _ (fun e => by injection e with _ e _; omega)]; exact d3
  have f4 := own_free row4 (i * 4 + 3)
  have blk4 := blk3.far (p := ⟨g, i * 4 + 1, none⟩) (fun e => hgb e.symm) (.slice (some ⟨g', 0, none⟩) 512 cap')
  have hne : g' ≠ g := by omega
  have rd4 := hrd.mod ((Mod.refl (At g) w3).setCell (p := ⟨g, i * 4 + 1, none⟩) (.inr rfl) (.slice (some ⟨g', 0, none⟩) 512 cap')) (fun k hk e => by obtain ⟨a, ha, hka⟩ := hk; injection ha with ha; subst ha; exact hne (hka.trans e))
  have m4 : Mod (InR b (.slice (some ⟨g, 0, none⟩) L.length cap)) w (w3.setCell ⟨g, i * 4 + 1, none⟩ (.slice (some ⟨g', 0, none⟩) 512 cap')) := (m3.nn).setCell (.inr (.inr rfl)) _
  have z4 : w3.heap.size = (w3.setCell ⟨g, i * 4 + 1, none⟩ (.slice (some ⟨g', 0, none⟩) 512 cap')).heap.size := by simp
  rw [z4] at hlt'
  generalize w3.setCell ⟨g, i * 4 + 1, none⟩ (.slice (some ⟨g', 0, none⟩) 512 cap') = w4 at *
  have HLT := Lib.hid (And.intro hlt' hg')
  have HR4 := Lib.hid (And.intro row4 (And.intro blk4 (And.intro rd4 (And.intro m4 (And.intro hne (And.intro hrd hb'))))))
  clear row4 blk4 rd4 m4 hne hrd hb' hrd3 own3 gr3 ob3 m3 m1 c13 row3 d3 blk3 hr c1 hlt' hg' z4
  have hltI : (i : Int) < L.length := by omega
  go_wp2_with fail
  have hfl : ((flat Sec.enc L).set (i * 4 + 1) (.slice (some ⟨g', 0, none⟩) 512 cap')).set (i * 4 + 3) (.bool true) = flat Sec.enc (L.set i { s with la := some ⟨g', 0, none⟩, lc := cap', lt := bs, op := true }) := by
    rw [flat_set Sec.enc_len L i 1 s { s with la := some ⟨g', 0, none⟩, lc := cap', lt := bs } _ HS.out.1 (by omega) rfl,
      flat_set Sec.enc_len _ i 3 { s with la := some ⟨g', 0, none⟩, lc := cap', lt := bs } { s with la := some ⟨g', 0, none⟩, lc := cap', lt := bs, op := true } _ (by rw [List.getElem?_set_self (List.getElem?_eq_some_iff.1 HS.out.1).1]) (by omega) rfl, List.set_set]
  have m5 : Mod (At g) w4 (w4.setCell ⟨g, i * 4 + 3, none⟩ (.bool true)) := (Mod.refl (At g) w4).setCell (p := ⟨g, i * 4 + 3, none⟩) (.inr rfl) _
  have row5 := own_set HR4.out.1 (i * 4 + 3) (.bool true)
  rw [hfl] at row5
  have hR5 := HH.out.wrote (A' := some ⟨g', 0, none⟩) (c' := cap') (bs := bs) HS.out.1 HS.out.2.1 HS.out.2.2.1 HS.out.2.2.2.1 (HR4.out.2.2.2.1.at_ m5 (.inr rfl)) (HR4.out.2.1.mod m5 (fun e => hgb e.symm)) row5
    (fun k hk => by obtain ⟨a, ha, hka⟩ := hk; injection ha with ha; subst ha; rw [← hka]; exact ⟨HLT.out.2, by rw [show (w4.setCell ⟨g, i * 4 + 3, none⟩ (.bool true)).heap.size = w4.heap.size from by simp]; exact HLT.out.1⟩)
    (HR4.out.2.2.1.mod m5 (fun k hk e => by obtain ⟨a, ha, hka⟩ := hk; injection ha with ha; subst ha; exact HR4.out.2.2.2.2.1 (hka.trans e)))
  have M5 : Mod (InR b (.slice (some ⟨g, 0, none⟩) L.length cap)) w (w4.setCell ⟨g, i * 4 + 3, none⟩ (.bool true)) := HR4.out.2.2.2.1.at_ m5 (.inr rfl)
  have hd5 : (D.put k bs).down = false := HD.out
  clear hfl m5 row5 d4 f4 c14
  refine (rcrashes_any hR5 hd5).mono ?_
  rintro r w6 ⟨rfl, hR6, m6⟩
  have M6 := M5.at_ m6 (.inl rfl)
  have HR6 := Lib.hid (And.intro hR6 M6)
  clear hR5 hd5 M5 hR6 m6 M6 hlt hlen hbl hgl hgb hltI
  generalize hcr : (D.put k bs).crash = D6 at *
  cases hdn : D6.down with
  | true =>
    have HR9 := HRR.out
    rw [hdn] at HR9
    have HR9' := Lib.hid HR9; clear HR9 hcr hdn
    go_wp2
    go_ret
    rw [← HR9'.out]
    exact ⟨_, _, _, rfl, HR6.out.1, HR6.out.2, fun _ h => .inl h, fun k hk => hk.imp id (fun h => by obtain ⟨a, ha, hka⟩ := h; injection ha with ha; subst ha; rw [← hka]; exact HLT.out.2)⟩
  | false =>
    have HR9 := HRR.out
    rw [hdn] at HR9
    have HR9' := Lib.hid HR9; clear HR9 hcr hdn
    go_wp2
    go_ret
    rw [← HR9'.out]
    exact ⟨_, _, _, rfl, HR6.out.1, HR6.out.2, fun _ h => .inl h, fun k hk => hk.imp id (fun h => by obtain ⟨a, ha, hka⟩ := h; injection ha with ha; subst ha; rw [← hka]; exact HLT.out.2)⟩
end Go.Proofs.Ytgmkibckbbbhkaa
