/- The document's device: Sync. -/
import Derived.Test.YtgmkibckbbbhkaaRef85
import Derived.Deep.LoopGhost
namespace Go.Proofs.Ytgmkibckbbbhkaa
open Go.RowKit

/-- the first i are done -/
def stepL {α : Type} (f : α → α) (L : List α) (i : Nat) : List α := (L.take i).map f ++ L.drop i
section
variable {α : Type} (f : α → α)
theorem stepL_zero (L : List α) : stepL f L 0 = L := by simp [stepL]
theorem stepL_all (L : List α) : stepL f L L.length = L.map f := by simp [stepL]
theorem stepL_len (L : List α) (i : Nat) : (stepL f L i).length = L.length := by simp [stepL]; omega
theorem stepL_at {L : List α} {i : Nat} {s : α} (h : L[i]? = some s) : (stepL f L i)[i]? = some s := by
  have hi : i < L.length := (List.getElem?_eq_some_iff.1 h).1
  unfold stepL
  rw [List.getElem?_append_right (by simp; omega)]
  simp only [List.length_map, List.length_take, Nat.min_eq_left (Nat.le_of_lt hi), Nat.sub_self, List.getElem?_drop, Nat.add_zero]
  exact h
theorem stepL_set {L : List α} {i : Nat} {s : α} (h : L[i]? = some s) : (stepL f L i).set i (f s) = stepL f L (i + 1) := by
  have hi : i < L.length := (List.getElem?_eq_some_iff.1 h).1
  unfold stepL
  have hl : ((L.take i).map f).length = i := by simp; omega
  have hd : L.drop i = s :: L.drop (i + 1) := by rw [List.drop_eq_getElem_cons hi, (List.getElem?_eq_some_iff.1 h).2]
  rw [List.set_append_right _ _ (by omega), hl, Nat.sub_self, hd, List.set_cons_zero, List.take_succ_eq_append_getElem hi, List.map_append, List.append_assoc, (List.getElem?_eq_some_iff.1 h).2]
  rfl
end
theorem find_map {f : Sec → Sec} (hf : ∀ s, (f s).n = s.n) (k : Int) : ∀ L : List Sec, (L.map f).find? (fun s => s.n == k) = (L.find? (fun s => s.n == k)).map f
  | [] => rfl
  | x :: L => by
    rw [List.map_cons, List.find?_cons, List.find?_cons, hf]
    by_cases h : (x.n == k) = true
    · rw [h]; rfl
    · rw [show (x.n == k) = false by simpa using h]; exact find_map hf k L
theorem map_ns {f : Sec → Sec} (hf : ∀ s, (f s).n = s.n) (L : List Sec) : (L.map f).map (·.n) = L.map (·.n) := by rw [List.map_map]; exact List.map_congr_left fun s _ => hf s

def syncS (s : Sec) : Sec := { s with sa := s.la, sc := s.lc, sf := s.lt, op := false }
theorem like_flush {D : Dk} {L : List Sec} (h : LikeD D L) : LikeD D.flush (L.map syncS) := by
  intro k
  rw [find_map (f := syncS) (fun _ => rfl)]
  have e1 : D.flush.latest k = D.latest k := by simp [Dk.latest, Dk.flush]
  have e2 : (D.flush.safe k).getD zsec = D.latest k := by simp [Dk.latest, Dk.flush]
  refine ⟨fun s hs => ?_, fun hs => ?_⟩
  · obtain ⟨t, ht, rfl⟩ := Option.map_eq_some_iff.1 hs
    have := ((h k).1 t ht).1
    exact ⟨by rw [e1]; exact this, by rw [e2]; exact this, rfl⟩
  · have := (h k).2 (by simpa using hs)
    exact ⟨rfl, by simp [Dk.flush, this.1, this.2]⟩
theorem flush_ok {D : Dk} (h : D.ok) : D.flush.ok :=
  ⟨h.n1, h.n2, h.a1, h.a2, fun k v hv => by
    simp only [Dk.flush] at hv
    cases ho : D.opn k with
    | none => rw [ho, Option.none_or] at hv; exact h.sl k v hv
    | some u => rw [ho, Option.some_or] at hv; injection hv with hv; rw [← hv]; exact h.ol k u ho, fun k v hv => by cases hv⟩
/-- RefAt, the row's sectors changed one by one -/
theorem RefAt.mapped {w w' : World} {b : Nat} {lv : Value} {F : Nat → Prop} {D D' : Dk} {L : List Sec} {f : Sec → Sec} (h : RefAt w b lv F D L) (hf : ∀ s, (f s).n = s.n)
    (hok : ∀ s ∈ L, SecOk w F s → SecOk w F (f s)) (hm : Mod (fun k => lv.ownBlock = some k) w w') (hrow : w'.ownsRow 0 112 4 lv L.length (flat Sec.enc (L.map f)))
    (hn : D'.n = D.n) (ha : D'.armed = D.armed) (hd : D'.down = D.down) (hlike : LikeD D' (L.map f)) (hok' : D'.ok) : RefAt w' b lv F D' (L.map f) := by
  refine h.rowed F (hm.mono (fun k _ hk => .inr hk)) ?_ (by rw [List.length_map]; exact hrow) (fun _ h => .inl h) (fun _ h => .inl h) (fun s hs => ?_) (by rw [map_ns hf]; exact h.nd) (fun s hs => ?_) hlike hok'
  · rw [hn, ha, hd]; exact h.blk.mod hm (fun e => (h.sep b e).1 rfl)
  · obtain ⟨t, ht, rfl⟩ := List.mem_map.1 hs
    exact (hok t ht (h.sec t ht)).mod hm (fun k hk e => (h.sep k e).2 hk)
  · obtain ⟨t, ht, rfl⟩ := List.mem_map.1 hs
    rw [hf, hn]; exact h.rng t ht

set_option maxRecDepth 100000 in
set_option maxHeartbeats 3200000 in
theorem rsync_any {w : World} {b : Nat} {lv : Value} {F : Nat → Prop} {D : Dk} {L : List Sec} (h : RefAt w b lv F D L) :
    Calls Try.prog 70 #[.pointer (some ⟨b, 0, none⟩)] w (RefPost w b lv F (.int .i64 D.sync.1) D.sync.2) := by
  have c3 := h.c3
  by_cases hd : D.down = true
  · have hm : D.may 0 = 9 := by unfold Dk.may; rw [if_pos hd]
    have hw : D.sync = (9, D) := by unfold Dk.sync; rw [hm]; rfl
    rw [hw]
    rw [hd] at c3
    have HP : Hid (RefPost w b lv F (.int .i64 9) D (.returned (.int .i64 9)) w) := Lib.hid ⟨_, _, _, rfl, h, RefTo.refl _ _ _ _⟩
    clear h hd hm hw
    go_enter Try.func70, Try.ntmps70
    go_wp2
    go_ret
    exact HP.out
  · have hd' : D.down = false := by simpa using hd
    have hm : D.may 0 = 0 := by unfold Dk.may; rw [if_neg hd, if_neg (by have := h.ok.n1; omega)]
    rw [hd'] at c3
    have hcr := rcrashes_any h hd'
    cases hdn : D.crash.down with
    | true =>
      have hw : D.sync = (9, D.crash) := by unfold Dk.sync; rw [if_pos hm, if_pos hdn]
      rw [hw]
      have HP : Hid (∀ w', RefAt w' b lv F D.crash L → Mod (At b) w w' → RefPost w b lv F (.int .i64 9) D.crash (.returned (.int .i64 9)) w') := Lib.hid (fun w' h1 h2 => ⟨_, _, _, rfl, h1, RefTo.at_b h2⟩)
      rw [hdn] at hcr
      clear h hd hd' hm hw hdn
      go_enter Try.func70, Try.ntmps70
      go_wp2_with fail
      refine hcr.mono ?_
      rintro r w1 ⟨rfl, h1, m1⟩
      have HP1 := Lib.hid (HP.out w1 h1 m1)
      clear h1 m1 hcr
      go_wp2
      go_ret
      exact HP1.out
    | false =>
      have hw : D.sync = (0, D.crash.flush) := by unfold Dk.sync; rw [if_pos hm, if_neg (by rw [hdn]; exact Bool.false_ne_true)]
      rw [hw]
      rw [hdn] at hcr
      clear hd hd' hm hw hdn h
      go_enter Try.func70, Try.ntmps70
      go_wp2_with fail
      refine hcr.mono ?_
      rintro r w1 ⟨rfl, h1, m1⟩
      clear hcr c3
      generalize D.crash = E at *
      have HM := Lib.hid m1; clear m1
      rcases h1.form with ⟨rfl, rfl⟩ | ⟨g, cap, rfl, hc, hcm⟩
      · have c1 := h1.c1
        have HP : Hid (RefPost w b (.slice none 0 0) F (.int .i64 0) E.flush (.returned (.int .i64 0)) w1) :=
          Lib.hid ⟨_, _, _, rfl, h1.mapped (f := syncS) (fun _ => rfl) (fun s hs => by cases hs) (Mod.refl _ _) h1.row rfl rfl rfl (like_flush h1.like) (flush_ok h1.ok), RefTo.at_b HM.out⟩
        clear h1
        go_wp2
        go_loop [3] (fun i => i = .int .i64 0) (fun _ => 0)
        case atStart => exact rfl
        case round =>
          subst hrel
          go_wp2
          go_ret
          exact HP.out
      · have hgb : g ≠ b := (h1.sep g rfl).1
        have hlen := h1.len
        have hrow := h1.row
        have HH := Lib.hid h1
        have hbl := h1.blk.lt
        have c1 := h1.c1
        clear h1
        have hcm' : cap ≤ 9223372036854775807 := by unfold maxLen at hcm; omega
        go_wp2
        have HC := Lib.hid (And.intro c1 hrow); clear c1 hrow
        go_loopw [3] (fun i wr => ∃ j : Nat, j ≤ L.length ∧ i = .int .i64 j ∧ Mod (At g) w1 wr ∧ wr.ownsRow 0 112 4 (.slice (some ⟨g, 0, none⟩) L.length cap) L.length (flat Sec.enc (stepL syncS L j))) (fun i _ => L.length - (intOf i).toNat)
        case atStart => exact ⟨0, Nat.zero_le _, rfl, Mod.refl _ _, by rw [stepL_zero]; exact HC.out.2⟩
        case round =>
          obtain ⟨j, hj, rfl, hmr, hrow⟩ := hrel
          obtain ⟨wo, rfl⟩ : ∃ wo : World, wo = wr := ⟨_, rfl⟩
          have c1 := (hmr.cell (p := ⟨b, 1, none⟩) hbl (fun e => hgb e.symm)).trans HC.out.1
          by_cases hlt : j < L.length
          · have hlt' : (j : Int) < L.length := by omega
            have hs : L[j]? = some L[j] := List.getElem?_eq_getElem hlt
            generalize L[j] = s at *
            have d1 := at_cell0 hrow (stepL_at syncS hs) 1 (by omega) (v := .slice s.la 512 s.lc) rfl
            have d2 := at_cell0 hrow (stepL_at syncS hs) 2 (by omega) (v := .slice s.sa 512 s.sc) rfl
            have f2 := own_free hrow (j * 4 + 2)
            have hfl : ((flat Sec.enc (stepL syncS L j)).set (j * 4 + 2) (.slice s.la 512 s.lc)).set (j * 4 + 3) (.bool false) = flat Sec.enc (stepL syncS L (j + 1)) := by
              rw [flat_set Sec.enc_len (stepL syncS L j) j 2 s { s with sa := s.la, sc := s.lc, sf := s.lt } _ (stepL_at syncS hs) (by omega) rfl,
                flat_set Sec.enc_len _ j 3 { s with sa := s.la, sc := s.lc, sf := s.lt } (syncS s) (.bool false) (by rw [List.getElem?_set_self (by rw [stepL_len]; exact hlt)]) (by omega) rfl, List.set_set, stepL_set syncS hs]
            have HS := Lib.hid (And.intro hs (And.intro hfl (And.intro hrow hmr)))
            have HD := Lib.hid (And.intro d1 (And.intro d2 f2))
            clear hs hfl hrow hmr d1 d2 f2
            go_wp2_with fail
            refine wp_region_planT (fun w' => w'.cell? ⟨b, 1, none⟩ = some (.slice (some ⟨g, 0, none⟩) L.length cap) ∧ w'.cell? ⟨g, j * 4 + 1, none⟩ = some (.slice s.la 512 s.lc)) 15 [(0, 0), (1, 0), (2, 0), (3, 1), (4, 0), (5, 0), (6, 0), (7, 0), (8, 1), (9, 0), (10, 0), (11, 0), (12, 1), (13, 0), (14, 0), (15, 2)] (by kernel_rfl) (by kernel_rfl) ⟨c1, HD.out.1⟩ ?_
            iterate 3 (refine pt_pure rfl rfl (fun K hK => ?_); go_simp; refine hK _ ?_; clear hK K)
            refine pt_take _ rfl rfl (fun w' hS => exec_load1 (P := Try.prog) 105 _ rfl rfl hS.1 Try.underlying105 rfl) (fun K hK => ?_); go_simp; refine hK _ ?_; clear hK K
            iterate 4 (refine pt_pure rfl rfl (fun K hK => ?_); go_simp; refine hK _ ?_; clear hK K)
            refine pt_take _ rfl rfl (fun w' hS => exec_load1 (P := Try.prog) 105 _ rfl rfl hS.1 Try.underlying105 rfl) (fun K hK => ?_); go_simp; refine hK _ ?_; clear hK K
            iterate 3 (refine pt_pure rfl rfl (fun K hK => ?_); go_simp; refine hK _ ?_; clear hK K)
            refine pt_take _ rfl rfl (fun w' hS => exec_load1 (P := Try.prog) 35 _ rfl rfl hS.2 Try.underlying35 rfl) (fun K hK => ?_); go_simp; refine hK _ ?_; clear hK K
            iterate 2 (refine pt_pure rfl rfl (fun K hK => ?_); go_simp; refine hK _ ?_; clear hK K)
            refine pt_unit (w1 := wo.drew.setCell ⟨g, j * 4 + 2, none⟩ (.slice s.la 512 s.lc)) rfl rfl (exec_store1 (P := Try.prog) 35 _ _ rfl rfl rfl HD.out.2.1 HD.out.2.2 rfl rfl rfl size_slice8) (fun h => by simp at h) (fun K hK => ?_); go_simp; refine hK _ ?_; clear hK K
            refine pt_nil ?_
            have row4 := own_set (own_mod HS.out.2.2.1 (Mod.refl Nn wo).drew (fun _ _ f => f)) (j * 4 + 2) (.slice s.la 512 s.lc)
            have m4 : Mod (At g) w1 (wo.drew.setCell ⟨g, j * 4 + 2, none⟩ (.slice s.la 512 s.lc)) := HS.out.2.2.2.drew.setCell (p := ⟨g, j * 4 + 2, none⟩) (.inr rfl) _
            have c4 := (m4.cell (p := ⟨b, 1, none⟩) hbl (fun e => hgb e.symm)).trans HC.out.1
            have d4 : (wo.drew.setCell ⟨g, j * 4 + 2, none⟩ (.slice s.la 512 s.lc)).cell? ⟨g, j * 4 + 3, none⟩ = some (.bool s.op) := by
              rw [World.cell?_setCell_other _ _ _ _ (fun e => by injection e with _ e _; omega)]
              exact at_cell0 HS.out.2.2.1 (stepL_at syncS HS.out.1) 3 (by omega) (v := .bool s.op) rfl
            have f4 := own_free row4 (j * 4 + 3)
            generalize wo.drew.setCell ⟨g, j * 4 + 2, none⟩ (.slice s.la 512 s.lc) = w4 at *
            have row5 := own_set row4 (j * 4 + 3) (.bool false)
            rw [HS.out.2.1] at row5
            have H5 := Lib.hid (And.intro (m4.setCell (p := ⟨g, j * 4 + 3, none⟩) (.inr rfl) (.bool false)) row5)
            clear row4 m4 row5 c1
            go_wp2
            exact ⟨⟨j + 1, by omega, by go_num, H5.out⟩, by simp [intOf]; omega⟩
          · have hlt' : ¬ (j : Int) < L.length := by omega
            have hjl : j = L.length := by omega
            subst hjl
            rw [stepL_all] at hrow
            have HP : Hid (RefPost w b (.slice (some ⟨g, 0, none⟩) L.length cap) F (.int .i64 0) E.flush (.returned (.int .i64 0)) wo) :=
              Lib.hid ⟨_, _, _, rfl, HH.out.mapped (f := syncS) (fun _ => rfl) (fun s _ hs => ⟨hs.l, hs.l, hs.lF, hs.lF⟩) (hmr.mono (fun k _ e => by have e : k = g := e; rw [e]; rfl)) hrow rfl rfl rfl (like_flush HH.out.like) (flush_ok HH.out.ok),
                ⟨(HM.out.mono (fun k _ e => .inl e)).then_ hmr (fun k _ e => .inr (by have e : k = g := e; rw [e]; rfl)), fun _ h => .inl h, fun _ h => .inl h⟩⟩
            clear hrow hmr
            go_wp2
            go_ret
            exact HP.out
end Go.Proofs.Ytgmkibckbbbhkaa
