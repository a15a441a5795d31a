/- peatbanklaw09: a write in a cache's life. -/
import Derived.Test.YtgmkibckbbbhkaaCa9
namespace Go.Proofs.Ytgmkibckbbbhkaa
open Go.RowKit

section
variable {w0 w w' : World} {I : CI} {sz : Int} {s : CS}
set_option maxRecDepth 100000 in
set_option maxHeartbeats 6400000 in
theorem l_write (h : Lf w0 w I sz s) (kk : Coh sz s) (at_ : Int) (hn : s.now ≤ 1000000) {A : Option Addr} {n c : Nat} {bs : List Int} (hr : Rd w A n (bs.map (Value.int .u8))) (hA : ∀ g, Of A g → ¬ InL I s g ∧ g < w.heap.size) (hn5 : n ≤ 512) :
    Calls Try.prog 85 #[.pointer (some ⟨I.x, 0, none⟩), .int .i64 at_, .slice A n c] w (LStep w0 I sz s) := by
  have hbl : bs.length = n := by simpa using hr.1
  have HBL := Lib.hid hbl; clear hbl
  have HK := Lib.hid kk; clear kk
  have H := Lib.hid h; clear h
  have HA := Lib.hid hA; clear hA
  have HR := Lib.hid hr
  generalize hW : (s.D.write at_ bs).1 = r at *
  have HW := Lib.hid hW; clear hW
  go_enter Try.func85, Try.ntmps85
  go_wp2_with fail
  refine (lent_any hr (by omega)).mono ?_
  rintro e w1 ⟨g, rfl, hb1, m1, hg⟩
  have h1 := H.out.quiet m1
  have hr1 := hr.mod m1 (fun _ _ f => f)
  have hrin : Rd w1 (some ⟨g, 0, none⟩) n (bs.map (Value.int .u8)) := Rd.of_blk hb1 0 (by simp [HBL.out]) (fun j v hv => by
    rw [List.getElem?_toArray, Nat.zero_add, List.map_append, List.getElem?_append_left (List.getElem?_eq_some_iff.1 hv).1]; exact hv)
  have hgl := hb1.lt
  have HGN := Lib.hid (show ∀ k, InL I s k → k ≠ g from fun k hk e => by have := H.out.lt k hk; omega)
  have c0 : w1.cell? ⟨I.x, 0, none⟩ = some (.pointer (some ⟨I.c, 0, none⟩)) := h1.blk.cell 0
  clear hr
  go_wp2_with fail
  refine (cwrite_any (h1.cat HK.out) at_ (by omega) hrin (fun k hk hin => by
    obtain ⟨a, ha, hka⟩ := hk; injection ha with ha; subst ha
    exact HGN.out k (.inr (.inr (.inl (inA_of hin)))) hka.symm)).mono ?_
  rintro e w2 ⟨l', rfl, hC2, hT2⟩
  rw [HW.out] at hC2 ⊢
  have h2 := h1.cache hC2.mem hC2.d hC2.sep hT2 hC2.n0 hC2.h0 hC2.s0 hC2.hs (wroteT s.T at_ s.now r)
  have hr2 := hr1.mod hT2.md (fun k hk hin => (HA.out k hk).1 (.inr (.inr (.inl (inA_of hin)))))
  have hb2 := hb1.mod hT2.md (fun hin => HGN.out g (.inr (.inr (.inl (inA_of hin)))) rfl)
  have c2 : w2.cell? ⟨I.x, 2, none⟩ = some (.pointer (some ⟨I.r, 0, none⟩)) := h2.blk.cell 2
  have HGA := Lib.hid (show ¬ InA I.c I.b I.ms I.mo I.km l' g from fun hin => by
    rcases hT2.A hin with h3 | h3
    · exact HGN.out g (.inr (.inr (.inl h3))) rfl
    · omega)
  have HC2 := Lib.hid hC2; clear hC2 hr1 hb1 h1 hrin c0
  have hsz2 := hT2.md.size
  clear hT2
  go_wp2_with fail
  have hrw := rwrite_any (c := c) h2.rf at_ hr2 (fun k hk hin => (HA.out k hk).1 (.inr (.inr (.inr (.inl hin)))))
  have heq : s.E = s.D := HK.out.eq
  try simp only at hrw
  rw [heq, HW.out] at hrw
  refine hrw.mono ?_
  clear hrw
  rintro e w3 ⟨lv', F', L', rfl, hR3, to3⟩
  try simp only at hR3 to3
  have h3 := h2.ref hR3 to3
  have hr3 := hr2.mod to3.md (fun k hk hin => (HA.out k hk).1 (.inr (.inr (.inr (.inl hin)))))
  have hb3 := hb2.mod to3.md (fun hin => HGN.out g (.inr (.inr (.inr (.inl hin)))) rfl)
  have HGR := Lib.hid (show ¬ InR I.r lv' g ∧ ¬ F' g from ⟨fun hin => by
    rcases hin with hin | hin
    · exact HGN.out g (.inr (.inr (.inr (.inl (.inl hin))))) rfl
    · rcases to3.lv g hin with h4 | h4
      · exact HGN.out g (.inr (.inr (.inr (.inl (.inr h4))))) rfl
      · omega, fun hin => by
    rcases to3.F g hin with h4 | h4
    · exact HGN.out g (.inr (.inr (.inr (.inr h4)))) rfl
    · omega⟩)
  clear h2 hr2 hb2 hR3 to3 c2 heq
  go_wp2_with fail
  refine (kept_any hr3 hb3 (by omega)).mono ?_
  rintro e w4 ⟨rfl, m4⟩
  have h4 := h3.quiet m4
  have hb4 := hb3.mod m4 (fun f => f)
  clear h3 m4 hr3 hb3
  have hcs : ((bs ++ mks 1 12).map (Value.int .u8)).toArray.size = n + 12 := by simp [HBL.out, mks_len]
  go_wp2_with fail
  refine (over_any hb4 hcs (by omega)).mono ?_
  rintro e w5 ⟨rfl, m5⟩
  have h5 : Lf w0 w5 I sz _ := h4.mod m5 (fun k hk hs => by
    have hs : k = g := hs
    subst hs
    rcases hk with hk | hk | hk | hk
    · exact HGN.out k (.inl hk) rfl
    · exact HGN.out k (.inr (.inl hk)) rfl
    · exact HGA.out hk
    · rcases hk with hk | hk
      · exact HGR.out.1 hk
      · exact HGR.out.2 hk) (fun k hk hs => by have hs : k = g := hs; have := H.out.md.size; omega)
  clear h4 m5 hb4 hcs
  have htl : s.tl.length ≤ 1048576 := by have := HK.out.len; omega
  have hdn : (s.D.write at_ bs).2.n = s.D.n := write_n _ _ _
  have HDN := Lib.hid hdn; clear hdn
  have HH5 := Lib.hid h5; clear h5
  by_cases hr0 : r = 0
  · subst hr0
    have e1 : wroteT s.T at_ s.now 0 = touchL s.T at_ (s.now + 1) := rfl
    have e2 : wroteN s.now 0 = s.now + 1 := rfl
    have HC := HC2.out
    rw [e1, e2] at HC
    have HCC := Lib.hid HC; clear HC e1 e2
    go_wp2_with fail
    refine (l_touch HH5.out htl at_).mono ?_
    rintro e w6 ⟨A6, c6, rfl, h6⟩
    have HP : Hid (LStep w0 I sz s (.returned (.bool true)) w6) := Lib.hid ⟨_, rfl, h6, Coh.of HCC.out rfl rfl rfl rfl (by show (s.D.write at_ bs).2 = _; rfl) rfl rfl (by
      show s.tl.filter (fun y => !(y == at_)) ++ [at_] = _
      rw [touch_map, HK.out.tl]) HK.out.rd (by
        show ((s.tl.filter (fun y => !(y == at_)) ++ [at_]).length : Int) ≤ s.now + 1
        have : (s.tl.filter (fun y => !(y == at_))).length ≤ s.tl.length := List.length_filter_le _ _
        have := HK.out.len
        rw [List.length_append]
        simp only [List.length_cons, List.length_nil]
        omega), by show wroteN s.now 0 ≤ s.now + 1; exact Int.le_refl _, HDN.out⟩
    clear h6
    go_wp2
    go_ret
    exact HP.out
  · by_cases hr9 : r = 9
    · subst hr9
      have e1 : wroteT s.T at_ s.now 9 = s.T.filter (fun e => !(e.1 == at_)) := rfl
      have e2 : wroteN s.now 9 = s.now := rfl
      have HC := HC2.out
      rw [e1, e2] at HC
      have HCC := Lib.hid HC; clear HC e1 e2 hr0
      go_wp2_with fail
      refine (l_forget HH5.out htl at_).mono ?_
      rintro e w6 ⟨A6, c6, rfl, h6⟩
      have HP : Hid (LStep w0 I sz s (.returned (.bool true)) w6) := Lib.hid ⟨_, rfl, h6, Coh.of HCC.out rfl rfl rfl rfl (by show (s.D.write at_ bs).2 = _; rfl) rfl rfl (by
        show s.tl.filter (fun y => !(y == at_)) = _
        rw [HK.out.tl, List.filter_map]; rfl) HK.out.rd (by
          show ((s.tl.filter (fun y => !(y == at_))).length : Int) ≤ s.now
          have : (s.tl.filter (fun y => !(y == at_))).length ≤ s.tl.length := List.length_filter_le _ _
          have := HK.out.len
          omega), by show wroteN s.now 9 ≤ s.now + 1; show s.now ≤ s.now + 1; omega, HDN.out⟩
      clear h6
      go_wp2
      go_ret
      exact HP.out
    · have e1 : wroteT s.T at_ s.now r = s.T := by unfold wroteT; rw [if_neg hr0, if_neg hr9]
      have e2 : wroteN s.now r = s.now := by unfold wroteN; rw [if_neg hr0]
      have HC := HC2.out
      rw [e1, e2] at HC
      have HP : Hid (LStep w0 I sz s (.returned (.bool true)) w5) := Lib.hid ⟨_, rfl, HH5.out, Coh.of HC (by show wroteN s.now r = s.now; exact e2) rfl rfl rfl (by show (s.D.write at_ bs).2 = _; rfl) rfl e1 HK.out.tl HK.out.rd HK.out.len, by show wroteN s.now r ≤ s.now + 1; rw [e2]; omega, HDN.out⟩
      have hr0' : (r == 0) = false := by rw [beq_eq_false_iff_ne]; exact hr0
      have hr9' : (r == 9) = false := by rw [beq_eq_false_iff_ne]; exact hr9
      clear HC e1 e2 hr0 hr9
      go_wp2
      go_ret
      exact HP.out
end
end Go.Proofs.Ytgmkibckbbbhkaa
