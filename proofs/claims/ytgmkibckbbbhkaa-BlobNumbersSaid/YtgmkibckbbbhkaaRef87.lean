/- The document's device: Wake. -/
import Derived.Test.YtgmkibckbbbhkaaRef86
import Derived.Deep.QuietTactic
namespace Go.Proofs.Ytgmkibckbbbhkaa
open Go.RowKit

def keepS (s : Sec) : Sec := { s with sa := s.la, sc := s.lc, sf := s.lt, op := false }
def dropS (s : Sec) : Sec := { s with la := s.sa, lc := s.sc, lt := s.sf, op := false }
def wakeS (fs : List Int) (s : Sec) : Sec := if s.op = true then (if s.n ∈ fs then keepS s else dropS s) else s
theorem wakeS_n (fs : List Int) (s : Sec) : (wakeS fs s).n = s.n := by unfold wakeS; split <;> (try split) <;> rfl
theorem wakeS_ok {w : World} {F : Nat → Prop} {s : Sec} (fs : List Int) (h : SecOk w F s) : SecOk w F (wakeS fs s) := by
  unfold wakeS
  split
  · split
    · exact ⟨h.l, h.l, h.lF, h.lF⟩
    · exact ⟨h.f, h.f, h.fF, h.fF⟩
  · exact h
theorem like_wake {D : Dk} {L : List Sec} (fs : List Int) (h : LikeD D L) : LikeD (D.wake fs) (L.map (wakeS fs)) := by
  intro k
  rw [find_map (wakeS_n fs)]
  refine ⟨fun s hs => ?_, fun hs => ?_⟩
  · obtain ⟨t, ht, rfl⟩ := Option.map_eq_some_iff.1 hs
    have htk : t.n = k := by have := List.find?_some ht; simpa using this
    obtain ⟨h1, h2, h3⟩ := (h k).1 t ht
    simp only [Dk.latest, Dk.wake, Option.none_or] at h1 ⊢
    cases ho : D.opn k with
    | none =>
      rw [ho, Option.none_or] at h1
      rw [ho] at h3
      have hf : t.op = false := h3
      have hw : wakeS fs t = t := by unfold wakeS; rw [if_neg (by rw [hf]; exact Bool.false_ne_true)]
      rw [hw]
      refine ⟨?_, ?_, hf⟩
      · rw [h1]; split <;> simp
      · rw [h2]; split <;> simp
    | some u =>
      rw [ho] at h1 h3
      have hf : t.op = true := h3
      by_cases hk : k ∈ fs
      · have hw : wakeS fs t = keepS t := by unfold wakeS; rw [if_pos hf, if_pos (by rw [htk]; exact hk)]
        rw [hw, if_pos hk]
        exact ⟨h1, h1, rfl⟩
      · have hw : wakeS fs t = dropS t := by unfold wakeS; rw [if_pos hf, if_neg (by rw [htk]; exact hk)]
        rw [hw, if_neg hk]
        exact ⟨h2, h2, rfl⟩
  · have := (h k).2 (by simpa using hs)
    simp [Dk.wake, this.1, this.2]
theorem wake_ok {D : Dk} (fs : List Int) (h : D.ok) : (D.wake fs).ok :=
  ⟨h.n1, h.n2, Int.le_refl 0, (by decide : (0 : Int) ≤ 9223372036854775807), fun k v hv => by
    simp only [Dk.wake] at hv
    split at hv
    · cases ho : D.opn k with
      | none => rw [ho, Option.none_or] at hv; exact h.sl k v hv
      | some u => rw [ho, Option.some_or] at hv; injection hv with hv; rw [← hv]; exact h.ol k u ho
    · exact h.sl k v hv, fun k v hv => by cases hv⟩
theorem wake_up (D : Dk) (fs : List Int) : (D.up).wake fs = D.wake fs := rfl

theorem set_same {α : Type} {L : List α} {i : Nat} {s : α} (h : L[i]? = some s) : L.set i s = L := by
  apply List.ext_getElem?
  intro j
  rw [List.getElem?_set]
  by_cases hj : i = j
  · subst hj; rw [if_pos rfl, if_pos (List.getElem?_eq_some_iff.1 h).1, h]
  · rw [if_neg hj]
theorem kept_succ {fs : List Int} {i : Nat} {z k : Int} (h : fs[i]? = some z) : decide (k ∈ fs.take (i + 1)) = (decide (k ∈ fs.take i) || (z == k)) := by
  rw [List.take_add_one, h]
  by_cases h1 : k ∈ fs.take i
  · simp [h1]
  · by_cases h2 : z = k
    · subst h2; simp
    · have h3 : ¬ k = z := fun e => h2 e.symm
      simp [h1, h3, h2]

set_option maxRecDepth 100000 in
set_option maxHeartbeats 6400000 in
theorem rwake_any {w : World} {b : Nat} {lv : Value} {F : Nat → Prop} {D : Dk} {L : List Sec} (h : RefAt w b lv F D L) {A : Option Addr} {n c : Nat} {fs : List Int} (hr : Rd w A n (fs.map (Value.int .i64))) (hA : 0 < n → ∀ g, Of A g → ¬ InR b lv g) (hn : n ≤ 140737488355328) :
    Calls Try.prog 35 #[.pointer (some ⟨b, 0, none⟩), .slice A n c] w (RefPost w b lv F (.tuple #[]) (D.wake fs)) := by
  have hfl : fs.length = n := by simpa using hr.1
  have HFL := Lib.hid hfl; clear hfl
  have c3 := h.c3; have c2 := h.c2
  have f2 := h.blk.frozen 2; have f3 := h.blk.frozen 3
  have hb2 : Blk ((w.setCell ⟨b, 3, none⟩ (.bool false)).setCell ⟨b, 2, none⟩ (.int .i64 0)) b 107 #[.int .i64 D.n, lv, .int .i64 0, .bool false] := (h.blk.set_ 3 _).set_ 2 _
  have m2 : Mod (At b) w ((w.setCell ⟨b, 3, none⟩ (.bool false)).setCell ⟨b, 2, none⟩ (.int .i64 0)) := ((Mod.refl (At b) w).setCell (p := ⟨b, 3, none⟩) (.inr rfl) _).setCell (p := ⟨b, 2, none⟩) (.inr rfl) _
  have h2 : RefAt ((w.setCell ⟨b, 3, none⟩ (.bool false)).setCell ⟨b, 2, none⟩ (.int .i64 0)) b lv F D.up L := h.turn 0 false (Int.le_refl 0) (by decide) hb2 m2
  have hr2 := hr.mod0 m2 (fun hp g hg e => hA hp g hg (.inl e))
  have HM := Lib.hid m2
  have H2 := Lib.hid (And.intro h2 hr2)
  clear h hb2 m2 h2 hr2 hr
  generalize D.armed = ar at *
  generalize D.down = dn at *
  go_enter Try.func35, Try.ntmps35
  go_wp2
  clear c2 c3 f2 f3
  generalize (w.setCell ⟨b, 3, none⟩ (.bool false)).setCell ⟨b, 2, none⟩ (.int .i64 0) = w1 at *
  rcases H2.out.1.form with ⟨rfl, rfl⟩ | ⟨g, cap, rfl, hc, hcm⟩
  · have c1 := H2.out.1.c1
    have HP : Hid (RefPost w b (.slice none 0 0) F (.tuple #[]) (D.wake fs) (.returned (.tuple #[])) w1) :=
      Lib.hid ⟨_, _, _, rfl, H2.out.1.mapped (D' := D.wake fs) (f := wakeS fs) (wakeS_n fs) (fun s hs => by cases hs) (Mod.refl _ _) H2.out.1.row rfl rfl rfl (like_wake (D := D.up) fs H2.out.1.like) (wake_ok (D := D.up) fs H2.out.1.ok), RefTo.at_b HM.out⟩
    go_loop [4] (fun i => i = .int .i64 0) (fun _ => 0)
    case atStart => exact rfl
    case round =>
      subst hrel
      go_wp2
      go_end0
      exact HP.out
  · have hgb : g ≠ b := (H2.out.1.sep g rfl).1
    have hlen := H2.out.1.len
    have hbl := H2.out.1.blk.lt
    have hcm' : cap ≤ 9223372036854775807 := by unfold maxLen at hcm; omega
    go_loopw [4] (fun i wr => ∃ j : Nat, j ≤ L.length ∧ i = .int .i64 j ∧ Mod (At g) w1 wr ∧ wr.ownsRow 0 112 4 (.slice (some ⟨g, 0, none⟩) L.length cap) L.length (flat Sec.enc (stepL (wakeS fs) L j))) (fun i _ => L.length - (intOf i).toNat)
    case atStart => exact ⟨0, Nat.zero_le _, rfl, Mod.refl _ _, by rw [stepL_zero]; exact H2.out.1.row⟩
    case round =>
      obtain ⟨j, hj, rfl, hmr, hrow⟩ := hrel
      obtain ⟨wo, rfl⟩ : ∃ wo : World, wo = wr := ⟨_, rfl⟩
      have c1 := (hmr.cell (p := ⟨b, 1, none⟩) hbl (fun e => hgb e.symm)).trans H2.out.1.c1
      by_cases hlt : j < L.length
      · have hlt' : (j : Int) < L.length := by omega
        have hs : L[j]? = some L[j] := List.getElem?_eq_getElem hlt
        generalize L[j] = s at *
        have d0 := at_cell0 hrow (stepL_at (wakeS fs) hs) 0 (by omega) (v := .int .i64 s.n) rfl
        rw [Nat.add_zero] at d0
        have d1 := at_cell0 hrow (stepL_at (wakeS fs) hs) 1 (by omega) (v := .slice s.la 512 s.lc) rfl
        have d2 := at_cell0 hrow (stepL_at (wakeS fs) hs) 2 (by omega) (v := .slice s.sa 512 s.sc) rfl
        have d3 := at_cell0 hrow (stepL_at (wakeS fs) hs) 3 (by omega) (v := .bool s.op) rfl
        cases hop : s.op with
        | false =>
          have hw : wakeS fs s = s := by unfold wakeS; rw [if_neg (by rw [hop]; exact Bool.false_ne_true)]
          have hst := stepL_set (wakeS fs) hs
          rw [hw, set_same (stepL_at (wakeS fs) hs)] at hst
          rw [hop] at d3
          rw [hst] at hrow
          have HR := Lib.hid (And.intro hmr hrow)
          clear hmr hrow hs hw hst d0 d1 d2 hop
          go_wp2
          exact ⟨⟨j + 1, by omega, by go_num, HR.out⟩, by simp [intOf]; omega⟩
        | true =>
          rw [hop] at d3
          have HS := Lib.hid (And.intro hs (And.intro hop (And.intro hrow hmr)))
          have hrf := H2.out.2.mod0 hmr (fun hp k hk e => hA hp k hk (.inr (by have e : k = g := e; rw [e]; rfl)))
          have HRF := Lib.hid hrf
          clear hs hop hrow hmr hrf
          have HD := Lib.hid (And.intro d0 (And.intro d1 d2))
          clear d0 d1 d2
          go_wp2
          clear d3
          go_loopw [6, 7] (fun v k wr => ∃ i : Nat, i ≤ n ∧ k = .int .i64 i ∧ v = .bool (decide (s.n ∈ fs.take i)) ∧ Mod Nn wo wr) (fun _ k _ => n - (intOf k).toNat)
          case atStart => exact ⟨0, Nat.zero_le _, rfl, by simp, Mod.refl _ _⟩
          case round =>
            obtain ⟨i, hi, rfl, rfl, hmi⟩ := hrel
            obtain ⟨wi, rfl⟩ : ∃ wi : World, wi = wr := ⟨_, rfl⟩
            have HMI := Lib.hid hmi; clear hmi
            by_cases hit : i < n
            · have hit' : (i : Int) < n := by omega
              obtain ⟨gf, of_, v, rfl, hv, cf⟩ := (HRF.out.mod HMI.out (fun _ _ f => f)).at_ hit
              rw [List.getElem?_map] at hv
              obtain ⟨z, hz, rfl⟩ := Option.map_eq_some_iff.1 hv
              have hks := kept_succ (k := s.n) hz
              have d0 := (HMI.out.cell (p := ⟨g, j * 4, none⟩) (own_lt HS.out.2.2.1) (fun f => f)).trans HD.out.1
              generalize hkv : decide (s.n ∈ fs.take i) = kv at *
              have HKS := Lib.hid hks
              clear hkv hks hv hz
              cases kv with
              | true =>
                go_wp2
                go_quiet (fail)
                go_wp2
                exact ⟨⟨i + 1, by omega, by go_num, by rw [HKS.out]; rfl, HMI.out.drewN nq⟩, by simp [intOf]; omega⟩
              | false =>
                go_wp2
                go_quiet (fail)
                go_wp2
                exact ⟨⟨i + 1, by omega, by go_num, by rw [HKS.out]; rfl, HMI.out.drewN nq⟩, by simp [intOf]; omega⟩
            · have hit' : ¬ (i : Int) < n := by omega
              have hin : fs.take i = fs := List.take_of_length_le (by rw [HFL.out]; omega)
              rw [hin]
              have row3 := own_mod HS.out.2.2.1 HMI.out (fun _ _ f => f)
              have hgl := own_lt HS.out.2.2.1
              have d1 := (HMI.out.cell (p := ⟨g, j * 4 + 1, none⟩) hgl (fun f => f)).trans HD.out.2.1
              have d2 := (HMI.out.cell (p := ⟨g, j * 4 + 2, none⟩) hgl (fun f => f)).trans HD.out.2.2
              have d3 := at_cell0 row3 (stepL_at (wakeS fs) HS.out.1) 3 (by omega) (v := .bool s.op) rfl
              have f1 := own_free row3 (j * 4 + 1)
              have f2 := own_free row3 (j * 4 + 2)
              have f3 := own_free row3 (j * 4 + 3)
              have HIN := Lib.hid hin
              have ROW3 := Lib.hid row3
              have M3 := Lib.hid (HS.out.2.2.2.nn_ HMI.out)
              have HLT := Lib.hid hlt
              clear hin row3 hgl hlt
              by_cases hk : s.n ∈ fs
              · have hkd : decide (s.n ∈ fs) = true := by simpa using hk
                rw [hkd]
                have hw : wakeS fs s = keepS s := by unfold wakeS; rw [if_pos HS.out.2.1, if_pos hk]
                have hfl : ((flat Sec.enc (stepL (wakeS fs) L j)).set (j * 4 + 2) (.slice s.la 512 s.lc)).set (j * 4 + 3) (.bool false) = flat Sec.enc (stepL (wakeS fs) L (j + 1)) := by
                  rw [flat_set Sec.enc_len (stepL (wakeS fs) L j) j 2 s { s with sa := s.la, sc := s.lc, sf := s.lt } _ (stepL_at _ HS.out.1) (by omega) rfl,
                    flat_set Sec.enc_len _ j 3 { s with sa := s.la, sc := s.lc, sf := s.lt } (keepS s) (.bool false) (by rw [List.getElem?_set_self (by rw [stepL_len]; exact HLT.out)]) (by omega) rfl, List.set_set, ← hw, stepL_set _ HS.out.1]
                have row5 := own_set (own_set ROW3.out (j * 4 + 2) (.slice s.la 512 s.lc)) (j * 4 + 3) (.bool false)
                rw [hfl] at row5
                have H5 := Lib.hid (And.intro ((M3.out.setCell (p := ⟨g, j * 4 + 2, none⟩) (.inr rfl) (.slice s.la 512 s.lc)).setCell (p := ⟨g, j * 4 + 3, none⟩) (.inr rfl) (.bool false)) row5)
                clear hk hkd hw hfl row5 f1
                go_wp2
                exact ⟨⟨j + 1, by omega, by go_num, H5.out⟩, by simp [intOf]; omega⟩
              · have hkd : decide (s.n ∈ fs) = false := by simpa using hk
                rw [hkd]
                have hw : wakeS fs s = dropS s := by unfold wakeS; rw [if_pos HS.out.2.1, if_neg hk]
                have hfl : ((flat Sec.enc (stepL (wakeS fs) L j)).set (j * 4 + 1) (.slice s.sa 512 s.sc)).set (j * 4 + 3) (.bool false) = flat Sec.enc (stepL (wakeS fs) L (j + 1)) := by
                  rw [flat_set Sec.enc_len (stepL (wakeS fs) L j) j 1 s { s with la := s.sa, lc := s.sc, lt := s.sf } _ (stepL_at _ HS.out.1) (by omega) rfl,
                    flat_set Sec.enc_len _ j 3 { s with la := s.sa, lc := s.sc, lt := s.sf } (dropS s) (.bool false) (by rw [List.getElem?_set_self (by rw [stepL_len]; exact HLT.out)]) (by omega) rfl, List.set_set, ← hw, stepL_set _ HS.out.1]
                have row5 := own_set (own_set ROW3.out (j * 4 + 1) (.slice s.sa 512 s.sc)) (j * 4 + 3) (.bool false)
                rw [hfl] at row5
                have H5 := Lib.hid (And.intro ((M3.out.setCell (p := ⟨g, j * 4 + 1, none⟩) (.inr rfl) (.slice s.sa 512 s.sc)).setCell (p := ⟨g, j * 4 + 3, none⟩) (.inr rfl) (.bool false)) row5)
                clear hk hkd hw hfl row5 f2
                go_wp2
                exact ⟨⟨j + 1, by omega, by go_num, H5.out⟩, by simp [intOf]; omega⟩
      · have hlt' : ¬ (j : Int) < L.length := by omega
        have hjl : j = L.length := by omega
        subst hjl
        rw [stepL_all] at hrow
        have HP : Hid (RefPost w b (.slice (some ⟨g, 0, none⟩) L.length cap) F (.tuple #[]) (D.wake fs) (.returned (.tuple #[])) wo) :=
          Lib.hid ⟨_, _, _, rfl, H2.out.1.mapped (D' := D.wake fs) (f := wakeS fs) (wakeS_n fs) (fun s _ hs => wakeS_ok fs hs) (hmr.mono (fun k _ e => by have e : k = g := e; rw [e]; rfl)) hrow rfl rfl rfl (like_wake (D := D.up) fs H2.out.1.like) (wake_ok (D := D.up) fs H2.out.1.ok),
            ⟨(HM.out.mono (fun k _ e => .inl e)).then_ hmr (fun k _ e => .inr (by have e : k = g := e; rw [e]; rfl)), fun _ h => .inl h, fun _ h => .inl h⟩⟩
        clear hrow hmr
        go_wp2
        go_end0
        exact HP.out
end Go.Proofs.Ytgmkibckbbbhkaa
