/- The document's device (peatbankref08.Disk): its words in memory; find, Down, Sectors, crashes, Arm. -/
import Derived.Test.YtgmkibckbbbhkaaKitB
import Derived.Test.YtgmkibckbbbhkaaDev4
import Derived.Test.YtgmkibckbbbhkaaDev6
namespace Go.Proofs.Ytgmkibckbbbhkaa
open Go.RowKit

structure Sec where
  n : Int
  la : Option Addr
  lc : Nat
  lt : List Int
  sa : Option Addr
  sc : Nat
  sf : List Int
  op : Bool
def Sec.enc (s : Sec) : List Value := [.int .i64 s.n, .slice s.la 512 s.lc, .slice s.sa 512 s.sc, .bool s.op]
theorem Sec.enc_len (s : Sec) : s.enc.length = 4 := rfl
structure SecOk (w : World) (F : Nat → Prop) (s : Sec) : Prop where
  l : Rd w s.la 512 (s.lt.map (Value.int .u8))
  f : Rd w s.sa 512 (s.sf.map (Value.int .u8))
  lF : ∀ g, Of s.la g → F g
  fF : ∀ g, Of s.sa g → F g
theorem SecOk.mod {w w' : World} {F S : Nat → Prop} {s : Sec} (h : SecOk w F s) (hm : Mod S w w') (hn : ∀ k, F k → ¬ S k) : SecOk w' F s :=
  ⟨h.l.mod hm (fun g hg => hn g (h.lF g hg)), h.f.mod hm (fun g hg => hn g (h.fF g hg)), h.lF, h.fF⟩
theorem SecOk.mono {w : World} {F G : Nat → Prop} {s : Sec} (h : SecOk w F s) (hn : ∀ k, F k → G k) : SecOk w G s :=
  ⟨h.l, h.f, fun g hg => hn g (h.lF g hg), fun g hg => hn g (h.fF g hg)⟩

/-- the sectors that were written are those of D -/
def LikeD (D : Dk) (L : List Sec) : Prop :=
  ∀ k : Int, (∀ s, L.find? (fun s => s.n == k) = some s → s.lt = D.latest k ∧ s.sf = (D.safe k).getD zsec ∧ s.op = (D.opn k).isSome) ∧ (L.find? (fun s => s.n == k) = none → D.opn k = none ∧ D.safe k = none)

structure RefAt (w : World) (b : Nat) (lv : Value) (F : Nat → Prop) (D : Dk) (L : List Sec) : Prop where
  blk : Blk w b 107 #[.int .i64 D.n, lv, .int .i64 D.armed, .bool D.down]
  row : w.ownsRow 0 112 4 lv L.length (flat Sec.enc L)
  sec : ∀ s ∈ L, SecOk w F s
  nd : (L.map (·.n)).Nodup
  rng : ∀ s ∈ L, 0 ≤ s.n ∧ s.n < D.n
  like : LikeD D L
  fb : ¬ F b
  sep : ∀ g, lv.ownBlock = some g → g ≠ b ∧ ¬ F g
  flt : ∀ g, F g → g < w.heap.size
  ok : D.ok

def InR (b : Nat) (lv : Value) : Nat → Prop := fun k => k = b ∨ lv.ownBlock = some k

section
variable {w w' : World} {b : Nat} {lv : Value} {F : Nat → Prop} {D : Dk} {L : List Sec} {S : Nat → Prop}
theorem RefAt.mod (h : RefAt w b lv F D L) (hm : Mod S w w') (hn : ∀ k, InR b lv k ∨ F k → ¬ S k) : RefAt w' b lv F D L :=
  ⟨h.blk.mod hm (hn _ (.inl (.inl rfl))), own_mod h.row hm (fun g hg => hn g (.inl (.inr hg))), fun s hs => (h.sec s hs).mod hm (fun k hk => hn k (.inr hk)), h.nd, h.rng, h.like, h.fb, h.sep,
   fun g hg => Nat.lt_of_lt_of_le (h.flt g hg) hm.size, h.ok⟩
theorem RefAt.drew (h : RefAt w b lv F D L) : RefAt w.drew b lv F D L := h.mod (Mod.refl Nn w).drew (fun _ _ f => f)
theorem RefAt.nn (h : RefAt w b lv F D L) (hm : Mod Nn w w') : RefAt w' b lv F D L := h.mod hm (fun _ _ f => f)
theorem RefAt.len (h : RefAt w b lv F D L) : L.length ≤ 262144 := by
  have h1 : (L.map (·.n)).length ≤ ((List.range D.n.toNat).map (fun i : Nat => (i : Int))).length := nodup_sub_len _ _ h.nd (fun x hx => by
    obtain ⟨s, hs, rfl⟩ := List.mem_map.1 hx
    have := h.rng s hs
    exact List.mem_map.2 ⟨s.n.toNat, List.mem_range.2 (by omega), by omega⟩)
  have := h.ok.n2
  have := h.ok.n1
  simp only [List.length_map, List.length_range] at h1
  omega
theorem RefAt.lt (h : RefAt w b lv F D L) : ∀ k, InR b lv k ∨ F k → k < w.heap.size := by
  rintro k ((rfl | h1) | h1)
  · exact h.blk.lt
  · obtain ⟨A, c, hv, _, hlt⟩ := own_form h.row
    rw [hv] at h1
    exact (hlt k (own_of h1)).2
  · exact h.flt k h1
theorem RefAt.c0 (h : RefAt w b lv F D L) : w.cell? ⟨b, 0, none⟩ = some (.int .i64 D.n) := h.blk.cell 0
theorem RefAt.c1 (h : RefAt w b lv F D L) : w.cell? ⟨b, 1, none⟩ = some lv := h.blk.cell 1
theorem RefAt.c2 (h : RefAt w b lv F D L) : w.cell? ⟨b, 2, none⟩ = some (.int .i64 D.armed) := h.blk.cell 2
theorem RefAt.c3 (h : RefAt w b lv F D L) : w.cell? ⟨b, 3, none⟩ = some (.bool D.down) := h.blk.cell 3
/-- the row: none, or a block -/
theorem RefAt.form (h : RefAt w b lv F D L) : (lv = .slice none 0 0 ∧ L = []) ∨ ∃ g cap, lv = .slice (some ⟨g, 0, none⟩) L.length cap ∧ L.length ≤ cap ∧ cap ≤ maxLen := by
  rcases h.row.2 with ⟨h1, h2⟩ | ⟨g, cap, cur, hv, _, _, h3, h4, _⟩
  · exact .inl ⟨h1, List.eq_nil_of_length_eq_zero h2⟩
  · exact .inr ⟨g, cap, hv, h3, h4⟩
theorem RefAt.at_ (h : RefAt w b lv F D L) {i : Nat} {s : Sec} (hs : L[i]? = some s) : ∃ g cap, lv = .slice (some ⟨g, 0, none⟩) L.length cap ∧
    w.cell? ⟨g, i * 4, none⟩ = some (.int .i64 s.n) ∧ w.cell? ⟨g, i * 4 + 1, none⟩ = some (.slice s.la 512 s.lc) ∧ w.cell? ⟨g, i * 4 + 2, none⟩ = some (.slice s.sa 512 s.sc) ∧ w.cell? ⟨g, i * 4 + 3, none⟩ = some (.bool s.op) := by
  rcases h.form with ⟨_, h0⟩ | ⟨g, cap, hv, _⟩
  · rw [h0] at hs; simp at hs
  · have hr := h.row
    rw [hv] at hr
    have hf := fun j (hj : j < 4) => flat_at (enc := Sec.enc) (s := 4) Sec.enc_len L i j hj
    refine ⟨g, cap, hv, ?_, ?_, ?_, ?_⟩
    · exact own_cell hr (by have := hf 0 (by omega); rw [hs] at this; simpa [Sec.enc] using this)
    · exact own_cell hr (by have := hf 1 (by omega); rw [hs] at this; simpa [Sec.enc] using this)
    · exact own_cell hr (by have := hf 2 (by omega); rw [hs] at this; simpa [Sec.enc] using this)
    · exact own_cell hr (by have := hf 3 (by omega); rw [hs] at this; simpa [Sec.enc] using this)
end

def fnd (L : List Sec) (k : Int) : Int := match L.findIdx? (fun s => s.n == k) with | some i => (i : Int) | none => -1
theorem fnd_some {L : List Sec} {k : Int} {s : Sec} (h : L.find? (fun s => s.n == k) = some s) : ∃ i : Nat, fnd L k = i ∧ L[i]? = some s ∧ s.n = k := by
  have hs := List.find?_some h
  obtain ⟨i, hi, hp⟩ : ∃ i, L.findIdx? (fun s => s.n == k) = some i ∧ L[i]? = some s := by
    induction L with
    | nil => simp at h
    | cons x L ih =>
      rw [List.find?_cons] at h
      rw [List.findIdx?_cons]
      by_cases hx : (x.n == k) = true
      · rw [hx] at h; simp only [Option.some.injEq] at h; subst h
        exact ⟨0, by rw [hx]; rfl, rfl⟩
      · have hx' : (x.n == k) = false := by simpa using hx
        rw [hx'] at h ⊢
        obtain ⟨i, h1, h2⟩ := ih h
        exact ⟨i + 1, by simp [h1], h2⟩
  exact ⟨i, by unfold fnd; rw [hi], hp, by simpa using hs⟩
theorem fnd_none {L : List Sec} {k : Int} (h : L.find? (fun s => s.n == k) = none) : fnd L k = -1 := by
  have : L.findIdx? (fun s => s.n == k) = none := by
    rw [List.findIdx?_eq_none_iff]
    intro x hx
    have := List.find?_eq_none.1 h x hx
    simpa using this
  unfold fnd; rw [this]

theorem fnd_at {L : List Sec} {k : Int} {i : Nat} {s : Sec} (hs : L[i]? = some s) (hk : s.n = k) (hb : ∀ x ∈ L.take i, x.n ≠ k) : fnd L k = i := by
  unfold fnd
  have : L.findIdx? (fun s => s.n == k) = some i := by
    induction L generalizing i with
    | nil => simp at hs
    | cons x L ih =>
      rw [List.findIdx?_cons]
      cases i with
      | zero => simp only [List.getElem?_cons_zero, Option.some.injEq] at hs; subst hs; simp [hk]
      | succ i =>
        have hx : (x.n == k) = false := by simpa using hb x (by simp)
        rw [hx, ih (i := i) (by simpa using hs) (fun y hy => hb y (by simp [hy]))]; rfl
  rw [this]
theorem fnd_not {L : List Sec} {k : Int} (hb : ∀ x ∈ L, x.n ≠ k) : fnd L k = -1 := fnd_none (by rw [List.find?_eq_none]; intro x hx; simpa using hb x hx)
theorem at_cell0 {w : World} {g n cap base : Nat} {e : TypeId} {L : List Sec} (h : w.ownsRow base e 4 (.slice (some ⟨g, 0, none⟩) n cap) n (flat Sec.enc L)) {i : Nat} {s : Sec} (hs : L[i]? = some s) (j : Nat) (hj : j < 4) {v : Value} (hv : s.enc[j]? = some v) :
    w.cell? ⟨g, i * 4 + j, none⟩ = some v :=
  own_cell h (by rw [flat_at (enc := Sec.enc) (s := 4) Sec.enc_len L i j hj, hs]; exact hv)

set_option maxRecDepth 100000 in
set_option maxHeartbeats 1600000 in
theorem rfind_any {w : World} {b : Nat} {lv : Value} {F : Nat → Prop} {D : Dk} {L : List Sec} (h : RefAt w b lv F D L) (k : Int) :
    Calls Try.prog 76 #[.pointer (some ⟨b, 0, none⟩), .int .i64 k] w fun e w' => e = .returned (.int .i64 (fnd L k)) ∧ w = w' := by
  have c1 := h.c1
  have hlen := h.len
  rcases h.form with ⟨rfl, rfl⟩ | ⟨g, cap, rfl, hc, hm⟩
  · clear h hlen
    have HF := Lib.hid (show fnd [] k = -1 from rfl)
    go_enter Try.func76, Try.ntmps76
    go_wp2
    go_loop [5] (fun i => i = .int .i64 0) (fun _ => 0)
    case atStart => exact rfl
    case round =>
      subst hrel
      go_wp2
      go_ret
      rw [HF.out]
      exact ⟨rfl, rfl⟩
  · have hrow := h.row
    clear h
    go_enter Try.func76, Try.ntmps76
    go_wp2
    go_loop [5] (fun i => ∃ j : Nat, j ≤ L.length ∧ i = .int .i64 j ∧ ∀ x ∈ L.take j, x.n ≠ k) (fun i => L.length - (intOf i).toNat)
    case atStart => exact ⟨0, Nat.zero_le _, rfl, fun x hx => by simp at hx⟩
    case round =>
      obtain ⟨j, hj, rfl, hb⟩ := hrel
      have HB := Lib.hid hb; clear hb
      by_cases hlt : j < L.length
      · have hlt' : (j : Int) < L.length := by omega
        have hs : L[j]? = some L[j] := List.getElem?_eq_getElem hlt
        have d0 := at_cell0 hrow hs 0 (by omega) (v := .int .i64 (L[j]).n) rfl
        generalize L[j] = s at *
        have HS := Lib.hid hs; clear hs hrow
        rw [Nat.add_zero] at d0
        by_cases he : s.n = k
        · have HF := Lib.hid (fnd_at HS.out he HB.out)
          have he' : (s.n == k) = true := by simpa using he
          clear he
          go_wp2
          go_ret
          rw [HF.out]
          exact ⟨rfl, rfl⟩
        · have he' : (s.n == k) = false := by simpa using he
          clear he
          go_wp2
          exact ⟨⟨j + 1, by omega, by go_num, fun x hx => by
            rw [List.take_add_one] at hx
            rw [HS.out] at hx
            rcases List.mem_append.1 hx with hx | hx
            · exact HB.out x hx
            · have : x = s := by simpa using hx
              subst this; simpa using he'⟩, by simp [intOf]; omega⟩
      · have hlt' : ¬ (j : Int) < L.length := by omega
        have HF := Lib.hid (fnd_not (L := L) (k := k) (fun x hx => HB.out x (by rw [List.take_of_length_le (by omega)]; exact hx)))
        clear hrow
        go_wp2
        go_ret
        rw [HF.out]
        exact ⟨rfl, rfl⟩
set_option maxHeartbeats 400000 in
theorem rdown_any {w : World} {b : Nat} {lv : Value} {F : Nat → Prop} {D : Dk} {L : List Sec} (h : RefAt w b lv F D L) :
    Calls Try.prog 33 #[.pointer (some ⟨b, 0, none⟩)] w fun e w' => e = .returned (.bool D.down) ∧ w = w' := by
  have c3 := h.c3
  generalize D.down = dn at *
  clear h
  go_enter Try.func33, Try.ntmps33
  go_wp2
  go_ret
  exact ⟨rfl, rfl⟩
set_option maxHeartbeats 400000 in
theorem rsectors_any {w : World} {b : Nat} {lv : Value} {F : Nat → Prop} {D : Dk} {L : List Sec} (h : RefAt w b lv F D L) :
    Calls Try.prog 58 #[.pointer (some ⟨b, 0, none⟩)] w fun e w' => e = .returned (.int .i64 D.n) ∧ w = w' := by
  have c0 := h.c0
  generalize D.n = dn at *
  clear h
  go_enter Try.func58, Try.ntmps58
  go_wp2
  go_ret
  exact ⟨rfl, rfl⟩
/-- another armed and down -/
theorem RefAt.turn {w w' : World} {b : Nat} {lv : Value} {F : Nat → Prop} {D : Dk} {L : List Sec} (h : RefAt w b lv F D L) (a : Int) (dn : Bool) (ha : 0 ≤ a) (ha' : a ≤ 9223372036854775807)
    (hb : Blk w' b 107 #[.int .i64 D.n, lv, .int .i64 a, .bool dn]) (hm : Mod (At b) w w') : RefAt w' b lv F { D with armed := a, down := dn } L :=
  ⟨hb, own_mod h.row hm (fun g hg e => (h.sep g hg).1 e), fun s hs => (h.sec s hs).mod hm (fun k hk e => h.fb (by have e : k = b := e; rw [← e]; exact hk)), h.nd, h.rng, h.like, h.fb, h.sep,
   fun g hg => Nat.lt_of_lt_of_le (h.flt g hg) hm.size, ⟨h.ok.n1, h.ok.n2, ha, ha', h.ok.sl, h.ok.ol⟩⟩
set_option maxHeartbeats 800000 in
theorem rcrashes_any {w : World} {b : Nat} {lv : Value} {F : Nat → Prop} {D : Dk} {L : List Sec} (h : RefAt w b lv F D L) (hd : D.down = false) :
    Calls Try.prog 92 #[.pointer (some ⟨b, 0, none⟩)] w fun e w' => e = .returned (.bool D.crash.down) ∧ RefAt w' b lv F D.crash L ∧ Mod (At b) w w' := by
  have c2 := h.c2; have c3 := h.c3
  have f2 := h.blk.frozen 2; have f3 := h.blk.frozen 3
  have a1 := h.ok.a1; have a2 := h.ok.a2
  by_cases ha : 0 < D.armed
  · have hE : D.crash = { D with armed := D.armed - 1, down := D.armed - 1 == 0 } := by unfold Dk.crash; rw [if_pos ha]
    have hb' : Blk ((w.setCell ⟨b, 2, none⟩ (.int .i64 (D.armed - 1))).setCell ⟨b, 3, none⟩ (.bool (D.armed - 1 == 0))) b 107 #[.int .i64 D.n, lv, .int .i64 (D.armed - 1), .bool (D.armed - 1 == 0)] := (h.blk.set_ 2 _).set_ 3 _
    have hm : Mod (At b) w ((w.setCell ⟨b, 2, none⟩ (.int .i64 (D.armed - 1))).setCell ⟨b, 3, none⟩ (.bool (D.armed - 1 == 0))) := ((Mod.refl (At b) w).setCell (p := ⟨b, 2, none⟩) (.inr rfl) _).setCell (p := ⟨b, 3, none⟩) (.inr rfl) _
    have hR := h.turn (D.armed - 1) (D.armed - 1 == 0) (by omega) (by omega) hb' hm
    rw [hE]
    have HR := Lib.hid (And.intro hR hm)
    clear hR hm hb' hE h hd
    show Calls _ _ _ _ fun e w' => e = .returned (.bool (D.armed - 1 == 0)) ∧ _
    generalize D.armed = a at *
    generalize D.down = dn at *
    go_enter Try.func92, Try.ntmps92
    go_wp2
    go_ret
    exact ⟨rfl, HR.out⟩
  · have hE : D.crash = D := by unfold Dk.crash; rw [if_neg ha]
    rw [hE, hd]
    have HR := Lib.hid h
    clear h hE hd c3 f2 f3
    generalize D.armed = a at *
    go_enter Try.func92, Try.ntmps92
    go_wp2
    go_ret
    exact ⟨rfl, HR.out, Mod.refl _ _⟩
set_option maxHeartbeats 800000 in
theorem rarm_any {w : World} {b : Nat} {lv : Value} {F : Nat → Prop} {D : Dk} {L : List Sec} (h : RefAt w b lv F D L) (n : Int) (hn : n ≤ 9223372036854775807) :
    Calls Try.prog 71 #[.pointer (some ⟨b, 0, none⟩), .int .i64 n] w fun e w' => e = .returned (.tuple #[]) ∧ RefAt w' b lv F (D.arm n) L ∧ Mod (At b) w w' := by
  have c3 := h.c3
  have c2 := h.c2
  have f2 := h.blk.frozen 2
  by_cases hd : D.down = true
  · have hE : D.arm n = D := by unfold Dk.arm; rw [if_pos hd]
    rw [hd] at c3
    rw [hE]
    have HR := Lib.hid h
    clear h hE hd c2 f2
    go_enter Try.func71, Try.ntmps71
    go_wp2
    go_end0
    exact ⟨rfl, HR.out, Mod.refl _ _⟩
  · have hE : D.arm n = { D with armed := max n 0, down := D.down } := by unfold Dk.arm; rw [if_neg hd]
    have hd' : D.down = false := by simpa using hd
    have hb' : Blk (w.setCell ⟨b, 2, none⟩ (.int .i64 (max n 0))) b 107 #[.int .i64 D.n, lv, .int .i64 (max n 0), .bool D.down] := (h.blk.set_ 2 _)
    have hm : Mod (At b) w (w.setCell ⟨b, 2, none⟩ (.int .i64 (max n 0))) := ((Mod.refl (At b) w).setCell (p := ⟨b, 2, none⟩) (.inr rfl) _)
    have hR := h.turn (max n 0) D.down (by omega) (by omega) hb' hm
    rw [hE]
    have HR := Lib.hid (And.intro hR hm)
    rw [hd'] at c3
    clear hR hm hb' hE h hd hd'
    by_cases h0 : n ≤ 0
    · have e0 : max n 0 = 0 := by omega
      rw [e0] at HR ⊢
      have h0' : ¬ 0 < n := by omega
      go_enter Try.func71, Try.ntmps71
      go_wp2
      all_goals
        go_end0
        first | exact ⟨rfl, HR.out⟩ | (have : n = 0 := by omega
                                       subst this; exact ⟨rfl, HR.out⟩)
    · have e0 : max n 0 = n := by omega
      rw [e0] at HR ⊢
      clear e0
      go_enter Try.func71, Try.ntmps71
      go_wp2
      all_goals
        go_end0
        exact ⟨rfl, HR.out⟩
end Go.Proofs.Ytgmkibckbbbhkaa
