/- A step of a disk's life, by the program and by the document: syncing, arming, reading. -/
import Derived.Test.YtgmkibckbbbhkaaDevP
namespace Go.Proofs.Ytgmkibckbbbhkaa
open Go.RowKit

def StP (w0 w : World) (b ms mo b' : Nat) (lv : Value) (F : Nat → Prop) (e : Ending) (w' : World) : Prop :=
  ∃ lv' F' D' L', e = .returned (.bool true) ∧ Pr w0 w' b ms mo b' lv' F' D' D' L' ∧ PrTo w w' b ms mo b' lv F lv' F'
def doA (x : DoR) : Value := .agg #[.int .i64 x.op, .int .i64 x.sec, .int .i64 x.num, .int .u8 x.byt, .slice x.fa x.fn x.fc]
def doC (x : DoR) : Array Value := #[.int .i64 x.op, .int .i64 x.sec, .int .i64 x.num, .int .u8 x.byt, .slice x.fa x.fn x.fc]

section
variable {w0 w : World} {b ms mo b' : Nat} {lv : Value} {F : Nat → Prop} {D : Dk} {L : List Sec}
set_option maxRecDepth 100000 in
set_option maxHeartbeats 1600000 in
theorem step_sync (h : Pr w0 w b ms mo b' lv F D D L) (x : DoR) (hx : x.ok) (hq : pick x.op 8 = 3) :
    Calls Try.prog 32 #[.pointer (some ⟨b, 0, none⟩), .pointer (some ⟨b', 0, none⟩), doA x] w (StP w0 w b ms mo b' lv F) := by
  have hop := hx.o
  unfold doA
  have H := Lib.hid h; clear h hx
  go_enter Try.func32, Try.ntmps32
  go_wp2_with fail
  refine (pick_any x.op 8 _ (by omega)).mono ?_
  rintro r w1 ⟨rfl, rfl⟩
  rw [hq]
  clear hq
  have h1 : Pr w0 (w.alloc (.cells (doC x) 31)) b ms mo b' lv F D D L := H.out.quiet ((Mod.refl _ _).alloc _)
  have t1 : PrTo w (w.alloc (.cells (doC x) 31)) b ms mo b' lv F lv F := PrTo.quiet ((Mod.refl _ _).alloc _)
  unfold doC at h1 t1
  go_wp2_with fail
  refine (sync_any h1.d).mono ?_
  rintro r w2 ⟨rfl, hd2, m2⟩
  have h2 := h1.dev hd2 m2
  have t2 := t1.trans (PrTo.dev m2)
  clear h1 t1 hd2 m2
  generalize hR : D.sync.1 = R at *
  go_wp2_with fail
  refine (rsync_any h2.r).mono ?_
  rintro r w3 ⟨lv', F', L', rfl, hr3, to3⟩
  rw [hR]
  have h3 := h2.ref hr3 to3
  have t3 := t2.trans (PrTo.ref to3)
  have HP : Hid (StP w0 w b ms mo b' lv F (.returned (.bool true)) w3) := Lib.hid ⟨lv', F', _, L', rfl, h3, t3⟩
  clear h2 h3 t2 t3 hR
  go_wp2
  go_ret
  exact HP.out
set_option maxRecDepth 100000 in
set_option maxHeartbeats 3200000 in
theorem step_arm (h : Pr w0 w b ms mo b' lv F D D L) (x : DoR) (hx : x.ok)  (hq : pick x.op 8 = 4) :
    Calls Try.prog 32 #[.pointer (some ⟨b, 0, none⟩), .pointer (some ⟨b', 0, none⟩), doA x] w (StP w0 w b ms mo b' lv F) := by
  have hop := hx.o
  unfold doA
  have H := Lib.hid h; have HX := Lib.hid hx; clear h hx
  obtain ⟨q, hq', hq⟩ : ∃ q, pick x.op 8 = q ∧ (q = 4) := ⟨_, rfl, hq⟩
  have h1 : Pr w0 (w.alloc (.cells (doC x) 31)) b ms mo b' lv F D D L := H.out.quiet ((Mod.refl _ _).alloc _)
  have t1 : PrTo w (w.alloc (.cells (doC x) 31)) b ms mo b' lv F lv F := PrTo.quiet ((Mod.refl _ _).alloc _)
  have b1 : Blk (w.alloc (.cells (doC x) 31)) w.heap.size 31 (doC x) := Blk.new _ _ _
  have hxb : ∀ k, InP b ms mo b' lv k → k ≠ w.heap.size := fun k hk => by have := H.out.lt k (.inl hk); omega
  have HI := Lib.hid (And.intro h1 (And.intro t1 (And.intro b1 hxb))); clear h1 t1 b1 hxb
  unfold doC at HI
  subst hq
  all_goals
    go_enter Try.func32, Try.ntmps32
    go_wp2_with fail
    refine (pick_any x.op 8 _ (by omega)).mono ?_
    rintro r w1 ⟨rfl, rfl⟩
    rw [hq']
    clear hq'
    obtain ⟨h1, t1, b1, hxb⟩ := HI.out
    generalize w.alloc (.cells #[.int .i64 x.op, .int .i64 x.sec, .int .i64 x.num, .int .u8 x.byt, .slice x.fa x.fn x.fc] 31) = w1 at *
    generalize w.heap.size = xb at *
    have cc0 := b1.cell 0; have cc1 := b1.cell 1; have cc2 := b1.cell 2; have cc3 := b1.cell 3; have cc4 := b1.cell 4
    clear HI
    have hxd : ¬ In3 b ms mo xb := fun e => hxb xb (.inl e) rfl
    go_wp2_with fail
    refine (arm_any h1.d x.num HX.out.n.2).mono ?_
    rintro r w2 ⟨rfl, hd2, m2, -⟩
    have m2' := m2.mono (T := In3 b ms mo) (fun _ _ e => .inl e)
    have h2 := h1.dev hd2 m2'
    have t2 := t1.trans (PrTo.dev m2')
    have cc2 := (b1.mod m2' hxd).cell 2
    clear h1 t1 hd2 m2 m2' cc0 cc1 cc3 cc4 b1
    go_wp2_with fail
    refine (rarm_any h2.r x.num HX.out.n.2).mono ?_
    rintro r w3 ⟨rfl, hr3, m3⟩
    have to3 : RefTo w2 w3 b' lv F lv F := RefTo.at_b m3
    have h3 := h2.ref hr3 to3
    have t3 := t2.trans (PrTo.ref to3)
    have HP : Hid (StP w0 w b ms mo b' lv F (.returned (.bool true)) w3) := Lib.hid ⟨lv, F, _, L, rfl, h3, t3⟩
    clear h2 h3 t2 t3 cc2 hr3 m3 to3 hxb hxd
    go_wp2
    go_ret
    exact HP.out
set_option maxRecDepth 100000 in
set_option maxHeartbeats 3200000 in
theorem step_read (h : Pr w0 w b ms mo b' lv F D D L) (x : DoR) (hx : x.ok)  (hq : pick x.op 8 = 5 ∨ pick x.op 8 = 6) :
    Calls Try.prog 32 #[.pointer (some ⟨b, 0, none⟩), .pointer (some ⟨b', 0, none⟩), doA x] w (StP w0 w b ms mo b' lv F) := by
  have hop := hx.o
  unfold doA
  have H := Lib.hid h; have HX := Lib.hid hx; clear h hx
  obtain ⟨q, hq', hq⟩ : ∃ q, pick x.op 8 = q ∧ (q = 5 ∨ q = 6) := ⟨_, rfl, hq⟩
  have h1 : Pr w0 (w.alloc (.cells (doC x) 31)) b ms mo b' lv F D D L := H.out.quiet ((Mod.refl _ _).alloc _)
  have t1 : PrTo w (w.alloc (.cells (doC x) 31)) b ms mo b' lv F lv F := PrTo.quiet ((Mod.refl _ _).alloc _)
  have b1 : Blk (w.alloc (.cells (doC x) 31)) w.heap.size 31 (doC x) := Blk.new _ _ _
  have hxb : ∀ k, InP b ms mo b' lv k → k ≠ w.heap.size := fun k hk => by have := H.out.lt k (.inl hk); omega
  have HI := Lib.hid (And.intro h1 (And.intro t1 (And.intro b1 hxb))); clear h1 t1 b1 hxb
  unfold doC at HI
  rcases hq with rfl | rfl
  all_goals
    go_enter Try.func32, Try.ntmps32
    go_wp2_with fail
    refine (pick_any x.op 8 _ (by omega)).mono ?_
    rintro r w1 ⟨rfl, rfl⟩
    rw [hq']
    clear hq'
    obtain ⟨h1, t1, b1, hxb⟩ := HI.out
    generalize w.alloc (.cells #[.int .i64 x.op, .int .i64 x.sec, .int .i64 x.num, .int .u8 x.byt, .slice x.fa x.fn x.fc] 31) = w1 at *
    generalize w.heap.size = xb at *
    have cc0 := b1.cell 0; have cc1 := b1.cell 1; have cc2 := b1.cell 2; have cc3 := b1.cell 3; have cc4 := b1.cell 4
    clear HI
    have hl : (D.read x.sec).length ≤ 512 := by
      unfold Dk.read
      split
      · rw [h1.d.ok.latest_len]; omega
      · simp
    generalize hM : D.may x.sec = M at *
    generalize hRd : D.read x.sec = l at *
    have HR := Lib.hid (And.intro hM hRd); clear hM hRd
    go_wp2_with fail
    refine (read_any h1.d x.sec).mono ?_
    rintro r w2 ⟨v, rfl, own2, m2⟩
    rw [HR.out.1]
    rw [HR.out.2] at own2
    have h2 := h1.quiet m2
    have t2 := t1.trans (PrTo.quiet m2)
    have b2 := b1.mod m2 (fun f => f)
    have cc1 := b2.cell 1
    obtain ⟨A1, c1, rfl, hr1, -⟩ := own_rd own2
    clear h1 t1 cc0 cc2 cc3 cc4 b1 m2 own2
    go_wp2_with fail
    refine (rread_any h2.r x.sec).mono ?_
    rintro r w3 ⟨v, rfl, own3, m3⟩
    rw [HR.out.1]
    rw [HR.out.2] at own3
    have h3 := h2.quiet m3
    have t3 := t2.trans (PrTo.quiet m3)
    obtain ⟨A2, c2, rfl, hr2, -⟩ := own_rd own3
    have hr1' := hr1.mod m3 (fun _ _ f => f)
    clear h2 t2 cc1 b2 m3 own3 hr1
    go_wp2_with fail
    refine (same_any hr1' hr2 (by omega) (by omega)).mono ?_
    rintro r w4 ⟨rfl, m4⟩
    rw [show decide (l = l) = true from by simp]
    have HP : Hid (StP w0 w b ms mo b' lv F (.returned (.bool true)) w4) := Lib.hid ⟨lv, F, _, L, rfl, h3.quiet m4, t3.trans (PrTo.quiet m4)⟩
    clear h3 t3 hr1' hr2 m4 hxb
    go_wp2
    go_ret
    exact HP.out
set_option maxRecDepth 100000 in
set_option maxHeartbeats 3200000 in
theorem step_wake (h : Pr w0 w b ms mo b' lv F D D L) (x : DoR) (hx : x.ok) (hf : Rd w0 x.fa x.fn (x.fl.map (Value.int .i64))) (hfn : x.fn ≤ 1000) (hq : pick x.op 8 = 7) :
    Calls Try.prog 32 #[.pointer (some ⟨b, 0, none⟩), .pointer (some ⟨b', 0, none⟩), doA x] w (StP w0 w b ms mo b' lv F) := by
  have hop := hx.o
  unfold doA
  have H := Lib.hid h; have HX := Lib.hid hx; clear h hx
  obtain ⟨q, hq', hq⟩ : ∃ q, pick x.op 8 = q ∧ (q = 7) := ⟨_, rfl, hq⟩
  have h1 : Pr w0 (w.alloc (.cells (doC x) 31)) b ms mo b' lv F D D L := H.out.quiet ((Mod.refl _ _).alloc _)
  have t1 : PrTo w (w.alloc (.cells (doC x) 31)) b ms mo b' lv F lv F := PrTo.quiet ((Mod.refl _ _).alloc _)
  have b1 : Blk (w.alloc (.cells (doC x) 31)) w.heap.size 31 (doC x) := Blk.new _ _ _
  have hxb : ∀ k, InP b ms mo b' lv k → k ≠ w.heap.size := fun k hk => by have := H.out.lt k (.inl hk); omega
  have HI := Lib.hid (And.intro h1 (And.intro t1 (And.intro b1 hxb))); clear h1 t1 b1 hxb
  unfold doC at HI
  subst hq
  all_goals
    go_enter Try.func32, Try.ntmps32
    go_wp2_with fail
    refine (pick_any x.op 8 _ (by omega)).mono ?_
    rintro r w1 ⟨rfl, rfl⟩
    rw [hq']
    clear hq'
    obtain ⟨h1, t1, b1, hxb⟩ := HI.out
    generalize w.alloc (.cells #[.int .i64 x.op, .int .i64 x.sec, .int .i64 x.num, .int .u8 x.byt, .slice x.fa x.fn x.fc] 31) = w1 at *
    generalize w.heap.size = xb at *
    have cc0 := b1.cell 0; have cc1 := b1.cell 1; have cc2 := b1.cell 2; have cc3 := b1.cell 3; have cc4 := b1.cell 4
    clear HI
    have hf1 := hf.mod h1.md (fun _ _ f => f)
    go_wp2_with fail
    refine (lentF_any hf1 (by omega)).mono ?_
    rintro r w2 ⟨g, rfl, hb2, m2, hg⟩
    have h2 := h1.quiet m2
    have t2 := t1.trans (PrTo.quiet m2)
    have b2 := b1.mod m2 (fun f => f)
    have hfl : x.fl.length = x.fn := by simpa using hf.1
    have hrin : Rd w2 (some ⟨g, 0, none⟩) x.fn (x.fl.map (Value.int .i64)) := Rd.of_blk hb2 0 (by simp [hfl]) (fun j v hv => by
      rw [List.getElem?_toArray, Nat.zero_add, List.map_append, List.getElem?_append_left (List.getElem?_eq_some_iff.1 hv).1]; exact hv)
    have hgP : ∀ k, InP b ms mo b' lv k → k ≠ g := fun k hk e => by have := h1.lt k (.inl hk); omega
    have HFL := Lib.hid hfl
    clear h1 t1 b1 m2 hf1 hfl cc0 cc1 cc2 cc3 cc4
    go_wp2_with fail
    refine (wake_any h2.d hrin (fun _ k hk e => by obtain ⟨a, ha, hka⟩ := hk; injection ha with ha; subst ha; exact hgP k (.inl e) hka.symm) (by omega)).mono ?_
    rintro r w3 ⟨rfl, hd3, m3⟩
    have h3 := h2.dev hd3 m3
    have t3 := t2.trans (PrTo.dev m3)
    have hxd : ¬ In3 b ms mo xb := fun e => hxb xb (.inl e) rfl
    have b3 := b2.mod m3 hxd
    have hb3 := hb2.mod m3 (fun e => hgP g (.inl e) rfl)
    have cc4 := b3.cell 4
    have hf3 := hf.mod h3.md (fun _ _ f => f)
    clear h2 t2 b2 m3 hd3 hb2 hrin
    go_wp2_with fail
    refine (rwake_any h3.r hf3 (fun hp k hk e => by have := hf.in_ hp hk; exact (h3.old this).2 e) (by omega)).mono ?_
    rintro r w4 ⟨lv', F', L', rfl, hr4, to4⟩
    have h4 := h3.ref hr4 to4
    have t4 := t3.trans (PrTo.ref to4)
    have hxr : ¬ InR b' lv xb := fun e => hxb xb (.inr e) rfl
    have b4 := b3.mod to4.md hxr
    have hb4 := hb3.mod to4.md (fun e => hgP g (.inr e) rfl)
    have cc4 := b4.cell 4
    have hf4 := hf.mod h4.md (fun _ _ f => f)
    clear h3 t3 b3 hr4 to4 hb3 hf3
    go_wp2_with fail
    refine (keptF_any hf4 hb4 (by omega)).mono ?_
    rintro r w5 ⟨rfl, m5⟩
    have HP : Hid (StP w0 w b ms mo b' lv F (.returned (.bool true)) w5) := Lib.hid ⟨lv', F', _, L', rfl, h4.quiet m5, t4.trans (PrTo.quiet m5)⟩
    clear h4 t4 hf4 hb4 m5 b4 hxb hxd hxr hgP
    go_wp2
    go_ret
    exact HP.out
end
end Go.Proofs.Ytgmkibckbbbhkaa
