/- peatbanklaw20: a step, by the program and by the document. -/
import Derived.Test.YtgmkibckbbbhkaaBl5
import Derived.Test.YtgmkibckbbbhkaaBl7
import Derived.Test.YtgmkibckbbbhkaaCa15
import Derived.Test.YtgmkibckbbbhkaaBytesT
import Derived.Test.YtgmkibckbbbhkaaBytes2
namespace Go.Proofs.Ytgmkibckbbbhkaa
open Go.RowKit

structure BS where
  now : Int
  hits : Int
  misses : Int
  lv : Value
  F : Nat → Prop
  D : Dk
  E : Dk
  l : KL
  T : TL
  L : List Sec
structure Bp (w0 w : World) (I : Id5) (r : Nat) (sz : Int) (s : BS) : Prop where
  ca : CAt w I.c I.b I.ms I.mo I.km s.D sz s.now s.hits s.misses s.l s.T
  rf : RefAt w r s.lv s.F s.E s.L
  md : Mod Nn w0 w
  fa : ∀ k, InI I s.l k → w0.heap.size ≤ k
  fr : ∀ k, InR r s.lv k ∨ s.F k → w0.heap.size ≤ k
  sep : ∀ k, InI I s.l k → ¬ (InR r s.lv k ∨ s.F k)
def InB (I : Id5) (r : Nat) (s : BS) : Nat → Prop := fun k => InI I s.l k ∨ InR r s.lv k ∨ s.F k
section
variable {w0 w w' : World} {I : Id5} {r : Nat} {sz : Int} {s : BS}
theorem Bp.quiet (h : Bp w0 w I r sz s) (hm : Mod Nn w w') : Bp w0 w' I r sz s := ⟨h.ca.quiet hm, h.rf.nn hm, h.md.nn_ hm, h.fa, h.fr, h.sep⟩
theorem Bp.lt (h : Bp w0 w I r sz s) : ∀ k, InB I r s k → k < w.heap.size := fun k hk => hk.elim (h.ca.lt k) (h.rf.lt k)
theorem Bp.mod (h : Bp w0 w I r sz s) {S : Nat → Prop} (hm : Mod S w w') (hS : ∀ k, InB I r s k → ¬ S k) (h0 : ∀ k, S k → w0.heap.size ≤ k) : Bp w0 w' I r sz s :=
  ⟨h.ca.mod hm (fun k hk => hS k (.inl hk)), h.rf.mod hm (fun k hk => hS k (.inr hk)), h.md.then_ hm (fun k hk hs => by have := h0 k hs; omega), h.fa, h.fr, h.sep⟩
theorem Bp.cache (h : Bp w0 w I r sz s) {D' : Dk} {now' hits' misses' : Int} {l' : KL} {T' : TL} (hC : CAt w' I.c I.b I.ms I.mo I.km D' sz now' hits' misses' l' T') (hT : CTo w w' I.c I.b I.ms I.mo I.km s.l l') :
    Bp w0 w' I r sz { s with D := D', now := now', hits := hits', misses := misses', l := l', T := T' } :=
  ⟨hC, h.rf.mod hT.md (fun k hk hin => h.sep k (inA_of hin) hk), h.md.then_ hT.md (fun k hk hin => by have := h.fa k (inA_of hin); omega), fun k hk => by
    rcases hT.A hk with h1 | h1
    · exact h.fa k h1
    · have := h.md.size; omega, h.fr, fun k hk hin => by
    rcases hT.A hk with h1 | h1
    · exact h.sep k h1 hin
    · have := h.rf.lt k hin; omega⟩
theorem Bp.ref (h : Bp w0 w I r sz s) {lv' : Value} {F' : Nat → Prop} {E' : Dk} {L' : List Sec} (hR : RefAt w' r lv' F' E' L') (hT : RefTo w w' r s.lv s.F lv' F') : Bp w0 w' I r sz { s with lv := lv', F := F', E := E', L := L' } := by
  have ho : ∀ k, InR r lv' k ∨ F' k → (InR r s.lv k ∨ s.F k) ∨ w.heap.size ≤ k := fun k hk => by
    rcases hk with (hk | hk) | hk
    · exact .inl (.inl (.inl hk))
    · rcases hT.lv k hk with h4 | h4
      · exact .inl (.inl (.inr h4))
      · exact .inr h4
    · rcases hT.F k hk with h4 | h4
      · exact .inl (.inr h4)
      · exact .inr h4
  exact ⟨h.ca.mod hT.md (fun k hk hin => h.sep k hk (.inl hin)), hR, h.md.then_ hT.md (fun k hk hin => by have := h.fr k (.inl hin); omega), h.fa, fun k hk => by
    rcases ho k hk with h1 | h1
    · exact h.fr k h1
    · have := h.md.size; omega, fun k hk hin => by
    rcases ho k hin with h1 | h1
    · exact h.sep k hk h1
    · have := h.ca.lt k hk; omega⟩

structure D4 where
  op : Int
  pos : Int
  num : Int
  byt : Int
structure D4.ok (x : D4) : Prop where
  o : -9223372036854775808 ≤ x.op ∧ x.op ≤ 9223372036854775807
  p : -9223372036854775808 ≤ x.pos ∧ x.pos ≤ 9223372036854775807
  n : -9223372036854775808 ≤ x.num ∧ x.num ≤ 9223372036854775807
  b : 0 ≤ x.byt ∧ x.byt ≤ 255
def d4C (x : D4) : Array Value := #[.int .i64 x.op, .int .i64 x.pos, .int .i64 x.num, .int .u8 x.byt]
def d4A (x : D4) : Value := .agg #[.int .i64 x.op, .int .i64 x.pos, .int .i64 x.num, .int .u8 x.byt]
def BStep (w0 : World) (I : Id5) (r : Nat) (sz : Int) (s : BS) (e : Ending) (w' : World) : Prop :=
  ∃ s', e = .returned (.bool true) ∧ Bp w0 w' I r sz s' ∧ s'.E = s'.D ∧ s'.now ≤ s.now + 1024 ∧ s'.D.n = s.D.n
theorem bw_n : ∀ (m : Nat) (D : Dk) (a : Int) (bs : List Int), (bw D a bs m).2.n = D.n
  | 0, _, _, _ => rfl
  | m + 1, D, a, bs => by
    unfold bw
    split
    · rw [bw_n m, write_n]
    · exact write_n _ _ _
theorem bwrite_n (D : Dk) (a : Int) (bs : List Int) : (bwrite D a bs).2.n = D.n := by
  unfold bwrite
  split
  · rfl
  · split
    · rfl
    · exact bw_n _ _ _ _

set_option maxRecDepth 100000 in
set_option maxHeartbeats 6400000 in
theorem b_sync (h : Bp w0 w I r sz s) (he : s.E = s.D) (x : D4) (hx : x.ok) (hq : pick x.op 6 = 5) :
    Calls Try.prog 63 #[.pointer (some ⟨I.c, 0, none⟩), .pointer (some ⟨I.b, 0, none⟩), .pointer (some ⟨r, 0, none⟩), d4A x] w (BStep w0 I r sz s) := by
  have hop := hx.o
  unfold d4A
  have h1 := h.quiet ((Mod.refl Nn w).alloc (.cells (d4C x) 95))
  unfold d4C at h1
  have HE := Lib.hid he
  clear h hx he
  go_enter Try.func63, Try.ntmps63
  go_wp2_with fail
  refine (pick_any x.op 6 _ (by omega)).mono ?_
  rintro q w1 ⟨rfl, rfl⟩
  rw [hq]
  clear hq
  generalize w.alloc (.cells #[.int .i64 x.op, .int .i64 x.pos, .int .i64 x.num, .int .u8 x.byt] 95) = w1 at *
  generalize hR : s.D.sync.1 = R at *
  have HR := Lib.hid hR; clear hR
  go_wp2_with fail
  refine (csync_any h1.ca).mono ?_
  rintro q w2 ⟨rfl, hC2, hT2⟩
  rw [HR.out]
  have h2 := h1.cache hC2 hT2
  have hrs := rsync_any h2.rf
  try simp only at hrs
  rw [HE.out, HR.out] at hrs
  go_wp2_with fail
  refine hrs.mono ?_
  clear hrs
  rintro q w3 ⟨lv', F', L', rfl, hR3, to3⟩
  have h3 := h2.ref hR3 to3
  have HP : Hid (BStep w0 I r sz s (.returned (.bool true)) w3) := Lib.hid ⟨_, rfl, h3, rfl, by show s.now ≤ s.now + 1024; omega, sync_n _⟩
  clear h1 h2 h3 hC2 hT2 hR3 to3
  go_wp2
  go_ret
  exact HP.out

set_option maxRecDepth 100000 in
set_option maxHeartbeats 6400000 in
theorem b_arm (h : Bp w0 w I r sz s) (he : s.E = s.D) (x : D4) (hx : x.ok) (hq : pick x.op 6 = 4) :
    Calls Try.prog 63 #[.pointer (some ⟨I.c, 0, none⟩), .pointer (some ⟨I.b, 0, none⟩), .pointer (some ⟨r, 0, none⟩), d4A x] w (BStep w0 I r sz s) := by
  have hop := hx.o
  have hnm := hx.n
  unfold d4A
  have h1 := h.quiet ((Mod.refl Nn w).alloc (.cells (d4C x) 95))
  have b1 : Blk (w.alloc (.cells (d4C x) 95)) w.heap.size 95 (d4C x) := Blk.new _ _ _
  have hxb : ∀ k, InB I r s k → k ≠ w.heap.size := fun k hk => by have := h.lt k hk; omega
  unfold d4C at h1 b1
  have HE := Lib.hid he
  clear h hx he
  go_enter Try.func63, Try.ntmps63
  go_wp2_with fail
  refine (pick_any x.op 6 _ (by omega)).mono ?_
  rintro q w1 ⟨rfl, rfl⟩
  rw [hq]
  clear hq
  generalize w.alloc (.cells #[.int .i64 x.op, .int .i64 x.pos, .int .i64 x.num, .int .u8 x.byt] 95) = w1 at *
  generalize w.heap.size = xb at *
  have HXB := Lib.hid hxb; clear hxb
  have cc2 : w1.cell? ⟨xb, 2, none⟩ = some (.int .i64 x.num) := b1.cell 2
  go_wp2_with fail
  refine (arm_any h1.ca.d x.num hnm.2).mono ?_
  rintro q w2 ⟨rfl, d2, m2, -⟩
  have hC2 : CAt w2 I.c I.b I.ms I.mo I.km (s.D.arm x.num) sz s.now s.hits s.misses s.l s.T :=
    ⟨h1.ca.mem.mod m2 (fun k hk e => h1.ca.sep k (.inl e) hk), d2, fun e he => by
      have := h1.ca.coh e he
      have h1 : (s.D.arm x.num).latest e.1 = s.D.latest e.1 := by unfold Dk.arm; split <;> rfl
      have h2 : (s.D.arm x.num).n = s.D.n := by unfold Dk.arm; split <;> rfl
      rw [h1, h2]; exact this, by
      have h3 : (s.D.arm x.num).down = s.D.down := by unfold Dk.arm; split <;> rfl
      rw [h3]; exact h1.ca.lru, h1.ca.sep, h1.ca.m1, h1.ca.n0, h1.ca.h0, h1.ca.s0, h1.ca.hs⟩
  have h2 := h1.cache hC2 (CTo.same (m2.mono (fun _ _ e => .inr (.inl e))))
  have b2 := b1.mod m2 (fun e => HXB.out xb (.inl (.inr (.inl e))) rfl)
  have cc2 : w2.cell? ⟨xb, 2, none⟩ = some (.int .i64 x.num) := b2.cell 2
  clear h1 b1 d2 m2 hC2
  go_wp2_with fail
  refine (rarm_any h2.rf x.num hnm.2).mono ?_
  rintro q w3 ⟨rfl, r3, m3⟩
  have h3 := h2.ref r3 (RefTo.at_b m3)
  have HP : Hid (BStep w0 I r sz s (.returned (.bool true)) w3) := Lib.hid ⟨_, rfl, h3, by show s.E.arm x.num = s.D.arm x.num; rw [HE.out], by show s.now ≤ s.now + 1024; omega, by show (s.D.arm x.num).n = _; unfold Dk.arm; split <;> rfl⟩
  clear h2 h3 b2 r3 m3 hnm cc2
  go_wp2
  go_ret
  exact HP.out

set_option maxRecDepth 100000 in
set_option maxHeartbeats 6400000 in
theorem b_read (h : Bp w0 w I r sz s) (he : s.E = s.D) (hn : s.now ≤ 1000000) (x : D4) (hx : x.ok) (hq : pick x.op 6 = 2 ∨ pick x.op 6 = 3) :
    Calls Try.prog 63 #[.pointer (some ⟨I.c, 0, none⟩), .pointer (some ⟨I.b, 0, none⟩), .pointer (some ⟨r, 0, none⟩), d4A x] w (BStep w0 I r sz s) := by
  have hop := hx.o
  have hps := hx.p
  unfold d4A
  have h1 := h.quiet ((Mod.refl Nn w).alloc (.cells (d4C x) 95))
  have b1 : Blk (w.alloc (.cells (d4C x) 95)) w.heap.size 95 (d4C x) := Blk.new _ _ _
  have hxb : ∀ k, InB I r s k → k ≠ w.heap.size := fun k hk => by have := h.lt k hk; omega
  have hm0 := h.md.size
  unfold d4C at h1 b1
  have HE := Lib.hid he
  have hrl := bread_len h1.ca.d.ok x.pos x.num
  have HLT := Lib.hid h.lt
  obtain ⟨q0, hq', hq⟩ : ∃ q, pick x.op 6 = q ∧ (q = 2 ∨ q = 3) := ⟨_, rfl, hq⟩
  clear h hx he
  have hws : w.heap.size < (w.alloc (.cells #[.int .i64 x.op, .int .i64 x.pos, .int .i64 x.num, .int .u8 x.byt] 95)).heap.size := by simp
  rcases hq with rfl | rfl
  all_goals
    go_enter Try.func63, Try.ntmps63
    go_wp2_with fail
    refine (pick_any x.op 6 _ (by omega)).mono ?_
    rintro q w1 ⟨rfl, rfl⟩
    rw [hq']
    clear hq'
    generalize w.alloc (.cells #[.int .i64 x.op, .int .i64 x.pos, .int .i64 x.num, .int .u8 x.byt] 95) = w1 at *
    generalize hxe : w.heap.size = xb at *
    have HXE := Lib.hid hxe; clear hxe
    have HXB := Lib.hid hxb; clear hxb
    have cc1 : w1.cell? ⟨xb, 1, none⟩ = some (.int .i64 x.pos) := b1.cell 1
    have cc2 : w1.cell? ⟨xb, 2, none⟩ = some (.int .i64 x.num) := b1.cell 2
    generalize hM : (bread s.D x.pos x.num).1 = M at *
    generalize hRr : (bread s.D x.pos x.num).2 = R at *
    have HM := Lib.hid (And.intro hM hRr); clear hM hRr
    go_wp2_with fail
    refine (bread_any h1.ca x.pos x.num hps (by omega)).mono ?_
    rintro q w2 ⟨v2, now2, hits2, misses2, l2, T2, rfl, hC2, hT2, n2, o2, nin2⟩
    rw [HM.out.1]
    rw [HM.out.2] at o2
    have h2 := h1.cache hC2 hT2
    have b2 := b1.mod hT2.md (fun hin => HXB.out xb (.inl (inA_of hin)) rfl)
    have cc1 : w2.cell? ⟨xb, 1, none⟩ = some (.int .i64 x.pos) := b2.cell 1
    have cc2 : w2.cell? ⟨xb, 2, none⟩ = some (.int .i64 x.num) := b2.cell 2
    have hrb := rbread_any h2.rf x.pos x.num hps
    try simp only at hrb
    rw [HE.out] at hrb
    have HV := Lib.hid (show ∀ g, v2.ownBlock = some g → w0.heap.size ≤ g ∧ ¬ InI I l2 g ∧ ¬ (InR r s.lv g ∨ s.F g) from fun g hg => ⟨by have := own_ge5 o2 g hg; have := h1.md.size; omega, nin2 g hg, fun hin => by have := own_ge5 o2 g hg; have := h1.rf.lt g hin; omega⟩)
    clear h1 b1 hC2 hT2 nin2
    go_wp2_with fail
    refine hrb.mono ?_
    clear hrb
    rintro q w3 ⟨v3, rfl, o3, m3⟩
    rw [HM.out.1]
    rw [HM.out.2] at o3
    have h3 := h2.quiet m3
    have o23 := own_mod o2 m3 (fun _ _ f => f)
    obtain ⟨A2, e2, rfl, r2, -⟩ := own_rd o23
    obtain ⟨A3, e3, rfl, r3, -⟩ := own_rd o3
    clear h2 b2 o2 o3 m3 cc1 cc2
    go_wp2_with fail
    refine (same_any r2 r3 (by omega) (by omega)).mono ?_
    rintro q w4 ⟨rfl, m4⟩
    rw [show decide (R = R) = true from by simp]
    have h4 := h3.quiet m4
    have o4 := own_mod o23 m4 (fun _ _ f => f)
    clear h3 o23 m4 r2 r3
    go_wp2_with fail
    refine (turn_any o4 (by omega)).mono ?_
    rintro q w5 ⟨rfl, -, m5⟩
    have h5 : Bp w0 w5 I r sz _ := h4.mod m5 (fun k hk hs => by
      have hv := HV.out k hs
      rcases hk with hk | hk
      · exact hv.2.1 hk
      · exact hv.2.2 hk) (fun k hs => (HV.out k hs).1)
    have HP : Hid (BStep w0 I r sz s (.returned (.bool true)) w5) := Lib.hid ⟨_, rfl, h5, HE.out, by show now2 ≤ s.now + 1024; omega, rfl⟩
    clear h4 h5 o4 m5 n2
    go_wp2
    go_ret
    exact HP.out
end
end Go.Proofs.Ytgmkibckbbbhkaa
