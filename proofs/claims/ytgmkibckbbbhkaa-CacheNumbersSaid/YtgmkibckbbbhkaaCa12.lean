/- peatbanklaw09: any step of a cache's life. -/
import Derived.Test.YtgmkibckbbbhkaaCa10
import Derived.Test.YtgmkibckbbbhkaaCa11
import Derived.Test.YtgmkibckbbbhkaaRef87
namespace Go.Proofs.Ytgmkibckbbbhkaa
open Go.RowKit

def do9A (x : DoR) : Value := .agg #[.int .i64 x.op, .int .i64 x.sec, .int .i64 x.num, .int .u8 x.byt, .slice x.fa x.fn x.fc]
def do9C (x : DoR) : Array Value := #[.int .i64 x.op, .int .i64 x.sec, .int .i64 x.num, .int .u8 x.byt, .slice x.fa x.fn x.fc]
theorem arm_latest (D : Dk) (n k : Int) : (D.arm n).latest k = D.latest k := by unfold Dk.arm; split <;> rfl
theorem arm_n (D : Dk) (n : Int) : (D.arm n).n = D.n := by unfold Dk.arm; split <;> rfl
theorem arm_down (D : Dk) (n : Int) : (D.arm n).down = D.down := by unfold Dk.arm; split <;> rfl
section
variable {w0 w w' : World} {I : CI} {sz : Int} {s : CS}
/-- behind Drop and the list let go -/
theorem Coh.gone {s' : CS} (h1 : s'.E = s'.D) (h2 : s'.l = []) (h3 : s'.T = []) (h4 : s'.tl = []) (h5 : s'.rd = s'.hits + s'.misses) (h6 : 0 ≤ s'.now) (h7 : 0 ≤ sz) : Coh sz s' :=
  ⟨h1, (fun e he => by rw [h2] at he; cases he), by rw [h2, h3]; exact Lru.nil _ _ h7 _, by rw [h3, h4]; rfl, h5, by rw [h4]; exact h6⟩
theorem Lf.dropped (h : Lf w0 w I sz s) (hC : CMem w' I.c I.b I.km sz s.now s.hits s.misses []) (hm : Mod (At I.km) w w') : Lf w0 w' I sz { s with l := [], T := [] } :=
  h.cache hC (h.d.mod hm (fun k hk e => h.dsep k hk (.inr (.inl e)))) (fun k hk hin => by
    rcases hin with hin | hin | ⟨e, he, -⟩
    · exact h.dsep k hk (.inl hin)
    · exact h.dsep k hk (.inr (.inl hin))
    · cases he) ⟨hm.mono (fun _ _ e => .inl (.inr e)), fun e he => by cases he⟩ h.n0 h.h0 h.s0 h.hs []
theorem Lf.clr (h : Lf w0 w I sz s) : Lf w0 (w.setCell ⟨I.x, 4, none⟩ (.slice none 0 0)) I sz { s with tA := none, tc := 0, tl := [] } :=
  h.self (rd' := s.rd) (Mod.cellAt _ _ _ _) (h.blk.set_ 4 _) (World.ownsRow_nil _ _ _ _) (fun g hg => by obtain ⟨a, ha, -⟩ := hg; cases ha)

set_option maxRecDepth 100000 in
set_option maxHeartbeats 6400000 in
theorem s_sync (h : Lf w0 w I sz s) (kk : Coh sz s) (x : DoR) (hx : x.ok) (hq : pick x.op 9 = 2) :
    Calls Try.prog 57 #[.pointer (some ⟨I.x, 0, none⟩), do9A x] w (LStep w0 I sz s) := by
  have hop := hx.o
  unfold do9A
  have HK := Lib.hid kk
  have h1 := h.quiet ((Mod.refl Nn w).alloc (.cells (do9C x) 85))
  unfold do9C at h1
  clear h hx kk
  go_enter Try.func57, Try.ntmps57
  go_wp2_with fail
  refine (pick_any x.op 9 _ (by omega)).mono ?_
  rintro r w1 ⟨rfl, rfl⟩
  rw [hq]
  clear hq
  generalize w.alloc (.cells #[.int .i64 x.op, .int .i64 x.sec, .int .i64 x.num, .int .u8 x.byt, .slice x.fa x.fn x.fc] 85) = w1 at *
  have c0 : w1.cell? ⟨I.x, 0, none⟩ = some (.pointer (some ⟨I.c, 0, none⟩)) := h1.blk.cell 0
  have c2 : w1.cell? ⟨I.x, 2, none⟩ = some (.pointer (some ⟨I.r, 0, none⟩)) := h1.blk.cell 2
  generalize hR : s.D.sync.1 = R at *
  have HR := Lib.hid hR; clear hR
  go_wp2_with fail
  have h1 := h1.quiet (Mod.refl Nn w1).drew
  refine wp_region_planC (fun w' => w'.cell? ⟨I.x, 0, none⟩ = some (.pointer (some ⟨I.c, 0, none⟩)) ∧ w'.cell? ⟨I.x, 2, none⟩ = some (.pointer (some ⟨I.r, 0, none⟩))) [(0, true), (1, true), (2, true), (3, true), (5, true), (6, true), (7, true), (8, true), (4, false), (9, false), (10, true), (11, true)] (by kernel_rfl) (by kernel_rfl) ⟨c0, c2⟩ ?_
  iterate 3 (refine pc_pure rfl rfl (fun K hK => ?_); go_simp; refine hK _ ?_; clear hK K)
  refine pc_take _ rfl rfl (fun w' hS => exec_load1 (P := Try.prog) 67 _ rfl rfl hS.1 Try.underlying67 rfl) (fun K hK => ?_); go_simp; refine hK _ ?_; clear hK K
  iterate 3 (refine pc_pure rfl rfl (fun K hK => ?_); go_simp; refine hK _ ?_; clear hK K)
  refine pc_take _ rfl rfl (fun w' hS => exec_load1 (P := Try.prog) 47 _ rfl rfl hS.2 Try.underlying47 rfl) (fun K hK => ?_); go_simp; refine hK _ ?_; clear hK K
  clear c0 c2
  refine pc_call rfl rfl (fun K hK => ?_); go_simp; refine ⟨_, _, ⟨rfl, rfl⟩, hK _ _ _ ?_⟩; clear hK K
  refine (csync_any (h1.cat HK.out)).mono ?_
  rintro r w2 ⟨rfl, hC2, hT2⟩
  rw [HR.out]
  have h2 := h1.cache hC2.mem hC2.d hC2.sep hT2 hC2.n0 hC2.h0 hC2.s0 hC2.hs s.T
  refine ⟨_, rfl, ⟨h2.blk.cell 0, h2.blk.cell 2⟩, ?_⟩
  have hrs := rsync_any h2.rf
  have heq : s.E = s.D := HK.out.eq
  try simp only at hrs
  rw [heq, HR.out] at hrs
  refine pc_call rfl rfl (fun K hK => ?_); go_simp; refine ⟨_, _, ⟨rfl, rfl⟩, hK _ _ _ ?_⟩; clear hK K
  refine hrs.mono ?_
  clear hrs
  rintro r w3 ⟨lv', F', L', rfl, hR3, to3⟩
  have h3 := h2.ref hR3 to3
  refine ⟨_, rfl, ⟨h3.blk.cell 0, h3.blk.cell 2⟩, ?_⟩
  have HP : Hid (LStep w0 I sz s (.returned (.bool true)) w3) := Lib.hid ⟨_, rfl, h3, Coh.of hC2 rfl rfl rfl rfl (by show s.D.sync.2 = _; rfl) rfl rfl HK.out.tl HK.out.rd HK.out.len, by show s.now ≤ s.now + 1; omega, sync_n _⟩
  clear h1 h2 h3 hC2 hT2 hR3 to3 heq
  iterate 2 (refine pc_pure rfl rfl (fun K hK => ?_); go_simp; refine hK _ ?_; clear hK K)
  refine pc_nil ?_
  go_wp2
  go_ret
  exact HP.out

set_option maxRecDepth 100000 in
set_option maxHeartbeats 6400000 in
theorem s_arm (h : Lf w0 w I sz s) (kk : Coh sz s) (x : DoR) (hx : x.ok) (hq : pick x.op 9 = 3) :
    Calls Try.prog 57 #[.pointer (some ⟨I.x, 0, none⟩), do9A x] w (LStep w0 I sz s) := by
  have hop := hx.o
  have hnm := hx.n
  unfold do9A
  have HK := Lib.hid kk
  have h1 := h.quiet ((Mod.refl Nn w).alloc (.cells (do9C x) 85))
  have b1 : Blk (w.alloc (.cells (do9C x) 85)) w.heap.size 85 (do9C x) := Blk.new _ _ _
  have hxb : ∀ k, InL I s k → k ≠ w.heap.size := fun k hk => by have := h.lt k hk; omega
  unfold do9C at h1 b1
  clear h hx kk
  go_enter Try.func57, Try.ntmps57
  go_wp2_with fail
  refine (pick_any x.op 9 _ (by omega)).mono ?_
  rintro r w1 ⟨rfl, rfl⟩
  rw [hq]
  clear hq
  generalize w.alloc (.cells #[.int .i64 x.op, .int .i64 x.sec, .int .i64 x.num, .int .u8 x.byt, .slice x.fa x.fn x.fc] 85) = w1 at *
  generalize w.heap.size = xb at *
  have HXB := Lib.hid hxb; clear hxb
  go_wp2_with fail
  have h1 := h1.quiet (Mod.refl Nn w1).drew
  have b1 := b1.drew
  refine wp_region_planC (fun w' => w'.cell? ⟨I.x, 1, none⟩ = some (.pointer (some ⟨I.b, 0, none⟩)) ∧ w'.cell? ⟨xb, 2, none⟩ = some (.int .i64 x.num)) [(0, true), (1, true), (2, true), (3, true), (4, true), (5, true), (6, false)] (by kernel_rfl) (by kernel_rfl) ⟨h1.blk.cell 1, b1.cell 2⟩ ?_
  iterate 3 (refine pc_pure rfl rfl (fun K hK => ?_); go_simp; refine hK _ ?_; clear hK K)
  refine pc_take _ rfl rfl (fun w' hS => exec_load1 (P := Try.prog) 25 _ rfl rfl hS.1 Try.underlying25 rfl) (fun K hK => ?_); go_simp; refine hK _ ?_; clear hK K
  iterate 1 (refine pc_pure rfl rfl (fun K hK => ?_); go_simp; refine hK _ ?_; clear hK K)
  refine pc_take _ rfl rfl (fun w' hS => exec_load1 (P := Try.prog) 3 _ rfl rfl hS.2 Try.underlying3 rfl) (fun K hK => ?_); go_simp; refine hK _ ?_; clear hK K
  refine pc_call rfl rfl (fun K hK => ?_); go_simp; refine ⟨_, _, ⟨rfl, rfl⟩, hK _ _ _ ?_⟩; clear hK K
  refine (arm_any h1.d x.num hnm.2).mono ?_
  rintro r w2 ⟨rfl, d2, m2, -⟩
  have h2 := h1.cache (h1.mem.mod m2 (fun k hk e => h1.dsep k (.inl e) hk)) d2 h1.dsep (CTo.same (m2.mono (fun _ _ e => .inr (.inl e)))) h1.n0 h1.h0 h1.s0 h1.hs s.T
  have b2 := b1.mod m2 (fun e => HXB.out xb (.inr (.inr (.inl (.inr (.inl e))))) rfl)
  refine ⟨_, rfl, ⟨h2.blk.cell 1, b2.cell 2⟩, ?_⟩
  refine pc_nil ?_
  clear h1 b1 d2 m2
  go_wp2_with fail
  have h2 := h2.quiet (Mod.refl Nn w2).drew
  have b2 := b2.drew
  refine wp_region_planC (fun w' => w'.cell? ⟨I.x, 2, none⟩ = some (.pointer (some ⟨I.r, 0, none⟩)) ∧ w'.cell? ⟨xb, 2, none⟩ = some (.int .i64 x.num)) [(0, true), (1, true), (2, true), (3, true), (4, true), (5, true), (6, false)] (by kernel_rfl) (by kernel_rfl) ⟨h2.blk.cell 2, b2.cell 2⟩ ?_
  iterate 3 (refine pc_pure rfl rfl (fun K hK => ?_); go_simp; refine hK _ ?_; clear hK K)
  refine pc_take _ rfl rfl (fun w' hS => exec_load1 (P := Try.prog) 47 _ rfl rfl hS.1 Try.underlying47 rfl) (fun K hK => ?_); go_simp; refine hK _ ?_; clear hK K
  iterate 1 (refine pc_pure rfl rfl (fun K hK => ?_); go_simp; refine hK _ ?_; clear hK K)
  refine pc_take _ rfl rfl (fun w' hS => exec_load1 (P := Try.prog) 3 _ rfl rfl hS.2 Try.underlying3 rfl) (fun K hK => ?_); go_simp; refine hK _ ?_; clear hK K
  refine pc_call rfl rfl (fun K hK => ?_); go_simp; refine ⟨_, _, ⟨rfl, rfl⟩, hK _ _ _ ?_⟩; clear hK K
  refine (rarm_any h2.rf x.num hnm.2).mono ?_
  rintro r w3 ⟨rfl, r3, m3⟩
  have h3 := h2.ref r3 (RefTo.at_b m3)
  have b3 := b2.mod m3 (fun e => HXB.out xb (.inr (.inr (.inr (.inl (.inl e))))) rfl)
  refine ⟨_, rfl, ⟨h3.blk.cell 2, b3.cell 2⟩, ?_⟩
  refine pc_nil ?_
  have HP : Hid (LStep w0 I sz s (.returned (.bool true)) w3) := Lib.hid ⟨_, rfl, h3, ⟨by show s.E.arm x.num = s.D.arm x.num; rw [HK.out.eq], fun e he => by
      have := HK.out.coh e he
      show e.2.bs = (s.D.arm x.num).latest e.1 ∧ 0 ≤ e.1 ∧ e.1 < (s.D.arm x.num).n
      rw [arm_latest, arm_n]; exact this, by show Lru s.l s.now sz s.T (!(s.D.arm x.num).down); rw [arm_down]; exact HK.out.lru, HK.out.tl, HK.out.rd, HK.out.len⟩, by show s.now ≤ s.now + 1; omega, arm_n _ _⟩
  clear h2 h3 b2 b3 r3 m3 hnm
  go_wp2
  go_ret
  exact HP.out

set_option maxRecDepth 100000 in
set_option maxHeartbeats 6400000 in
theorem s_drop (h : Lf w0 w I sz s) (kk : Coh sz s) (x : DoR) (hx : x.ok) (hq : pick x.op 9 = 4) :
    Calls Try.prog 57 #[.pointer (some ⟨I.x, 0, none⟩), do9A x] w (LStep w0 I sz s) := by
  have hop := hx.o
  unfold do9A
  have HK := Lib.hid kk
  have h1 := h.quiet ((Mod.refl Nn w).alloc (.cells (do9C x) 85))
  unfold do9C at h1
  clear h hx kk
  go_enter Try.func57, Try.ntmps57
  go_wp2_with fail
  refine (pick_any x.op 9 _ (by omega)).mono ?_
  rintro r w1 ⟨rfl, rfl⟩
  rw [hq]
  clear hq
  generalize w.alloc (.cells #[.int .i64 x.op, .int .i64 x.sec, .int .i64 x.num, .int .u8 x.byt, .slice x.fa x.fn x.fc] 85) = w1 at *
  have c0 : w1.cell? ⟨I.x, 0, none⟩ = some (.pointer (some ⟨I.c, 0, none⟩)) := h1.blk.cell 0
  go_wp2_with fail
  refine (cdrop_any h1.mem h1.m1).mono ?_
  rintro r w2 ⟨rfl, hC2, m2, -⟩
  have h2 := h1.dropped hC2 m2
  have c4 : w2.cell? ⟨I.x, 4, none⟩ = some s.tv := h2.blk.cell 4
  have f4 := h2.blk.frozen 4
  have h3 := h2.clr
  have HP : Hid (LStep w0 I sz s (.returned (.bool true)) (w2.setCell ⟨I.x, 4, none⟩ (.slice none 0 0))) := Lib.hid ⟨_, rfl, h3, Coh.gone HK.out.eq rfl rfl rfl HK.out.rd h1.n0 (by have := h1.m1; omega), by show s.now ≤ s.now + 1; omega, rfl⟩
  clear h1 h2 h3 hC2 m2 c0
  generalize s.tv = tv at *
  go_wp2
  go_ret
  exact HP.out

set_option maxRecDepth 100000 in
set_option maxHeartbeats 6400000 in
theorem s_wake (h : Lf w0 w I sz s) (kk : Coh sz s) (x : DoR) (hx : x.ok) (hf : Rd w0 x.fa x.fn (x.fl.map (Value.int .i64))) (hfn : x.fn ≤ 1000) (hq : pick x.op 9 = 5) :
    Calls Try.prog 57 #[.pointer (some ⟨I.x, 0, none⟩), do9A x] w (LStep w0 I sz s) := by
  have hop := hx.o
  unfold do9A
  have HK := Lib.hid kk
  have h1 := h.quiet ((Mod.refl Nn w).alloc (.cells (do9C x) 85))
  have b1 : Blk (w.alloc (.cells (do9C x) 85)) w.heap.size 85 (do9C x) := Blk.new _ _ _
  have hxb : ∀ k, InL I s k → k ≠ w.heap.size := fun k hk => by have := h.lt k hk; omega
  have hfo : 0 < x.fn → ∀ g, Of x.fa g → ∀ k, InL I s k → g ≠ k := fun hp g hg k hk e => by have := hf.in_ hp hg; have := h.old hk; omega
  unfold do9C at h1 b1
  clear h hx kk
  have HF := Lib.hid (And.intro hf hfo); clear hf hfo
  go_enter Try.func57, Try.ntmps57
  go_wp2_with fail
  refine (pick_any x.op 9 _ (by omega)).mono ?_
  rintro r w1 ⟨rfl, rfl⟩
  rw [hq]
  clear hq
  generalize w.alloc (.cells #[.int .i64 x.op, .int .i64 x.sec, .int .i64 x.num, .int .u8 x.byt, .slice x.fa x.fn x.fc] 85) = w1 at *
  generalize w.heap.size = xb at *
  have HXB := Lib.hid hxb; clear hxb
  go_wp2_with fail
  have h1 := h1.quiet (Mod.refl Nn w1).drew
  have b1 := b1.drew
  refine wp_region_planC (fun w' => w'.cell? ⟨I.x, 1, none⟩ = some (.pointer (some ⟨I.b, 0, none⟩)) ∧ w'.cell? ⟨xb, 4, none⟩ = some (.slice x.fa x.fn x.fc)) [(0, true), (1, true), (2, true), (3, true), (4, true), (5, true), (6, false)] (by kernel_rfl) (by kernel_rfl) ⟨h1.blk.cell 1, b1.cell 4⟩ ?_
  iterate 3 (refine pc_pure rfl rfl (fun K hK => ?_); go_simp; refine hK _ ?_; clear hK K)
  refine pc_take _ rfl rfl (fun w' hS => exec_load1 (P := Try.prog) 25 _ rfl rfl hS.1 Try.underlying25 rfl) (fun K hK => ?_); go_simp; refine hK _ ?_; clear hK K
  iterate 1 (refine pc_pure rfl rfl (fun K hK => ?_); go_simp; refine hK _ ?_; clear hK K)
  refine pc_take _ rfl rfl (fun w' hS => exec_load1 (P := Try.prog) 23 _ rfl rfl hS.2 Try.underlying23 rfl) (fun K hK => ?_); go_simp; refine hK _ ?_; clear hK K
  refine pc_call rfl rfl (fun K hK => ?_); go_simp; refine ⟨_, _, ⟨rfl, rfl⟩, hK _ _ _ ?_⟩; clear hK K
  refine (wake_any h1.d (HF.out.1.mod h1.md (fun _ _ f => f)) (fun hp g hg hin => HF.out.2 hp g hg g (.inr (.inr (.inl (.inr hin)))) rfl) (by omega)).mono ?_
  rintro r w2 ⟨rfl, d2, m2⟩
  have h2 := h1.cache (h1.mem.mod m2 (fun k hk e => h1.dsep k e hk)) d2 h1.dsep (CTo.same (m2.mono (fun _ _ e => .inr e))) h1.n0 h1.h0 h1.s0 h1.hs s.T
  have b2 := b1.mod m2 (fun e => HXB.out xb (.inr (.inr (.inl (.inr e)))) rfl)
  refine ⟨_, rfl, ⟨h2.blk.cell 1, b2.cell 4⟩, ?_⟩
  refine pc_nil ?_
  clear h1 b1 d2 m2
  go_wp2_with fail
  have h2 := h2.quiet (Mod.refl Nn w2).drew
  have b2 := b2.drew
  refine wp_region_planC (fun w' => w'.cell? ⟨I.x, 2, none⟩ = some (.pointer (some ⟨I.r, 0, none⟩)) ∧ w'.cell? ⟨xb, 4, none⟩ = some (.slice x.fa x.fn x.fc)) [(0, true), (1, true), (2, true), (3, true), (4, true), (5, true), (6, false)] (by kernel_rfl) (by kernel_rfl) ⟨h2.blk.cell 2, b2.cell 4⟩ ?_
  iterate 3 (refine pc_pure rfl rfl (fun K hK => ?_); go_simp; refine hK _ ?_; clear hK K)
  refine pc_take _ rfl rfl (fun w' hS => exec_load1 (P := Try.prog) 47 _ rfl rfl hS.1 Try.underlying47 rfl) (fun K hK => ?_); go_simp; refine hK _ ?_; clear hK K
  iterate 1 (refine pc_pure rfl rfl (fun K hK => ?_); go_simp; refine hK _ ?_; clear hK K)
  refine pc_take _ rfl rfl (fun w' hS => exec_load1 (P := Try.prog) 23 _ rfl rfl hS.2 Try.underlying23 rfl) (fun K hK => ?_); go_simp; refine hK _ ?_; clear hK K
  refine pc_call rfl rfl (fun K hK => ?_); go_simp; refine ⟨_, _, ⟨rfl, rfl⟩, hK _ _ _ ?_⟩; clear hK K
  refine (rwake_any h2.rf (HF.out.1.mod h2.md (fun _ _ f => f)) (fun hp g hg hin => HF.out.2 hp g hg g (.inr (.inr (.inr (.inl hin)))) rfl) (by omega)).mono ?_
  rintro r w3 ⟨lv', F', L', rfl, r3, to3⟩
  have h3 := h2.ref r3 to3
  have b3 := b2.mod to3.md (fun e => HXB.out xb (.inr (.inr (.inr (.inl e)))) rfl)
  refine ⟨_, rfl, ⟨h3.blk.cell 2, b3.cell 4⟩, ?_⟩
  refine pc_nil ?_
  have c0 : w3.cell? ⟨I.x, 0, none⟩ = some (.pointer (some ⟨I.c, 0, none⟩)) := h3.blk.cell 0
  clear h2 b2 b3 r3 to3
  go_wp2_with fail
  refine (cdrop_any h3.mem h3.m1).mono ?_
  rintro r w4 ⟨rfl, hC4, m4, -⟩
  have h4 := h3.dropped hC4 m4
  have c4 : w4.cell? ⟨I.x, 4, none⟩ = some s.tv := h4.blk.cell 4
  have f4 := h4.blk.frozen 4
  have h5 := h4.clr
  have HP : Hid (LStep w0 I sz s (.returned (.bool true)) (w4.setCell ⟨I.x, 4, none⟩ (.slice none 0 0))) := Lib.hid ⟨_, rfl, h5, Coh.gone (by show s.E.wake x.fl = s.D.wake x.fl; rw [HK.out.eq]) rfl rfl rfl HK.out.rd h3.n0 (by have := h3.m1; omega), by show s.now ≤ s.now + 1; omega, rfl⟩
  clear h3 h4 h5 hC4 m4 c0
  generalize s.tv = tv at *
  go_wp2
  go_ret
  exact HP.out

set_option maxRecDepth 100000 in
set_option maxHeartbeats 6400000 in
theorem s_read (h : Lf w0 w I sz s) (kk : Coh sz s) (hn : s.now ≤ 1000000) (x : DoR) (hx : x.ok) (hq : 6 ≤ pick x.op 9) :
    Calls Try.prog 57 #[.pointer (some ⟨I.x, 0, none⟩), do9A x] w (LStep w0 I sz s) := by
  have hop := hx.o
  unfold do9A
  have h1 := h.quiet ((Mod.refl Nn w).alloc (.cells (do9C x) 85))
  have b1 : Blk (w.alloc (.cells (do9C x) 85)) w.heap.size 85 (do9C x) := Blk.new _ _ _
  unfold do9C at h1 b1
  have h1' := l_read h1 kk x.sec hn
  clear h hx kk h1
  obtain ⟨q, hq', hq⟩ : ∃ q, pick x.op 9 = q ∧ 6 ≤ q := ⟨_, rfl, hq⟩
  have h20 : (q == 0) = false := by rw [beq_eq_false_iff_ne]; omega
  have h21 : (q == 1) = false := by rw [beq_eq_false_iff_ne]; omega
  have h22 : (q == 2) = false := by rw [beq_eq_false_iff_ne]; omega
  have h23 : (q == 3) = false := by rw [beq_eq_false_iff_ne]; omega
  have h24 : (q == 4) = false := by rw [beq_eq_false_iff_ne]; omega
  have h25 : (q == 5) = false := by rw [beq_eq_false_iff_ne]; omega
  go_enter Try.func57, Try.ntmps57
  go_wp2_with fail
  refine (pick_any x.op 9 _ (by omega)).mono ?_
  rintro r w1 ⟨rfl, rfl⟩
  rw [hq']
  clear hq'
  generalize w.alloc (.cells #[.int .i64 x.op, .int .i64 x.sec, .int .i64 x.num, .int .u8 x.byt, .slice x.fa x.fn x.fc] 85) = w1 at *
  generalize w.heap.size = xb at *
  have cc1 : w1.cell? ⟨xb, 1, none⟩ = some (.int .i64 x.sec) := b1.cell 1
  go_wp2_with fail
  refine h1'.mono ?_
  clear h1' b1 cc1
  rintro r w2 ⟨s', rfl, h2, k2, n2, d2⟩
  have HP : Hid (LStep w0 I sz s (.returned (.bool true)) w2) := Lib.hid ⟨s', rfl, h2, k2, n2, d2⟩
  clear h2 k2 n2 d2
  go_wp2
  go_ret
  exact HP.out

set_option maxRecDepth 100000 in
set_option maxHeartbeats 6400000 in
theorem s_write (h : Lf w0 w I sz s) (kk : Coh sz s) (hn : s.now ≤ 1000000) (x : DoR) (hx : x.ok) (hq : pick x.op 9 = 0 ∨ pick x.op 9 = 1) :
    Calls Try.prog 57 #[.pointer (some ⟨I.x, 0, none⟩), do9A x] w (LStep w0 I sz s) := by
  have hop := hx.o
  have hbt := hx.b
  have hnm := hx.n
  unfold do9A
  have h1 := h.quiet ((Mod.refl Nn w).alloc (.cells (do9C x) 85))
  have b1 : Blk (w.alloc (.cells (do9C x) 85)) w.heap.size 85 (do9C x) := Blk.new _ _ _
  have hxl : ∀ k, InL I s k → k < w.heap.size := h.lt
  unfold do9C at h1 b1
  obtain ⟨q, hq', hq⟩ : ∃ q, pick x.op 9 = q ∧ (q = 0 ∨ q = 1) := ⟨_, rfl, hq⟩
  have HK := Lib.hid kk
  clear h hx kk
  have h1s : w.heap.size < (w.alloc (.cells #[.int .i64 x.op, .int .i64 x.sec, .int .i64 x.num, .int .u8 x.byt, .slice x.fa x.fn x.fc] 85)).heap.size := by simp
  rcases hq with rfl | rfl
  all_goals
    go_enter Try.func57, Try.ntmps57
    go_wp2_with fail
    refine (pick_any x.op 9 _ (by omega)).mono ?_
    rintro r w1 ⟨rfl, rfl⟩
    rw [hq']
    clear hq'
    generalize w.alloc (.cells #[.int .i64 x.op, .int .i64 x.sec, .int .i64 x.num, .int .u8 x.byt, .slice x.fa x.fn x.fc] 85) = w1 at *
    generalize w.heap.size = xb at *
    have HXL := Lib.hid hxl; clear hxl
    have cc3 : w1.cell? ⟨xb, 3, none⟩ = some (.int .u8 x.byt) := b1.cell 3
    go_wp2_with fail
    refine (ful_any x.byt _ hbt.1 hbt.2).mono ?_
    rintro r w2 ⟨g, rfl, hb2, hg2, m2⟩
    have h2 := h1.quiet m2
    have b2 := b1.mod m2 (fun f => f)
    have cc1 : w2.cell? ⟨xb, 1, none⟩ = some (.int .i64 x.sec) := b2.cell 1
    have cc2 : w2.cell? ⟨xb, 2, none⟩ = some (.int .i64 x.num) := b2.cell 2
    have hgl := hb2.lt
    clear h1 b1 cc3 m2
    have HA : Hid (∀ k, Of (some (⟨g, 0, none⟩ : Addr)) k → ¬ InL I s k ∧ k < w2.heap.size) := Lib.hid (fun k hk => by
      obtain ⟨a, ha, hka⟩ := hk; injection ha with ha; subst ha
      have hka : g = k := hka
      exact ⟨fun hin => by have := HXL.out k hin; omega, by omega⟩)
    have hrd : Rd w2 (some ⟨g, 0, none⟩) 512 ((fulL x.byt 512).map (Value.int .u8)) := Rd.of_blk0 hb2 (by simp [fulL_len])
    have hpr := pick_range x.num 512 (by omega)
    by_cases h9 : x.num.tmod 9 = 4
    · have h9' : (x.num.tmod 9 == 4) = true := by rw [h9]; rfl
      have hrp := hrd.pre (c := 512) (pick x.num 512).toNat (by omega) (by omega)
      rw [subA_zero, ← List.map_take] at hrp
      have hpk : ((pick x.num 512).toNat : Int) = pick x.num 512 := by omega
      have hcall := l_write h2 HK.out x.sec hn (c := 512) hrp HA.out (by omega)
      clear h9 h2 hrp hrd hb2
      go_wp2_with fail
      refine (pick_any x.num 512 _ (by omega)).mono ?_
      rintro r w3 ⟨rfl, rfl⟩
      rw [← hpk]
      have hp5 : (pick x.num 512).toNat ≤ 512 := by omega
      clear hpr
      generalize (pick x.num 512).toNat = p at *
      clear hpk
      go_wp2_with (first
        | (with_reducible change wpList _ _ _ (⟨_, Op.slice _ _ _ _ _, _, _, _, _⟩ :: _) _ _
           go_must (refine wpList_sub_h 35 _ _ rfl rfl 5 1 Try.underlying35 (by kernel_rfl) p rfl rfl (by omega) ?_)
           rw [subA_zero]))
      refine hcall.mono ?_
      clear hcall
      rintro r w4 ⟨s', rfl, h4, k4, n4, d4⟩
      have HP : Hid (LStep w0 I sz s (.returned (.bool true)) w4) := Lib.hid ⟨s', rfl, h4, k4, n4, d4⟩
      clear h4 k4 n4 d4
      go_wp2
      go_ret
      exact HP.out
    · have h9' : (x.num.tmod 9 == 4) = false := by rw [beq_eq_false_iff_ne]; exact h9
      have hcall := l_write h2 HK.out x.sec hn (c := 512) hrd HA.out (by omega)
      clear h9 h2 hrd hb2 hpr
      go_wp2_with fail
      refine hcall.mono ?_
      clear hcall
      rintro r w4 ⟨s', rfl, h4, k4, n4, d4⟩
      have HP : Hid (LStep w0 I sz s (.returned (.bool true)) w4) := Lib.hid ⟨s', rfl, h4, k4, n4, d4⟩
      clear h4 k4 n4 d4
      go_wp2
      go_ret
      exact HP.out

theorem s_any (h : Lf w0 w I sz s) (kk : Coh sz s) (hn : s.now ≤ 1000000) (x : DoR) (hx : x.ok) (hf : Rd w0 x.fa x.fn (x.fl.map (Value.int .i64))) (hfn : x.fn ≤ 1000) :
    Calls Try.prog 57 #[.pointer (some ⟨I.x, 0, none⟩), do9A x] w (LStep w0 I sz s) := by
  have hr := pick_range x.op 9 (by omega)
  by_cases h1 : pick x.op 9 ≤ 1
  · exact s_write h kk hn x hx (by omega)
  by_cases h2 : pick x.op 9 = 2
  · exact s_sync h kk x hx h2
  by_cases h3 : pick x.op 9 = 3
  · exact s_arm h kk x hx h3
  by_cases h4 : pick x.op 9 = 4
  · exact s_drop h kk x hx h4
  by_cases h5 : pick x.op 9 = 5
  · exact s_wake h kk x hx hf hfn h5
  · exact s_read h kk hn x hx (by omega)
end
end Go.Proofs.Ytgmkibckbbbhkaa
