/- A step of a disk's life: writing; any step. -/
import Derived.Test.YtgmkibckbbbhkaaDevS1
namespace Go.Proofs.Ytgmkibckbbbhkaa
open Go.RowKit

section
variable {w0 w : World} {b ms mo b' : Nat} {lv : Value} {F : Nat → Prop} {D : Dk} {L : List Sec}
set_option maxRecDepth 100000 in
set_option maxHeartbeats 3200000 in
theorem step_write (h : Pr w0 w b ms mo b' lv F D D L) (x : DoR) (hx : x.ok)  (hq : pick x.op 8 = 0 ∨ pick x.op 8 = 1 ∨ pick x.op 8 = 2) :
    Calls Try.prog 32 #[.pointer (some ⟨b, 0, none⟩), .pointer (some ⟨b', 0, none⟩), doA x] w (StP w0 w b ms mo b' lv F) := by
  have hop := hx.o
  unfold doA
  have H := Lib.hid h; have HX := Lib.hid hx; clear h hx
  obtain ⟨q, hq', hq⟩ : ∃ q, pick x.op 8 = q ∧ (q = 0 ∨ q = 1 ∨ q = 2) := ⟨_, rfl, hq⟩
  have h1 : Pr w0 (w.alloc (.cells (doC x) 31)) b ms mo b' lv F D D L := H.out.quiet ((Mod.refl _ _).alloc _)
  have t1 : PrTo w (w.alloc (.cells (doC x) 31)) b ms mo b' lv F lv F := PrTo.quiet ((Mod.refl _ _).alloc _)
  have b1 : Blk (w.alloc (.cells (doC x) 31)) w.heap.size 31 (doC x) := Blk.new _ _ _
  have hxb : ∀ k, InP b ms mo b' lv k → k ≠ w.heap.size := fun k hk => by have := H.out.lt k (.inl hk); omega
  have HI := Lib.hid (And.intro h1 (And.intro t1 (And.intro b1 hxb))); clear h1 t1 b1 hxb
  unfold doC at HI
  rcases hq with rfl | rfl | rfl
  all_goals
    go_enter Try.func32, Try.ntmps32
    go_wp2_with fail
    refine (pick_any x.op 8 _ (by omega)).mono ?_
    rintro r w1 ⟨rfl, rfl⟩
    rw [hq']
    clear hq'
    obtain ⟨h1, t1, b1, hxb⟩ := HI.out
    generalize w.alloc (.cells #[.int .i64 x.op, .int .i64 x.sec, .int .i64 x.num, .int .u8 x.byt, .slice x.fa x.fn x.fc] 31) = w1 at *
    generalize hxe : w.heap.size = xb at *
    have HXE := Lib.hid hxe; clear hxe
    have cc0 := b1.cell 0; have cc1 := b1.cell 1; have cc2 := b1.cell 2; have cc3 := b1.cell 3; have cc4 := b1.cell 4
    clear HI
    have hsl := stLen_le x.num
    go_wp2_with fail
    refine (dobytes_any x.op x.sec x.num x.byt _ _ HX.out.n HX.out.b).mono ?_
    rintro r w2 ⟨gb, cb, rfl, hrb, hgb, hgb', m2⟩
    have h2 := h1.quiet m2
    have t2 := t1.trans (PrTo.quiet m2)
    have b2 := b1.mod m2 (fun f => f)
    have hgP : ∀ k, InP b ms mo b' lv k → k ≠ gb := fun k hk e => by have := h1.lt k (.inl hk); omega
    have HST := Lib.hid (stB_len x.num x.byt)
    generalize stB x.num x.byt = bs at *
    generalize stLen x.num = m at *
    clear h1 t1 b1 m2 hgb cc0 cc1 cc2 cc3 cc4
    go_wp2_with fail
    refine (lent_any hrb (by omega)).mono ?_
    rintro r w3 ⟨g, rfl, hb3, m3, hg⟩
    have h3 := h2.quiet m3
    have t3 := t2.trans (PrTo.quiet m3)
    have b3 := b2.mod m3 (fun f => f)
    have hrb3 := hrb.mod m3 (fun _ _ f => f)
    have HGW := Lib.hid (show w.heap.size ≤ g from by have := t2.md.size; omega)
    have HI0 := Lib.hid (show w0.heap.size ≤ g from by have := h2.md.size; omega)
    have hgQ : ∀ k, InP b ms mo b' lv k ∨ F k → k ≠ g := fun k hk e => by have := h2.lt k hk; omega
    have hrin : Rd w3 (some ⟨g, 0, none⟩) m (bs.map (Value.int .u8)) := Rd.of_blk hb3 0 (by simp [HST.out]) (fun j v hv => by
      rw [List.getElem?_toArray, Nat.zero_add, List.map_append, List.getElem?_append_left (List.getElem?_eq_some_iff.1 hv).1]; exact hv)
    have hgl := hb3.lt
    have cc1 := b3.cell 1
    have HQ := Lib.hid (And.intro hgP hgQ)
    have HGL := Lib.hid hgl
    clear h2 t2 b2 m3 hg hrb hgb' hgP hgQ hgl
    go_wp2_with fail
    refine wp_region_planT (fun w' => w'.cell? ⟨xb, 1, none⟩ = some (.int .i64 x.sec)) 14 [(0, 0), (1, 0), (2, 1), (3, 0), (5, 0), (6, 0), (7, 1), (8, 0), (4, 2), (9, 2), (10, 0), (11, 0), (12, 0), (13, 0), (14, 2), (15, 0), (16, 0)] (by kernel_rfl) (by kernel_rfl) cc1 ?_
    have hD3 := h3.quiet (Mod.refl Nn w3).drew
    have t3' := t3.trans (PrTo.quiet (Mod.refl Nn w3).drew)
    have b3' := b3.drew
    have hrb3' := hrb3.drew
    have hrin' := hrin.drew
    have hb3' := hb3.drew
    have HGL' : Hid (g < w3.drew.heap.size) := Lib.hid HGL.out
    clear h3 t3 b3 hrb3 hrin hb3 cc1
    generalize w3.drew = w3 at *
    iterate 2 (refine pt_pure rfl rfl (fun K hK => ?_); go_simp; refine hK _ ?_; clear hK K)
    refine pt_take _ rfl rfl (fun w' hS => exec_load1 (P := Try.prog) 3 _ rfl rfl hS Try.underlying3 rfl) (fun K hK => ?_); go_simp; refine hK _ ?_; clear hK K
    iterate 3 (refine pt_pure rfl rfl (fun K hK => ?_); go_simp; refine hK _ ?_; clear hK K)
    refine pt_take _ rfl rfl (fun w' hS => exec_load1 (P := Try.prog) 3 _ rfl rfl hS Try.underlying3 rfl) (fun K hK => ?_); go_simp; refine hK _ ?_; clear hK K
    iterate 1 (refine pt_pure rfl rfl (fun K hK => ?_); go_simp; refine hK _ ?_; clear hK K)
    generalize hR : (D.write x.sec bs).1 = R at *
    have HR := Lib.hid hR; clear hR
    refine pt_call rfl rfl (fun K hK => ?_); go_simp; refine ⟨_, _, ⟨rfl, rfl⟩, hK _ _ _ ?_⟩; clear hK K
    refine (write_any hD3.d x.sec hrin').mono ?_
    rintro r w4 ⟨rfl, hd4, m4, -⟩
    rw [HR.out]
    have hxd : ¬ In3 b ms mo xb := fun e => hxb xb (.inl e) rfl
    have b4 := b3'.mod m4 hxd
    refine ⟨_, rfl, fun _ => b4.cell 1, ?_⟩
    have h4 := hD3.dev hd4 m4
    have t4 := t3'.trans (PrTo.dev m4)
    have hrb4 := hrb3'.mod m4 (fun k hk e => by obtain ⟨a, ha, hka⟩ := hk; injection ha with ha; subst ha; exact HQ.out.1 k (.inl e) hka.symm)
    have hb4 := hb3'.mod m4 (fun e => HQ.out.2 g (.inl (.inl e)) rfl)
    have HGL4 := Lib.hid hb4.lt
    clear hD3 t3' b3' hd4 m4 hrb3' hb3' hrin'
    refine pt_call rfl rfl (fun K hK => ?_); go_simp; refine ⟨_, _, ⟨rfl, rfl⟩, hK _ _ _ ?_⟩; clear hK K
    refine (rwrite_any h4.r x.sec hrb4 (fun k hk e => by obtain ⟨a, ha, hka⟩ := hk; injection ha with ha; subst ha; exact HQ.out.1 k (.inr e) hka.symm)).mono ?_
    rintro r w5 ⟨lv', F', L', rfl, hr5, to5⟩
    rw [HR.out]
    have hxr : ¬ InR b' lv xb := fun e => hxb xb (.inr e) rfl
    have b5 := b4.mod to5.md hxr
    refine ⟨_, rfl, fun _ => b5.cell 1, ?_⟩
    have h5 := h4.ref hr5 to5
    have t5 := t4.trans (PrTo.ref to5)
    have hrb5 := hrb4.mod to5.md (fun k hk e => by obtain ⟨a, ha, hka⟩ := hk; injection ha with ha; subst ha; exact HQ.out.1 k (.inr e) hka.symm)
    have hb5 := hb4.mod to5.md (fun e => HQ.out.2 g (.inl (.inr e)) rfl)
    have HN : Hid (∀ k, InP b ms mo b' lv' k ∨ F' k → ¬ At g k) := Lib.hid (fun k hk e => by
      have e : k = g := e
      have hl := HGL4.out
      rcases hk with (hk | hk | hk) | hk
      · exact HQ.out.2 k (.inl (.inl hk)) e
      · exact HQ.out.2 k (.inl (.inr (.inl hk))) e
      · rcases to5.lv k hk with h | h
        · exact HQ.out.2 k (.inl (.inr (.inr h))) e
        · omega
      · rcases to5.F k hk with h | h
        · exact HQ.out.2 k (.inr h) e
        · omega)
    clear h4 t4 b4 hr5 to5 hrb4 hb4
    iterate 4 (refine pt_pure rfl rfl (fun K hK => ?_); go_simp; refine hK _ ?_; clear hK K)
    refine pt_call rfl rfl (fun K hK => ?_); go_simp; refine ⟨_, _, ⟨rfl, rfl⟩, hK _ _ _ ?_⟩; clear hK K
    refine (kept_any hrb5 hb5 (by omega)).mono ?_
    rintro r w6 ⟨rfl, m6⟩
    have b6 := b5.mod m6 (fun f => f)
    refine ⟨_, rfl, fun _ => b6.cell 1, ?_⟩
    have h6 := h5.quiet m6
    have t6 := t5.trans (PrTo.quiet m6)
    have hb6 := hb5.mod m6 (fun f => f)
    clear h5 t5 b5 b6 m6 hrb5 hb5
    iterate 2 (refine pt_pure rfl rfl (fun K hK => ?_); go_simp; refine hK _ ?_; clear hK K)
    refine pt_nil ?_
    have hcs : ((bs ++ mks 1 12).map (Value.int .u8)).toArray.size = m + 12 := by simp [HST.out, mks_len]
    go_wp2_with fail
    refine (over_any hb6 hcs (by omega)).mono ?_
    rintro r w7 ⟨rfl, m7⟩
    have h7 := h6.mod m7 HN.out (fun k hk e => by have e : k = g := e; have := HI0.out; omega)
    have t7 := PrTo.new_ m7 t6 HGW.out
    have HP : Hid (StP w0 w b ms mo b' lv F (.returned (.bool true)) w7) := Lib.hid ⟨lv', F', _, L', rfl, h7, t7⟩
    clear h6 t6 h7 t7 hb6 m7 hcs hxb hxd hxr
    go_wp2
    go_ret
    exact HP.out
end
end Go.Proofs.Ytgmkibckbbbhkaa
