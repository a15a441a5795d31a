/- Write. -/
import Derived.Test.YtbocdgmkiajihaaDoorSha6
import Derived.Test.YtbocdgmkiajihaaDoorKit16
namespace Go.Proofs.YtbocdgmkiajihaaDoor
open Go.RowKit

theorem info8 : (Tryd.prog.info? 5).map (fun i => (i.zero, i.size, i.bytes)) = some (some (.int .u8 0), 1, 1) := by kernel_rfl
theorem size_sl : (Tryd.prog.info? 22).map (·.size) = some 1 := by kernel_rfl
theorem own_e {w : World} {e : TypeId} (base : Nat) (hb : base ≤ w.heap.size) : (w.alloc (.cells #[] e)).ownsRow base e 1 (.slice (some ⟨w.heap.size, 0, none⟩) 0 0) 0 [] :=
  World.ownsRow_made (base := base) (e := e) (size := 1) w #[] 0 hb (by simp) rfl
theorem u8s_append (a b : List Nat) : u8s (a ++ b) = u8s a ++ u8s b := by simp [u8s]
theorem own_blk_lt_ {w : World} {base n g : Nat} {v : Value} {xs : List Value} {e : TypeId} (h : w.ownsRow base e 1 v n xs) (hg : v.ownBlock = some g) : g < w.heap.size := by
  obtain ⟨A, c, rfl, _, hlt⟩ := own_form h
  exact (hlt g (own_of hg)).2
def WrP (w : World) (hb sb : Nat) (rv : Value) (t : List Nat) (e : Ending) (w' : World) : Prop :=
  ∃ rv', e = .returned (.int .i64 0) ∧ HA w' hb sb rv' t ∧ Mod (InH hb sb rv) w w' ∧ (∀ g, rv'.ownBlock = some g → w.heap.size ≤ g)

set_option maxRecDepth 100000 in
set_option maxHeartbeats 3200000 in
theorem write_any {w : World} (hg : Gl w) {hb sb : Nat} {rv : Value} {t : List Nat} (h : HA w hb sb rv t) {A : Option Addr} {n c : Nat} {l : List Nat} (hr : Rd w A n (u8s l)) (hl : ∀ z ∈ l, z < 256) (hA : 0 < n → ∀ g, Of A g → g ≠ hb) (hN : t.length + n ≤ 1099511627776) :
    Calls Tryd.prog 14 #[.pointer (some ⟨hb, 0, none⟩), .slice A n c] w (WrP w hb sb rv (t ++ l)) := by
  have hln : l.length = n := by have := hr.1; rwa [u8s_len] at this
  have c0 : w.cell? ⟨hb, 0, none⟩ = some (.pointer (some ⟨sb, 0, none⟩)) := (h.blk.cell 0).trans hashC_0
  have c2 : w.cell? ⟨hb, 2, none⟩ = some (.int .u64 (t.length : Int)) := (h.blk.cell 2).trans hashC_2
  have c6 : w.cell? ⟨hb, 6, none⟩ = some (.bool false) := (h.blk.cell 6).trans hashC_6
  have f2 := h.blk.frozen 2
  have hrl : (rest t).length ≤ 63 := by rw [rest_len]; omega
  obtain ⟨rA, rc, rfl, hrc, -⟩ := own_form h.row
  have c1 : w.cell? ⟨hb, 1, none⟩ = some (.slice rA (rest t).length rc) := (h.blk.cell 1).trans hashC_1
  have H := Lib.hid h
  have HS := Lib.hid (And.intro hg (And.intro hr (And.intro hl (And.intro hA hln))))
  clear h hg hr hl hA hln
  obtain ⟨r0, hr0⟩ : ∃ x, (rest t).length = x := ⟨_, rfl⟩
  have HR0 := Lib.hid hr0
  rw [hr0] at hrl hrc c1 ⊢
  have hrow0 := H.out.row
  rw [hr0] at hrow0
  have HRW := Lib.hid hrow0
  obtain ⟨tl, htl⟩ : ∃ x, t.length = x := ⟨_, rfl⟩
  have HTL := Lib.hid htl
  rw [htl] at c2 hN
  clear hr0 hrow0 htl
  go_enter Tryd.func14, Tryd.ntmps14
  go_upto_region 6 with fail
  have m1 : Mod (At hb) w (w.setCell ⟨hb, 2, none⟩ (.int .u64 ((tl : Int) + n))) := Mod.cellAt _ _ _ _
  have hb1 := H.out.blk.set_ 2 (.int .u64 ((tl : Int) + n))
  rw [hashC_s2, HR0.out] at hb1
  have hs1 := H.out.st.mod m1 (fun e => H.out.ne (by have e : sb = hb := e; exact e.symm))
  have hrw1 := own_mod HRW.out m1 (fun g hg e => by have e : g = hb := e; subst e; exact H.out.r1 (by rw [HR0.out]; exact hg))
  have hr1 := HS.out.2.1.mod0 m1 (fun h0 g hg e => HS.out.2.2.2.1 h0 g hg e)
  generalize w.setCell ⟨hb, 2, none⟩ (.int .u64 ((tl : Int) + n)) = wa at *
  have HW1 := Lib.hid (And.intro m1 (And.intro hb1 (And.intro hs1 (And.intro hrw1 hr1))))
  have c1 : wa.cell? ⟨hb, 1, none⟩ = some (.slice rA r0 rc) := (hb1.cell 1).trans hashC_1
  clear m1 hb1 hs1 hrw1 hr1 c0 c2 c6 f2
  go_upto_region 7 with (first
    | (with_reducible change wpList _ _ _ (⟨some 36, _, _, _, _, _⟩ :: _) _ _
       go_must (refine wpList_append_rd 22 _ _ rfl rfl 0 5 (.int .u8 0) 1 1 Tryd.underlying22 info8 rfl (by omega) (.slice rA r0 rc) r0 (u8s (rest t)) rfl HW1.out.2.2.2.1 A n c (u8s l) rfl HW1.out.2.2.2.2.toC (u8s_one _) (by omega) (by omega) (Nat.zero_le _) ?_)
       intro v1 wb own1 gr1 ob1
       have m2 : Mod (fun g => (Value.slice rA r0 rc).ownBlock = some g) wa wb := (Mod.refl _ _).grown gr1 (fun g hg => .inr hg)
       have hb2 := HW1.out.2.1.mod m2 (fun e => H.out.r1 (by rw [HR0.out]; exact e))
       have hs2 := HW1.out.2.2.1.mod m2 (fun e => H.out.r2 (by rw [HR0.out]; exact e))
       have hv1 : v1.ownBlock ≠ some hb := own_ne own1 hb2 (by decide)
       have hv2 : v1.ownBlock ≠ some sb := own_ne own1 hs2 (by decide)
       rw [← u8s_append] at own1
       obtain ⟨A1, c1', rfl, hc1', -⟩ := own_form own1
       have cm1 : c1' ≤ maxLen := by
         rcases own1.2 with ⟨e, _⟩ | ⟨_, cap, _, e, _, _, _, hcap, _⟩
         · injection e with _ _ e; subst e; exact Nat.zero_le _
         · injection e with _ _ e; subst e; exact hcap
       have k1 : wb.cell? ⟨hb, 1, none⟩ = some (.slice rA r0 rc) := (hb2.cell 1).trans hashC_1
       have kf1 := hb2.frozen 1
       have m3 : Mod (At hb) wb (wb.setCell ⟨hb, 1, none⟩ (.slice A1 (r0 + n) c1')) := Mod.cellAt _ _ _ _
       have hb3 := hb2.set_ 1 (.slice A1 (r0 + n) c1')
       rw [hashC_s1] at hb3
       have hs3 := hs2.mod m3 (fun e => H.out.ne (by have e : sb = hb := e; exact e.symm))
       have own3 := own_mod own1 m3 (fun g hg e => by have e : g = hb := e; subst e; exact hv1 hg)
       have hmB : Mod (InH hb sb (.slice rA r0 rc)) w (wb.setCell ⟨hb, 1, none⟩ (.slice A1 (r0 + n) c1')) :=
         ((HW1.out.1.mono (fun _ _ e => .inl e)).then_ m2 (fun g _ e => .inr (.inr e))).then_ m3 (fun g _ e => .inl e)
       have HC := Lib.hid (And.intro hb3 (And.intro hs3 (And.intro own3 (And.intro hmB (And.intro hc1' (And.intro cm1 (And.intro hv1 hv2)))))))
       clear own1 gr1 ob1 m2 hb2 hs2 m3 hb3 hs3 own3 hmB hv1 hv2 cm1))
  clear c1 k1 kf1
  have hGb : Gl (wb.setCell ⟨hb, 1, none⟩ (.slice A1 (r0 + n) c1')) := HS.out.1.mod HC.out.2.2.2.1
    (fun e => by rcases e with e | e | e
                 · have := H.out.h1; omega
                 · have := H.out.s1; omega
                 · have := H.out.r0 _ (by rw [HR0.out]; exact e); omega)
    (fun e => by rcases e with e | e | e
                 · have := H.out.h1; omega
                 · have := H.out.s1; omega
                 · have := H.out.r0 _ (by rw [HR0.out]; exact e); omega)
  generalize wb.setCell ⟨hb, 1, none⟩ (.slice A1 (r0 + n) c1') = wc at *
  have k0 : wc.cell? ⟨hb, 0, none⟩ = some (.pointer (some ⟨sb, 0, none⟩)) := (HC.out.1.cell 0).trans hashC_0
  have k1 : wc.cell? ⟨hb, 1, none⟩ = some (.slice A1 (r0 + n) c1') := (HC.out.1.cell 1).trans hashC_1
  have hbl := HC.out.1.lt
  have HGB := Lib.hid hGb; clear hGb
  have hst4 : blks (stS t) (rest t ++ l) ((r0 + n) / 64) = stS (t ++ l) := by
    have hn1 : (r0 + n) / 64 = ((rest t).length + l.length) / 64 := by rw [HR0.out, HS.out.2.2.2.2]
    rw [hn1]; exact st_more t l
  have hrs4 : (rest t ++ l).drop (64 * ((r0 + n) / 64)) = rest (t ++ l) := by
    have hn1 : (r0 + n) / 64 = ((rest t).length + l.length) / 64 := by rw [HR0.out, HS.out.2.2.2.2]
    rw [hn1]; exact rest_more t l
  have hrl4 : (r0 + n) % 64 = (rest (t ++ l)).length := by rw [rest_len, List.length_append, HS.out.2.2.2.2]; have := HR0.out; rw [rest_len] at this; omega
  have HT4 := Lib.hid (And.intro hst4 (And.intro hrs4 hrl4)); clear hst4 hrs4 hrl4
  -- blocks, called in any later world
  have hcall : ∀ wz, Mod Nn wc wz → Calls Tryd.prog 22 #[.pointer (some ⟨sb, 0, none⟩), .slice A1 (r0 + n) c1'] wz fun e w4 => ∃ A2 c2, e = .returned (.slice A2 ((r0 + n) % 64) c2) ∧ Rd w4 A2 ((r0 + n) % 64) (u8s (rest (t ++ l))) ∧
      Blk w4 hb 48 (hashC (.pointer (some ⟨sb, 0, none⟩)) (.slice A1 (r0 + n) c1') ((tl : Int) + n) 0 0 false z32) ∧ Blk w4 sb 63 (wvs (stS (t ++ l)).l) ∧ Mod (At sb) wc w4 ∧ Mod (At sb) wz w4 ∧ (∀ g, Of A2 g → g < wc.heap.size) := fun wz mz => by
    refine (blocks_any (HGB.out.nn mz) (stS t) (HC.out.2.1.mod mz (fun f => f)) H.out.s1 (Rd.of_own (own_mod HC.out.2.2.1 mz (fun _ _ f => f))) (fun z hz => ?_) HC.out.2.2.2.2.1 HC.out.2.2.2.2.2.1 (fun g hg e => HC.out.2.2.2.2.2.2.2 (of_own (e ▸ hg)))).mono ?_
    · rcases List.mem_append.1 hz with hz | hz
      · exact H.out.lt z (List.mem_of_mem_drop hz)
      · exact HS.out.2.2.1 z hz
    · rintro r w4 ⟨A2, c2, he, hr2, hA2, hs4, m4⟩
      rw [HT4.out.1] at hs4
      rw [HT4.out.2.1] at hr2
      exact ⟨A2, c2, he, hr2, (HC.out.1.mod mz (fun f => f)).mod m4 (fun e => H.out.ne e), hs4, (mz.nn).trans m4, m4, fun g hg => own_blk_lt_ HC.out.2.2.1 (of_own (hA2 g hg))⟩
  refine wp_region_planU (fun w' => w'.cell? ⟨hb, 0, none⟩ = some (.pointer (some ⟨sb, 0, none⟩)) ∧ w'.cell? ⟨hb, 1, none⟩ = some (.slice A1 (r0 + n) c1')) 14 [(0, 0), (2, 0), (3, 0), (4, 0), (5, 1), (6, 0), (7, 0), (8, 0), (9, 1), (1, 13), (11, 2), (12, 0), (13, 0), (14, 2)] (by kernel_rfl) (by kernel_rfl) ⟨k0, k1⟩ ?_
  iterate 4 (refine pu_pure rfl rfl (fun K hK => ?_); go_simp; refine hK _ ?_; clear hK K)
  refine pu_take _ rfl rfl (fun w' hS => exec_load1 (P := Tryd.prog) 33 _ rfl rfl hS.1 Tryd.underlying33 rfl) (fun K hK => ?_); go_simp; refine hK _ ?_; clear hK K
  iterate 3 (refine pu_pure rfl rfl (fun K hK => ?_); go_simp; refine hK _ ?_; clear hK K)
  refine pu_take _ rfl rfl (fun w' hS => exec_load1 (P := Tryd.prog) 22 _ rfl rfl hS.2 Tryd.underlying22 rfl) (fun K hK => ?_); go_simp; refine hK _ ?_; clear hK K
  refine pu_pair rfl rfl (fun _ => rfl) (fun _ => rfl) (fun K hK => ?_)
  go_simp
  refine ⟨_, _, _, _, ⟨⟨rfl, rfl⟩, rfl, rfl⟩, ⟨?_, ?_⟩, ?_, ?_⟩
  · go_simp
  · go_simp
  · refine (hcall _ (((Mod.refl Nn wc).alloc _).drew)).mono ?_
    rintro r w4 ⟨A2, c2, rfl, hr2, hb4, hs4, mw4, mz4, hlt2⟩
    refine ⟨_, rfl, ⟨(hb4.cell 0).trans hashC_0, (hb4.cell 1).trans hashC_1⟩, hK _ _ ?_⟩
    have owm : ((wc.alloc (.cells #[] 5)).drew).ownsRow wc.heap.size 5 1 (.slice (some ⟨wc.heap.size, 0, none⟩) 0 0) 0 [] := own_e wc.heap.size (Nat.le_refl _)
    have ow4 := own_mod owm mz4 (fun g hg e => by
      have e : g = sb := e
      injection hg with hg
      have hg : wc.heap.size = g := hg
      have := HC.out.2.1.lt; omega)
    have hbz : wc.heap.size + 1 ≤ w4.heap.size := by simpa using mz4.size
    have H4 := Lib.hid (And.intro hb4 (And.intro hs4 mw4))
    clear hb4 hs4 mw4 mz4 owm hK K hcall
    obtain ⟨E, hE⟩ : ∃ E, wc.heap.size = E := ⟨_, rfl⟩
    have HE4 := Lib.hid (show wc.heap.size ≤ E ∧ E < w4.heap.size from by omega)
    conv at ow4 => arg 5; rw [hE]
    conv => pattern (⟨wc.heap.size, 0, none⟩ : Addr); rw [hE]
    clear hE hbz
    have hrm : (r0 + n) % 64 < 64 := Nat.mod_lt _ (by omega)
    have hrl5 := HT4.out.2.2
    generalize (r0 + n) % 64 = r5 at *
    have HL5 := Lib.hid hrl5; clear hrl5
    refine pu_append 22 _ _ rfl (fun _ => rfl) rfl wc.heap.size 5 (.int .u8 0) 1 1 Tryd.underlying22 info8 rfl (by omega) _ 0 [] rfl ow4 A2 r5 c2 (u8s (rest (t ++ l))) rfl hr2.toC (u8s_one _) (by omega) (by omega) (by have := HE4.out; omega) ?_
    intro v5 w5 own5 gr5 ob5
    rw [Nat.zero_add, List.nil_append] at own5
    have m5 : Mod (At E) w4 w5 := (Mod.refl _ _).grown gr5 (fun g hg => .inr (by injection hg with hg; exact hg.symm))
    have hb5 := H4.out.1.mod m5 (fun e => by have e : hb = E := e; have := HE4.out; omega)
    have hs5 := H4.out.2.1.mod m5 (fun e => by have e : sb = E := e; have := HC.out.2.1.lt; have := HE4.out; omega)
    have p0 : w5.cell? ⟨hb, 0, none⟩ = some (.pointer (some ⟨sb, 0, none⟩)) := (hb5.cell 0).trans hashC_0
    have p1 : w5.cell? ⟨hb, 1, none⟩ = some (.slice A1 (r0 + n) c1') := (hb5.cell 1).trans hashC_1
    have pf1 := hb5.frozen 1
    refine ⟨fun _ => ⟨p0, p1⟩, fun K hK => ?_⟩; go_simp; refine hK _ ?_; clear hK K
    iterate 2 (refine pu_pure rfl rfl (fun K hK => ?_); go_simp; refine hK _ ?_; clear hK K)
    obtain ⟨A5, c5, rfl, -, hA5⟩ := own_form own5
    refine pu_unit (w1 := w5.setCell ⟨hb, 1, none⟩ (.slice A5 r5 c5)) rfl (fun _ => rfl) (exec_store1 (P := Tryd.prog) 22 _ _ rfl rfl rfl p1 pf1 rfl rfl rfl size_sl) (fun h => by simp at h) (fun K hK => ?_); go_simp; refine hK _ ?_; clear hK K
    refine pu_nil ?_
    have m6 : Mod (At hb) w5 (w5.setCell ⟨hb, 1, none⟩ (.slice A5 r5 c5)) := Mod.cellAt _ _ _ _
    have hb6 := hb5.set_ 1 (.slice A5 r5 c5)
    rw [hashC_s1] at hb6
    have hs6 := hs5.mod m6 (fun e => H.out.ne (by have e : sb = hb := e; exact e.symm))
    have own6 := own_mod (own_base (base' := 0) own5 (fun _ _ => Nat.zero_le _)) m6 (fun g hg e => by have e : g = hb := e; subst e; exact own_ne own5 hb5 (by decide) hg)
    have hcs := HC.out.2.2.2.1.size
    have M6 : Mod (InH hb sb (.slice rA r0 rc)) w (w5.setCell ⟨hb, 1, none⟩ (.slice A5 r5 c5)) :=
      ((HC.out.2.2.2.1.then_ H4.out.2.2 (fun g _ e => .inr (.inl e))).new_ m5 (by have := HE4.out; omega)).then_ m6 (fun g _ e => .inl e)
    have hHA : HA (w5.setCell ⟨hb, 1, none⟩ (.slice A5 r5 c5)) hb sb (.slice A5 r5 c5) (t ++ l) := by
      refine ⟨?_, hs6, by rw [← HL5.out]; exact own6, H.out.h1, H.out.s1, fun g hg => by have := (hA5 g (own_of hg)).1; have := H.out.h1; omega, fun z hz => ?_⟩
      · have e : ((t ++ l).length : Int) = (tl : Int) + n := by rw [List.length_append, HTL.out, HS.out.2.2.2.2]; omega
        rw [e]; exact hb6
      · rcases List.mem_append.1 hz with hz | hz
        · exact H.out.lt z hz
        · exact HS.out.2.2.1 z hz
    have HE := Lib.hid (show WrP w hb sb (.slice rA r0 rc) (t ++ l) (.returned (.int .i64 0)) (w5.setCell ⟨hb, 1, none⟩ (.slice A5 r5 c5)) from ⟨_, rfl, hHA, M6, fun g hg => by have := (hA5 g (own_of hg)).1; omega⟩)
    clear m6 hb6 hs6 own6 M6 hHA own5 gr5 ob5 hb5 hs5 p0 p1 pf1
    go_wp2
    go_ret
    exact HE.out
  · refine (hcall _ (Mod.refl Nn wc).drew).mono ?_
    rintro r w3 ⟨A2, c2, rfl, hr2, hb4, hs4, mw4, mz4, hlt2⟩
    have ma : Mod Nn w3 (w3.alloc (.cells #[] 5)) := (Mod.refl Nn w3).alloc _
    have hb4' := hb4.mod ma (fun f => f)
    refine ⟨_, rfl, ⟨(hb4.cell 0).trans hashC_0, (hb4.cell 1).trans hashC_1⟩, _, _, ⟨rfl, rfl⟩, ⟨(hb4'.cell 0).trans hashC_0, (hb4'.cell 1).trans hashC_1⟩, hK _ _ ?_⟩
    have ow4 : (w3.alloc (.cells #[] 5)).ownsRow wc.heap.size 5 1 (.slice (some ⟨w3.heap.size, 0, none⟩) 0 0) 0 [] := own_e wc.heap.size (by have := mw4.size; exact this)
    have H4 := Lib.hid (And.intro hb4' (And.intro (hs4.mod ma (fun f => f)) (mw4.nn_ ma)))
    have hr2 := hr2.mod ma (fun _ _ f => f)
    obtain ⟨E, hE⟩ : ∃ E, w3.heap.size = E := ⟨_, rfl⟩
    have HE4 := Lib.hid (show wc.heap.size ≤ E ∧ E < (w3.alloc (.cells #[] 5)).heap.size from by have := mw4.size; rw [World.size_alloc]; omega)
    rw [hE] at ow4 ⊢
    clear hE hb4 hs4 mw4 mz4 hK K hcall hb4' ma
    generalize w3.alloc (.cells #[] 5) = w4 at *
    have hrm : (r0 + n) % 64 < 64 := Nat.mod_lt _ (by omega)
    have hrl5 := HT4.out.2.2
    generalize (r0 + n) % 64 = r5 at *
    have HL5 := Lib.hid hrl5; clear hrl5
    refine pu_append 22 _ _ rfl (fun _ => rfl) rfl wc.heap.size 5 (.int .u8 0) 1 1 Tryd.underlying22 info8 rfl (by omega) _ 0 [] rfl ow4 A2 r5 c2 (u8s (rest (t ++ l))) rfl hr2.toC (u8s_one _) (by omega) (by omega) (by have := HE4.out; omega) ?_
    intro v5 w5 own5 gr5 ob5
    rw [Nat.zero_add, List.nil_append] at own5
    have m5 : Mod (At E) w4 w5 := (Mod.refl _ _).grown gr5 (fun g hg => .inr (by injection hg with hg; exact hg.symm))
    have hb5 := H4.out.1.mod m5 (fun e => by have e : hb = E := e; have := HE4.out; omega)
    have hs5 := H4.out.2.1.mod m5 (fun e => by have e : sb = E := e; have := HC.out.2.1.lt; have := HE4.out; omega)
    have p0 : w5.cell? ⟨hb, 0, none⟩ = some (.pointer (some ⟨sb, 0, none⟩)) := (hb5.cell 0).trans hashC_0
    have p1 : w5.cell? ⟨hb, 1, none⟩ = some (.slice A1 (r0 + n) c1') := (hb5.cell 1).trans hashC_1
    have pf1 := hb5.frozen 1
    refine ⟨fun _ => ⟨p0, p1⟩, fun K hK => ?_⟩; go_simp; refine hK _ ?_; clear hK K
    iterate 2 (refine pu_pure rfl rfl (fun K hK => ?_); go_simp; refine hK _ ?_; clear hK K)
    obtain ⟨A5, c5, rfl, -, hA5⟩ := own_form own5
    refine pu_unit (w1 := w5.setCell ⟨hb, 1, none⟩ (.slice A5 r5 c5)) rfl (fun _ => rfl) (exec_store1 (P := Tryd.prog) 22 _ _ rfl rfl rfl p1 pf1 rfl rfl rfl size_sl) (fun h => by simp at h) (fun K hK => ?_); go_simp; refine hK _ ?_; clear hK K
    refine pu_nil ?_
    have m6 : Mod (At hb) w5 (w5.setCell ⟨hb, 1, none⟩ (.slice A5 r5 c5)) := Mod.cellAt _ _ _ _
    have hb6 := hb5.set_ 1 (.slice A5 r5 c5)
    rw [hashC_s1] at hb6
    have hs6 := hs5.mod m6 (fun e => H.out.ne (by have e : sb = hb := e; exact e.symm))
    have own6 := own_mod (own_base (base' := 0) own5 (fun _ _ => Nat.zero_le _)) m6 (fun g hg e => by have e : g = hb := e; subst e; exact own_ne own5 hb5 (by decide) hg)
    have hcs := HC.out.2.2.2.1.size
    have M6 : Mod (InH hb sb (.slice rA r0 rc)) w (w5.setCell ⟨hb, 1, none⟩ (.slice A5 r5 c5)) :=
      ((HC.out.2.2.2.1.then_ H4.out.2.2 (fun g _ e => .inr (.inl e))).new_ m5 (by have := HE4.out; omega)).then_ m6 (fun g _ e => .inl e)
    have hHA : HA (w5.setCell ⟨hb, 1, none⟩ (.slice A5 r5 c5)) hb sb (.slice A5 r5 c5) (t ++ l) := by
      refine ⟨?_, hs6, by rw [← HL5.out]; exact own6, H.out.h1, H.out.s1, fun g hg => by have := (hA5 g (own_of hg)).1; have := H.out.h1; omega, fun z hz => ?_⟩
      · have e : ((t ++ l).length : Int) = (tl : Int) + n := by rw [List.length_append, HTL.out, HS.out.2.2.2.2]; omega
        rw [e]; exact hb6
      · rcases List.mem_append.1 hz with hz | hz
        · exact H.out.lt z hz
        · exact HS.out.2.2.1 z hz
    have HE := Lib.hid (show WrP w hb sb (.slice rA r0 rc) (t ++ l) (.returned (.int .i64 0)) (w5.setCell ⟨hb, 1, none⟩ (.slice A5 r5 c5)) from ⟨_, rfl, hHA, M6, fun g hg => by have := (hA5 g (own_of hg)).1; omega⟩)
    clear m6 hb6 hs6 own6 M6 hHA own5 gr5 ob5 hb5 hs5 p0 p1 pf1
    go_wp2
    go_ret
    exact HE.out
end Go.Proofs.YtbocdgmkiajihaaDoor
