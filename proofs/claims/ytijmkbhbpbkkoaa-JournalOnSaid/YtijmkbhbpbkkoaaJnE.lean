/- Own lemmas of several kinds, put together: Jn12, Jn13. -/
import Derived.Test.YtijmkbhbpbkkoaaJnD
import Derived.Test.YtijmkbhbpbkkoaaKitE
import Derived.Test.YtijmkbhbpbkkoaaOpenA
import Derived.Test.YtijmkbhbpbkkoaaBytesSm
import Derived.Test.YtijmkbhbpbkkoaaFrH
/- Rows of bytes that are read; peatbankkit.SameRows; peatbanklaw21.light. -/
namespace Go.Proofs.Ytijmkbhbpbkkoaa
open Go.RowKit

theorem wf_u8j {a : Int} (h : (Lit.int .u8 a).wf = true) : 0 ≤ a ∧ a ≤ 255 := by simpa [Lit.wf, IntKind.min, IntKind.max, IntKind.signed, IntKind.bits] using h
/-- rows of bytes are read -/
def RdR (w : World) (A : Option Addr) (n : Nat) (R : List (List Nat)) : Prop :=
  R.length = n ∧ ∃ vs : List Value, Rd w A n vs ∧ ∀ (i : Nat) (r : List Nat), R[i]? = some r → ∃ (B : Option Addr) (c : Nat), vs[i]? = some (.slice B r.length c) ∧ Rd w B r.length (bv r)
section
variable {w w' : World} {A B : Option Addr} {n m ca cb base : Nat} {R S : List (List Nat)}
theorem RdR.mod (h : RdR w A n R) (hm : Mod Nn w w') : RdR w' A n R := by
  obtain ⟨h1, vs, h2, h3⟩ := h
  refine ⟨h1, vs, h2.mod hm (fun _ _ f => f), fun i r hi => ?_⟩
  obtain ⟨B, c, h4, h5⟩ := h3 i r hi
  exact ⟨B, c, h4, h5.mod hm (fun _ _ f => f)⟩
theorem RowsOf.rd {v : Value} (h : RowsOf w base v R) : ∃ A c, v = .slice A R.length c ∧ R.length ≤ c ∧ RdR w A R.length R := by
  obtain ⟨vs, h1, h2⟩ := h
  obtain ⟨A, c, rfl, hc, -⟩ := own_form h1
  refine ⟨A, c, rfl, hc, rfl, vs, Rd.of_own h1, fun i r hi => ?_⟩
  obtain ⟨B, c', h4, h5⟩ := h2 i r hi
  exact ⟨B, c', h4, Rd.of_own h5⟩
theorem RdR.of_parts {L : List Part} (h : Rd w A n (L.map Part.v)) (hok : ∀ p ∈ L, p.ok w) : ∃ R, RdR w A n R ∧ ∀ r ∈ R, ∀ z ∈ r, z < 256 := by
  have hl : L.length = n := by have := h.1; simpa using this
  refine ⟨L.map (fun p => p.zs.map Int.toNat), ⟨by simpa using hl, L.map Part.v, h, fun i r hi => ?_⟩, fun r hr z hz => ?_⟩
  · rw [List.getElem?_map] at hi
    obtain ⟨p, hp, rfl⟩ := Option.map_eq_some_iff.1 hi
    obtain ⟨h1, h2⟩ := hok p (List.mem_of_getElem? hp)
    have e : bv (p.zs.map Int.toNat) = p.zs.map (Value.int .u8) := by
      unfold bv
      rw [List.map_map]
      refine List.map_congr_left fun z hz => ?_
      have := wf_u8j (h2 z hz)
      show Value.int .u8 ((z.toNat : Nat) : Int) = _
      rw [show ((z.toNat : Nat) : Int) = z from by omega]
    have hn : p.n = (p.zs.map Int.toNat).length := by have := h1.1; simpa using this.symm
    refine ⟨p.A, p.c, ?_, ?_⟩
    · rw [List.getElem?_map, hp, ← hn]; rfl
    · rw [e, ← hn]; exact h1
  · obtain ⟨p, hp, rfl⟩ := List.mem_map.1 hr
    obtain ⟨x, hx, rfl⟩ := List.mem_map.1 hz
    have := wf_u8j ((hok p hp).2 x hx)
    omega
theorem sameN_any {xs ys : List Nat} (ha : Rd w A n (bv xs)) (hb : Rd w B m (bv ys)) (hn : n ≤ 140737488355328) (hm : m ≤ 140737488355328) :
    Calls Try.prog 34 #[.slice A n ca, .slice B m cb] w fun e w' => e = .returned (.bool (decide (xs = ys))) ∧ Mod Nn w w' := by
  refine (same_any (xs := natsn xs) (ys := natsn ys) (by rw [bv_natsn]; exact ha) (by rw [bv_natsn]; exact hb) hn hm).mono fun e w' ⟨h1, h2⟩ => ⟨?_, h2⟩
  rw [h1]
  congr 2
  exact decide_eq_decide.2 ⟨natsn_inj, fun e => by rw [e]⟩
theorem uuR : Try.prog.underlying 24 = some (.slice 38) := Try.underlying24
theorem size_r1 : (Try.prog.info? 38).map (·.size) = some 1 := by kernel_rfl
theorem eq_of_preR {n : Nat} (hx : R.length = n) (hy : S.length = n) (h : ∀ j : Nat, j < n → R[j]? = S[j]?) : R = S := by
  apply List.ext_getElem?
  intro j
  by_cases hj : j < n
  · exact h j hj
  · rw [List.getElem?_eq_none (by omega), List.getElem?_eq_none (by omega)]
theorem lt_of_cellJ {w : World} {a : Addr} {v : Value} (h : w.cell? a = some v) : a.block < w.heap.size := by
  unfold World.cell? at h
  cases hb : w.heap[a.block]? with
  | none => rw [hb] at h; cases h
  | some o => exact (Array.getElem?_eq_some_iff.1 hb).1
theorem RdR.at_ (h : RdR w A n R) {i : Nat} (hi : i < n) : ∃ g off r B c, A = some ⟨g, off, none⟩ ∧ R[i]? = some r ∧ (∀ w', Mod Nn w w' → w'.cell? ⟨g, off + i, none⟩ = some (.slice B r.length c)) ∧ Rd w B r.length (bv r) := by
  obtain ⟨h1, vs, h2, h3⟩ := h
  obtain ⟨r, hr⟩ : ∃ r, R[i]? = some r := ⟨_, List.getElem?_eq_getElem (by omega)⟩
  obtain ⟨B, c, h4, h5⟩ := h3 i r hr
  obtain ⟨g, off, v, hA, hv, hc⟩ := h2.at_ hi
  rw [h4] at hv
  injection hv with hv
  subst hv
  exact ⟨g, off, r, B, c, hA, hr, fun w' hm => (hm.cell (p := ⟨g, off + i, none⟩) (lt_of_cellJ hc) (fun f => f)).trans hc, h5⟩
set_option maxRecDepth 100000 in
set_option maxHeartbeats 1600000 in
theorem sameR_any (ha : RdR w A n R) (hb : RdR w B m S) (hn : n ≤ 140737488355328) (hR : ∀ r ∈ R, r.length ≤ 140737488355328) (hS : ∀ r ∈ S, r.length ≤ 140737488355328) :
    Calls Try.prog 13 #[.slice A n ca, .slice B m cb] w fun e w' => e = .returned (.bool (decide (R = S))) ∧ Mod Nn w w' := by
  by_cases hnm : n = m
  · subst hnm
    have h0 : ((n : Int) != n) = false := by simp
    go_enter Try.func13, Try.ntmps13
    go_wp2
    go_loopw [5] (fun i wr => ∃ k : Nat, k ≤ n ∧ i = .int .i64 k ∧ Hid (∀ j : Nat, j < k → R[j]? = S[j]?) ∧ Mod Nn w wr) (fun i _ => n - (intOf i).toNat)
    case atStart => exact ⟨0, Nat.zero_le _, rfl, Lib.hid (fun j hj => absurd hj (by omega)), Mod.refl _ _⟩
    case round =>
      obtain ⟨k, hk, rfl, hpre, hmr⟩ := hrel
      by_cases hlt : k < n
      · have hlt' : (k : Int) < n := by omega
        have dlt : decide ((k : Int) < n) = true := decide_eq_true hlt'
        obtain ⟨g, off, r, C, c, rfl, hr, hc, hd⟩ := (ha.mod hmr).at_ hlt
        obtain ⟨g', off', s, C', c', rfl, hs, hc', hd'⟩ := (hb.mod hmr).at_ hlt
        have HC := Lib.hid (show (∀ w', Mod Nn wr.drew w' → w'.cell? ⟨g, off + k, none⟩ = some (.slice C r.length c)) ∧ (∀ w', Mod Nn wr.drew w' → w'.cell? ⟨g', off' + k, none⟩ = some (.slice C' s.length c')) from ⟨fun w' hm => hc w' ((Mod.refl Nn wr).drew.nn_ hm), fun w' hm => hc' w' ((Mod.refl Nn wr).drew.nn_ hm)⟩)
        have HR := Lib.hid (And.intro hr (And.intro hs (And.intro hd hd')))
        have hrl := hR r (List.mem_of_getElem? hr)
        have hsl := hS s (List.mem_of_getElem? hs)
        obtain ⟨q, hq⟩ : ∃ q : Bool, decide (r = s) = q := ⟨_, rfl⟩
        have HQ := Lib.hid hq
        clear hr hs hc hc' hd hd' hq
        go_wp2_with fail
        refine wp_region_planC (fun w' => Mod Nn wr.drew w') [(0, true), (1, true), (2, true), (3, true), (4, true), (5, true), (6, true), (7, true), (8, false), (9, true)] (by kernel_rfl) (by kernel_rfl) (Mod.refl _ _) ?_
        iterate 2 (refine pc_pure rfl rfl (fun K hK => ?_); go_simp; refine hK _ ?_; clear hK K)
        refine pc_take (.pointer (some ⟨g, off + k * 1, none⟩)) rfl rfl (fun w' _ => exec_elem (P := Try.prog) (g := g) (off := off) (q := k) 24 (.tmp 17) (.tmp 18) rfl 38 1 uuR size_r1 rfl rfl hlt) (fun K hK => ?_); go_simp; refine hK _ ?_; clear hK K
        refine pc_take (.slice C r.length c) rfl rfl (fun w' hS => exec_load1 (P := Try.prog) (ad := ⟨g, off + k, none⟩) 38 (.tmp 19) rfl rfl (HC.out.1 w' hS) Try.underlying38 rfl) (fun K hK => ?_); go_simp; refine hK _ ?_; clear hK K
        iterate 2 (refine pc_pure rfl rfl (fun K hK => ?_); go_simp; refine hK _ ?_; clear hK K)
        refine pc_take (.pointer (some ⟨g', off' + k * 1, none⟩)) rfl rfl (fun w' _ => exec_elem (P := Try.prog) (g := g') (off := off') (q := k) 24 (.tmp 21) (.tmp 22) rfl 38 1 uuR size_r1 rfl rfl hlt) (fun K hK => ?_); go_simp; refine hK _ ?_; clear hK K
        refine pc_take (.slice C' s.length c') rfl rfl (fun w' hS => exec_load1 (P := Try.prog) (ad := ⟨g', off' + k, none⟩) 38 (.tmp 23) rfl rfl (HC.out.2 w' hS) Try.underlying38 rfl) (fun K hK => ?_); go_simp; refine hK _ ?_; clear hK K
        refine pc_call rfl rfl (fun K hK => ?_); go_simp; refine ⟨_, _, ⟨rfl, rfl⟩, hK _ _ _ ?_⟩; clear hK K
        refine (sameN_any HR.out.2.2.1.drew HR.out.2.2.2.drew hrl hsl).mono ?_
        rintro e w2 ⟨rfl, m2⟩
        rw [HQ.out]
        refine ⟨_, rfl, m2, ?_⟩
        iterate 1 (refine pc_pure rfl rfl (fun K hK => ?_); go_simp; refine hK _ ?_; clear hK K)
        refine pc_nil ?_
        have M2 : Mod Nn w w2 := hmr.drew.nn_ m2
        cases q
        · have HF := Lib.hid (show decide (R = S) = false by
            rw [decide_eq_false_iff_not]; intro e; subst e
            have h1 := HR.out.1
            rw [HR.out.2.1] at h1
            injection h1 with h1
            exact of_decide_eq_false HQ.out h1.symm)
          go_wp2
          go_ret
          exact ⟨by rw [HF.out]; rfl, M2⟩
        · have HE := Lib.hid (show ∀ j : Nat, j < k + 1 → R[j]? = S[j]? from fun j hj => by
            by_cases hjk : j = k
            · subst hjk; rw [HR.out.1, HR.out.2.1, of_decide_eq_true HQ.out]
            · exact hpre.out j (by omega))
          go_wp2
          exact ⟨⟨k + 1, by omega, by go_num, HE, M2⟩, by simp [intOf]; omega⟩
      · have hkn : k = n := by omega
        have HF := Lib.hid (show decide (R = S) = true by
          rw [decide_eq_true_iff]; exact eq_of_preR ha.1 hb.1 (fun j hj => hpre.out j (by omega)))
        clear hkn
        go_wp2
        go_ret
        exact ⟨by rw [HF.out]; rfl, hmr⟩
  · have h0 : ((n : Int) != m) = true := by rw [bne_iff_ne]; omega
    have HF := Lib.hid (show decide (R = S) = false by
      rw [decide_eq_false_iff_not]; intro e; subst e; have h1 := ha.1; have h2 := hb.1; omega)
    clear hnm ha hb
    go_enter Try.func13, Try.ntmps13
    go_wp2
    go_ret
    exact ⟨by rw [HF.out]; rfl, Mod.refl _ _⟩
/-- can records be gone through in time? -/
def Light (R : List (List Nat)) : Prop := (∀ r ∈ R, r.length ≤ 3000) ∧ R.length ≤ 20
instance (R : List (List Nat)) : Decidable (Light R) := by unfold Light; infer_instance
set_option maxRecDepth 100000 in
set_option maxHeartbeats 1600000 in
theorem light_any (ha : RdR w A n R) (hn : n ≤ 9223372036854775807) : Calls Try.prog 7 #[.slice A n ca] w fun e w' => e = .returned (.bool (decide (Light R))) ∧ Mod Nn w w' := by
  obtain ⟨q, hq⟩ : ∃ q, decide (Light R) = q := ⟨_, rfl⟩
  rw [hq]
  have HQ := Lib.hid hq
  clear hq
  go_enter Try.func7, Try.ntmps7
  go_wp2
  go_loopw [3] (fun i wr => ∃ k : Nat, k ≤ n ∧ i = .int .i64 k ∧ Hid (∀ (j : Nat) (r : List Nat), j < k → R[j]? = some r → r.length ≤ 3000) ∧ Mod Nn w wr) (fun i _ => n - (intOf i).toNat)
  case atStart => exact ⟨0, Nat.zero_le _, rfl, Lib.hid (fun j r hj => absurd hj (by omega)), Mod.refl _ _⟩
  case round =>
    obtain ⟨k, hk, rfl, hpre, hmr⟩ := hrel
    by_cases hlt : k < n
    · have hlt' : (k : Int) < n := by omega
      have dlt : decide ((k : Int) < n) = true := decide_eq_true hlt'
      obtain ⟨g, off, r, C, c, rfl, hr, hc0, hd⟩ := (ha.mod hmr).at_ hlt
      have hc : wr.cell? ⟨g, off + k, none⟩ = some (.slice C r.length c) := hc0 wr (Mod.refl _ _)
      have HR := Lib.hid hr
      clear hr hd hc0
      by_cases h3 : (3000 : Int) < r.length
      · have d3 : decide ((3000 : Int) < r.length) = true := decide_eq_true h3
        have HF := Lib.hid (show q = false from HQ.out.symm.trans <| decide_eq_false (fun hL => by have := hL.1 r (List.mem_of_getElem? HR.out); omega))
        go_wp2
        go_ret
        exact ⟨by rw [HF.out]; rfl, hmr⟩
      · have d3 : decide ((3000 : Int) < r.length) = false := decide_eq_false h3
        have HE := Lib.hid (show ∀ (j : Nat) (x : List Nat), j < k + 1 → R[j]? = some x → x.length ≤ 3000 from fun j x hj hx => by
          by_cases hjk : j = k
          · subst hjk; rw [HR.out] at hx; injection hx with hx; subst hx; omega
          · exact hpre.out j x (by omega) hx)
        go_wp2
        exact ⟨⟨k + 1, by omega, by go_num, HE, hmr⟩, by simp [intOf]; omega⟩
    · have hkn : k = n := by omega
      subst hkn
      have hall : ∀ r ∈ R, r.length ≤ 3000 := fun r hr => by
        obtain ⟨j, hj⟩ := List.mem_iff_getElem?.1 hr
        have hjl := (List.getElem?_eq_some_iff.1 hj).1
        exact hpre.out j r (by have := ha.1; omega) hj
      have HF := Lib.hid (show q = decide ((k : Int) ≤ 20) from HQ.out.symm.trans <| decide_eq_decide.2 ⟨fun h => by have h1 := h.2; have h2 := ha.1; omega, fun h => ⟨hall, by have h2 := ha.1; omega⟩⟩)
      clear hall
      go_wp2
      go_ret
      exact ⟨by rw [HF.out]; rfl, hmr⟩
end
end Go.Proofs.Ytijmkbhbpbkkoaa

/- peatbankref21.Records: what the document reads out of a half. -/
namespace Go.Proofs.Ytijmkbhbpbkkoaa
open Go.RowKit

section
variable {w w' : World} {base : Nat} {R : List (List Nat)} {v : Value}
theorem RowsOf.mod {S : Nat → Prop} (h : RowsOf w base v R) (hm : Mod S w w') (hn : ∀ g, base ≤ g → g < w.heap.size → ¬ S g) : RowsOf w' base v R := by
  obtain ⟨vs, h1, h2⟩ := h
  refine ⟨vs, own_mod h1 hm (fun g hg => hn g (own_ge h1 g hg) (own_blk_lt h1 hg)), fun i r hi => ?_⟩
  obtain ⟨A, c, h3, h4⟩ := h2 i r hi
  exact ⟨A, c, h3, own_mod h4 hm (fun g hg => hn g (own_ge h4 g hg) (own_blk_lt h4 hg))⟩
theorem RowsOf.nn (h : RowsOf w base v R) (hm : Mod Nn w w') : RowsOf w' base v R := h.mod hm (fun _ _ _ f => f)
theorem RowsOf.nil (w : World) (base : Nat) : RowsOf w base (.slice none 0 0) [] := ⟨[], own_nil _ _ _ _, fun i r h => by simp at h⟩
/-- a row appended -/
theorem rows_append {W : World} {vo : Value} {A' : Option Addr} {c' : Nat} {d : List Nat} (h : RowsOf W base vo R) (hown : W.ownsRow base 5 1 (.slice A' d.length c') d.length (bv d)) (hb : base ≤ W.heap.size) (hl : R.length + 1 ≤ 1000000) :
    ∃ (Ao : Option Addr) (co : Nat) (wq : World), (Builtin.append_ #[24, 24] 24 #[vo, .slice (some ⟨W.heap.size, 0, none⟩) 1 1]).run Try.prog (W.alloc (.cells #[.slice A' d.length c'] 38)) = .ok (.slice Ao (R.length + 1) co) wq ∧
      RowsOf wq base (.slice Ao (R.length + 1) co) (R ++ [d]) ∧ Mod (fun g => vo.ownBlock = some g) W wq ∧ ∀ g, vo.ownBlock = some g → base ≤ g := by
  obtain ⟨vs, hvs, hrs⟩ := h
  have bA := Blk.new W 38 #[.slice A' d.length c']
  have mA : Mod Nn W (W.alloc (.cells #[.slice A' d.length c'] 38)) := (Mod.refl Nn W).alloc _
  have hvsA := own_mod hvs mA (fun _ _ f => f)
  obtain ⟨v', wq, hap, own', gr', -⟩ := run_append_rd (P := Try.prog) (W.alloc (.cells #[.slice A' d.length c'] 38)) base 24 24 38 (.slice none 0 0) 1 24 Try.underlying24 (by kernel_rfl) rfl (by omega) vo R.length vs hvsA (some ⟨W.heap.size, 0, none⟩) 1 1 [.slice A' d.length c'] (RdC.of_blk bA rfl) (fun u hu => by simp at hu; subst hu; rfl) (by omega) (by omega) (by rw [World.size_alloc]; omega)
  obtain ⟨Ao, co, rfl, -, -⟩ := own_form own'
  have mB : Mod (fun g => vo.ownBlock = some g) W wq := mA.nn.grown gr' (fun g hg => .inr hg)
  have hvl : vs.length = R.length := by have := hvs.1; omega
  refine ⟨Ao, co, wq, hap, ⟨vs ++ [.slice A' d.length c'], ?_, fun i r hir => ?_⟩, mB, fun g hg => own_ge hvs g hg⟩
  · rw [List.length_append]; exact own'
  · rcases Nat.lt_or_ge i R.length with h1 | h1
    · rw [List.getElem?_append_left h1] at hir
      obtain ⟨A, cq, h5, h6⟩ := hrs i r hir
      exact ⟨A, cq, by rw [List.getElem?_append_left (by omega)]; exact h5, own_mod h6 mB (fun g hg e => own_ne_o5 hvs h6 (by decide) e hg)⟩
    · rw [List.getElem?_append_right h1] at hir
      have h2 : i - R.length = 0 := by
        have := (List.getElem?_eq_some_iff.1 hir).1
        simp at this; omega
      rw [h2] at hir
      injection hir with hir
      subst hir
      exact ⟨A', c', by rw [List.getElem?_append_right (by omega), hvl, h2]; rfl, own_mod hown mB (fun g hg e => own_ne_o5 hvs hown (by decide) e hg)⟩
end
section
variable {w : World} {A : Option Addr} {m cc : Nat} {l : List Nat}
set_option maxRecDepth 100000 in
set_option maxHeartbeats 6400000 in
theorem records21_any (hr : Rd w A m (bv l)) (hl : ∀ z ∈ l, z < 256) (hm : m ≤ 1000000) (hcc : m ≤ cc) (hcm : cc ≤ maxLen) (ep : Int) :
    Calls Try.prog 23 #[.slice A m cc, .int .i64 ep] w fun e w' => ∃ (v : Value) (n : Nat) (R : List (List Nat)), e = .returned (.tuple #[v, .int .i64 (n : Int)]) ∧ AllRecs l ep n R ∧ RowsOf w' w.heap.size v R ∧ Mod Nn w w' := by
  have hL : l.length = m := by have := hr.1; rwa [bv_len] at this
  have HL := Lib.hid (And.intro hl (And.intro hL (And.intro hcc (And.intro hcm hr))))
  clear hl hL hcc hcm hr
  go_enter Try.func23, Try.ntmps23
  go_wp2
  go_loopw [6, 7] (fun v6 v7 wr => ∃ (k n : Nat) (R : List (List Nat)), v7 = .int .i64 (n : Int) ∧ IsChain l ep k n R ∧ RowsOf wr w.heap.size v6 R ∧ Mod Nn w wr) (fun _ i _ => m - (intOf i).toNat)
  case atStart => exact ⟨0, 0, [], rfl, ⟨rfl, rfl⟩, RowsOf.nil _ _, Mod.refl _ _⟩
  case round =>
    obtain ⟨k, n, R, rfl, hch, hrow, hmr⟩ := hrel
    obtain ⟨Av, cv, rfl, -, -⟩ := hrow.rd
    have hkl := hch.len
    subst hkl
    have hfit : 512 * n ≤ m := by have := hch.fits; rw [HL.out.2.1] at this; exact this
    obtain ⟨T, hT, hTP⟩ := tell_of (l.drop (512 * n)) (fun z hz => HL.out.1 z (List.mem_of_mem_drop hz))
    obtain ⟨p, hp⟩ : ∃ p, p = 512 * n := ⟨_, rfl⟩
    have e1 : wrap64 (512 * (n : Int)) = (p : Int) := by rw [wrap64_id (by omega) (by omega)]; omega
    have e2 : IntKind.i64.wrap (512 * (n : Int)) = (p : Int) := by rw [IntKind.wrap_i64]; omega
    have hpm : p ≤ m := by omega
    have hrd : Rd wr (subA A cc p 1) (m - p) (bv (l.drop p)) := by
      have := (HL.out.2.2.2.2.mod hmr (fun _ _ f => f)).post (c := cc) p hpm HL.out.2.2.1
      unfold bv at this ⊢
      rw [List.map_drop]; exact this
    have hget := (rget_any hrd (fun z hz => HL.out.1 z (List.mem_of_mem_drop hz)) (by omega) (c := cc - p) (by have := HL.out.2.2.1; omega) (by have := HL.out.2.2.2.1; omega)).mono (fun r w' hg => hTP wr r w' (by rw [← hp]; exact hg))
    have HG := Lib.hid (And.intro hget hpm)
    have HS := Lib.hid (And.intro hch (And.intro hrow (And.intro hmr (And.intro hfit hT))))
    clear hget hpm hch hrow hmr hfit hT hTP hrd hp
    go_wp2_with (first
      | (with_reducible change wpList _ _ _ (⟨some 15, _, _, _, _, _⟩ :: _) _ _
         go_must (refine wpList_val rfl (exec_sub_l (P := Try.prog) 38 _ _ rfl 5 1 Try.underlying38 (by kernel_rfl) (A := A) (n := m) (c := cc) (l := p) rfl rfl HG.out.2) ?_)))
    refine HG.out.1.mono ?_
    rintro r w3 ⟨A', c', rfl, own3, m3⟩
    by_cases hrec : RecAt (l.drop (512 * n)) ep R.length
    · have hTe := tell_rec HS.out.2.2.2.2 hrec
      subst hTe
      dsimp only at own3 ⊢
      obtain ⟨d, hd⟩ : ∃ d, (frOf (l.drop (512 * n))).data = d := ⟨_, rfl⟩
      have hdl : frLong (l.drop (512 * n)) = d.length := by have h1 := own3.1; rw [bv_len, hd] at h1; omega
      rw [hdl, hd] at own3
      rw [hdl]
      have hch2 : IsChain l ep (R.length + 1) (n + fsec d.length) (R ++ [d]) := ⟨n, R, HS.out.1, hrec, by rw [hdl], by rw [hd]⟩
      have hf2 : 512 * (n + fsec d.length) ≤ m := by have := hch2.fits; rwa [HL.out.2.1] at this
      have hps := fsec_pos d.length
      have hRn : R.length ≤ n := HS.out.1.le
      have e5 : wrap64 ((n : Int) + (fsec d.length : Int)) = ((n + fsec d.length : Nat) : Int) := by rw [wrap64_id (by omega) (by omega)]; omega
      have e6 : IntKind.i64.wrap ((n : Int) + (fsec d.length : Int)) = ((n + fsec d.length : Nat) : Int) := by rw [IntKind.wrap_i64]; omega
      have g2 : ((R.length : Int) != R.length) = false := by simp
      have g3 : (ep != ep) = false := by simp
      have HC := Lib.hid (And.intro hch2 (And.intro hf2 (And.intro hps hRn)))
      have HM3 := Lib.hid (And.intro own3 m3)
      clear hch2 hf2 hps hRn own3 hd hdl hrec
      unfold frV
      go_wp2_with (first
        | (with_reducible change wpList _ _ _ (⟨some 8, Op.alloc _, _, _, _, _⟩ :: _) _ _
           go_must (refine wpList_alloc_var 65 rfl rfl info_frame ?_)
           intro w4 b4 m4 z4
           clear z4)
        | (with_reducible change wpList _ _ _ (⟨none, Op.store _ (Operand.tmp 8) _, _, _, _, _⟩ :: _) _ _
           go_must (refine wpList_store_var 65 _ _ rfl rfl w3.heap.size #[.int .i64 2, .int .i64 ep, .int .i64 (R.length : Int), .slice A' d.length c'] _ _ rfl rfl b4 size_frame rfl (one4 _ _ _ _ _ _) ?_)
           intro w5 b5 m5 z5
           clear z5
           have M5 := Lib.hid ((m3.nn_ m4).new_ m5 m3.size)
           have C0 := b5.cell 0
           have C1 := b5.cell 1
           have C2 := b5.cell 2
           have C3 := b5.cell 3
           have own5 := own_base (base' := w.heap.size) (own_mod (own_mod HM3.out.1 m4 (fun _ _ f => f)) m5 (fun g hg e => by have h1 := own_blk_lt HM3.out.1 hg; have e : g = w3.heap.size := e; omega)) (fun g hg => by have h1 := own_ge HM3.out.1 g hg; have h2 := HS.out.2.2.1.size; omega)
           obtain ⟨Ao, co, wq, hap, rowq, mq, hge⟩ := rows_append (HS.out.2.1.nn M5.out) own5 (Nat.le_trans HS.out.2.2.1.size M5.out.size) (by have := HC.out.2; omega)
           have HAP := Lib.hid hap
           have HQ := Lib.hid (And.intro rowq ((HS.out.2.2.1.nn_ M5.out).then_ mq (fun g hg e => by have := hge g e; omega)))
           clear hap rowq mq hge own5 b5 m5 m4 b4)
        | (with_reducible change wpList _ _ _ (⟨some 46, _, _, _, _, _⟩ :: _) _ _
           go_must (refine wpList_val rfl (exec_appJ 24 (.tmp 42) (.tmp 45) rfl _ _ HAP.out) ?_)))
      exact ⟨⟨R.length + 1, n + fsec d.length, R ++ [d], by go_num, HC.out.1, HQ.out.1, HQ.out.2⟩, by have h1 := HC.out.2; simp [intOf]; omega⟩
    · have hTn := tell_not HS.out.2.2.2.2 hrec
      have hlast : AllRecs l ep n R := ⟨HS.out.1, hrec⟩
      have HA := Lib.hid hlast
      clear hlast hrec
      have HM3 := Lib.hid (And.intro own3 m3)
      clear own3
      obtain ⟨tk, te, ts, tm, td, tq, tr⟩ := T
      dsimp only at HM3 hTn ⊢
      clear HG
      unfold frV
      rcases hTn with rfl | ⟨rfl, h1⟩ | ⟨rfl, rfl, h1⟩ | ⟨rfl, rfl, rfl, h1⟩
      · go_wp2_with (first
          | (with_reducible change wpList _ _ _ (⟨some 8, Op.alloc _, _, _, _, _⟩ :: _) _ _
             go_must (refine wpList_alloc_var 65 rfl rfl info_frame ?_)
             intro w4 b4 m4 z4
             clear z4)
          | (with_reducible change wpList _ _ _ (⟨none, Op.store _ (Operand.tmp 8) _, _, _, _, _⟩ :: _) _ _
             go_must (refine wpList_store_var 65 _ _ rfl rfl w3.heap.size #[.int .i64 tk, .int .i64 te, .int .i64 ts, .slice A' tm c'] _ _ rfl rfl b4 size_frame rfl (one4 _ _ _ _ _ _) ?_)
             intro w5 b5 m5 z5
             clear z5
             have M5 := Lib.hid ((m3.nn_ m4).new_ m5 m3.size)
             have C0 := b5.cell 0
             have C1 := b5.cell 1
             have C2 := b5.cell 2
             have C3 := b5.cell 3
             clear b5 m5 m4 b4))
        go_ret2
        exact ⟨_, n, R, rfl, HA.out, HS.out.2.1.nn M5.out, HS.out.2.2.1.nn_ M5.out⟩
      · have g1 : (tk != 2) = true := by rw [bne_iff_ne]; exact h1
        go_wp2_with (first
          | (with_reducible change wpList _ _ _ (⟨some 8, Op.alloc _, _, _, _, _⟩ :: _) _ _
             go_must (refine wpList_alloc_var 65 rfl rfl info_frame ?_)
             intro w4 b4 m4 z4
             clear z4)
          | (with_reducible change wpList _ _ _ (⟨none, Op.store _ (Operand.tmp 8) _, _, _, _, _⟩ :: _) _ _
             go_must (refine wpList_store_var 65 _ _ rfl rfl w3.heap.size #[.int .i64 tk, .int .i64 te, .int .i64 ts, .slice A' tm c'] _ _ rfl rfl b4 size_frame rfl (one4 _ _ _ _ _ _) ?_)
             intro w5 b5 m5 z5
             clear z5
             have M5 := Lib.hid ((m3.nn_ m4).new_ m5 m3.size)
             have C0 := b5.cell 0
             have C1 := b5.cell 1
             have C2 := b5.cell 2
             have C3 := b5.cell 3
             clear b5 m5 m4 b4))
        go_ret2
        exact ⟨_, n, R, rfl, HA.out, HS.out.2.1.nn M5.out, HS.out.2.2.1.nn_ M5.out⟩
      · have g1 : (te != ep) = true := by rw [bne_iff_ne]; exact h1
        go_wp2_with (first
          | (with_reducible change wpList _ _ _ (⟨some 8, Op.alloc _, _, _, _, _⟩ :: _) _ _
             go_must (refine wpList_alloc_var 65 rfl rfl info_frame ?_)
             intro w4 b4 m4 z4
             clear z4)
          | (with_reducible change wpList _ _ _ (⟨none, Op.store _ (Operand.tmp 8) _, _, _, _, _⟩ :: _) _ _
             go_must (refine wpList_store_var 65 _ _ rfl rfl w3.heap.size #[.int .i64 2, .int .i64 te, .int .i64 ts, .slice A' tm c'] _ _ rfl rfl b4 size_frame rfl (one4 _ _ _ _ _ _) ?_)
             intro w5 b5 m5 z5
             clear z5
             have M5 := Lib.hid ((m3.nn_ m4).new_ m5 m3.size)
             have C0 := b5.cell 0
             have C1 := b5.cell 1
             have C2 := b5.cell 2
             have C3 := b5.cell 3
             clear b5 m5 m4 b4))
        go_ret2
        exact ⟨_, n, R, rfl, HA.out, HS.out.2.1.nn M5.out, HS.out.2.2.1.nn_ M5.out⟩
      · have g1 : (ts != (R.length : Int)) = true := by rw [bne_iff_ne]; exact h1
        have g3 : (te != te) = false := by simp
        go_wp2_with (first
          | (with_reducible change wpList _ _ _ (⟨some 8, Op.alloc _, _, _, _, _⟩ :: _) _ _
             go_must (refine wpList_alloc_var 65 rfl rfl info_frame ?_)
             intro w4 b4 m4 z4
             clear z4)
          | (with_reducible change wpList _ _ _ (⟨none, Op.store _ (Operand.tmp 8) _, _, _, _, _⟩ :: _) _ _
             go_must (refine wpList_store_var 65 _ _ rfl rfl w3.heap.size #[.int .i64 2, .int .i64 te, .int .i64 ts, .slice A' tm c'] _ _ rfl rfl b4 size_frame rfl (one4 _ _ _ _ _ _) ?_)
             intro w5 b5 m5 z5
             clear z5
             have M5 := Lib.hid ((m3.nn_ m4).new_ m5 m3.size)
             have C0 := b5.cell 0
             have C1 := b5.cell 1
             have C2 := b5.cell 2
             have C3 := b5.cell 3
             clear b5 m5 m4 b4))
        go_ret2
        exact ⟨_, n, R, rfl, HA.out, HS.out.2.1.nn M5.out, HS.out.2.2.1.nn_ M5.out⟩
end
end Go.Proofs.Ytijmkbhbpbkkoaa
