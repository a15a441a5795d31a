/- Own lemmas of several kinds, put together: Jn12, Jn13. -/
import Derived.Test.YtijmkbhbpbkkoaaGreatJnD
import Derived.Test.YtijmkbhbpbkkoaaGreatKitE
import Derived.Test.YtijmkbhbpbkkoaaGreatOpenA
import Derived.Test.YtijmkbhbpbkkoaaGreatBytesSm
import Derived.Test.YtijmkbhbpbkkoaaGreatFrH
/- Rows of bytes that are read; peatbankkit.SameRows; peatbanklaw21.light. -/
namespace Go.Proofs.YtijmkbhbpbkkoaaGreat
open Go.RowKit

theorem wf_u8j {a : Int} (h : (Lit.int .u8 a).wf = true) : 0 ≤ a ∧ a ≤ 255 := by simpa [Lit.wf, IntKind.min, IntKind.max, IntKind.signed, IntKind.bits] using h
/-- rows of bytes are read -/
def RdR (w : World) (A : Option Addr) (n : Nat) (R : List (List Nat)) : Prop :=
  R.length = n ∧ ∃ vs : List Value, Rd w A n vs ∧ ∀ (i : Nat) (r : List Nat), R[i]? = some r → ∃ (B : Option Addr) (c : Nat), vs[i]? = some (.slice B r.length c) ∧ Rd w B r.length (bv r)
section
variable {w w' : World} {A B : Option Addr} {n m ca cb base : Nat} {R S : List (List Nat)}
theorem RdR.mod (h : RdR w A n R) (hm : Mod Nn w w') : RdR w' A n R := by
  obtain ⟨h1, vs, h2, h3⟩ := h
  refine ⟨h1, vs, h2.mod hm (fun _ _ f => f), fun i r hi => ?_⟩
  obtain ⟨B, c, h4, h5⟩ := h3 i r hi
  exact ⟨B, c, h4, h5.mod hm (fun _ _ f => f)⟩
theorem RowsOf.rd {v : Value} (h : RowsOf w base v R) : ∃ A c, v = .slice A R.length c ∧ R.length ≤ c ∧ RdR w A R.length R := by
  obtain ⟨vs, h1, h2⟩ := h
  obtain ⟨A, c, rfl, hc, -⟩ := own_form h1
  refine ⟨A, c, rfl, hc, rfl, vs, Rd.of_own h1, fun i r hi => ?_⟩
  obtain ⟨B, c', h4, h5⟩ := h2 i r hi
  exact ⟨B, c', h4, Rd.of_own h5⟩
theorem RdR.of_parts {L : List Part} (h : Rd w A n (L.map Part.v)) (hok : ∀ p ∈ L, p.ok w) : ∃ R, RdR w A n R ∧ ∀ r ∈ R, ∀ z ∈ r, z < 256 := by
  have hl : L.length = n := by have := h.1; simpa using this
  refine ⟨L.map (fun p => p.zs.map Int.toNat), ⟨by simpa using hl, L.map Part.v, h, fun i r hi => ?_⟩, fun r hr z hz => ?_⟩
  · rw [List.getElem?_map] at hi
    obtain ⟨p, hp, rfl⟩ := Option.map_eq_some_iff.1 hi
    obtain ⟨h1, h2⟩ := hok p (List.mem_of_getElem? hp)
    have e : bv (p.zs.map Int.toNat) = p.zs.map (Value.int .u8) := by
      unfold bv
      rw [List.map_map]
      refine List.map_congr_left fun z hz => ?_
      have := wf_u8j (h2 z hz)
      show Value.int .u8 ((z.toNat : Nat) : Int) = _
      rw [show ((z.toNat : Nat) : Int) = z from by omega]
    have hn : p.n = (p.zs.map Int.toNat).length := by have := h1.1; simpa using this.symm
    refine ⟨p.A, p.c, ?_, ?_⟩
    · rw [List.getElem?_map, hp, ← hn]; rfl
    · rw [e, ← hn]; exact h1
  · obtain ⟨p, hp, rfl⟩ := List.mem_map.1 hr
    obtain ⟨x, hx, rfl⟩ := List.mem_map.1 hz
    have := wf_u8j ((hok p hp).2 x hx)
    omega
theorem sameN_any {xs ys : List Nat} (ha : Rd w A n (bv xs)) (hb : Rd w B m (bv ys)) (hn : n ≤ 140737488355328) (hm : m ≤ 140737488355328) :
    Calls Tryz.prog 18 #[.slice A n ca, .slice B m cb] w fun e w' => e = .returned (.bool (decide (xs = ys))) ∧ Mod Nn w w' := by
  refine (same_any (xs := natsn xs) (ys := natsn ys) (by rw [bv_natsn]; exact ha) (by rw [bv_natsn]; exact hb) hn hm).mono fun e w' ⟨h1, h2⟩ => ⟨?_, h2⟩
  rw [h1]
  congr 2
  exact decide_eq_decide.2 ⟨natsn_inj, fun e => by rw [e]⟩
theorem uuR : Tryz.prog.underlying 24 = some (.slice 29) := Tryz.underlying24
theorem size_r1 : (Tryz.prog.info? 29).map (·.size) = some 1 := by kernel_rfl
theorem eq_of_preR {n : Nat} (hx : R.length = n) (hy : S.length = n) (h : ∀ j : Nat, j < n → R[j]? = S[j]?) : R = S := by
  apply List.ext_getElem?
  intro j
  by_cases hj : j < n
  · exact h j hj
  · rw [List.getElem?_eq_none (by omega), List.getElem?_eq_none (by omega)]
theorem lt_of_cellJ {w : World} {a : Addr} {v : Value} (h : w.cell? a = some v) : a.block < w.heap.size := by
  unfold World.cell? at h
  cases hb : w.heap[a.block]? with
  | none => rw [hb] at h; cases h
  | some o => exact (Array.getElem?_eq_some_iff.1 hb).1
theorem RdR.at_ (h : RdR w A n R) {i : Nat} (hi : i < n) : ∃ g off r B c, A = some ⟨g, off, none⟩ ∧ R[i]? = some r ∧ (∀ w', Mod Nn w w' → w'.cell? ⟨g, off + i, none⟩ = some (.slice B r.length c)) ∧ Rd w B r.length (bv r) := by
  obtain ⟨h1, vs, h2, h3⟩ := h
  obtain ⟨r, hr⟩ : ∃ r, R[i]? = some r := ⟨_, List.getElem?_eq_getElem (by omega)⟩
  obtain ⟨B, c, h4, h5⟩ := h3 i r hr
  obtain ⟨g, off, v, hA, hv, hc⟩ := h2.at_ hi
  rw [h4] at hv
  injection hv with hv
  subst hv
  exact ⟨g, off, r, B, c, hA, hr, fun w' hm => (hm.cell (p := ⟨g, off + i, none⟩) (lt_of_cellJ hc) (fun f => f)).trans hc, h5⟩
/-- can records be gone through in time? -/
def Light (R : List (List Nat)) : Prop := (∀ r ∈ R, r.length ≤ 3000) ∧ R.length ≤ 20
instance (R : List (List Nat)) : Decidable (Light R) := by unfold Light; infer_instance
set_option maxRecDepth 100000 in
set_option maxHeartbeats 1600000 in
theorem light_any (ha : RdR w A n R) (hn : n ≤ 9223372036854775807) : Calls Tryz.prog 5 #[.slice A n ca] w fun e w' => e = .returned (.bool (decide (Light R))) ∧ Mod Nn w w' := by
  obtain ⟨q, hq⟩ : ∃ q, decide (Light R) = q := ⟨_, rfl⟩
  rw [hq]
  have HQ := Lib.hid hq
  clear hq
  go_enter Tryz.func5, Tryz.ntmps5
  go_wp2
  go_loopw [3] (fun i wr => ∃ k : Nat, k ≤ n ∧ i = .int .i64 k ∧ Hid (∀ (j : Nat) (r : List Nat), j < k → R[j]? = some r → r.length ≤ 3000) ∧ Mod Nn w wr) (fun i _ => n - (intOf i).toNat)
  case atStart => exact ⟨0, Nat.zero_le _, rfl, Lib.hid (fun j r hj => absurd hj (by omega)), Mod.refl _ _⟩
  case round =>
    obtain ⟨k, hk, rfl, hpre, hmr⟩ := hrel
    by_cases hlt : k < n
    · have hlt' : (k : Int) < n := by omega
      have dlt : decide ((k : Int) < n) = true := decide_eq_true hlt'
      obtain ⟨g, off, r, C, c, rfl, hr, hc0, hd⟩ := (ha.mod hmr).at_ hlt
      have hc : wr.cell? ⟨g, off + k, none⟩ = some (.slice C r.length c) := hc0 wr (Mod.refl _ _)
      have HR := Lib.hid hr
      clear hr hd hc0
      by_cases h3 : (3000 : Int) < r.length
      · have d3 : decide ((3000 : Int) < r.length) = true := decide_eq_true h3
        have HF := Lib.hid (show q = false from HQ.out.symm.trans <| decide_eq_false (fun hL => by have := hL.1 r (List.mem_of_getElem? HR.out); omega))
        go_wp2
        go_ret
        exact ⟨by rw [HF.out]; rfl, hmr⟩
      · have d3 : decide ((3000 : Int) < r.length) = false := decide_eq_false h3
        have HE := Lib.hid (show ∀ (j : Nat) (x : List Nat), j < k + 1 → R[j]? = some x → x.length ≤ 3000 from fun j x hj hx => by
          by_cases hjk : j = k
          · subst hjk; rw [HR.out] at hx; injection hx with hx; subst hx; omega
          · exact hpre.out j x (by omega) hx)
        go_wp2
        exact ⟨⟨k + 1, by omega, by go_num, HE, hmr⟩, by simp [intOf]; omega⟩
    · have hkn : k = n := by omega
      subst hkn
      have hall : ∀ r ∈ R, r.length ≤ 3000 := fun r hr => by
        obtain ⟨j, hj⟩ := List.mem_iff_getElem?.1 hr
        have hjl := (List.getElem?_eq_some_iff.1 hj).1
        exact hpre.out j r (by have := ha.1; omega) hj
      have HF := Lib.hid (show q = decide ((k : Int) ≤ 20) from HQ.out.symm.trans <| decide_eq_decide.2 ⟨fun h => by have h1 := h.2; have h2 := ha.1; omega, fun h => ⟨hall, by have h2 := ha.1; omega⟩⟩)
      clear hall
      go_wp2
      go_ret
      exact ⟨by rw [HF.out]; rfl, hmr⟩
end
end Go.Proofs.YtijmkbhbpbkkoaaGreat

/- peatbankref21.Records: what the document reads out of a half. -/
namespace Go.Proofs.YtijmkbhbpbkkoaaGreat
open Go.RowKit

section
variable {w w' : World} {base : Nat} {R : List (List Nat)} {v : Value}
theorem RowsOf.mod {S : Nat → Prop} (h : RowsOf w base v R) (hm : Mod S w w') (hn : ∀ g, base ≤ g → g < w.heap.size → ¬ S g) : RowsOf w' base v R := by
  obtain ⟨vs, h1, h2⟩ := h
  refine ⟨vs, own_mod h1 hm (fun g hg => hn g (own_ge h1 g hg) (own_blk_lt h1 hg)), fun i r hi => ?_⟩
  obtain ⟨A, c, h3, h4⟩ := h2 i r hi
  exact ⟨A, c, h3, own_mod h4 hm (fun g hg => hn g (own_ge h4 g hg) (own_blk_lt h4 hg))⟩
theorem RowsOf.nn (h : RowsOf w base v R) (hm : Mod Nn w w') : RowsOf w' base v R := h.mod hm (fun _ _ _ f => f)
theorem RowsOf.nil (w : World) (base : Nat) : RowsOf w base (.slice none 0 0) [] := ⟨[], own_nil _ _ _ _, fun i r h => by simp at h⟩
/-- a row appended -/
theorem rows_append {W : World} {vo : Value} {A' : Option Addr} {c' : Nat} {d : List Nat} (h : RowsOf W base vo R) (hown : W.ownsRow base 5 1 (.slice A' d.length c') d.length (bv d)) (hb : base ≤ W.heap.size) (hl : R.length + 1 ≤ 1000000) :
    ∃ (Ao : Option Addr) (co : Nat) (wq : World), (Builtin.append_ #[24, 24] 24 #[vo, .slice (some ⟨W.heap.size, 0, none⟩) 1 1]).run Tryz.prog (W.alloc (.cells #[.slice A' d.length c'] 29)) = .ok (.slice Ao (R.length + 1) co) wq ∧
      RowsOf wq base (.slice Ao (R.length + 1) co) (R ++ [d]) ∧ Mod (fun g => vo.ownBlock = some g) W wq ∧ ∀ g, vo.ownBlock = some g → base ≤ g := by
  obtain ⟨vs, hvs, hrs⟩ := h
  have bA := Blk.new W 29 #[.slice A' d.length c']
  have mA : Mod Nn W (W.alloc (.cells #[.slice A' d.length c'] 29)) := (Mod.refl Nn W).alloc _
  have hvsA := own_mod hvs mA (fun _ _ f => f)
  obtain ⟨v', wq, hap, own', gr', -⟩ := run_append_rd (P := Tryz.prog) (W.alloc (.cells #[.slice A' d.length c'] 29)) base 24 24 29 (.slice none 0 0) 1 24 Tryz.underlying24 (by kernel_rfl) rfl (by omega) vo R.length vs hvsA (some ⟨W.heap.size, 0, none⟩) 1 1 [.slice A' d.length c'] (RdC.of_blk bA rfl) (fun u hu => by simp at hu; subst hu; rfl) (by omega) (by omega) (by rw [World.size_alloc]; omega)
  obtain ⟨Ao, co, rfl, -, -⟩ := own_form own'
  have mB : Mod (fun g => vo.ownBlock = some g) W wq := mA.nn.grown gr' (fun g hg => .inr hg)
  have hvl : vs.length = R.length := by have := hvs.1; omega
  refine ⟨Ao, co, wq, hap, ⟨vs ++ [.slice A' d.length c'], ?_, fun i r hir => ?_⟩, mB, fun g hg => own_ge hvs g hg⟩
  · rw [List.length_append]; exact own'
  · rcases Nat.lt_or_ge i R.length with h1 | h1
    · rw [List.getElem?_append_left h1] at hir
      obtain ⟨A, cq, h5, h6⟩ := hrs i r hir
      exact ⟨A, cq, by rw [List.getElem?_append_left (by omega)]; exact h5, own_mod h6 mB (fun g hg e => own_ne_o5 hvs h6 (by decide) e hg)⟩
    · rw [List.getElem?_append_right h1] at hir
      have h2 : i - R.length = 0 := by
        have := (List.getElem?_eq_some_iff.1 hir).1
        simp at this; omega
      rw [h2] at hir
      injection hir with hir
      subst hir
      exact ⟨A', c', by rw [List.getElem?_append_right (by omega), hvl, h2]; rfl, own_mod hown mB (fun g hg e => own_ne_o5 hvs hown (by decide) e hg)⟩
end
section
variable {w : World} {A : Option Addr} {m cc : Nat} {l : List Nat}
end
end Go.Proofs.YtijmkbhbpbkkoaaGreat
