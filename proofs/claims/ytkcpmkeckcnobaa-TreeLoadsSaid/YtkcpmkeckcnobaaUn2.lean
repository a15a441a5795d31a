/- (*peatbankref16.reader).under: any nodes. -/
import Derived.Test.YtkcpmkeckcnobaaUn1
import Derived.Deep.CutRange
namespace Go.Proofs.Ytkcpmkeckcnobaa
open Go.RowKit

theorem undM_deep {Ns : List Nd} : ∀ (f : Nat) (a : Int) (top : Bool) (σ : List Bool) (L : List (List Nat)) (d : Nat) (σ' : List Bool), undM Ns f a top σ = some (L, d, σ') → d ≤ f
  | 0, _, _, _, _, _, _, h => by cases h
  | f + 1, a, top, σ, L, d, σ', h => by
    have hk : ∀ (keys : List (List Nat)) (kids : List Int) (i : Nat) (out : List (List Nat)) (deep : Nat) (σ : List Bool) (L : List (List Nat)) (d : Nat) (σ' : List Bool), deep ≤ f → kidsM (fun a s => undM Ns f a false s) keys kids i out deep σ = some (L, d, σ') → d ≤ f + 1 := by
      intro keys kids
      induction kids with
      | nil =>
        intro i out deep σ L d σ' hd h
        simp only [kidsM, Option.some.injEq, Prod.mk.injEq] at h
        omega
      | cons k ks ih =>
        intro i out deep σ L d σ' hd h
        simp only [kidsM] at h
        split at h
        · cases h
        · rename_i l d1 σ1 he
          split at h
          · cases h
          · exact ih (i + 1) (out ++ l) d1 σ1 L d σ' (undM_deep f k false σ l d1 σ1 he) h
    simp only [undM] at h
    split at h
    · cases h
    · split at h
      · cases h
      · split at h
        · cases h
        · split at h
          · simp only [Option.some.injEq, Prod.mk.injEq] at h
            omega
          · exact hk _ _ _ _ _ _ _ _ _ (Nat.zero_le _) h
theorem undM_none {Ns : List Nd} {f n : Nat} {a : Int} {top : Bool} {σ : List Bool} (hl : Ns.length = n) (hs : σ.length = n) (hg : a < 0 ∨ (n : Int) ≤ a ∨ ∃ k : Nat, a = k ∧ k < n ∧ σ[k]? = some true) : undM Ns f a top σ = none := by
  cases f with
  | zero => rfl
  | succ f =>
    simp only [undM]
    rw [if_pos]
    rcases hg with h | h | ⟨k, rfl, _, h⟩
    · exact .inl h
    · exact .inr (.inl (by omega))
    · refine .inr (.inr ?_)
      rw [Int.toNat_natCast, List.getD, h]; rfl
theorem undM_at {Ns : List Nd} {f n k : Nat} {top : Bool} {σ : List Bool} {N : Nd} (hl : Ns.length = n) (hk : k < n) (hs : σ[k]? = some false) (hx : Ns[k]? = some N) :
    undM Ns (f + 1) k top σ = if N.right = false ∨ (top = false ∧ N.little = true) then none else if N.leaf then some (N.ents, 1, σ.set k true) else kidsM (fun a s => undM Ns f a false s) N.keys N.kids 0 [] 0 (σ.set k true) := by
  simp only [undM]
  rw [if_neg (by
    rintro (h | h | h)
    · omega
    · omega
    · rw [Int.toNat_natCast, List.getD, hs] at h; cases h), Int.toNat_natCast, hx]
theorem no_unseen {σ : List Bool} (h : unseen σ ≤ 0) {k : Nat} (hk : k < σ.length) : σ[k]? = some true := by
  rw [List.getElem?_eq_getElem hk]
  cases hb : σ[k] with
  | true => rfl
  | false =>
    have : 0 < σ.count false := List.count_pos_iff.2 (hb ▸ List.getElem_mem hk)
    unfold unseen at h; omega
theorem unseen_le (σ : List Bool) : unseen σ ≤ σ.length := List.count_le_length ..
def bad6 (N : Nd) (top : Bool) : Bool := !N.right || (!top && N.little)
section
variable {w0 : World} {rb gs n c cs : Nat} {A : Option Addr} {Xs : List NX}
set_option maxRecDepth 100000 in
set_option maxHeartbeats 12800000 in
theorem under_any (hN : NsAt w0 A n Xs) (h0b : w0.heap.size ≤ rb) (h0g : w0.heap.size ≤ gs) (hne : rb ≠ gs) (hn : n ≤ 1000) : ∀ (f : Nat) (w : World) (a : Int) (top : Bool) (σ : List Bool), f ≤ 2000 → Mod Nn w0 w → Rdr w rb gs A n c cs false σ → unseen σ ≤ f →
    Calls Try.prog 52 #[.pointer (some ⟨rb, 0, none⟩), .int .i64 a, .bool top] w (UndP w rb gs A n c cs (undM (Xs.map (·.N)) f a top σ)) := by
  have hNl : (Xs.map (·.N)).length = n := by rw [List.length_map]; exact hN.len
  intro f
  induction f with
  | zero =>
    intro w a top σ _ hM hR hf
    refine under_bad hR hne ?_
    by_cases h1 : a < 0
    · exact .inl h1
    by_cases h2 : (n : Int) ≤ a
    · exact .inr (.inl h2)
    exact .inr (.inr ⟨a.toNat, by omega, by omega, no_unseen hf (by rw [hR.len]; omega)⟩)
  | succ f ih =>
    intro w a top σ hf2 hM hR hf
    by_cases hg : a < 0 ∨ (n : Int) ≤ a ∨ ∃ k : Nat, a = k ∧ k < n ∧ σ[k]? = some true
    · rw [undM_none hNl hR.len hg]
      exact under_bad hR hne hg
    obtain ⟨k, rfl, hk, hs⟩ : ∃ k : Nat, a = k ∧ k < n ∧ σ[k]? = some false := by
      have h1 : ¬ a < 0 := fun h => hg (.inl h)
      have h2 : ¬ (n : Int) ≤ a := fun h => hg (.inr (.inl h))
      have hkl : a.toNat < σ.length := by rw [hR.len]; omega
      refine ⟨a.toNat, by omega, by omega, ?_⟩
      rw [List.getElem?_eq_getElem hkl]
      cases hb : σ[a.toNat] with
      | false => rfl
      | true => exact absurd (.inr (.inr ⟨a.toNat, by omega, by omega, by rw [List.getElem?_eq_getElem hkl, hb]⟩)) hg
    clear hg
    obtain ⟨x, hx⟩ : ∃ x, Xs[k]? = some x := ⟨_, List.getElem?_eq_getElem (by rw [hN.len]; exact hk)⟩
    obtain ⟨gA, oA, rfl, hnode⟩ := hN.node hx
    have hga : gA < w0.heap.size := World.block_lt_of_cell? w0 _ (hnode 0 _ rfl)
    have hnd := hN.nd x (List.mem_of_getElem? hx)
    have HOK := Lib.hid (show ∀ N ∈ Xs.map (·.N), N.ok from fun N hN' => by obtain ⟨y, hy, rfl⟩ := List.mem_map.1 hN'; exact (hN.nd y hy).ok)
    obtain ⟨res, hres⟩ : ∃ res, undM (Xs.map (·.N)) (f + 1) k top σ = res := ⟨_, rfl⟩
    rw [hres]
    rw [undM_at (N := x.N) hNl hk hs (by rw [List.getElem?_map, hx]; rfl)] at hres
    obtain ⟨N, EA, en, ec, KA, kn, kc, CA, cn, cc⟩ := x
    obtain ⟨lf, hlf⟩ : ∃ lf, N.leaf = lf := ⟨_, rfl⟩
    have hcl : ∀ j v, ([.bool lf, .slice EA en ec, .slice KA kn kc, .slice CA cn cc] : List Value)[j]? = some v → w.cell? ⟨gA, oA + k * 4 + j, none⟩ = some v := fun j v hv => by
      have h1 := hnode j v (by show ([.bool N.leaf, .slice EA en ec, .slice KA kn kc, .slice CA cn cc] : List Value)[j]? = some v; rw [hlf]; exact hv)
      rw [hM.cell (p := ⟨gA, oA + k * 4 + j, none⟩) (World.block_lt_of_cell? w0 _ h1) (fun f => f)]
      exact h1
    have hus := unseen_set hs
    have hk' : (k : Int) < n := by omega
    have hg0 : ¬ (k : Int) < 0 := by omega
    have hg1 : ¬ (n : Int) ≤ k := by omega
    have hc0 := hR.blk.cell 0
    have hc1 := hR.blk.cell 1
    have hc2 := hR.blk.cell 2
    have hcs : w.cell? ⟨gs, k, none⟩ = some (.bool false) := (hR.row.cell k).trans (by simp [hs])
    have hfs := hR.row.frozen k
    have hrbw := hR.blk.lt
    have hgsw := hR.row.lt
    have HX := Lib.hid hnd
    have HRES := Lib.hid hres
    have HLF := Lib.hid hlf
    have HW := Lib.hid (And.intro hM (And.intro hR hcl))
    have HIH := Lib.hid ih
    have HUS := Lib.hid hus
    have h0w : w0.heap.size ≤ w.heap.size := hM.size
    have hR4 := Lib.hid (hR.see hne k)
    clear hnd hres hlf hM hR hcl ih hx hnode hN hNl hus hs
    go_enter Try.func52, Try.ntmps52
    go_upto_region 6 with (first
      | (with_reducible change wpList _ _ _ (⟨some 49, _, _, _, _, _⟩ :: _) _ _
         go_must (refine wpList_val rfl (exec_elem (P := Try.prog) (g := gs) (off := 0) (q := k) 80 _ _ rfl 4 1 uuB size_boolu rfl rfl hk) ?_)
         rw [show 0 + k * 1 = k from by omega])
      | (with_reducible change wpList _ _ _ (⟨none, Op.store _ (Operand.tmp 49) _, _, _, _, _⟩ :: _) _ _
         go_must (refine wpList_unit rfl (exec_store1 (P := Try.prog) (ad := ⟨gs, k, none⟩) (v := .bool true) (u := .bool false) 4 _ _ rfl rfl rfl hcs hfs rfl rfl rfl size_boolu) ?_)
         have m4 : Mod (At gs) w (w.setCell ⟨gs, k, none⟩ (.bool true)) := Mod.cellAt _ _ _ _
         generalize w.setCell ⟨gs, k, none⟩ (.bool true) = w4 at *
         have H4 := Lib.hid (And.intro hR4.out m4)
         have hs4 : w.heap.size ≤ w4.heap.size := m4.size
         clear m4)
      | (with_reducible change wpList _ _ _ (⟨some 53, _, _, _, _, _⟩ :: _) _ _
         go_must (refine wpList_val rfl (exec_load1 (P := Try.prog) (v := .slice (some ⟨gA, oA, none⟩) n c) (ad := ⟨rb, 0, none⟩) 72 _ rfl rfl (H4.out.1.blk.cell 0) Try.underlying72 rfl) ?_))
      | (with_reducible change wpList _ _ _ (⟨some 55, _, _, _, _, _⟩ :: _) _ _
         go_must (refine wpList_val rfl (exec_elem (P := Try.prog) (g := gA) (off := oA) (q := k) 72 _ _ rfl 77 4 uuN sizeN rfl rfl hk) ?_))
      | (with_reducible change wpList _ _ _ (⟨some 56, _, _, _, _, _⟩ :: _) _ _
         go_must (refine wpList_val rfl (exec_load_cells (P := Try.prog) (b := gA) (off := oA + k * 4) (cs := [.bool lf, .slice EA en ec, .slice KA kn kc, .slice CA cn cc]) 77 _ rfl rfl (fun j v hv => by
         have h1 := HW.out.2.2 j v hv
         rw [H4.out.2.cell (p := ⟨gA, oA + k * 4 + j, none⟩) (World.block_lt_of_cell? w _ h1) (fun e => by have e : gA = gs := e; omega)]
         exact h1) Try.underlying77 rfl sizeN) ?_))
      | (with_reducible change wpList _ _ _ (⟨some 8, Op.alloc _, _, _, _, _⟩ :: _) _ _
         go_must (refine wpList_alloc_var 77 rfl rfl infoN2 ?_)
         intro w5 b5 m5 z5
         clear z5
         have H5 := Lib.hid (And.intro m5 b5)
         have hs5 : w4.heap.size < w5.heap.size := b5.lt
         clear m5 b5)
      | (with_reducible change wpList _ _ _ (⟨none, Op.store _ (Operand.tmp 8) _, _, _, _, _⟩ :: _) _ _
         go_must (refine wpList_store_var 77 _ _ rfl rfl w4.heap.size #[.bool lf, .slice EA en ec, .slice KA kn kc, .slice CA cn cc] _ _ rfl rfl H5.out.2 sizeN rfl (by simp [Value.oneCell']) ?_)
         intro w6 b6 m6 z6
         clear z6
         have H6 := Lib.hid (And.intro (H5.out.1.new_ m6 (Nat.le_refl _)) b6)
         clear m6 b6))
    -- zzA
    obtain ⟨g5, hg5⟩ : ∃ g5, w4.heap.size = g5 := ⟨_, rfl⟩
    rw [hg5] at H6 ⊢
    have h5w : w.heap.size ≤ g5 := by omega
    have hR6 := H4.out.1.nn H6.out.1
    have m46 : Mod (fun g => g = rb ∨ g = gs) w w6 := (H4.out.2.mono (fun g _ e => .inr e)).trans H6.out.1.nn
    have h06 : Mod Nn w0 w6 := HW.out.1.then_ m46 (fun g hg e => by rcases e with rfl | rfl <;> omega)
    have H7 := Lib.hid (And.intro hR6 (And.intro H6.out.2 (And.intro m46 h06)))
    have hUS1 : unseen (σ.set k true) ≤ f := by have := HUS.out; omega
    have hUS2 : unseen (σ.set k true) ≤ n := by have := unseen_le (σ.set k true); rw [hR6.len] at this; exact this
    have HU1 := Lib.hid (And.intro hUS1 hUS2)
    clear hR6 m46 h06 hUS1 hUS2 hc0 hc1 hc2 hcs hfs H5 hR4
    go_simp
    go_cut [84] from 57 to 83 (fun v wx => v = .bool (bad6 N top) ∧ Mod Nn w6 wx)
    case first =>
      obtain ⟨rt, hrt⟩ : ∃ rt, N.right = rt := ⟨_, rfl⟩
      have hright := rright_any (ec := ec) (kc := kc) (cc := cc) (HX.out.nn H7.out.2.2.2)
      rw [HLF.out, hrt] at hright
      have HRT := Lib.hid hrt
      clear hrt
      go_wp2_with (first
        | (with_reducible change wpList _ _ _ (⟨some 57, _, _, _, _, _⟩ :: _) _ _
           go_must (refine wpList_val rfl (exec_load_row (P := Try.prog) (g := g5) (cs := #[.bool lf, .slice EA en ec, .slice KA kn kc, .slice CA cn cc]) 77 _ rfl rfl H7.out.2.1 Try.underlying77 rfl sizeN) ?_)))
      refine hright.mono ?_
      rintro r w7 ⟨rfl, m7⟩
      have hcl0 : w7.cell? ⟨g5, 0, none⟩ = some (.bool lf) := (H7.out.2.1.mod m7 (fun f => f)).cell 0
      have hcl1 : w7.cell? ⟨g5, 1, none⟩ = some (.slice EA en ec) := (H7.out.2.1.mod m7 (fun f => f)).cell 1
      have hcl3 : w7.cell? ⟨g5, 3, none⟩ = some (.slice CA cn cc) := (H7.out.2.1.mod m7 (fun f => f)).cell 3
      have M7 := Lib.hid m7
      clear m7 hright
      cases rt
      · go_wp2
        go_meet
        exact ⟨by unfold bad6; rw [HRT.out]; rfl, M7.out⟩
      · cases top
        · have hb6 : bad6 N false = N.little := by unfold bad6; rw [HRT.out]; rfl
          cases lf
          · have hlt : N.little = decide (cn < 10) := by unfold Nd.little; rw [HLF.out, HX.out.cl]; rfl
            by_cases hl : cn < 10
            · have hl' : (cn : Int) < 10 := by omega
              have HB6 := Lib.hid (show bad6 N false = true by rw [hb6, hlt, decide_eq_true hl])
              clear hlt hb6
              go_wp2
              go_meet
              exact ⟨by rw [HB6.out], M7.out⟩
            · have hl' : ¬ (cn : Int) < 10 := by omega
              have HB6 := Lib.hid (show bad6 N false = false by rw [hb6, hlt, decide_eq_false hl])
              clear hlt hb6
              go_wp2
              go_meet
              exact ⟨by rw [HB6.out, decide_eq_false (p := (cn : Int) < 10) (by omega)], M7.out⟩
          · have hlt : N.little = decide (en < 6) := by unfold Nd.little; rw [HLF.out, HX.out.el]; rfl
            by_cases hl : en < 6
            · have hl' : (en : Int) < 6 := by omega
              have HB6 := Lib.hid (show bad6 N false = true by rw [hb6, hlt, decide_eq_true hl])
              clear hlt hb6
              go_wp2
              go_meet
              exact ⟨by rw [HB6.out], M7.out⟩
            · have hl' : ¬ (en : Int) < 6 := by omega
              have HB6 := Lib.hid (show bad6 N false = false by rw [hb6, hlt, decide_eq_false hl])
              clear hlt hb6
              go_wp2
              go_meet
              exact ⟨by rw [HB6.out, decide_eq_false (p := (en : Int) < 6) (by omega)], M7.out⟩
        · go_wp2
          go_meet
          exact ⟨by unfold bad6; rw [HRT.out]; rfl, M7.out⟩
    case rest =>
      obtain ⟨rfl, m8⟩ := hcut
      obtain ⟨w8, rfl⟩ : ∃ x : World, x = wc := ⟨_, rfl⟩
      have H8 := Lib.hid (And.intro (H7.out.1.nn m8) (And.intro (H7.out.2.1.mod m8 (fun f => f)) (And.intro (H7.out.2.2.1.trans m8.nn) (H7.out.2.2.2.nn_ m8))))
      clear m8 H7
      obtain ⟨bd, hbd⟩ : ∃ bd, bad6 N top = bd := ⟨_, rfl⟩
      rw [hbd]
      cases bd
      · have hnb : ¬ (N.right = false ∨ (top = false ∧ N.little = true)) := by
          unfold bad6 at hbd
          cases h1 : N.right <;> cases h2 : N.little <;> cases top <;> simp_all
        have hres := HRES.out
        rw [if_neg hnb, HLF.out] at hres
        have HRES2 := Lib.hid hres
        have hcl0 : w8.cell? ⟨g5, 0, none⟩ = some (.bool lf) := H8.out.2.1.cell 0
        have hcl1 : w8.cell? ⟨g5, 1, none⟩ = some (.slice EA en ec) := H8.out.2.1.cell 1
        have HRT := Lib.hid (show N.right = true from by cases h : N.right with
          | true => rfl
          | false => exact absurd (.inl h) hnb)
        clear hres hbd hnb HRES
        cases lf
        · have hr0 : res = kidsM (fun a s => undM (Xs.map (·.N)) f a false s) N.keys N.kids 0 [] 0 (σ.set k true) := by have := HRES2.out; rw [if_neg (by decide)] at this; exact this.symm
          have HR0 := Lib.hid hr0
          clear hr0 HRES2
          have hrt : N.right = true := HRT.out
          have hkn := right_inner HX.out HLF.out
          rw [hrt] at hkn
          have hkn2 : kn + 1 = cn ∧ 2 ≤ cn ∧ cn ≤ 20 := by
            have h := hkn.symm
            simp only [Bool.and_eq_true, decide_eq_true_eq, beq_iff_eq] at h
            exact ⟨h.1.2, h.1.1.1.2, h.1.1.2⟩
          have hkn1 : kn + 1 ≤ cn := by omega
          have hkn3 : cn ≤ kn + 1 := by omega
          have hcn2 : 2 ≤ cn := hkn2.2.1
          have hcn20 : cn ≤ 20 := hkn2.2.2
          obtain ⟨gK, oK, eK, _⟩ := HX.out.k.2 (show 0 < kn by omega)
          subst eK
          clear hrt hkn hkn2
          go_wp2_with fail
          clear hcl0 hcl1
          -- zzL
          go_loopw [9, 10, 11] (fun o dp i wr => ∃ (q : Nat) (out : List (List Nat)) (deep : Nat) (σq : List Bool), q ≤ cn ∧ dp = .int .i64 deep ∧ i = .int .i64 q ∧ Hid (OwnE wr w.heap.size o out ∧ Rows 80 out ∧ Rdr wr rb gs (some ⟨gA, oA, none⟩) n c cs false σq ∧ Blk wr g5 77 #[.bool false, .slice EA en ec, .slice (some ⟨gK, oK, none⟩) kn kc, .slice CA cn cc] ∧ Mod (fun g => g = rb ∨ g = gs) w wr ∧ unseen σq ≤ f ∧ out.length + 12 * unseen σq ≤ 12 * n ∧ deep ≤ f ∧ res = kidsM (fun a s => undM (Xs.map (·.N)) f a false s) N.keys (N.kids.drop q) q out deep σq)) (fun _ _ i _ => cn - (intOf i).toNat)
          case atStart => exact ⟨0, [], 0, σ.set k true, Nat.zero_le _, rfl, rfl, Lib.hid ⟨OwnE.nil _ _, (fun r hr => by cases hr), H8.out.1, H8.out.2.1, H8.out.2.2.1, HU1.out.1, by have := HU1.out.2; simp only [List.length_nil]; omega, Nat.zero_le _, HR0.out⟩⟩
          case round =>
            obtain ⟨q, out, deep, σq, hqc, rfl, rfl, HR⟩ := hrel
            obtain ⟨wo, rfl⟩ : ∃ x : World, x = wr := ⟨_, rfl⟩
            have h0o : Mod Nn w0 wo := HW.out.1.then_ HR.out.2.2.2.2.1 (fun g hg e => by rcases e with rfl | rfl <;> omega)
            have hs8 : w.heap.size ≤ wo.heap.size := HR.out.2.2.2.2.1.size
            have hdp : deep ≤ 2000 := by have := HR.out.2.2.2.2.2.2.2.1; omega
            have H0o := Lib.hid h0o
            have hg5o : g5 < wo.heap.size := HR.out.2.2.2.1.lt
            by_cases hq : q < cn
            · have hq' : (q : Int) < cn := by omega
              obtain ⟨z, hz⟩ : ∃ z, N.kids[q]? = some z := ⟨_, List.getElem?_eq_getElem (by rw [HX.out.cl]; exact hq)⟩
              obtain ⟨gC, oC, rfl, hcC⟩ := (HX.out.c.mod h0o (fun _ _ f => f)).2 (by omega)
              have hkid : wo.cell? ⟨gC, oC + q, none⟩ = some (.int .i64 z) := hcC q _ (by rw [List.getElem?_map, hz]; rfl)
              have hdrop : N.kids.drop q = z :: N.kids.drop (q + 1) := by
                obtain ⟨hql, hqe⟩ := List.getElem?_eq_some_iff.1 hz
                rw [List.drop_eq_getElem_cons hql, hqe]
              have hres := HR.out.2.2.2.2.2.2.2.2
              rw [hdrop] at hres
              have HRS := Lib.hid hres
              clear hz hcC h0o hdrop hres
              go_wp2_with (first
                | (with_reducible change wpList _ _ _ (⟨some 94, _, _, _, _, _⟩ :: _) _ _
                   go_must (refine wpList_val rfl (exec_load1 (P := Try.prog) (v := .slice (some ⟨gC, oC, none⟩) cn cc) (ad := ⟨g5, 3, none⟩) 64 _ rfl rfl (HR.out.2.2.2.1.cell 3) Try.underlying64 rfl) ?_))
                | (with_reducible change wpList _ _ _ (⟨some 102, _, _, _, _, _⟩ :: _) _ _
                   go_must (refine wpList_val rfl (exec_load1 (P := Try.prog) (v := .slice (some ⟨gC, oC, none⟩) cn cc) (ad := ⟨g5, 3, none⟩) 64 _ rfl rfl (HR.out.2.2.2.1.cell 3) Try.underlying64 rfl) ?_))
                | (with_reducible change wpList _ _ _ (⟨some 104, _, _, _, _, _⟩ :: _) _ _
                   go_must (refine wpList_val rfl (exec_elem (P := Try.prog) (g := gC) (off := oC) (q := q) 64 _ _ rfl 3 1 uuIu size_intu rfl rfl hq) ?_)
                   rw [Nat.mul_one])
                | (with_reducible change wpList _ _ _ (⟨some 105, _, _, _, _, _⟩ :: _) _ _
                   go_must (refine wpList_val rfl (exec_load1 (P := Try.prog) (v := .int .i64 z) (ad := ⟨gC, oC + q, none⟩) 3 _ rfl rfl (hkid) Try.underlying3 rfl) ?_)))
              clear hkid
              refine (HIH.out wo z false σq (by omega) H0o.out HR.out.2.2.1 HR.out.2.2.2.2.2.1).mono ?_
              rintro r w9 ⟨m9, hr9⟩
              have hres := HRS.out
              simp only [kidsM] at hres
              rcases hu : undM (Xs.map (·.N)) f z false σq with _ | ⟨l, d, σ'⟩
              · rw [hu] at hr9 hres
                obtain ⟨rfl, σb, hb9⟩ := hr9
                have hres0 : res = none := hres
                subst hres0
                have H9b := Lib.hid (And.intro hb9 m9)
                have hbad : w9.cell? ⟨rb, 2, none⟩ = some (.bool true) := hb9.blk.cell 2
                clear hb9 m9 hres hu
                go_wp2_with (first
                  | (with_reducible change wpList _ _ _ (⟨none, Op.store _ (Operand.tmp 124) _, _, _, _, _⟩ :: _) _ _
                     go_must (refine wpList_unit rfl (exec_store1 (P := Try.prog) (ad := ⟨rb, 2, none⟩) (v := .bool true) (u := .bool true) 4 _ _ rfl rfl rfl (H9b.out.1.blk.cell 2) (H9b.out.1.blk.frozen 2) rfl rfl rfl size_boolu) ?_)
                     have hb9 := Rdr.setBad H9b.out.1 hne
                     have m9 : Mod (At rb) w9 (w9.setCell ⟨rb, 2, none⟩ (.bool true)) := Mod.cellAt _ _ _ _
                     generalize w9.setCell ⟨rb, 2, none⟩ (.bool true) = w10 at *
                     have H10 := Lib.hid (And.intro hb9 m9)
                     clear hb9 m9))
                go_ret2
                exact ⟨(HR.out.2.2.2.2.1.trans H9b.out.2).trans (H10.out.2.mono (fun g _ e => .inl e)), rfl, _, H10.out.1⟩
              · rw [hu] at hr9 hres
                obtain ⟨B, cB, rfl, hrd, hR9⟩ := hr9
                have hkept := undM_kept HOK.out f z false σq l d σ' hu
                have hdf := undM_deep f z false σq l d σ' hu
                have hres' : res = if (decide (0 < q) && decide (d ≠ deep)) || l.any (badE N.keys q) then none else kidsM (fun a s => undM (Xs.map (·.N)) f a false s) N.keys (N.kids.drop (q + 1)) (q + 1) (out ++ l) d σ' := hres
                have hs9 : wo.heap.size ≤ w9.heap.size := m9.size
                have hown := own_not HR.out.1 HR.out.2.2.1.blk (by decide)
                have hown2 := own_not HR.out.1 HR.out.2.2.1.row (by decide)
                have hrbo := HR.out.2.2.1.blk.lt
                have hg5rb : ¬ (g5 = rb ∨ g5 = gs) := fun e => by
                  rcases e with e | e
                  · exact HR.out.2.2.2.1.ne_ HR.out.2.2.1.blk (by decide) e
                  · exact HR.out.2.2.2.1.ne_ HR.out.2.2.1.row (by decide) e
                have H9 := Lib.hid (And.intro hR9 (And.intro hrd (And.intro (HR.out.2.2.2.1.mod m9 hg5rb) (And.intro (HR.out.2.2.2.2.1.trans m9) (And.intro (H0o.out.then_ m9 (fun g hg e => by rcases e with rfl | rfl <;> omega)) (And.intro (HR.out.1.mod m9 (fun g hg e => by rcases e with rfl | rfl; exact hown hg; exact hown2 hg)) hkept))))))
                have HRES3 := Lib.hid hres'
                have hbad : w9.cell? ⟨rb, 2, none⟩ = some (.bool false) := hR9.blk.cell 2
                have hdf' : d ≤ 2000 := by omega
                have HDF := Lib.hid hdf
                clear hR9 hrd m9 hkept hres hres' hu hown hown2 hg5rb HRS
                go_upto_region 17 with fail
                go_simp
                -- zzM
                go_cut [121] from 109 to 120 (fun v wx => v = .bool (decide (0 < q) && decide (d ≠ deep)) ∧ w9 = wx)
                case first =>
                  by_cases hq0 : 0 < q
                  · have hq0' : (0 : Int) < q := by omega
                    by_cases hd : d = deep
                    · subst hd
                      go_wp2
                      go_meet
                      exact ⟨by simp, rfl⟩
                    · have hd' : ¬ (d : Int) = deep := by omega
                      go_wp2
                      go_meet
                      exact ⟨by simp [hq0, hd]; omega, rfl⟩
                  · have hq0' : ¬ (0 : Int) < q := by omega
                    go_wp2
                    go_meet
                    exact ⟨by simp [hq0], rfl⟩
                case rest =>
                  obtain ⟨rfl, rfl⟩ := hcut
                  obtain ⟨bj, hbj⟩ : ∃ bj, (decide (0 < q) && decide (d ≠ deep)) = bj := ⟨_, rfl⟩
                  rw [hbj]
                  have hres := HRES3.out
                  rw [hbj] at hres
                  have HRES4 := Lib.hid hres
                  clear hres hbj HRES3
                  cases bj
                  · go_wp2_with fail
                    -- zzN
                    go_loopw [14] (fun i wx => ∃ p : Nat, p ≤ l.length ∧ i = .int .i64 p ∧ Hid (Mod Nn w9 wx ∧ ∀ r ∈ l.take p, badE N.keys q r = false)) (fun i _ => l.length - (intOf i).toNat)
                    case atStart => exact ⟨0, Nat.zero_le _, rfl, Lib.hid ⟨Mod.refl _ _, fun r hr => by simp at hr⟩⟩
                    case round =>
                      obtain ⟨p, hpl, rfl, HP⟩ := hrel
                      obtain ⟨wx, rfl⟩ : ∃ x : World, x = wr := ⟨_, rfl⟩
                      have hkl : l.length ≤ 12000 := by
                        have h1 := H9.out.2.2.2.2.2.2.un
                        have h2 := HR.out.2.2.2.2.2.2.1
                        omega
                      by_cases hp : p < l.length
                      · have hp' : (p : Int) < l.length := by omega
                        obtain ⟨r, hr⟩ : ∃ r, l[p]? = some r := ⟨_, List.getElem?_eq_getElem hp⟩
                        have hr80 := H9.out.2.2.2.2.2.2.rows r (List.mem_of_getElem? hr)
                        have hrl := hr80.1
                        obtain ⟨gB, oB, rfl, hcB⟩ := (H9.out.2.1.md (by omega) HP.out.1 (fun _ _ f => f)).row H9.out.2.2.2.2.2.2.rows hr (by omega)
                        have hcB2 : ∀ w', Mod Nn wx w' → ∀ t v, (bv (keyOf r))[t]? = some v → w'.cell? ⟨gB, oB + p * 80 + t, none⟩ = some v := fun w' hm t v ht => by
                          have h1 := hcB t v (key_prefix ht)
                          rw [hm.cell (p := ⟨gB, oB + p * 80 + t, none⟩) (World.block_lt_of_cell? wx _ h1) (fun f => f)]
                          exact h1
                        have HC := Lib.hid (And.intro hcB2 (And.intro (H9.out.2.2.1.mod HP.out.1 (fun f => f)) (And.intro (H9.out.2.2.2.2.1.nn_ HP.out.1) hr80.2)))
                        have HRP := Lib.hid hr
                        clear hcB hcB2 hr80 hr
                        go_wp2_with fail
                        -- zzO
                        go_cut [169] from 132 to 168 (fun v wy => v = .bool (badE N.keys q r) ∧ Mod Nn wx wy)
                        case first =>
                          refine wp_region_planC (fun w' => Mod Nn wx w') [(0, true), (1, true), (2, true), (3, true), (4, true), (5, true), (6, true), (7, true), (8, true), (9, true), (10, true), (11, true), (12, true), (13, true), (14, false), (15, true), (16, true), (17, true), (18, true), (19, true), (20, true), (21, true), (22, true), (23, true), (24, true), (25, true), (26, true), (27, true), (28, true), (29, true), (30, true), (31, true), (32, true), (33, true), (34, false), (35, true), (36, true), (37, true)] (by kernel_rfl) (by kernel_rfl) (Mod.refl Nn wx).drew ?_
                          iterate 1 (refine pc_pure rfl rfl (fun K hK => ?_); go_simp; refine hK _ ?_; clear hK K)
                          by_cases hq0 : 0 < q
                          · have hq0' : (0 : Int) < q := by omega
                            obtain ⟨κ, hκq⟩ : ∃ κ, N.keys[(q - 1)]? = some κ := ⟨_, List.getElem?_eq_getElem (by have := HX.out.kl; omega)⟩
                            have hκ := HX.out.ok.k κ (List.mem_of_getElem? hκq)
                            have hcK0 := (HX.out.k.mod (by omega) HC.out.2.2.1 (fun _ _ f => f)).rowAt HX.out.ok.k hκq (by omega)
                            have hcK : ∀ w', Mod Nn wx w' → ∀ t v, (bv κ)[t]? = some v → w'.cell? ⟨gK, oK + (q - 1) * 40 + t, none⟩ = some v := fun w' hm t v ht => by
                              have h1 := hcK0 t v ht
                              rw [hm.cell (p := ⟨gK, oK + (q - 1) * 40 + t, none⟩) (World.block_lt_of_cell? wx _ h1) (fun f => f)]
                              exact h1
                            have hkd : N.keys.getD (q - 1) [] = κ := by rw [List.getD, hκq]; rfl
                            iterate 4 (refine pc_pure rfl rfl (fun K hK => ?_); go_simp; refine hK _ ?_; clear hK K)
                            refine pc_take (.pointer (some ⟨gB, oB + p * 80, none⟩)) rfl rfl (fun w' _ => exec_elem (P := Try.prog) (g := gB) (off := oB) (q := p) 40 (.tmp 135) (.tmp 136) rfl 28 80 uuE sizeE rfl rfl hp) (fun K hK => ?_); go_simp; refine hK _ ?_; clear hK K
                            iterate 1 (refine pc_pure rfl rfl (fun K hK => ?_); go_simp; refine hK _ ?_; clear hK K)
                            refine pc_take (.agg (bv (keyOf r)).toArray) rfl rfl (fun w' hS => exec_load_cells (P := Try.prog) (b := gB) (off := oB + p * 80) (cs := bv (keyOf r)) 23 (.tmp 138) rfl rfl (HC.out.1 w' hS) Try.underlying23 rfl (by rw [bv_len, keyOf_len hrl]; exact size_keyT)) (fun K hK => ?_); go_simp; refine hK _ ?_; clear hK K
                            iterate 1 (refine pc_pure rfl rfl (fun K hK => ?_); go_simp; refine hK _ ?_; clear hK K)
                            refine pc_take (.slice (some ⟨gK, oK, none⟩) kn kc) rfl rfl (fun w' hS => exec_load1 (P := Try.prog) (v := .slice (some ⟨gK, oK, none⟩) kn kc) (ad := ⟨g5, 2, none⟩) 75 (.tmp 140) rfl rfl ((HC.out.2.1.mod hS (fun f => f)).cell 2) Try.underlying75 rfl) (fun K hK => ?_); go_simp; refine hK _ ?_; clear hK K
                            iterate 1 (refine pc_pure rfl rfl (fun K hK => ?_); go_simp; refine hK _ ?_; clear hK K)
                            refine pc_take (.int .i64 ((q - 1 : Nat) : Int)) rfl rfl (fun w' _ => by
                              have hw : IntKind.i64.wrap ((q : Int) - 1) = ((q - 1 : Nat) : Int) := by rw [IntKind.wrap_i64]; omega
                              simp [execOp, resolve, binOp, Result.andThen, hw, go_sem]) (fun K hK => ?_); go_simp; refine hK _ ?_; clear hK K
                            refine pc_take (.pointer (some ⟨gK, oK + (q - 1) * 40, none⟩)) rfl rfl (fun w' _ => exec_elem (P := Try.prog) (g := gK) (off := oK) (q := (q - 1)) 75 (.tmp 141) (.tmp 143) rfl 23 40 uuK sizeK rfl rfl (by omega)) (fun K hK => ?_); go_simp; refine hK _ ?_; clear hK K
                            refine pc_take (.agg (bv κ).toArray) rfl rfl (fun w' hS => exec_load_cells (P := Try.prog) (b := gK) (off := oK + (q - 1) * 40) (cs := bv κ) 23 (.tmp 144) rfl rfl (hcK w' hS) Try.underlying23 rfl (by rw [bv_len, hκ.1]; exact size_keyT)) (fun K hK => ?_); go_simp; refine hK _ ?_; clear hK K
                            refine pc_call rfl rfl (fun K hK => ?_); go_simp; refine ⟨_, _, ⟨rfl, rfl⟩, hK _ _ _ ?_⟩; clear hK K
                            refine (rcompare_any _ (keyOf_lt HC.out.2.2.2) hκ.2 (keyOf_len hrl) hκ.1).mono ?_
                            rintro e w7 ⟨rfl, m7⟩
                            refine ⟨_, rfl, m7.of_drew, ?_⟩
                            have M7 := Lib.hid m7.of_drew
                            clear m7
                            obtain ⟨z, hz⟩ : ∃ z, lexc (keyOf r) κ = z := ⟨_, rfl⟩
                            rw [hz]
                            by_cases hz0 : z < 0
                            · have hres : badE N.keys q r = true := by
                                unfold badE
                                have h1 : decide (klt (keyOf r) (N.keys.getD (q - 1) [])) = true := decide_eq_true (by rw [hkd]; unfold klt; rw [hz]; exact hz0)
                                rw [h1, decide_eq_true hq0]; rfl
                              have HB5 := Lib.hid hres
                              clear hres
                              iterate 3 (refine pc_pure rfl rfl (fun K hK => ?_); go_simp; refine hK _ ?_; clear hK K)
                              iterate 16 (refine pc_skip rfl rfl (fun K hK => ?_); go_simp; refine hK _ ?_; clear hK K)
                              refine pc_skipD rfl rfl (fun K hK => ?_); go_simp; refine hK _ ?_; clear hK K
                              iterate 2 (refine pc_skip rfl rfl (fun K hK => ?_); go_simp; refine hK _ ?_; clear hK K)
                              iterate 1 (refine pc_pure rfl rfl (fun K hK => ?_); go_simp; refine hK _ ?_; clear hK K)
                              refine pc_nil ?_
                              go_wp2
                              go_meet
                              exact ⟨by rw [HB5.out], M7.out⟩
                            · have hd1 : decide (klt (keyOf r) (N.keys.getD (q - 1) [])) = false := decide_eq_false (by rw [hkd]; unfold klt; rw [hz]; exact hz0)
                              have HD1 := Lib.hid hd1
                              clear hd1 hcK hκ hcK0 hκq hkd hz
                              iterate 3 (refine pc_pure rfl rfl (fun K hK => ?_); go_simp; refine hK _ ?_; clear hK K)
                              iterate 2 (refine pc_pure rfl rfl (fun K hK => ?_); go_simp; refine hK _ ?_; clear hK K)
                              refine pc_take (.slice (some ⟨gK, oK, none⟩) kn kc) rfl rfl (fun w' hS => exec_load1 (P := Try.prog) (v := .slice (some ⟨gK, oK, none⟩) kn kc) (ad := ⟨g5, 2, none⟩) 75 (.tmp 151) rfl rfl ((HC.out.2.1.mod hS (fun f => f)).cell 2) Try.underlying75 rfl) (fun K hK => ?_); go_simp; refine hK _ ?_; clear hK K
                              by_cases hqk : q < kn
                              · have hqk' : (q : Int) < kn := by omega
                                obtain ⟨κ, hκq⟩ : ∃ κ, N.keys[q]? = some κ := ⟨_, List.getElem?_eq_getElem (by have := HX.out.kl; omega)⟩
                                have hκ := HX.out.ok.k κ (List.mem_of_getElem? hκq)
                                have hcK0 := (HX.out.k.mod (by omega) HC.out.2.2.1 (fun _ _ f => f)).rowAt HX.out.ok.k hκq (by omega)
                                have hcK : ∀ w', Mod Nn wx w' → ∀ t v, (bv κ)[t]? = some v → w'.cell? ⟨gK, oK + q * 40 + t, none⟩ = some v := fun w' hm t v ht => by
                                  have h1 := hcK0 t v ht
                                  rw [hm.cell (p := ⟨gK, oK + q * 40 + t, none⟩) (World.block_lt_of_cell? wx _ h1) (fun f => f)]
                                  exact h1
                                have hkd : N.keys.getD q [] = κ := by rw [List.getD, hκq]; rfl
                                iterate 5 (refine pc_pure rfl rfl (fun K hK => ?_); go_simp; refine hK _ ?_; clear hK K)
                                refine pc_take (.pointer (some ⟨gB, oB + p * 80, none⟩)) rfl rfl (fun w' _ => exec_elem (P := Try.prog) (g := gB) (off := oB) (q := p) 40 (.tmp 156) (.tmp 157) rfl 28 80 uuE sizeE rfl rfl hp) (fun K hK => ?_); go_simp; refine hK _ ?_; clear hK K
                                iterate 1 (refine pc_pure rfl rfl (fun K hK => ?_); go_simp; refine hK _ ?_; clear hK K)
                                refine pc_take (.agg (bv (keyOf r)).toArray) rfl rfl (fun w' hS => exec_load_cells (P := Try.prog) (b := gB) (off := oB + p * 80) (cs := bv (keyOf r)) 23 (.tmp 159) rfl rfl (HC.out.1 w' hS) Try.underlying23 rfl (by rw [bv_len, keyOf_len hrl]; exact size_keyT)) (fun K hK => ?_); go_simp; refine hK _ ?_; clear hK K
                                iterate 1 (refine pc_pure rfl rfl (fun K hK => ?_); go_simp; refine hK _ ?_; clear hK K)
                                refine pc_take (.slice (some ⟨gK, oK, none⟩) kn kc) rfl rfl (fun w' hS => exec_load1 (P := Try.prog) (v := .slice (some ⟨gK, oK, none⟩) kn kc) (ad := ⟨g5, 2, none⟩) 75 (.tmp 161) rfl rfl ((HC.out.2.1.mod hS (fun f => f)).cell 2) Try.underlying75 rfl) (fun K hK => ?_); go_simp; refine hK _ ?_; clear hK K
                                iterate 1 (refine pc_pure rfl rfl (fun K hK => ?_); go_simp; refine hK _ ?_; clear hK K)
                                refine pc_take (.pointer (some ⟨gK, oK + q * 40, none⟩)) rfl rfl (fun w' _ => exec_elem (P := Try.prog) (g := gK) (off := oK) (q := q) 75 (.tmp 162) (.tmp 163) rfl 23 40 uuK sizeK rfl rfl (by omega)) (fun K hK => ?_); go_simp; refine hK _ ?_; clear hK K
                                refine pc_take (.agg (bv κ).toArray) rfl rfl (fun w' hS => exec_load_cells (P := Try.prog) (b := gK) (off := oK + q * 40) (cs := bv κ) 23 (.tmp 164) rfl rfl (hcK w' hS) Try.underlying23 rfl (by rw [bv_len, hκ.1]; exact size_keyT)) (fun K hK => ?_); go_simp; refine hK _ ?_; clear hK K
                                refine pc_call rfl rfl (fun K hK => ?_); go_simp; refine ⟨_, _, ⟨rfl, rfl⟩, hK _ _ _ ?_⟩; clear hK K
                                refine (rcompare_any _ (keyOf_lt HC.out.2.2.2) hκ.2 (keyOf_len hrl) hκ.1).mono ?_
                                rintro e w7 ⟨rfl, m7⟩
                                refine ⟨_, rfl, (M7.out).nn_ m7, ?_⟩
                                have M7 := Lib.hid ((M7.out).nn_ m7)
                                clear m7
                                obtain ⟨z, hz⟩ : ∃ z, lexc (keyOf r) κ = z := ⟨_, rfl⟩
                                rw [hz]
                                by_cases hz0 : 0 ≤ z
                                · have hres : badE N.keys q r = true := by
                                    unfold badE
                                    have h1 : decide (klt (keyOf r) (N.keys.getD q [])) = false := decide_eq_false (by rw [hkd]; unfold klt; rw [hz]; omega)
                                    rw [h1, decide_eq_true (show q < N.keys.length by rw [HX.out.kl]; exact hqk)]; simp
                                  have HB5 := Lib.hid hres
                                  clear hres
                                  iterate 3 (refine pc_pure rfl rfl (fun K hK => ?_); go_simp; refine hK _ ?_; clear hK K)
                                  refine pc_nil ?_
                                  go_wp2
                                  go_meet
                                  exact ⟨by rw [HB5.out], M7.out⟩
                                · have hres : badE N.keys q r = false := by
                                    unfold badE
                                    have h1 : decide (klt (keyOf r) (N.keys.getD q [])) = true := decide_eq_true (by rw [hkd]; unfold klt; rw [hz]; omega)
                                    rw [h1]; rw [HD1.out]; simp
                                  have HB5 := Lib.hid hres
                                  clear hres
                                  iterate 3 (refine pc_pure rfl rfl (fun K hK => ?_); go_simp; refine hK _ ?_; clear hK K)
                                  refine pc_nil ?_
                                  go_wp2
                                  go_meet
                                  exact ⟨by rw [HB5.out], M7.out⟩
                              · have hqk' : ¬ (q : Int) < kn := by omega
                                have hres : badE N.keys q r = false := by
                                  unfold badE
                                  have h1 : decide (q < N.keys.length) = false := decide_eq_false (by rw [HX.out.kl]; exact hqk)
                                  rw [h1]; rw [HD1.out]; simp
                                have HB5 := Lib.hid hres
                                clear hres
                                iterate 3 (refine pc_pure rfl rfl (fun K hK => ?_); go_simp; refine hK _ ?_; clear hK K)
                                iterate 10 (refine pc_skip rfl rfl (fun K hK => ?_); go_simp; refine hK _ ?_; clear hK K)
                                refine pc_skipD rfl rfl (fun K hK => ?_); go_simp; refine hK _ ?_; clear hK K
                                iterate 1 (refine pc_skip rfl rfl (fun K hK => ?_); go_simp; refine hK _ ?_; clear hK K)
                                iterate 2 (refine pc_pure rfl rfl (fun K hK => ?_); go_simp; refine hK _ ?_; clear hK K)
                                refine pc_nil ?_
                                go_wp2
                                go_meet
                                exact ⟨by rw [HB5.out], M7.out⟩
                          · have hq0' : ¬ (0 : Int) < q := by omega
                            iterate 2 (refine pc_pure rfl rfl (fun K hK => ?_); go_simp; refine hK _ ?_; clear hK K)
                            iterate 11 (refine pc_skip rfl rfl (fun K hK => ?_); go_simp; refine hK _ ?_; clear hK K)
                            refine pc_skipD rfl rfl (fun K hK => ?_); go_simp; refine hK _ ?_; clear hK K
                            iterate 1 (refine pc_skip rfl rfl (fun K hK => ?_); go_simp; refine hK _ ?_; clear hK K)
                            iterate 2 (refine pc_pure rfl rfl (fun K hK => ?_); go_simp; refine hK _ ?_; clear hK K)
                            iterate 2 (refine pc_pure rfl rfl (fun K hK => ?_); go_simp; refine hK _ ?_; clear hK K)
                            refine pc_take (.slice (some ⟨gK, oK, none⟩) kn kc) rfl rfl (fun w' hS => exec_load1 (P := Try.prog) (v := .slice (some ⟨gK, oK, none⟩) kn kc) (ad := ⟨g5, 2, none⟩) 75 (.tmp 151) rfl rfl ((HC.out.2.1.mod hS (fun f => f)).cell 2) Try.underlying75 rfl) (fun K hK => ?_); go_simp; refine hK _ ?_; clear hK K
                            by_cases hqk : q < kn
                            · have hqk' : (q : Int) < kn := by omega
                              obtain ⟨κ, hκq⟩ : ∃ κ, N.keys[q]? = some κ := ⟨_, List.getElem?_eq_getElem (by have := HX.out.kl; omega)⟩
                              have hκ := HX.out.ok.k κ (List.mem_of_getElem? hκq)
                              have hcK0 := (HX.out.k.mod (by omega) HC.out.2.2.1 (fun _ _ f => f)).rowAt HX.out.ok.k hκq (by omega)
                              have hcK : ∀ w', Mod Nn wx w' → ∀ t v, (bv κ)[t]? = some v → w'.cell? ⟨gK, oK + q * 40 + t, none⟩ = some v := fun w' hm t v ht => by
                                have h1 := hcK0 t v ht
                                rw [hm.cell (p := ⟨gK, oK + q * 40 + t, none⟩) (World.block_lt_of_cell? wx _ h1) (fun f => f)]
                                exact h1
                              have hkd : N.keys.getD q [] = κ := by rw [List.getD, hκq]; rfl
                              iterate 5 (refine pc_pure rfl rfl (fun K hK => ?_); go_simp; refine hK _ ?_; clear hK K)
                              refine pc_take (.pointer (some ⟨gB, oB + p * 80, none⟩)) rfl rfl (fun w' _ => exec_elem (P := Try.prog) (g := gB) (off := oB) (q := p) 40 (.tmp 156) (.tmp 157) rfl 28 80 uuE sizeE rfl rfl hp) (fun K hK => ?_); go_simp; refine hK _ ?_; clear hK K
                              iterate 1 (refine pc_pure rfl rfl (fun K hK => ?_); go_simp; refine hK _ ?_; clear hK K)
                              refine pc_take (.agg (bv (keyOf r)).toArray) rfl rfl (fun w' hS => exec_load_cells (P := Try.prog) (b := gB) (off := oB + p * 80) (cs := bv (keyOf r)) 23 (.tmp 159) rfl rfl (HC.out.1 w' hS) Try.underlying23 rfl (by rw [bv_len, keyOf_len hrl]; exact size_keyT)) (fun K hK => ?_); go_simp; refine hK _ ?_; clear hK K
                              iterate 1 (refine pc_pure rfl rfl (fun K hK => ?_); go_simp; refine hK _ ?_; clear hK K)
                              refine pc_take (.slice (some ⟨gK, oK, none⟩) kn kc) rfl rfl (fun w' hS => exec_load1 (P := Try.prog) (v := .slice (some ⟨gK, oK, none⟩) kn kc) (ad := ⟨g5, 2, none⟩) 75 (.tmp 161) rfl rfl ((HC.out.2.1.mod hS (fun f => f)).cell 2) Try.underlying75 rfl) (fun K hK => ?_); go_simp; refine hK _ ?_; clear hK K
                              iterate 1 (refine pc_pure rfl rfl (fun K hK => ?_); go_simp; refine hK _ ?_; clear hK K)
                              refine pc_take (.pointer (some ⟨gK, oK + q * 40, none⟩)) rfl rfl (fun w' _ => exec_elem (P := Try.prog) (g := gK) (off := oK) (q := q) 75 (.tmp 162) (.tmp 163) rfl 23 40 uuK sizeK rfl rfl (by omega)) (fun K hK => ?_); go_simp; refine hK _ ?_; clear hK K
                              refine pc_take (.agg (bv κ).toArray) rfl rfl (fun w' hS => exec_load_cells (P := Try.prog) (b := gK) (off := oK + q * 40) (cs := bv κ) 23 (.tmp 164) rfl rfl (hcK w' hS) Try.underlying23 rfl (by rw [bv_len, hκ.1]; exact size_keyT)) (fun K hK => ?_); go_simp; refine hK _ ?_; clear hK K
                              refine pc_call rfl rfl (fun K hK => ?_); go_simp; refine ⟨_, _, ⟨rfl, rfl⟩, hK _ _ _ ?_⟩; clear hK K
                              refine (rcompare_any _ (keyOf_lt HC.out.2.2.2) hκ.2 (keyOf_len hrl) hκ.1).mono ?_
                              rintro e w7 ⟨rfl, m7⟩
                              refine ⟨_, rfl, ((Mod.refl Nn wx).drew).nn_ m7, ?_⟩
                              have M7 := Lib.hid (((Mod.refl Nn wx).drew).nn_ m7)
                              clear m7
                              obtain ⟨z, hz⟩ : ∃ z, lexc (keyOf r) κ = z := ⟨_, rfl⟩
                              rw [hz]
                              by_cases hz0 : 0 ≤ z
                              · have hres : badE N.keys q r = true := by
                                  unfold badE
                                  have h1 : decide (klt (keyOf r) (N.keys.getD q [])) = false := decide_eq_false (by rw [hkd]; unfold klt; rw [hz]; omega)
                                  rw [h1, decide_eq_true (show q < N.keys.length by rw [HX.out.kl]; exact hqk)]; simp
                                have HB5 := Lib.hid hres
                                clear hres
                                iterate 3 (refine pc_pure rfl rfl (fun K hK => ?_); go_simp; refine hK _ ?_; clear hK K)
                                refine pc_nil ?_
                                go_wp2
                                go_meet
                                exact ⟨by rw [HB5.out], M7.out⟩
                              · have hres : badE N.keys q r = false := by
                                  unfold badE
                                  have h1 : decide (klt (keyOf r) (N.keys.getD q [])) = true := decide_eq_true (by rw [hkd]; unfold klt; rw [hz]; omega)
                                  rw [h1]; simp [hq0]
                                have HB5 := Lib.hid hres
                                clear hres
                                iterate 3 (refine pc_pure rfl rfl (fun K hK => ?_); go_simp; refine hK _ ?_; clear hK K)
                                refine pc_nil ?_
                                go_wp2
                                go_meet
                                exact ⟨by rw [HB5.out], M7.out⟩
                            · have hqk' : ¬ (q : Int) < kn := by omega
                              have hres : badE N.keys q r = false := by
                                unfold badE
                                have h1 : decide (q < N.keys.length) = false := decide_eq_false (by rw [HX.out.kl]; exact hqk)
                                rw [h1]; simp [hq0]
                              have HB5 := Lib.hid hres
                              clear hres
                              iterate 3 (refine pc_pure rfl rfl (fun K hK => ?_); go_simp; refine hK _ ?_; clear hK K)
                              iterate 10 (refine pc_skip rfl rfl (fun K hK => ?_); go_simp; refine hK _ ?_; clear hK K)
                              refine pc_skipD rfl rfl (fun K hK => ?_); go_simp; refine hK _ ?_; clear hK K
                              iterate 1 (refine pc_skip rfl rfl (fun K hK => ?_); go_simp; refine hK _ ?_; clear hK K)
                              iterate 2 (refine pc_pure rfl rfl (fun K hK => ?_); go_simp; refine hK _ ?_; clear hK K)
                              refine pc_nil ?_
                              go_wp2
                              go_meet
                              exact ⟨by rw [HB5.out], (Mod.refl Nn wx).drew⟩
                        case rest =>
                        obtain ⟨rfl, m10⟩ := hcut
                        obtain ⟨w10, rfl⟩ : ∃ x : World, x = wc := ⟨_, rfl⟩
                        obtain ⟨be, hbe⟩ : ∃ be, badE N.keys q r = be := ⟨_, rfl⟩
                        rw [hbe]
                        have HBE := Lib.hid hbe
                        have H10 := Lib.hid (HP.out.1.nn_ m10)
                        clear hbe m10
                        cases be
                        · go_wp2
                          refine ⟨⟨p + 1, by omega, by go_num, Lib.hid ⟨H10.out, fun y hy => ?_⟩⟩, by simp [intOf]; omega⟩
                          rw [List.take_add_one, HRP.out] at hy
                          rcases List.mem_append.1 hy with hy | hy
                          · exact HP.out.2 y hy
                          · have hy : y ∈ [r] := hy
                            rw [List.mem_singleton] at hy
                            rw [hy]; exact HBE.out
                        · have hany : l.any (badE N.keys q) = true := List.any_eq_true.2 ⟨r, List.mem_of_getElem? HRP.out, HBE.out⟩
                          have hres0 : res = none := by rw [HRES4.out, hany]; rfl
                          subst hres0
                          have hR10 := H9.out.1.nn H10.out
                          have H11 := Lib.hid hR10
                          clear hany hR10
                          go_wp2_with (first
                            | (with_reducible change wpList _ _ _ (⟨none, Op.store _ (Operand.tmp 172) _, _, _, _, _⟩ :: _) _ _
                               go_must (refine wpList_unit rfl (exec_store1 (P := Try.prog) (ad := ⟨rb, 2, none⟩) (v := .bool true) (u := .bool false) 4 _ _ rfl rfl rfl (H11.out.blk.cell 2) (H11.out.blk.frozen 2) rfl rfl rfl size_boolu) ?_)
                               have hb9 := Rdr.setBad H11.out hne
                               have m9 : Mod (At rb) w10 (w10.setCell ⟨rb, 2, none⟩ (.bool true)) := Mod.cellAt _ _ _ _
                               generalize w10.setCell ⟨rb, 2, none⟩ (.bool true) = w12 at *
                               have H12 := Lib.hid (And.intro hb9 m9)
                               clear hb9 m9))
                          go_ret2
                          exact ⟨(H9.out.2.2.2.1.trans H10.out.nn).trans (H12.out.2.mono (fun g _ e => .inl e)), rfl, _, H12.out.1⟩
                      · have hpe : p = l.length := by omega
                        have hp' : ¬ (p : Int) < l.length := by omega
                        have hany : l.any (badE N.keys q) = false := List.any_eq_false.2 (fun y hy => by
                          have := HP.out.2 y (by rw [hpe, List.take_length]; exact hy)
                          rw [this]; decide)
                        have hres1 : res = kidsM (fun a s => undM (Xs.map (·.N)) f a false s) N.keys (N.kids.drop (q + 1)) (q + 1) (out ++ l) d σ' := by rw [HRES4.out, hany]; rfl
                        have HR1 := Lib.hid hres1
                        have hol : out.length + l.length ≤ 12000 := by
                          have h1 := H9.out.2.2.2.2.2.2.un
                          have h2 := HR.out.2.2.2.2.2.2.1
                          omega
                        have hsx : w9.heap.size ≤ wx.heap.size := HP.out.1.size
                        clear hany hres1 hpe
                        go_wp2_with (first
                          | (with_reducible change wpList _ _ _ (⟨some 175, _, _, _, _, _⟩ :: _) _ _
                             go_must (refine wpList_append_rd 40 _ _ rfl rfl w.heap.size 28 zE 80 80 Try.underlying40 infoE zsE (by omega) _ out.length (bv out.flatten) rfl (H9.out.2.2.2.2.2.1.nn HP.out.1) B l.length cB (bv l.flatten) rfl (H9.out.2.1.md (by omega) HP.out.1 (fun _ _ f => f)) (bv_one _) (by omega) (by omega) (by omega) ?_)
                             intro v11 w11 own11 gr11 ob11
                             have m11 : Mod (fun x => u9.ownBlock = some x) wx w11 := (Mod.refl _ _).grown gr11 (fun x h => .inr h)
                             have H11 := Lib.hid (And.intro own11 m11)
                             clear own11 gr11 ob11 m11))
                        have hown := own_not (HR.out.1) HR.out.2.2.1.blk (by decide)
                        have hown2 := own_not (HR.out.1) HR.out.2.2.1.row (by decide)
                        have hown5 := own_not (HR.out.1) HR.out.2.2.2.1 (by decide)
                        have hRx := H9.out.1.nn HP.out.1
                        have hun := H9.out.2.2.2.2.2.2.un
                        have hu1 := HR.out.2.2.2.2.2.2.1
                        have hu2 := HR.out.2.2.2.2.2.1
                        refine ⟨⟨q + 1, out ++ l, d, σ', by omega, rfl, by go_num, Lib.hid ⟨?_, fun y hy => (List.mem_append.1 hy).elim (HR.out.2.1 y) (H9.out.2.2.2.2.2.2.rows y), ⟨hRx.blk.mod H11.out.2 hown, hRx.row.mod H11.out.2 hown2, hRx.len⟩, (H9.out.2.2.1.mod HP.out.1 (fun f => f)).mod H11.out.2 hown5, (H9.out.2.2.2.1.trans HP.out.1.nn).then_ H11.out.2 (fun g hg e => by have := (HR.out.1.blk e).1; omega), by omega, by rw [List.length_append]; omega, by have := HDF.out; omega, HR1.out⟩⟩, by simp [intOf]; omega⟩
                        unfold OwnE
                        rw [List.length_append, List.flatten_append, bv_append]
                        exact H11.out.1
                  · have hres0 : res = none := HRES4.out
                    subst hres0
                    go_wp2_with (first
                      | (with_reducible change wpList _ _ _ (⟨none, Op.store _ (Operand.tmp 124) _, _, _, _, _⟩ :: _) _ _
                         go_must (refine wpList_unit rfl (exec_store1 (P := Try.prog) (ad := ⟨rb, 2, none⟩) (v := .bool true) (u := .bool false) 4 _ _ rfl rfl rfl (H9.out.1.blk.cell 2) (H9.out.1.blk.frozen 2) rfl rfl rfl size_boolu) ?_)
                         have hb9 := Rdr.setBad H9.out.1 hne
                         have m9 : Mod (At rb) w9 (w9.setCell ⟨rb, 2, none⟩ (.bool true)) := Mod.cellAt _ _ _ _
                         generalize w9.setCell ⟨rb, 2, none⟩ (.bool true) = w10 at *
                         have H10 := Lib.hid (And.intro hb9 m9)
                         clear hb9 m9))
                    go_ret2
                    exact ⟨H9.out.2.2.2.1.trans (H10.out.2.mono (fun g _ e => .inl e)), rfl, _, H10.out.1⟩
            · have hqe : q = cn := by omega
              have hq' : ¬ (q : Int) < cn := by omega
              have hres := HR.out.2.2.2.2.2.2.2.2
              rw [List.drop_of_length_le (by rw [HX.out.cl]; omega)] at hres
              have hres1 : res = some (out, deep + 1, σq) := hres
              subst hres1
              obtain ⟨A9, c9, e9, -, -, hrd9, -⟩ := HR.out.1.slice
              subst e9
              have HD9 := Lib.hid hrd9
              clear hres hrd9 h0o
              go_wp2_with (first
                | (with_reducible change wpList _ _ _ (⟨some 94, _, _, _, _, _⟩ :: _) _ _
                   go_must (refine wpList_val rfl (exec_load1 (P := Try.prog) (v := .slice CA cn cc) (ad := ⟨g5, 3, none⟩) 64 _ rfl rfl (HR.out.2.2.2.1.cell 3) Try.underlying64 rfl) ?_)))
              go_ret2
              exact ⟨HR.out.2.2.2.2.1, A9, c9, by go_num, HD9.out, HR.out.2.2.1⟩
        · have hr1 : res = some (N.ents, 1, σ.set k true) := by have := HRES2.out; rw [if_pos rfl] at this; exact this.symm
          subst hr1
          go_wp2
          go_ret2
          exact ⟨H8.out.2.2.1, EA, ec, by rw [HX.out.el]; rfl, by rw [HX.out.el]; exact (HX.out.nn H8.out.2.2.2).e, H8.out.1⟩
      · have hb : N.right = false ∨ (top = false ∧ N.little = true) := by
          unfold bad6 at hbd
          cases h1 : N.right <;> cases h2 : N.little <;> cases top <;> simp_all
        have hr1 : res = none := by rw [← HRES.out, if_pos hb]
        subst hr1
        clear hb hbd
        go_wp2_with (first
          | (with_reducible change wpList _ _ _ (⟨none, Op.store _ (Operand.tmp 87) _, _, _, _, _⟩ :: _) _ _
             go_must (refine wpList_unit rfl (exec_store1 (P := Try.prog) (ad := ⟨rb, 2, none⟩) (v := .bool true) (u := .bool false) 4 _ _ rfl rfl rfl (H8.out.1.blk.cell 2) (H8.out.1.blk.frozen 2) rfl rfl rfl size_boolu) ?_)
             have hb9 := Rdr.setBad H8.out.1 hne
             have m9 : Mod (At rb) w8 (w8.setCell ⟨rb, 2, none⟩ (.bool true)) := Mod.cellAt _ _ _ _
             generalize w8.setCell ⟨rb, 2, none⟩ (.bool true) = w9 at *
             have H9 := Lib.hid (And.intro hb9 m9)
             clear hb9 m9))
        go_ret2
        exact ⟨H8.out.2.2.1.trans (H9.out.2.mono (fun g _ e => .inl e)), rfl, _, H9.out.1⟩
end
end Go.Proofs.Ytkcpmkeckcnobaa
