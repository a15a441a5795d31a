/- (*loader).part of any nodes; count; tree.Load. -/
import Derived.Test.YtkcpmkeckcnobaaLd5
import Derived.Test.YtkcpmkeckcnobaaUn3
import Derived.Test.YtkcpmkeckcnobaaKitF
namespace Go.Proofs.Ytkcpmkeckcnobaa
open Go.RowKit

theorem partM_good {Ns : List Nd} (hok : ∀ N ∈ Ns, N.ok) {f : Nat} {a : Int} {s : Spn} {top : Bool} {σ : List Bool} {L : List (List Nat)} {d : Nat} {σ' : List Bool} (h : partM Ns f a s top σ = some (L, d, σ')) : d ≤ f ∧ s.all L = true ∧ unseen σ' ≤ unseen σ := by
  rw [partM_eq] at h
  obtain ⟨h1, h2⟩ := filt_some h
  exact ⟨undM_deep f a top σ L d σ' h1, h2, by have := (undM_kept hok f a top σ L d σ' h1).un; omega⟩
theorem partM_none {Ns : List Nd} {f n : Nat} {a : Int} {s : Spn} {top : Bool} {σ : List Bool} (hl : Ns.length = n) (hs : σ.length = n) (hg : a < 0 ∨ (n : Int) ≤ a ∨ ∃ k : Nat, a = k ∧ k < n ∧ σ[k]? = some true) : partM Ns f a s top σ = none := by
  rw [partM_eq, undM_none hl hs hg]; rfl
theorem partM_at {Ns : List Nd} {f n k : Nat} {s : Spn} {top : Bool} {σ : List Bool} {N : Nd} (hl : Ns.length = n) (hk : k < n) (hs : σ[k]? = some false) (hx : Ns[k]? = some N) :
    partM Ns (f + 1) k s top σ = if N.right = false then none else if N.leaf then (if (N.little && !top) || !s.all N.ents then none else some (N.ents, 1, σ.set k true)) else lastM (N.little && !top) (lkidsM (fun a s' σ' => partM Ns f a s' false σ') s N.keys N.kids 0 [] 0 (σ.set k true)) := by
  simp only [partM]
  rw [if_neg (by
    rintro (h | h | h)
    · omega
    · omega
    · rw [Int.toNat_natCast, List.getD, hs] at h; cases h), Int.toNat_natCast, hx]
section
variable {w0 : World} {lb gs n c cs : Nat} {A : Option Addr} {Xs : List NX}
theorem part_any (hN : NsAt w0 A n Xs) (h0b : w0.heap.size ≤ lb) (h0g : w0.heap.size ≤ gs) (hne : lb ≠ gs) (hn : n ≤ 1000) : ∀ (f : Nat) (w : World) (a : Int) (s : Spn) (pl ph : Option Addr) (top : Bool) (σ : List Bool) (cnt : Nat), f ≤ 2000 → Mod Nn w0 w → Ldr w lb gs A n c cs cnt σ → unseen σ ≤ f → PtrAt w pl s.lo → PtrAt w ph s.hi → (∀ g, Of pl g → g ≠ lb ∧ g ≠ gs) → (∀ g, Of ph g → g ≠ lb ∧ g ≠ gs) →
    Calls Try.prog 56 #[.pointer (some ⟨lb, 0, none⟩), .int .i64 a, spV pl ph, .bool top] w (PartP w lb gs A n c cs top (partM (Xs.map (·.N)) f a s top σ)) := by
  have hNl : (Xs.map (·.N)).length = n := by rw [List.length_map]; exact hN.len
  have hok : ∀ N ∈ Xs.map (·.N), N.ok := fun N hN' => by obtain ⟨y, hy, rfl⟩ := List.mem_map.1 hN'; exact (hN.nd y hy).ok
  intro f
  induction f with
  | zero =>
    intro w a s pl ph top σ cnt _ hM hR hf _ _ _ _
    refine part_bad hR ?_
    by_cases h1 : a < 0
    · exact .inl h1
    by_cases h2 : (n : Int) ≤ a
    · exact .inr (.inl h2)
    exact .inr (.inr ⟨a.toNat, by omega, by omega, no_unseen hf (by rw [hR.len]; omega)⟩)
  | succ f ih =>
    intro w a s pl ph top σ cnt hf2 hM hR hf hlo hhi hlos hhis
    by_cases hg : a < 0 ∨ (n : Int) ≤ a ∨ ∃ k : Nat, a = k ∧ k < n ∧ σ[k]? = some true
    · rw [partM_none hNl hR.len hg]
      exact part_bad hR hg
    obtain ⟨k, rfl, hk, hs⟩ : ∃ k : Nat, a = k ∧ k < n ∧ σ[k]? = some false := by
      have h1 : ¬ a < 0 := fun h => hg (.inl h)
      have h2 : ¬ (n : Int) ≤ a := fun h => hg (.inr (.inl h))
      have hkl : a.toNat < σ.length := by rw [hR.len]; omega
      refine ⟨a.toNat, by omega, by omega, ?_⟩
      rw [List.getElem?_eq_getElem hkl]
      cases hb : σ[a.toNat] with
      | false => rfl
      | true => exact absurd (.inr (.inr ⟨a.toNat, by omega, by omega, by rw [List.getElem?_eq_getElem hkl, hb]⟩)) hg
    clear hg
    obtain ⟨x, hx⟩ : ∃ x, Xs[k]? = some x := ⟨_, List.getElem?_eq_getElem (by rw [hN.len]; exact hk)⟩
    obtain ⟨gA, oA, rfl, hnode⟩ := hN.node hx
    have hnd := hN.nd x (List.mem_of_getElem? hx)
    rw [partM_at (N := x.N) hNl hk hs (by rw [List.getElem?_map, hx]; rfl)]
    have H : PartH w0 w lb gs k gA oA n c cs cnt σ x.N x.EA x.KA x.CA x.en x.ec x.kn x.kc x.cn x.cc pl ph s :=
      ⟨hM, h0b, h0g, hR, hne, hk, hn, hs, hnode, hnd, hlo, hhi, hlos, hhis⟩
    cases hrt : x.N.right with
    | false =>
      rw [if_pos rfl]
      exact part_wrong H hrt
    | true =>
      rw [if_neg (by decide)]
      cases hlf : x.N.leaf with
      | true =>
        rw [if_pos rfl]
        exact part_leaf H hrt hlf
      | false =>
        rw [if_neg (by decide)]
        exact part_inner H hrt hlf hf (V := fun a s' σ' => partM (Xs.map (·.N)) f a s' false σ') (fun a s' σ1 L d σ2 h => by
          have := partM_good hok h
          exact ⟨by omega, this.2⟩) (fun w a s' pl ph σ1 cnt1 h1 h2 h3 h4 h5 h6 h7 => ih w a s' pl ph false σ1 cnt1 (by omega) h1 h2 h3 h4 h5 h6 h7)
end
/-! ## count -/
theorem info_pinnerC : (Try.prog.info? 103).map (fun i => (i.zero, i.size)) = some (some (.pointer none), 1) := by kernel_rfl
theorem finds_size (rv : Value) (w : World) : (method (Try.prog.types.size + Made.depth) 109 rv "peatbank/tree.size").run Try.prog w = .ok (136, rv) w := by kernel_rfl
theorem size_leaf_any {w : World} {b n c : Nat} {A : Option Addr} (hb : Blk w b 111 #[.slice A n c]) : Calls Try.prog 136 #[.pointer (some ⟨b, 0, none⟩)] w fun r w' => r = .returned (.int .i64 (n : Int)) ∧ Mod Nn w w' := by
  have hc0 : w.cell? ⟨b, 0, none⟩ = some (.slice A n c) := hb.cell 0
  go_enter Try.func136, Try.ntmps136
  go_wp2
  go_ret
  exact ⟨rfl, Mod.refl _ _⟩
section
variable {w : World}
set_option maxRecDepth 100000 in
set_option maxHeartbeats 3200000 in
theorem count_leaf {b n c : Nat} {A : Option Addr} (hb : Blk w b 111 #[.slice A n c]) : Calls Try.prog 57 #[leafV b] w fun r w' => r = .returned (.int .i64 (n : Int)) ∧ Mod Nn w w' := by
  have HB := Lib.hid hb
  clear hb
  unfold leafV
  go_enter Try.func57, Try.ntmps57
  go_wp2_with (first
    | (with_reducible change wpList _ _ _ (⟨some 10, _, _, _, _, _⟩ :: _) _ _
       go_must (refine wpList_val rfl (exec_assert_no (P := Try.prog) _ _ _ rfl rfl (by decide) Try.underlying103 info_pinnerC) ?_))
    | (with_reducible change wpList _ _ _ (⟨some 16, _, _, _, _, _⟩ :: _) _ _
       go_must (refine wpList_enters (R := fun u w1 => u = .int .i64 (n : Int) ∧ Mod Nn w w1) rfl (exec_invoke rfl rfl (finds_size _ _) Try.func136 rfl rfl) ((size_leaf_any HB.out).mono fun e w1 ⟨he, hm⟩ => ⟨_, he, rfl, hm⟩) ?_)
       rintro u w1 ⟨rfl, m1⟩))
  go_ret
  exact ⟨rfl, m1⟩
set_option maxRecDepth 100000 in
set_option maxHeartbeats 3200000 in
theorem count_inner {b d kc cc : Nat} {ks : List (List Nat)} {ts : List Kid} {F : List Nat} {K C : Option Addr} (h : InnerAt (TreeAt w d) w b ks ts F K kc C cc) (hts : ts.length ≤ 1000) (hL : (entsOf ts).length ≤ 1000000)
    (ih : ∀ w' t, t ∈ ts → Mod Nn w w' → Calls Try.prog 57 #[t.v] w' fun r w'' => r = .returned (.int .i64 (t.L.length : Int)) ∧ Mod Nn w' w'') : Calls Try.prog 57 #[innerV b] w fun r w' => r = .returned (.int .i64 ((entsOf ts).length : Int)) ∧ Mod Nn w w' := by
  have hc1 : w.cell? ⟨b, 1, none⟩ = some (.slice C ts.length cc) := h.blk.cell 1
  have HB := Lib.hid (And.intro h ih)
  obtain ⟨n, hn⟩ : ∃ n, (entsOf ts).length = n := ⟨_, rfl⟩
  have htk : ∀ j, (entsOf (ts.take j)).length ≤ n := fun j => by
    rw [← hn]
    have : entsOf ts = entsOf (ts.take j) ++ entsOf (ts.drop j) := by unfold entsOf; rw [← List.flatMap_append, List.take_append_drop]
    rw [this, List.length_append]; omega
  have HT := Lib.hid htk
  rw [hn] at hL ⊢
  have HN := Lib.hid hn
  clear h ih hn htk
  unfold innerV
  go_enter Try.func57, Try.ntmps57
  go_wp2_with (first
    | (with_reducible change wpList _ _ _ (⟨some 10, _, _, _, _, _⟩ :: _) _ _
       go_must (refine wpList_val rfl (exec_assert_yes (P := Try.prog) _ _ _ _ rfl rfl Try.underlying103) ?_)
       rw [if_pos rfl]))
  clear hc1
  go_loopw [5, 22] (fun s i wr => ∃ (q m : Nat), q ≤ ts.length ∧ m ≤ n ∧ s = .int .i64 (m : Int) ∧ i = .int .i64 (q : Int) ∧ Mod Nn w wr ∧ Hid ((entsOf (ts.take q)).length = m)) (fun _ i _ => ts.length - (intOf i).toNat)
  case atStart => exact ⟨0, 0, Nat.zero_le _, Nat.zero_le _, rfl, rfl, Mod.refl _ _, Lib.hid rfl⟩
  case round =>
    obtain ⟨q, m, hq, hm, rfl, rfl, hmd, hQ⟩ := hrel
    have HMD := Lib.hid hmd
    clear hmd
    by_cases hlt : q < ts.length
    · have hlt' : (q : Int) < ts.length := by omega
      obtain ⟨t, ht⟩ : ∃ t, ts[q]? = some t := ⟨_, List.getElem?_eq_getElem hlt⟩
      have htm : t ∈ ts := List.mem_of_getElem? ht
      obtain ⟨gC, rfl⟩ := HB.out.1.crow.of_ (by omega)
      have hcell : wr.cell? ⟨gC, q, none⟩ = some t.v := by
        obtain ⟨g, off, e, hc⟩ := (HB.out.1.crow.nn HMD.out).rd.2 (by omega)
        injection e with e; injection e with e1 e2 _; subst e1; subst e2
        have := hc q t.v (by rw [List.getElem?_map, ht]; rfl)
        rwa [Nat.zero_add] at this
      have hnx : (entsOf (ts.take (q + 1))).length = m + t.L.length := by
        rw [List.take_add_one, ht]
        show (entsOf (ts.take q ++ [t])).length = _
        rw [entsOf_snoc, List.length_append, hQ.out]
      have hmn : m + t.L.length ≤ n := by rw [← hnx]; exact HT.out _
      have hcall := HB.out.2 wr t htm HMD.out
      have HX := Lib.hid (And.intro hcall hnx)
      obtain ⟨tl, htl⟩ : ∃ tl, t.L.length = tl := ⟨_, rfl⟩
      rw [htl] at hmn HX
      clear hcall hnx ht htm htl
      go_wp2_with (first
        | (with_reducible change wpList _ _ _ (⟨some 24, _, _, _, _, _⟩ :: _) _ _
           go_must (refine wpList_val rfl (exec_elem (P := Try.prog) (g := gC) (off := 0) (q := q) 104 _ _ rfl 37 1 uuP sizeP rfl rfl hlt) ?_)
           rw [show 0 + q * 1 = q from by omega])
        | (with_reducible change wpList _ _ _ (⟨some 25, _, _, _, _, _⟩ :: _) _ _
           go_must (refine wpList_val rfl (exec_load1 (P := Try.prog) (ad := ⟨gC, q, none⟩) 37 _ rfl rfl hcell Try.underlying37 rfl) ?_)))
      clear hcell
      refine HX.out.1.mono ?_
      rintro r w2 ⟨rfl, m2⟩
      have H2 := Lib.hid (HMD.out.nn_ m2)
      clear m2
      go_wp2
      exact ⟨⟨q + 1, m + tl, by omega, hmn, by go_num, by go_num, H2.out, Lib.hid HX.out.2⟩, by simp [intOf]; omega⟩
    · have hlt' : ¬ (q : Int) < ts.length := by omega
      have hmn : m = n := by
        rw [← hQ.out, ← HN.out, List.take_of_length_le (by omega)]
      subst hmn
      go_wp2
      go_ret
      exact ⟨rfl, HMD.out⟩
theorem count_any : ∀ (d : Nat) (w : World) (v : Value) (L : List (List Nat)) (k : Nat) (F : List Nat), TreeAt w d v L k F → L.length ≤ 1000000 → k ≤ 1000 → Calls Try.prog 57 #[v] w fun r w' => r = .returned (.int .i64 (L.length : Int)) ∧ Mod Nn w w'
  | 0, w, v, L, k, F, ⟨b, A, c, h⟩, _, _ => by
    rw [h.ve]
    exact count_leaf h.blk
  | d + 1, w, v, L, k, F, ⟨b, ks, ts, K, kc, C, cc, h, h1, h2, h3, h4⟩, hL, hk => by
    rw [h1, h2]
    refine count_inner h (by omega) (by rw [← h2]; exact hL) (fun w' t ht hm => count_any d w' t.v t.L t.k t.F ((h.kids t ht).nn hm) ?_ ?_)
    · obtain ⟨X, Y, e⟩ := List.append_of_mem ht
      have : t.L.length ≤ L.length := by
        rw [h2, e]
        unfold entsOf
        rw [List.flatMap_append, List.length_append, List.flatMap_cons, List.length_append]; omega
      omega
    · have := (h4 t ht).2
      cases d <;> simp [hiB] at this <;> omega
end
/-! ## Load -/
theorem built_loader (A : Option Addr) (n c : Nat) (B : Option Addr) (m d : Nat) : Try.prog.built 125 [(0, .slice A n c), (1, .slice B m d)] = some #[.slice A n c, .slice B m d, .int .i64 0] := by kernel_rfl
theorem built_span0 : Try.prog.built 130 [] = some #[.pointer none, .pointer none] := by kernel_rfl
theorem built_treeL (T : TypeId) (b : Nat) (n : Int) : Try.prog.built 39 [(0, .iface T (.pointer (some ⟨b, 0, none⟩))), (1, .int .i64 n)] = some #[.iface T (.pointer (some ⟨b, 0, none⟩)), .int .i64 n] := by kernel_rfl
section
variable {w : World} {o : Oper} {a : Act} {x y : Operand}
theorem exec_loader {A B : Option Addr} {n c m d : Nat} (ho : o.op = .build 125 #[(0, x), (1, y)]) (hx : a.eval x = .slice A n c) (hy : a.eval y = .slice B m d) : (execOp a.eval o).run Try.prog w = .ok (.value (.agg #[.slice A n c, .slice B m d, .int .i64 0])) w := by
  have hr := run_build (P := Try.prog) w 125 _ _ (built_loader A n c B m d)
  simp only [execOp, ho]
  simp [hx, hy, hr, Result.andThen]
theorem exec_span0 (ho : o.op = .build 130 #[]) : (execOp a.eval o).run Try.prog w = .ok (.value (spV none none)) w := by
  have hr := run_build (P := Try.prog) w 130 _ _ built_span0
  simp only [execOp, ho]
  simp [hr, Result.andThen, spV]
theorem exec_treeL {T : TypeId} {b : Nat} {n : Int} (ho : o.op = .build 39 #[(0, x), (1, y)]) (hx : a.eval x = .iface T (.pointer (some ⟨b, 0, none⟩))) (hy : a.eval y = .int .i64 n) : (execOp a.eval o).run Try.prog w = .ok (.value (.agg #[.iface T (.pointer (some ⟨b, 0, none⟩)), .int .i64 n])) w := by
  have hr := run_build (P := Try.prog) w 39 _ _ (built_treeL T b n)
  simp only [execOp, ho]
  simp [hx, hy, hr, Result.andThen]
end
theorem all_seen {σ : List Bool} : σ.all id = decide (unseen σ = 0) := by
  unfold unseen
  induction σ with
  | nil => rfl
  | cons b σ ih => cases b <;> simp_all
def LoadT (w : World) (m : Option (List (List Nat))) (r : Ending) (w' : World) : Prop := Mod Nn w w' ∧ (match m with
  | none => r = .returned (.tuple #[.pointer none, .int .i64 4])
  | some L => ∃ b G, r = .returned (.tuple #[.pointer (some ⟨b, 0, none⟩), .int .i64 0]) ∧ TrAt w' b L G ∧ ∀ g ∈ G, w.heap.size ≤ g)
section
variable {w : World} {n c : Nat} {A : Option Addr} {Xs : List NX} {root : Int}
set_option maxRecDepth 100000 in
set_option maxHeartbeats 6400000 in
theorem loadT_any (hN : NsAt w A n Xs) (hn : n ≤ 1000) : Calls Try.prog 38 #[.slice A n c, .int .i64 root] w (LoadT w (loadM (Xs.map (·.N)) root)) := by
  have hNl : (Xs.map (·.N)).length = n := by rw [List.length_map]; exact hN.len
  obtain ⟨res, hres⟩ : ∃ res, partM (Xs.map (·.N)) (n + 1) root ⟨none, none⟩ true (List.replicate n false) = res := ⟨_, rfl⟩
  obtain ⟨lm, hlm⟩ : ∃ lm, loadM (Xs.map (·.N)) root = lm := ⟨_, rfl⟩
  have hlm2 : lm = pickM res := by
    rw [← hlm, ← hres, partM_eq]; unfold loadM; rw [hNl]
    unfold filt
    split
    · rename_i h; rw [h]
    · rename_i L d σ h
      rw [h, if_pos (all_iff.2 (fun e _ => ⟨rfl, rfl⟩))]
  have hrows : ∀ L d σ, res = some (L, d, σ) → Kept (List.replicate n false) L σ := fun L d σ h => undM_kept (fun N hN' => by obtain ⟨y, hy, rfl⟩ := List.mem_map.1 hN'; exact (hN.nd y hy).ok) (n + 1) root true _ L d σ (by
    rw [← hres, partM_eq] at h
    exact (filt_some h).1)
  rw [hlm]
  have HN := Lib.hid (And.intro hN (And.intro hres (And.intro hlm2 hrows)))
  clear hN hres hlm hlm2 hNl hrows
  go_enter Try.func38, Try.ntmps38
  go_wp2_with (first
    | (with_reducible change wpList _ _ _ (⟨some 12, _, _, _, _, _⟩ :: _) _ _
       go_must (refine wpList_val rfl (exec_make1 (P := Try.prog) 80 _ _ rfl 4 (.bool false) 1 uuB infoB1 rfl n n rfl rfl (Nat.le_refl _) (by omega) (by omega)) ?_)
       have b1 : Blk (w.alloc (.cells (Array.replicate n (.bool false)) 4)) w.heap.size 4 (Array.replicate n (.bool false)) := Blk.new _ _ _
       have m1 : Mod Nn w (w.alloc (.cells (Array.replicate n (.bool false)) 4)) := (Mod.refl _ _).alloc _
       generalize w.alloc (.cells (Array.replicate n (.bool false)) 4) = w1 at *
       have H1 := Lib.hid (And.intro m1 b1)
       have hs1 : w.heap.size < w1.heap.size := b1.lt
       clear m1 b1)
    | (with_reducible change wpList _ _ _ (⟨some 13, _, _, _, _, _⟩ :: _) _ _
       go_must (refine wpList_val rfl (exec_loader (A := A) (n := n) (c := c) (B := some ⟨w.heap.size, 0, none⟩) (m := n) (d := n) rfl rfl rfl) ?_))
    | (with_reducible change wpList _ _ _ (⟨some 14, Op.box _ _, _, _, _, _⟩ :: _) _ _
       go_must (refine wpList_box_var 125 _ rfl rfl #[.slice A n c, .slice (some ⟨w.heap.size, 0, none⟩) n n, .int .i64 0] rfl ?_)
       intro w2 b2 m2 z2
       clear z2
       have hs2 : w1.heap.size < w2.heap.size := b2.lt
       have H2 := Lib.hid (And.intro (H1.out.1.nn_ m2) (And.intro (H1.out.2.mod m2 (fun f => f)) b2))
       clear m2 b2)
    | (with_reducible change wpList _ _ _ (⟨some 18, _, _, _, _, _⟩ :: _) _ _
       go_must (refine wpList_val rfl (exec_span0 rfl) ?_)))
  -- zzA
  have hun : unseen (List.replicate n false) = n := by unfold unseen; rw [List.count_replicate]; simp
  have hR : Ldr w2 w1.heap.size w.heap.size A n c n 0 (List.replicate n false) := ⟨H2.out.2.2, by
    have := H2.out.2.1
    rwa [show (Array.replicate n (Value.bool false)) = ((List.replicate n false).map Value.bool).toArray from by rw [List.map_replicate, List.toArray_replicate]] at this, List.length_replicate .., by rw [hun]; omega⟩
  refine (part_any HN.out.1 (by omega) (Nat.le_refl _) (by omega) hn (n + 1) w2 root ⟨none, none⟩ none none true (List.replicate n false) 0 (by omega) H2.out.1 hR (by rw [hun]; omega) rfl rfl (fun g hg => by obtain ⟨_, h, _⟩ := hg; cases h) (fun g hg => by obtain ⟨_, h, _⟩ := hg; cases h)).mono ?_
  rintro r w3 ⟨m3, hr3⟩
  rw [HN.out.2.1] at hr3
  have m03 := H2.out.1.then_ m3 (fun g hg e => by rcases e with rfl | rfl <;> omega)
  have hs3 : w2.heap.size ≤ w3.heap.size := m3.size
  rcases res with _ | ⟨L, d, σ⟩
  · obtain rfl := hr3
    have hlm : lm = none := HN.out.2.2.1
    have H3 := Lib.hid m03
    clear m3 m03 hR
    subst hlm
    go_wp2
    go_ret2
    exact ⟨H3.out, rfl⟩
  · obtain ⟨D, v, k, F, cnt, rfl, rfl, ht, hk, hk2, -, hF, hL⟩ := hr3
    obtain ⟨T, gt, rfl⟩ := tree_iface ht
    have hnum := hL.num
    have hkept := HN.out.2.2.2 L (D + 1) σ rfl
    have hLl : L.length ≤ 12000 := by
      have h5 := hkept.un
      rw [hun] at h5
      omega
    have hlm : lm = if σ.all id then some L else none := HN.out.2.2.1
    rw [all_seen] at hlm
    have hc2 : w3.cell? ⟨w1.heap.size, 2, none⟩ = some (.int .i64 (cnt : Int)) := hL.blk.cell 2
    have H3 := Lib.hid (And.intro m03 (And.intro ht (And.intro hk (And.intro hk2 hF))))
    clear m3 m03 hR ht hk hk2 hF hL hkept
    by_cases hall : unseen σ = 0
    · rw [decide_eq_true hall, if_pos rfl] at hlm
      have hcn : cnt = n := by omega
      subst hcn
      subst hlm
      clear hnum hall hun
      go_wp2_with fail
      refine (count_any D _ _ L k F H3.out.2.1 (by omega) (by
        have := H3.out.2.2.1
        cases D <;> simp [hiB] at this <;> omega)).mono ?_
      rintro r w4 ⟨rfl, m4⟩
      have hs4 : w3.heap.size ≤ w4.heap.size := m4.size
      have H4 := Lib.hid (And.intro (H3.out.1.nn_ m4) (H3.out.2.1.nn m4))
      clear m4
      go_wp2_with (first
        | (with_reducible change wpList _ _ _ (⟨some 36, _, _, _, _, _⟩ :: _) _ _
           go_must (refine wpList_val rfl (exec_treeL (T := T) (b := gt) (n := (L.length : Int)) rfl rfl rfl) ?_))
        | (with_reducible change wpList _ _ _ (⟨some 37, Op.box _ _, _, _, _, _⟩ :: _) _ _
           go_must (refine wpList_box_var 39 _ rfl rfl #[.iface T (.pointer (some ⟨gt, 0, none⟩)), .int .i64 (L.length : Int)] rfl ?_)
           intro w5 b5 m5 z5
           clear z5
           have H5 := Lib.hid (And.intro (H4.out.1.nn_ m5) (And.intro (H4.out.2.nn m5) b5))
           clear m5 b5))
      go_ret2
      refine ⟨H5.out.1, w4.heap.size, w4.heap.size :: F, rfl, ⟨.iface T (.pointer (some ⟨gt, 0, none⟩)), D, k, F, H5.out.2.2, H5.out.2.1, H3.out.2.2.1, H3.out.2.2.2.1, rfl, fun hx => by have := H4.out.2.lt _ hx; omega⟩, fun g hg => ?_⟩
      rcases List.mem_cons.1 hg with rfl | hg
      · omega
      · have := H3.out.2.2.2.2 g hg; omega
    · rw [decide_eq_false hall, if_neg (by decide)] at hlm
      have hcn : ¬ (cnt : Int) = (n : Int) := by omega
      have hcn2 : ((cnt : Int) != (n : Int)) = true := by simp; omega
      subst hlm
      clear hnum hall hun
      go_wp2
      go_ret2
      exact ⟨H3.out.1, rfl⟩
end
end Go.Proofs.Ytkcpmkeckcnobaa
